/- The lexer's tokens, walked: number, literal, token. -/
import Derived.Test.YtfodkbchknknjaaDoorLex4
import Derived.Test.YtfodkbchknknjaaDoorGlDraw2
set_option linter.unusedVariables false
set_option linter.unusedSimpArgs false
namespace Go.Proofs.YtfodkbchknknjaaDoor
open Go.GL Go.RowKit Go.Stele
set_option maxRecDepth 100000
set_option maxHeartbeats 4000000
attribute [local irreducible] LOps LCode LStep LCalls Go.GL.Pure QThen QBlock RetPost
theorem parseUintM_digits (M : Nat) (acc : Nat) (l : List UInt8) (h : ∀ c ∈ l, isDigit c = true) : Go.Lib.parseUintM M acc l = .range ∨ ∃ u, Go.Lib.parseUintM M acc l = .ok u := by
  induction l generalizing acc with
  | nil => exact .inr ⟨acc, rfl⟩
  | cons c r ih =>
    have hc := h c List.mem_cons_self
    simp only [isDigit, Bool.and_eq_true, decide_eq_true_eq, cv] at hc
    rw [Go.Lib.parseUintM, if_pos (by omega)]
    split
    · exact .inl rfl
    · split
      · exact .inl rfl
      · exact ih _ (fun c hc => h c (List.mem_cons_of_mem _ hc))
theorem parseUintM_bound (M : Nat) (acc : Nat) (l : List UInt8) (ha : acc ≤ M) {u : Nat} (h : Go.Lib.parseUintM M acc l = .ok u) : u ≤ M := by
  induction l generalizing acc with
  | nil => simp only [Go.Lib.parseUintM, Go.Lib.NumEnd.ok.injEq] at h; omega
  | cons c r ih =>
    rw [Go.Lib.parseUintM] at h
    split at h
    · split at h
      · cases h
      · split at h
        · cases h
        · exact ih _ (by omega) h
    · cases h
theorem parseUint_digits (s : List UInt8) (hne : s.takeWhile isDigit ≠ []) : Go.Lib.parseUintB 32 (s.takeWhile isDigit) = .range ∨ ∃ u, u < 18446744073709551616 ∧ Go.Lib.parseUintB 32 (s.takeWhile isDigit) = .ok u := by
  unfold Go.Lib.parseUintB
  rw [if_neg hne]
  have hall : ∀ (s : List UInt8), ∀ c ∈ s.takeWhile isDigit, isDigit c = true := fun s c hc => by
    induction s with
    | nil => cases hc
    | cons a r ih =>
      by_cases ha : isDigit a = true
      · rw [List.takeWhile_cons_of_pos ha] at hc
        rcases List.mem_cons.1 hc with rfl | hc
        · exact ha
        · exact ih hc
      · rw [List.takeWhile_cons_of_neg ha] at hc
        cases hc
  rcases parseUintM_digits (2 ^ 32 - 1) 0 (s.takeWhile isDigit) (hall s) with h | ⟨u, h⟩
  · exact .inl h
  · have := parseUintM_bound _ _ _ (by omega) h
    exact .inr ⟨u, by omega, h⟩
instance : TIface Tryd.prog 86 := .of (by kernel_rfl)
section
variable {B0 : Nat} {w0 : World}
theorem number_spec (hG : GW B0 w0) (s : List UInt8) (hs : s.length ≤ 1000000000) (hne : s.takeWhile isDigit ≠ []) : LCalls (KC B0 w0) 31 [str s] [] (Ret (encTokR (lexNumber s))) := by
  refine LCalls.intro Tryd.func31 rfl (n := 43) rfl rfl rfl ?_
  repeat first
    | refine LCode.seq ?_
    | refine LCode.region ?_
  refine LOps.step (S.alloc fun b => ?_) rfl
  repeat first
    | refine LOps.nil ?_
    | refine LCode.seq ?_
    | refine LCode.region ?_
    | refine QThen.normal ?_
    | refine LOps.pure (Pure.as (lv := .atom _) rfl) rfl ?_
    | refine LOps.pure (Pure.mv (lv := .atom _) rfl) rfl ?_
  refine LOps.step (S.fn [_, _] rfl (run_spec isDigit digit_spec s hs) ?_) rfl
  repeat first
    | refine LOps.nil ?_
    | refine LCode.seq ?_
    | refine LCode.region ?_
    | refine QThen.normal ?_
    | refine LOps.pure (Pure.as (lv := .atom _) rfl) rfl ?_
    | refine LOps.pure (Pure.mv (lv := .atom _) rfl) rfl ?_
    | refine LOps.pure (Pure.slen rfl) rfl ?_
    | refine LOps.pure (Pure.lss rfl rfl) rfl ?_
  refine LOps.cut [(0, str s), (2, ptr b 0), (5, str (s.takeWhile isDigit)), (28, bool (wordNext s (s.takeWhile isDigit).length))] ?_ (fun j hj => ?_)
  · refine LOps.bcase 17 rfl (fun ht => ?_) (fun ht => ?_)
    · have hlt : (s.takeWhile isDigit).length < s.length := by simpa using ht
      have hw : wordNext s (s.takeWhile isDigit).length = (isLetter s[(s.takeWhile isDigit).length] || decide (cv s[(s.takeWhile isDigit).length] = 95)) := by
        rw [wordNext, List.getElem?_eq_getElem hlt]
      repeat first
        | refine LOps.pure (Pure.mv (lv := .atom _) rfl) rfl ?_
        | refine LOps.want rfl rfl ?_
      refine LOps.pure (Pure.sindex (c := s[(s.takeWhile isDigit).length]) rfl rfl (by omega) (by simp)) rfl ?_
      refine LOps.want rfl rfl ?_
      refine LOps.step (S.fn [_] rfl (letter_spec _) ?_) rfl
      repeat first
        | refine LOps.pure (Pure.mv (lv := .atom _) rfl) rfl ?_
        | refine LOps.want rfl rfl ?_
      refine LOps.bcase 22 rfl (fun hl => ?_) (fun hl => ?_)
      · repeat first
          | refine LOps.nil ?_
          | refine QThen.normal ?_
          | refine LOps.pure (Pure.pickT (lv := .atom _) rfl rfl) rfl ?_
          | refine LOps.want rfl rfl ?_
          | refine LOps.skip rfl rfl rfl rfl ?_
        exact ⟨⟨rfl, rfl, rfl, bool_eq (by rw [hw, hl]; rfl), trivial⟩, rfl, rfl⟩
      · repeat first
          | refine LOps.pure (Pure.mv (lv := .atom _) rfl) rfl ?_
          | refine LOps.want rfl rfl ?_
        refine LOps.pure (Pure.sindex (c := s[(s.takeWhile isDigit).length]) rfl rfl (by omega) (by simp)) rfl ?_
        repeat first
          | refine LOps.nil ?_
          | refine QThen.normal ?_
          | refine LOps.pure (Pure.eql rfl rfl) rfl ?_
          | refine LOps.pure (Pure.pickT (lv := .atom _) rfl rfl) rfl ?_
          | refine LOps.pure (Pure.pickF (lv := .atom _) rfl rfl) rfl ?_
          | refine LOps.want rfl rfl ?_
        exact ⟨⟨rfl, rfl, rfl, bool_eq (by rw [hw, hl]; rfl), trivial⟩, rfl, rfl⟩
    · have hge : s.length ≤ (s.takeWhile isDigit).length := by simpa using ht
      repeat first
        | refine LOps.nil ?_
        | refine QThen.normal ?_
        | refine LOps.pure (Pure.pickF (lv := .atom _) rfl rfl) rfl ?_
        | refine LOps.skip rfl rfl rfl rfl ?_
        | refine LOps.skipU rfl rfl rfl ?_
      exact ⟨⟨rfl, rfl, rfl, bool_eq (by rw [wordNext, List.getElem?_eq_none hge]), trivial⟩, rfl, rfl⟩
  · skip
    refine LCode.cond rfl (fun hc => ?_) (fun hc => ?_)
    · repeat first
        | refine LOps.nil ?_
        | refine LCode.seq ?_
        | refine LCode.region ?_
        | refine LCode.ret ?_
        | refine QThen.normal ?_
        | refine QThen.ret ?_
        | refine LOps.pure (Pure.as (lv := .atom _) rfl) rfl ?_
        | refine LOps.pure (Pure.bld _ (cs := [_, _, _]) rfl) rfl ?_
        | refine LOps.step (S.store (cs' := [_, _, _]) rfl Pick.here rfl rfl rfl rfl rfl ?_) rfl
      exact retRet hj (AllRes.cons (ResIs.cellAgg rfl (List.Mem.head _) rfl (LV.Sub.refl _)) (AllRes.cons (ResIs.tmp (v := .atom _) rfl (LV.Sub.refl _)) (AllRes.cons (ResIs.tmp (v := .atom _) rfl (LV.Sub.refl _)) AllRes.nil))) (by
        rw [lexNumber, if_pos hc]
        rfl)
    · repeat first
        | refine LCode.seq ?_
        | refine LCode.region ?_
        | refine LCode.skip ?_
        | refine QThen.normal ?_
        | refine LOps.pure (Pure.mv (lv := .atom _) rfl) rfl ?_
      rcases parseUint_digits s hne with hp | ⟨u, hu, hp⟩
      · refine LOps.step (S.fnIf [_, _, _] rfl (parseUint_range hG (s.takeWhile isDigit) (Nat.le_trans (List.takeWhile_prefix isDigit).length_le hs) hp) ?_) rfl
        rintro lv ⟨v, t, p, rfl⟩
        repeat first
          | refine LOps.nil ?_
          | refine LCode.seq ?_
          | refine LCode.region ?_
          | refine QThen.normal ?_
          | refine LOps.pure (Pure.as (lv := .atom _) rfl) rfl ?_
          | refine LOps.pure (Pure.mv (lv := .atom _) rfl) rfl ?_
          | refine LOps.pure (Pure.mv (lv := .tuple _) rfl) rfl ?_
          | refine LOps.pure (Pure.extract (c := .atom _) rfl rfl) rfl ?_
          | refine LOps.pure (Pure.ifaceNeqNil rfl) rfl ?_
        refine LCode.cond rfl (fun hc => ?_) (fun hc => ?_)
        · repeat first
            | refine LOps.nil ?_
            | refine LCode.seq ?_
            | refine LCode.region ?_
            | refine LCode.ret ?_
            | refine QThen.normal ?_
            | refine QThen.ret ?_
            | refine LOps.pure (Pure.as (lv := .atom _) rfl) rfl ?_
            | refine LOps.pure (Pure.bld _ (cs := [_, _, _]) rfl) rfl ?_
            | refine LOps.step (S.store (cs' := [_, _, _]) rfl Pick.here rfl rfl rfl rfl rfl ?_) rfl
          exact retRet hj (AllRes.cons (ResIs.cellAgg rfl (List.Mem.head _) rfl (LV.Sub.refl _)) (AllRes.cons (ResIs.tmp (v := .atom _) rfl (LV.Sub.refl _)) (AllRes.cons (ResIs.tmp (v := .atom _) rfl (LV.Sub.refl _)) AllRes.nil))) (by
            rw [lexNumber, if_neg (by rw [‹wordNext s _ = false›]; decide), hp]
            rfl)
        · cases hc
      · refine LOps.step (S.fn [_, _, _] rfl (parseUint_ok (s.takeWhile isDigit) (Nat.le_trans (List.takeWhile_prefix isDigit).length_le hs) u hp) ?_) rfl
        repeat first
          | refine LOps.nil ?_
          | refine LCode.seq ?_
          | refine LCode.region ?_
          | refine QThen.normal ?_
          | refine LOps.pure (Pure.as (lv := .atom _) rfl) rfl ?_
          | refine LOps.pure (Pure.mv (lv := .atom _) rfl) rfl ?_
          | refine LOps.pure (Pure.mv (lv := .tuple _) rfl) rfl ?_
          | refine LOps.pure (Pure.extract (c := .atom _) rfl rfl) rfl ?_
          | refine LOps.pure (Pure.nilNeqNil rfl) rfl ?_
        refine LCode.cond rfl (fun hc => ?_) (fun hc => ?_)
        · cases hc
        · repeat first
            | refine LCode.seq ?_
            | refine LCode.region ?_
            | refine LCode.skip ?_
            | refine QThen.normal ?_
            | refine LOps.pure (Pure.mv (lv := .atom _) rfl) rfl ?_
          refine LOps.step (S.fn [_, _] rfl (fmtUint_spec hG u hu) ?_) rfl
          repeat first
            | refine LOps.nil ?_
            | refine LCode.ret ?_
            | refine QThen.normal ?_
            | refine LOps.pure (Pure.as (lv := .atom _) rfl) rfl ?_
            | refine LOps.pure (Pure.mv (lv := .atom _) rfl) rfl ?_
            | refine LOps.pure (Pure.slen rfl) rfl ?_
            | refine LOps.pure (Pure.bld _ (cs := [_, _, _]) rfl) rfl ?_
            | refine LOps.step (S.store (cs' := [_, _, _]) rfl Pick.here rfl rfl rfl rfl rfl ?_) rfl
          exact retRet hj (AllRes.cons (ResIs.cellAgg rfl (List.Mem.head _) rfl (LV.Sub.refl _)) (AllRes.cons (ResIs.tmp (v := .atom _) rfl (LV.Sub.refl _)) (AllRes.cons (ResIs.tmp (v := .atom _) rfl (LV.Sub.refl _)) AllRes.nil))) (by
            rw [lexNumber, if_neg (by rw [‹wordNext s _ = false›]; decide), hp]
            rfl)
theorem literal_spec (hG : GW B0 w0) (s : List UInt8) (hs : s.length ≤ 1000000000) : LCalls (KC B0 w0) 34 [str s] [] (Ret (encTokR (lexLiteral s))) := by
  by_cases h3 : s.length < 3
  · have hl : lexLiteral s = tokErr 3 := by
      match s, h3 with
      | [], _ => rfl
      | [_], _ => rfl
      | [_, _], _ => rfl
    refine LCalls.intro Tryd.func34 rfl (n := 39) rfl rfl rfl ?_
    repeat first
      | refine LCode.seq ?_
      | refine LCode.region ?_
    refine LOps.step (S.alloc fun b => ?_) rfl
    repeat first
      | refine LOps.nil ?_
      | refine LCode.seq ?_
      | refine LCode.region ?_
      | refine QThen.normal ?_
      | refine LOps.pure (Pure.as (lv := .atom _) rfl) rfl ?_
      | refine LOps.pure (Pure.mv (lv := .atom _) rfl) rfl ?_
      | refine LOps.pure (Pure.slen rfl) rfl ?_
      | refine LOps.pure (Pure.lss rfl rfl) rfl ?_
    refine LOps.bcase 8 rfl (fun ht => ?_) (fun ht => ?_)
    · repeat first
        | refine LOps.nil ?_
        | refine QThen.normal ?_
        | refine LOps.pure (Pure.mv (lv := .atom _) rfl) rfl ?_
        | refine LOps.pure (Pure.pickT (lv := .atom _) rfl rfl) rfl ?_
        | refine LOps.skip rfl rfl rfl rfl ?_
      refine LCode.cond rfl (fun hc => ?_) (fun hc => ?_)
      · repeat first
          | refine LOps.nil ?_
          | refine LCode.seq ?_
          | refine LCode.region ?_
          | refine LCode.ret ?_
          | refine QThen.normal ?_
          | refine QThen.ret ?_
          | refine LOps.pure (Pure.as (lv := .atom _) rfl) rfl ?_
          | refine LOps.pure (Pure.bld _ (cs := [_, _, _]) rfl) rfl ?_
          | refine LOps.step (S.store (cs' := [_, _, _]) rfl Pick.here rfl rfl rfl rfl rfl ?_) rfl
        exact retRet rfl (AllRes.cons (ResIs.cellAgg rfl (List.Mem.head _) rfl (LV.Sub.refl _)) (AllRes.cons (ResIs.tmp (v := .atom _) rfl (LV.Sub.refl _)) (AllRes.cons (ResIs.tmp (v := .atom _) rfl (LV.Sub.refl _)) AllRes.nil))) (by rw [hl]; rfl)
      · cases hc
    · exact absurd (of_decide_eq_false ht) (by omega)
  · match s, h3 with
    | [], h => exact absurd (by simp) h
    | [_], h => exact absurd (by simp) h
    | [_, _], h => exact absurd (by simp) h
    | x :: c1 :: c2 :: r, h =>
      refine LCalls.intro Tryd.func34 rfl (n := 39) rfl rfl rfl ?_
      repeat first
        | refine LCode.seq ?_
        | refine LCode.region ?_
      refine LOps.step (S.alloc fun b => ?_) rfl
      repeat first
        | refine LOps.nil ?_
        | refine LCode.seq ?_
        | refine LCode.region ?_
        | refine QThen.normal ?_
        | refine LOps.pure (Pure.as (lv := .atom _) rfl) rfl ?_
        | refine LOps.pure (Pure.mv (lv := .atom _) rfl) rfl ?_
        | refine LOps.pure (Pure.slen rfl) rfl ?_
        | refine LOps.pure (Pure.lss rfl rfl) rfl ?_
        | refine LOps.want rfl rfl ?_
      refine LOps.cut [(0, str (x :: c1 :: c2 :: r)), (2, ptr b 0), (32, bool ((!decide (cv c2 = 39)) || decide (cv c1 < 32) || decide (126 < cv c1) || decide (cv c1 = 39) || decide (cv c1 = 92)))] ?_ (fun j hj => ?_)
      · refine LOps.bcase 8 rfl (fun ht => ?_) (fun ht0 => ?_)
        · exact absurd (of_decide_eq_true ht) (by simp only [List.length_cons]; omega)
        · skip
          refine LOps.pure (Pure.sindex (c := c2) rfl rfl (by decide) rfl) rfl ?_
          repeat first
            | refine LOps.pure (Pure.mv (lv := .atom _) rfl) rfl ?_
            | refine LOps.pure (Pure.neq rfl rfl) rfl ?_
            | refine LOps.pure (Pure.pickF (lv := .atom _) rfl rfl) rfl ?_
            | refine LOps.want rfl rfl ?_
          refine LOps.bcase 13 rfl (fun ht => ?_) (fun ht1 => ?_)
          · repeat first
              | refine LOps.nil ?_
              | refine QThen.normal ?_
              | refine LOps.pure (Pure.mv (lv := .atom _) rfl) rfl ?_
              | refine LOps.pure (Pure.pickT (lv := .atom _) rfl rfl) rfl ?_
              | refine LOps.skip rfl rfl rfl rfl ?_
            exact ⟨⟨rfl, rfl, bool_eq (by rw [ht]; rfl), trivial⟩, rfl, rfl⟩
          · repeat first
              | refine LOps.pure (Pure.mv (lv := .atom _) rfl) rfl ?_
              | refine LOps.want rfl rfl ?_
            refine LOps.pure (Pure.sindex (c := c1) rfl rfl (by decide) rfl) rfl ?_
            repeat first
              | refine LOps.pure (Pure.mv (lv := .atom _) rfl) rfl ?_
              | refine LOps.pure (Pure.lss rfl rfl) rfl ?_
              | refine LOps.pure (Pure.pickF (lv := .atom _) rfl rfl) rfl ?_
              | refine LOps.want rfl rfl ?_
            refine LOps.bcase 18 rfl (fun ht => ?_) (fun ht2 => ?_)
            · repeat first
                | refine LOps.nil ?_
                | refine QThen.normal ?_
                | refine LOps.pure (Pure.mv (lv := .atom _) rfl) rfl ?_
                | refine LOps.pure (Pure.pickT (lv := .atom _) rfl rfl) rfl ?_
                | refine LOps.skip rfl rfl rfl rfl ?_
              exact ⟨⟨rfl, rfl, bool_eq (by rw [ht1, ht]; rfl), trivial⟩, rfl, rfl⟩
            · repeat first
                | refine LOps.pure (Pure.mv (lv := .atom _) rfl) rfl ?_
                | refine LOps.want rfl rfl ?_
              refine LOps.pure (Pure.sindex (c := c1) rfl rfl (by decide) rfl) rfl ?_
              repeat first
                | refine LOps.pure (Pure.mv (lv := .atom _) rfl) rfl ?_
                | refine LOps.pure (Pure.pickF (lv := .atom _) rfl rfl) rfl ?_
                | refine LOps.pure (Pure.gtr rfl rfl) rfl ?_
                | refine LOps.want rfl rfl ?_
              refine LOps.bcase 23 rfl (fun ht => ?_) (fun ht3 => ?_)
              · repeat first
                  | refine LOps.nil ?_
                  | refine QThen.normal ?_
                  | refine LOps.pure (Pure.mv (lv := .atom _) rfl) rfl ?_
                  | refine LOps.pure (Pure.pickT (lv := .atom _) rfl rfl) rfl ?_
                  | refine LOps.skip rfl rfl rfl rfl ?_
                exact ⟨⟨rfl, rfl, bool_eq (by rw [ht1, ht2, ht]; rfl), trivial⟩, rfl, rfl⟩
              · repeat first
                  | refine LOps.pure (Pure.mv (lv := .atom _) rfl) rfl ?_
                  | refine LOps.want rfl rfl ?_
                refine LOps.pure (Pure.sindex (c := c1) rfl rfl (by decide) rfl) rfl ?_
                repeat first
                  | refine LOps.pure (Pure.mv (lv := .atom _) rfl) rfl ?_
                  | refine LOps.pure (Pure.pickF (lv := .atom _) rfl rfl) rfl ?_
                  | refine LOps.pure (Pure.eql rfl rfl) rfl ?_
                  | refine LOps.want rfl rfl ?_
                refine LOps.bcase 28 rfl (fun ht => ?_) (fun ht4 => ?_)
                · repeat first
                    | refine LOps.nil ?_
                    | refine QThen.normal ?_
                    | refine LOps.pure (Pure.pickT (lv := .atom _) rfl rfl) rfl ?_
                    | refine LOps.skip rfl rfl rfl rfl ?_
                  exact ⟨⟨rfl, rfl, bool_eq (by rw [ht1, ht2, ht3, ht]; rfl), trivial⟩, rfl, rfl⟩
                · repeat first
                    | refine LOps.pure (Pure.mv (lv := .atom _) rfl) rfl ?_
                    | refine LOps.want rfl rfl ?_
                  refine LOps.pure (Pure.sindex (c := c1) rfl rfl (by decide) rfl) rfl ?_
                  repeat first
                    | refine LOps.nil ?_
                    | refine QThen.normal ?_
                    | refine LOps.pure (Pure.pickF (lv := .atom _) rfl rfl) rfl ?_
                    | refine LOps.pure (Pure.eql rfl rfl) rfl ?_
                    | refine LOps.want rfl rfl ?_
                  exact ⟨⟨rfl, rfl, bool_eq (by rw [ht1, ht2, ht3, ht4]; rfl), trivial⟩, rfl, rfl⟩
      · skip
        refine LCode.cond rfl (fun hc => ?_) (fun hc => ?_)
        · repeat first
            | refine LOps.nil ?_
            | refine LCode.seq ?_
            | refine LCode.region ?_
            | refine LCode.ret ?_
            | refine QThen.normal ?_
            | refine QThen.ret ?_
            | refine LOps.pure (Pure.as (lv := .atom _) rfl) rfl ?_
            | refine LOps.pure (Pure.bld _ (cs := [_, _, _]) rfl) rfl ?_
            | refine LOps.step (S.store (cs' := [_, _, _]) rfl Pick.here rfl rfl rfl rfl rfl ?_) rfl
          exact retRet hj (AllRes.cons (ResIs.cellAgg rfl (List.Mem.head _) rfl (LV.Sub.refl _)) (AllRes.cons (ResIs.tmp (v := .atom _) rfl (LV.Sub.refl _)) (AllRes.cons (ResIs.tmp (v := .atom _) rfl (LV.Sub.refl _)) AllRes.nil))) (by rw [lexLiteral, if_pos hc]; rfl)
        · repeat first
            | refine LCode.seq ?_
            | refine LCode.region ?_
            | refine LCode.skip ?_
            | refine QThen.normal ?_
            | refine LOps.pure (Pure.mv (lv := .atom _) rfl) rfl ?_
          refine LOps.pure (Pure.sindex (c := c1) rfl rfl (by decide) rfl) rfl ?_
          refine LOps.pure (Pure.cvt rfl) rfl ?_
          have hw : IntKind.i64.wrap (c1.toNat : Int) = ((c1.toNat : Nat) : Int) := wrap_i64 (by have := c1.toNat_lt; omega)
          rw [hw]
          refine LOps.step (S.fn [_] rfl (itoa_spec hG c1.toNat (by have := c1.toNat_lt; omega)) ?_) rfl
          repeat first
            | refine LOps.nil ?_
            | refine LCode.ret ?_
            | refine QThen.normal ?_
            | refine LOps.pure (Pure.as (lv := .atom _) rfl) rfl ?_
            | refine LOps.pure (Pure.bld _ (cs := [_, _, _]) rfl) rfl ?_
            | refine LOps.step (S.store (cs' := [_, _, _]) rfl Pick.here rfl rfl rfl rfl rfl ?_) rfl
          exact retRet hj (AllRes.cons (ResIs.cellAgg rfl (List.Mem.head _) rfl (LV.Sub.refl _)) (AllRes.cons (ResIs.tmp (v := .atom _) rfl (LV.Sub.refl _)) (AllRes.cons (ResIs.tmp (v := .atom _) rfl (LV.Sub.refl _)) AllRes.nil))) (by rw [lexLiteral, if_neg (by rw [hc]; decide)]; rfl)
theorem token_spec (hG : GW B0 w0) (s : List UInt8) (hs : s.length ≤ 1000000000) (hne : s ≠ []) : LCalls (KC B0 w0) 17 [str s] [] (Ret (encTokR (lexToken s))) := by
  match s, hne with
  | c :: r, _ =>
    refine LCalls.intro Tryd.func17 rfl (n := 49) rfl rfl rfl ?_
    repeat first
      | refine LCode.seq ?_
      | refine LCode.region ?_
    refine LOps.step (S.alloc fun b => ?_) rfl
    repeat first
      | refine LOps.nil ?_
      | refine LCode.seq ?_
      | refine LCode.region ?_
      | refine LCode.block ?_
      | refine QThen.normal ?_
      | refine LOps.pure (Pure.as (lv := .atom _) rfl) rfl ?_
      | refine LOps.pure (Pure.mv (lv := .atom _) rfl) rfl ?_
    refine LOps.pure (Pure.sindex (c := c) rfl rfl (by decide) rfl) rfl ?_
    refine LOps.step (S.fn [_] rfl (digit_spec c) ?_) rfl
    repeat first
      | refine LOps.nil ?_
      | refine QThen.normal ?_
      | refine LOps.pure (Pure.as (lv := .atom _) rfl) rfl ?_
    refine LCode.cond rfl (fun hc => ?_) (fun hc => ?_)
    · repeat first
        | refine LCode.seq ?_
        | refine LCode.region ?_
        | refine LOps.pure (Pure.mv (lv := .atom _) rfl) rfl ?_
      refine LOps.step (S.fn [_] rfl (number_spec hG (c :: r) hs (by rw [List.takeWhile_cons_of_pos hc]; simp)) ?_) rfl
      repeat first
        | refine LOps.nil ?_
        | refine LCode.ret ?_
        | refine QThen.normal ?_
        | refine QThen.ret ?_
        | refine QBlock.ret ?_
        | refine LOps.pure (Pure.as (lv := .atom _) rfl) rfl ?_
        | refine LOps.pure (Pure.extract (c := .agg _) rfl rfl) rfl ?_
        | refine LOps.pure (Pure.extract (c := .atom _) rfl rfl) rfl ?_
        | refine LOps.step (S.store (cs' := [_, _, _]) rfl Pick.here rfl rfl rfl rfl rfl ?_) rfl
      exact retRet rfl (AllRes.cons (ResIs.cellAgg rfl (List.Mem.head _) rfl (LV.Sub.refl _)) (AllRes.cons (ResIs.tmp (v := .atom _) rfl (LV.Sub.refl _)) (AllRes.cons (ResIs.tmp (v := .atom _) rfl (LV.Sub.refl _)) AllRes.nil))) (by simp only [lexToken, hc, if_true]; rfl)
    · repeat first
        | refine LCode.seq ?_
        | refine LCode.region ?_
        | refine LOps.pure (Pure.mv (lv := .atom _) rfl) rfl ?_
      refine LOps.pure (Pure.sindex (c := c) rfl rfl (by decide) rfl) rfl ?_
      refine LOps.step (S.fn [_] rfl (letter_spec c) ?_) rfl
      repeat first
        | refine LOps.nil ?_
        | refine QThen.normal ?_
        | refine LOps.pure (Pure.as (lv := .atom _) rfl) rfl ?_
      refine LCode.cond rfl (fun hl => ?_) (fun hl => ?_)
      · repeat first
          | refine LCode.seq ?_
          | refine LCode.region ?_
          | refine LOps.pure (Pure.mv (lv := .atom _) rfl) rfl ?_
        refine LOps.step (S.fn [_] rfl (name_spec (c :: r) hs) ?_) rfl
        repeat first
          | refine LOps.nil ?_
          | refine LCode.ret ?_
          | refine QThen.normal ?_
          | refine QThen.ret ?_
          | refine QBlock.ret ?_
          | refine LOps.pure (Pure.as (lv := .atom _) rfl) rfl ?_
          | refine LOps.pure (Pure.extract (c := .agg _) rfl rfl) rfl ?_
          | refine LOps.pure (Pure.extract (c := .atom _) rfl rfl) rfl ?_
          | refine LOps.step (S.store (cs' := [_, _, _]) rfl Pick.here rfl rfl rfl rfl rfl ?_) rfl
        exact retRet rfl (AllRes.cons (ResIs.cellAgg rfl (List.Mem.head _) rfl (LV.Sub.refl _)) (AllRes.cons (ResIs.tmp (v := .atom _) rfl (LV.Sub.refl _)) (AllRes.cons (ResIs.tmp (v := .atom _) rfl (LV.Sub.refl _)) AllRes.nil))) (by simp only [lexToken, hc, hl, if_true, Bool.false_eq_true, if_false]; rfl)
      · repeat first
          | refine LCode.seq ?_
          | refine LCode.region ?_
          | refine LOps.pure (Pure.mv (lv := .atom _) rfl) rfl ?_
        refine LOps.pure (Pure.sindex (c := c) rfl rfl (by decide) rfl) rfl ?_
        repeat first
          | refine LOps.nil ?_
          | refine QThen.normal ?_
          | refine LOps.pure (Pure.as (lv := .atom _) rfl) rfl ?_
          | refine LOps.pure (Pure.eql rfl rfl) rfl ?_
        refine LCode.cond rfl (fun hq => ?_) (fun hq => ?_)
        · repeat first
            | refine LCode.seq ?_
            | refine LCode.region ?_
            | refine LOps.pure (Pure.mv (lv := .atom _) rfl) rfl ?_
          refine LOps.step (S.fn [_] rfl (literal_spec hG (c :: r) hs) ?_) rfl
          repeat first
            | refine LOps.nil ?_
            | refine LCode.ret ?_
            | refine QThen.normal ?_
            | refine QThen.ret ?_
            | refine QBlock.ret ?_
            | refine LOps.pure (Pure.as (lv := .atom _) rfl) rfl ?_
            | refine LOps.pure (Pure.extract (c := .agg _) rfl rfl) rfl ?_
            | refine LOps.pure (Pure.extract (c := .atom _) rfl rfl) rfl ?_
            | refine LOps.step (S.store (cs' := [_, _, _]) rfl Pick.here rfl rfl rfl rfl rfl ?_) rfl
          exact retRet rfl (AllRes.cons (ResIs.cellAgg rfl (List.Mem.head _) rfl (LV.Sub.refl _)) (AllRes.cons (ResIs.tmp (v := .atom _) rfl (LV.Sub.refl _)) (AllRes.cons (ResIs.tmp (v := .atom _) rfl (LV.Sub.refl _)) AllRes.nil))) (by simp only [lexToken, hc, hl, Bool.false_eq_true, if_false]; rw [if_pos hq]; rfl)
        · have htok : lexToken (c :: r) = lexSign (c :: r) := by simp only [lexToken, hc, hl, Bool.false_eq_true, if_false]; rw [if_neg (by rw [hq]; decide)]
          repeat first
            | refine LCode.seq ?_
            | refine LCode.region ?_
            | refine LCode.skip ?_
            | refine QThen.normal ?_
            | refine QBlock.normal ?_
          refine LOps.step (S.fn [] rfl signs_spec ?_) rfl
          repeat first
            | refine LOps.nil ?_
            | refine LCode.block ?_
            | refine QThen.normal ?_
            | refine LOps.pure (Pure.mv (lv := .atom _) rfl) rfl ?_
            | refine LOps.pure (Pure.llen rfl) rfl ?_
          refine LCode.loopI (fun k ls H => ∃ m : Nat, k = signs.length - m ∧ ls = [(0, str (c :: r)), (2, ptr b 0), (34, .list (signs.map str)), (35, int .i64 24), (36, int .i64 m)] ∧ H = [(b, .cells 64 [int .i64 0, str [], int .i64 0])] ∧ m ≤ 24 ∧ signs.find? (fun x => x.isPrefixOf (c :: r)) = (signs.drop m).find? (fun x => x.isPrefixOf (c :: r)))
            ⟨_, _, _, ⟨0, rfl, rfl, rfl, by omega, by simp⟩, ⟨rfl, rfl, rfl, rfl, rfl, trivial⟩, HSub.refl _⟩ ?_
          rintro k ls H ⟨m, rfl, rfl, rfl, hm, hI⟩ j hj
          have h24 : signs.length = 24 := rfl
          repeat first
            | refine LOps.nil ?_
            | refine LCode.seq ?_
            | refine LCode.region ?_
            | refine QThen.normal ?_
            | refine LOps.pure (Pure.lss rfl rfl) rfl ?_
          refine LCode.cond rfl (fun ht => ?_) (fun ht => ?_)
          · have hlt : m < signs.length := by have := of_decide_eq_true ht; omega
            repeat first
              | refine LCode.seq ?_
              | refine LCode.region ?_
              | refine LCode.skip ?_
              | refine LCode.block ?_
              | refine QThen.normal ?_
            refine LOps.pure (Pure.ixRef (el' := str signs[m]) rfl rfl (by omega) (by simp) rfl rfl) rfl ?_
            repeat first
              | refine LOps.nil ?_
              | refine LCode.seq ?_
              | refine LCode.region ?_
              | refine QThen.normal ?_
              | refine LOps.pure (Pure.as (lv := .atom _) rfl) rfl ?_
              | refine LOps.pure (Pure.mv (lv := .atom _) rfl) rfl ?_
              | refine LOps.pure (Pure.loadRef (c := .atom _) rfl rfl) rfl ?_
            refine LOps.step (S.fn [_, _] rfl (hasPrefix_spec (c :: r) signs[m]) ?_) rfl
            repeat first
              | refine LOps.nil ?_
              | refine QThen.normal ?_
            refine LCode.cond rfl (fun hp => ?_) (fun hp => ?_)
            · repeat first
                | refine LOps.nil ?_
                | refine LCode.seq ?_
                | refine LCode.region ?_
                | refine LCode.ret ?_
                | refine QThen.normal ?_
                | refine QThen.ret ?_
                | refine QBlock.ret ?_
                | refine LOps.pure (Pure.as (lv := .atom _) rfl) rfl ?_
                | refine LOps.pure (Pure.mv (lv := .atom _) rfl) rfl ?_
                | refine LOps.pure (Pure.bld _ (cs := [_, _, _]) rfl) rfl ?_
                | refine LOps.pure (Pure.slen rfl) rfl ?_
                | refine LOps.step (S.store (cs' := [_, _, _]) rfl Pick.here rfl rfl rfl rfl rfl ?_) rfl
              exact retRet hj (AllRes.cons (ResIs.cellAgg rfl (List.Mem.head _) rfl (LV.Sub.refl _)) (AllRes.cons (ResIs.tmp (v := .atom _) rfl (LV.Sub.refl _)) (AllRes.cons (ResIs.tmp (v := .atom _) rfl (LV.Sub.refl _)) AllRes.nil))) (by
                rw [htok, lexSign, hI, List.drop_eq_getElem_cons hlt, List.find?_cons_of_pos (by simpa using hp)]
                rfl)
            · repeat first
                | refine LOps.nil ?_
                | refine LCode.region ?_
                | refine LCode.skip ?_
                | refine QThen.normal ?_
                | refine QBlock.normal ?_
                | refine LOps.pure (Pure.mv (lv := .atom _) rfl) rfl ?_
                | refine LOps.pure (Pure.add rfl rfl (by omega)) rfl ?_
              exact ⟨_, _, _, by omega, ⟨m + 1, rfl, rfl, rfl, by omega, by
                rw [hI, List.drop_eq_getElem_cons hlt, List.find?_cons_of_neg (by rw [hp]; decide)]⟩, ⟨rfl, rfl, rfl, rfl, int_eq (by omega), trivial⟩, HSub.refl _, hj⟩
          · have hge : signs.length ≤ m := by have := of_decide_eq_false ht; omega
            repeat first
              | refine LOps.nil ?_
              | refine LCode.seq ?_
              | refine LCode.region ?_
              | refine LCode.ret ?_
              | refine LCode.exit ?_
              | refine QThen.normal ?_
              | refine QThen.exit ?_
              | refine QBlock.hit ?_
              | refine LOps.pure (Pure.as (lv := .atom _) rfl) rfl ?_
              | refine LOps.pure (Pure.bld _ (cs := [_, _, _]) rfl) rfl ?_
              | refine LOps.step (S.store (cs' := [_, _, _]) rfl Pick.here rfl rfl rfl rfl rfl ?_) rfl
            exact retRet hj (AllRes.cons (ResIs.cellAgg rfl (List.Mem.head _) rfl (LV.Sub.refl _)) (AllRes.cons (ResIs.tmp (v := .atom _) rfl (LV.Sub.refl _)) (AllRes.cons (ResIs.tmp (v := .atom _) rfl (LV.Sub.refl _)) AllRes.nil))) (by
              rw [htok, lexSign, hI, List.drop_eq_nil_of_le hge]
              rfl)
end
end Go.Proofs.YtfodkbchknknjaaDoor
