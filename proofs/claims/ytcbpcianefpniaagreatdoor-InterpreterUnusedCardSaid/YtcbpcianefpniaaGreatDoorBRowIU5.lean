/- Texts joined: Lex4, Lex5, Lex6, ParP1, ParP2, ParP3, ParP4, ParP5. -/
import Derived.Test.YtcbpcianefpniaaGreatDoorBRowIU1
import Derived.Test.YtcbpcianefpniaaGreatDoorBRowIU2
import Derived.Test.YtcbpcianefpniaaGreatDoorBRowIU4
set_option linter.unusedVariables false
set_option linter.unusedSimpArgs false
namespace Go.Proofs.YtcbpcianefpniaaGreatDoor
open Go.GL Go.RowKit Go.Stele
set_option maxRecDepth 100000
set_option maxHeartbeats 4000000
attribute [local irreducible] LOps LCode LStep LCalls Go.GL.Pure QThen QBlock RetPost
def encTok (t : Tok) : LV := .agg [int .i64 t.kind, str t.text, int .i64 t.line]
def encTokR (r : TokR) : LV := .tuple [encTok r.1, int .i64 r.2.1, int .i64 r.2.2]
theorem elemsOk_strs (l : List (List UInt8)) : elemsOk 1 (l.map str) := fun v hv => by
 obtain ⟨x, _, rfl⟩ := List.mem_map.1 hv
 exact ⟨rfl, rfl⟩
section
variable {B0 : Nat} {w0 : World}
theorem Keywords_spec : LCalls (KC B0 w0) 175 [] [] (Ret (.list (keywords.map str))) := by
 refine LCalls.intro Tryz.func175 rfl (n := 2) rfl rfl rfl ?_
 repeat first | refine LOps.nil ?_ | refine LCode.seq ?_ | refine LCode.region ?_ | refine QThen.normal ?_ | refine LOps.pure (Pure.as (lv := .atom _) rfl) rfl ?_
 refine LOps.step (S.lit [_, _, _, _, _, _, _, _] rfl (elemsOk_strs keywords) rfl rfl rfl ?_) rfl
 repeat first | refine LOps.nil ?_ | refine LCode.ret ?_ | refine QThen.normal ?_ | refine LOps.pure (Pure.as (lv := .list _) rfl) rfl ?_
 exact retRet rfl (AllRes.cons (ResIs.tmp (v := .list _) rfl (LV.Sub.refl _)) AllRes.nil) rfl
theorem signs_spec : LCalls (KC B0 w0) 135 [] [] (Ret (.list (signs.map str))) := by
 refine LCalls.intro Tryz.func135 rfl (n := 2) rfl rfl rfl ?_
 repeat first | refine LOps.nil ?_ | refine LCode.seq ?_ | refine LCode.region ?_ | refine QThen.normal ?_ | refine LOps.pure (Pure.as (lv := .atom _) rfl) rfl ?_
 refine LOps.step (S.lit [_, _, _, _, _, _, _, _, _, _, _, _, _, _, _, _, _, _, _, _, _, _, _, _] rfl (elemsOk_strs signs) rfl rfl rfl ?_) rfl
 repeat first | refine LOps.nil ?_ | refine LCode.ret ?_ | refine QThen.normal ?_ | refine LOps.pure (Pure.as (lv := .list _) rfl) rfl ?_
 exact retRet rfl (AllRes.cons (ResIs.tmp (v := .list _) rfl (LV.Sub.refl _)) AllRes.nil) rfl
theorem Index_spec (l : List (List UInt8)) (x : List UInt8) (hl : l.length ≤ 1000000000) : LCalls (KC B0 w0) 177 [.list (l.map str), str x] [] (RetIf fun lv => ∃ n : Int, lv = int .i64 n ∧ decide (0 ≤ n) = l.contains x) := by
 refine LCalls.intro Tryz.func177 rfl (n := 19) rfl rfl rfl ?_
 repeat first | refine LOps.nil ?_ | refine LCode.seq ?_ | refine LCode.region ?_ | refine LCode.block ?_ | refine QThen.normal ?_ | refine LOps.pure (Pure.as (lv := .atom _) rfl) rfl ?_ | refine LOps.pure (Pure.mv (lv := .list _) rfl) rfl ?_ | refine LOps.pure (Pure.mv (lv := .atom _) rfl) rfl ?_ | refine LOps.pure (Pure.llen rfl) rfl ?_
 refine LCode.loopI (fun k ls H => ∃ m : Nat, k = l.length - m ∧ ls = [(0, .list (l.map str)), (1, str x), (7, int .i64 (l.map str).length), (8, int .i64 m)] ∧ H = [] ∧ m ≤ l.length ∧ l.contains x = (l.drop m).contains x)
  ⟨_, _, _, ⟨0, rfl, rfl, rfl, by omega, by simp⟩, ⟨rfl, rfl, rfl, rfl, trivial⟩, HSub.refl _⟩ ?_
 rintro k ls H ⟨m, rfl, rfl, rfl, hm, hI⟩ j hj
 repeat first | refine LOps.nil ?_ | refine LCode.seq ?_ | refine LCode.region ?_ | refine QThen.normal ?_ | refine LOps.pure (Pure.lss rfl rfl) rfl ?_
 refine LCode.cond rfl (fun hc => ?_) (fun hc => ?_)
 ·have hlt : m < l.length := by simpa using hc
  repeat first | refine LOps.nil ?_ | refine LCode.seq ?_ | refine LCode.region ?_ | refine LCode.skip ?_ | refine LCode.block ?_ | refine QThen.normal ?_ | refine LOps.pure (Pure.as (lv := .atom _) rfl) rfl ?_ | refine LOps.pure (Pure.mv (lv := .list _) rfl) rfl ?_ | refine LOps.pure (Pure.mv (lv := .atom _) rfl) rfl ?_
  refine LOps.pure (Pure.ixRef (el' := str l[m]) rfl rfl (by omega) (by simp) rfl rfl) rfl ?_
  repeat first | refine LOps.nil ?_ | refine QThen.normal ?_ | refine LOps.pure (Pure.loadRef (c := .atom _) rfl rfl) rfl ?_ | refine LOps.pure (Pure.seq rfl rfl) rfl ?_
  refine LCode.cond rfl (fun he => ?_) (fun he => ?_)
  ·repeat first | refine LOps.nil ?_ | refine LCode.seq ?_ | refine LCode.region ?_ | refine LCode.ret ?_ | refine QThen.normal ?_ | refine QThen.ret ?_ | refine QBlock.ret ?_ | refine LOps.pure (Pure.as (lv := .atom _) rfl) rfl ?_ | refine LOps.pure (Pure.mv (lv := .atom _) rfl) rfl ?_
   have hx : x = l[m] := by simpa using he
   exact retRetIf hj (AllRes.cons (ResIs.tmp (v := .atom _) rfl (LV.Sub.refl _)) AllRes.nil) ⟨m, rfl, by
    rw [hx, decide_eq_true (by omega)]
    simp⟩
  ·repeat first | refine LOps.nil ?_ | refine LCode.region ?_ | refine LCode.skip ?_ | refine QThen.normal ?_ | refine QBlock.normal ?_ | refine LOps.pure (Pure.mv (lv := .atom _) rfl) rfl ?_ | refine LOps.pure (Pure.add rfl rfl (by omega)) rfl ?_
   have hx : ¬ x = l[m] := by simpa using he
   exact ⟨_, _, _, by omega, ⟨m + 1, rfl, rfl, rfl, by omega, by
    rw [hI, List.drop_eq_getElem_cons hlt, List.contains_cons]
    simp [hx]⟩, ⟨rfl, rfl, rfl, int_eq (by omega), trivial⟩, HSub.refl _, hj⟩
 ·have hge : l.length ≤ m := by simpa using hc
  repeat first | refine LOps.nil ?_ | refine LCode.seq ?_ | refine LCode.region ?_ | refine LCode.ret ?_ | refine LCode.exit ?_ | refine QThen.normal ?_ | refine QThen.exit ?_ | refine QBlock.hit ?_ | refine LOps.pure (Pure.as (lv := .atom _) rfl) rfl ?_
  exact retRetIf hj (AllRes.cons (ResIs.tmp (v := .atom _) rfl (LV.Sub.refl _)) AllRes.nil) ⟨-1, rfl, by
   rw [hI, List.drop_eq_nil_of_le hge]
   rfl⟩
theorem Contains_spec (l : List (List UInt8)) (x : List UInt8) (hl : l.length ≤ 1000000000) : LCalls (KC B0 w0) 136 [.list (l.map str), str x] [] (Ret (bool (l.contains x))) := by
 refine LCalls.intro Tryz.func136 rfl (n := 9) rfl rfl rfl ?_
 repeat first | refine LOps.nil ?_ | refine LCode.seq ?_ | refine LCode.region ?_ | refine QThen.normal ?_ | refine LOps.pure (Pure.as (lv := .atom _) rfl) rfl ?_ | refine LOps.pure (Pure.mv (lv := .list _) rfl) rfl ?_ | refine LOps.pure (Pure.mv (lv := .atom _) rfl) rfl ?_
 refine LOps.step (S.fnIf [_, _] rfl (Index_spec l x hl) ?_) rfl
 rintro lv ⟨n, rfl, hn⟩
 repeat first | refine LOps.nil ?_ | refine LCode.ret ?_ | refine QThen.normal ?_ | refine LOps.pure (Pure.as (lv := .atom _) rfl) rfl ?_ | refine LOps.pure (Pure.geq rfl rfl) rfl ?_
 exact retRet rfl (AllRes.cons (ResIs.tmp (v := .atom _) rfl (LV.Sub.refl _)) AllRes.nil) (by rw [← hn]; rfl)
theorem name_spec (s : List UInt8) (hs : s.length ≤ 1000000000) : LCalls (KC B0 w0) 133 [str s] [] (Ret (encTokR (lexName s))) := by
 refine LCalls.intro Tryz.func133 rfl (n := 21) rfl rfl rfl ?_
 repeat first | refine LCode.seq ?_ | refine LCode.region ?_
 refine LOps.step (S.alloc fun b => ?_) rfl
 repeat first | refine LOps.nil ?_ | refine LCode.seq ?_ | refine LCode.region ?_ | refine QThen.normal ?_ | refine LOps.pure (Pure.as (lv := .atom _) rfl) rfl ?_ | refine LOps.pure (Pure.mv (lv := .atom _) rfl) rfl ?_
 refine LOps.step (S.fn [_, _] rfl (run_spec isInner inner_spec s hs) ?_) rfl
 repeat first | refine LOps.nil ?_ | refine LCode.seq ?_ | refine LCode.region ?_ | refine QThen.normal ?_ | refine LOps.pure (Pure.as (lv := .atom _) rfl) rfl ?_ | refine LOps.pure (Pure.mv (lv := .atom _) rfl) rfl ?_ | refine LOps.pure (Pure.slen rfl) rfl ?_ | refine LOps.pure (Pure.gtr rfl rfl) rfl ?_
 refine LCode.cond rfl (fun hc => ?_) (fun hc => ?_)
 ·repeat first | refine LOps.nil ?_ | refine LCode.seq ?_ | refine LCode.region ?_ | refine LCode.ret ?_ | refine QThen.normal ?_ | refine QThen.ret ?_ | refine LOps.pure (Pure.as (lv := .atom _) rfl) rfl ?_ | refine LOps.pure (Pure.bld _ (cs := [_, _, _]) rfl) rfl ?_ | refine LOps.step (S.store (cs' := [_, _, _]) rfl Pick.here rfl rfl rfl rfl rfl ?_) rfl
  exact retRet rfl (AllRes.cons (ResIs.cellAgg rfl (List.Mem.head _) rfl (LV.Sub.refl _)) (AllRes.cons (ResIs.tmp (v := .atom _) rfl (LV.Sub.refl _)) (AllRes.cons (ResIs.tmp (v := .atom _) rfl (LV.Sub.refl _)) AllRes.nil))) (by
   rw [lexName, if_pos (by have := of_decide_eq_true hc; omega)]
   rfl)
 ·repeat first | refine LOps.nil ?_ | refine LCode.seq ?_ | refine LCode.region ?_ | refine LCode.skip ?_ | refine QThen.normal ?_ | refine LOps.pure (Pure.as (lv := .atom _) rfl) rfl ?_
  refine LOps.step (S.fn [] rfl Keywords_spec ?_) rfl
  repeat first | refine LOps.pure (Pure.mv (lv := .atom _) rfl) rfl ?_
  refine LOps.step (S.fn [_, _] rfl (Contains_spec keywords (s.takeWhile isInner) (by decide)) ?_) rfl
  repeat first | refine LOps.nil ?_ | refine QThen.normal ?_
  refine LCode.cond rfl (fun hk => ?_) (fun hk => ?_)
  ·repeat first | refine LOps.nil ?_ | refine LCode.seq ?_ | refine LCode.region ?_ | refine LCode.ret ?_ | refine QThen.normal ?_ | refine LOps.pure (Pure.as (lv := .atom _) rfl) rfl ?_ | refine LOps.pure (Pure.mv (lv := .atom _) rfl) rfl ?_ | refine LOps.pure (Pure.slen rfl) rfl ?_ | refine LOps.pure (Pure.bld _ (cs := [_, _, _]) rfl) rfl ?_ | refine LOps.step (S.store (cs' := [_, _, _]) rfl Pick.here rfl rfl rfl rfl rfl ?_) rfl
   exact retRet rfl (AllRes.cons (ResIs.cellAgg rfl (List.Mem.head _) rfl (LV.Sub.refl _)) (AllRes.cons (ResIs.tmp (v := .atom _) rfl (LV.Sub.refl _)) (AllRes.cons (ResIs.tmp (v := .atom _) rfl (LV.Sub.refl _)) AllRes.nil))) (by
    rw [lexName, if_neg (by have := of_decide_eq_false hc; omega), if_pos hk]
    rfl)
  ·repeat first | refine LOps.nil ?_ | refine LCode.seq ?_ | refine LCode.region ?_ | refine LCode.skip ?_ | refine LCode.ret ?_ | refine QThen.normal ?_ | refine LOps.pure (Pure.as (lv := .atom _) rfl) rfl ?_ | refine LOps.pure (Pure.mv (lv := .atom _) rfl) rfl ?_ | refine LOps.pure (Pure.slen rfl) rfl ?_ | refine LOps.pure (Pure.bld _ (cs := [_, _, _]) rfl) rfl ?_ | refine LOps.step (S.store (cs' := [_, _, _]) rfl Pick.here rfl rfl rfl rfl rfl ?_) rfl
   exact retRet rfl (AllRes.cons (ResIs.cellAgg rfl (List.Mem.head _) rfl (LV.Sub.refl _)) (AllRes.cons (ResIs.tmp (v := .atom _) rfl (LV.Sub.refl _)) (AllRes.cons (ResIs.tmp (v := .atom _) rfl (LV.Sub.refl _)) AllRes.nil))) (by
    rw [lexName, if_neg (by have := of_decide_eq_false hc; omega), if_neg (by rw [hk]; decide)]
    rfl)
end
end Go.Proofs.YtcbpcianefpniaaGreatDoor
namespace Go.Proofs.YtcbpcianefpniaaGreatDoor
open Go.GL Go.RowKit Go.Stele
set_option maxRecDepth 100000
set_option maxHeartbeats 4000000
attribute [local irreducible] LOps LCode LStep LCalls Go.GL.Pure QThen QBlock RetPost
theorem parseUintM_digits (M : Nat) (acc : Nat) (l : List UInt8) (h : ∀ c ∈ l, isDigit c = true) : Go.Lib.parseUintM M acc l = .range ∨ ∃ u, Go.Lib.parseUintM M acc l = .ok u := by
 induction l generalizing acc with
 | nil => exact .inr ⟨acc, rfl⟩
 | cons c r ih =>
  have hc := h c List.mem_cons_self
  simp only [isDigit, Bool.and_eq_true, decide_eq_true_eq, cv] at hc
  rw [Go.Lib.parseUintM, if_pos (by omega)]
  split
  ·exact .inl rfl
  ·split
   ·exact .inl rfl
   ·exact ih _ (fun c hc => h c (List.mem_cons_of_mem _ hc))
theorem parseUintM_bound (M : Nat) (acc : Nat) (l : List UInt8) (ha : acc ≤ M) {u : Nat} (h : Go.Lib.parseUintM M acc l = .ok u) : u ≤ M := by
 induction l generalizing acc with
 | nil => simp only [Go.Lib.parseUintM, Go.Lib.NumEnd.ok.injEq] at h; omega
 | cons c r ih =>
  rw [Go.Lib.parseUintM] at h
  split at h
  ·split at h
   ·cases h
   ·split at h
    ·cases h
    ·exact ih _ (by omega) h
  ·cases h
theorem parseUint_digits (s : List UInt8) (hne : s.takeWhile isDigit ≠ []) : Go.Lib.parseUintB 32 (s.takeWhile isDigit) = .range ∨ ∃ u, u < 18446744073709551616 ∧ Go.Lib.parseUintB 32 (s.takeWhile isDigit) = .ok u := by
 unfold Go.Lib.parseUintB
 rw [if_neg hne]
 have hall : ∀ (s : List UInt8), ∀ c ∈ s.takeWhile isDigit, isDigit c = true := fun s c hc => by
  induction s with
  | nil => cases hc
  | cons a r ih =>
   by_cases ha : isDigit a = true
   ·rw [List.takeWhile_cons_of_pos ha] at hc
    rcases List.mem_cons.1 hc with rfl | hc
    ·exact ha
    ·exact ih hc
   ·rw [List.takeWhile_cons_of_neg ha] at hc
    cases hc
 rcases parseUintM_digits (2 ^ 32 - 1) 0 (s.takeWhile isDigit) (hall s) with h | ⟨u, h⟩
 ·exact .inl h
 ·have := parseUintM_bound _ _ _ (by omega) h
  exact .inr ⟨u, by omega, h⟩
instance : TIface Tryz.prog 146 := .of (by kernel_rfl)
section
variable {B0 : Nat} {w0 : World}
theorem number_spec (hG : GW B0 w0) (s : List UInt8) (hs : s.length ≤ 1000000000) (hne : s.takeWhile isDigit ≠ []) : LCalls (KC B0 w0) 131 [str s] [] (Ret (encTokR (lexNumber s))) := by
 refine LCalls.intro Tryz.func131 rfl (n := 43) rfl rfl rfl ?_
 repeat first | refine LCode.seq ?_ | refine LCode.region ?_
 refine LOps.step (S.alloc fun b => ?_) rfl
 repeat first | refine LOps.nil ?_ | refine LCode.seq ?_ | refine LCode.region ?_ | refine QThen.normal ?_ | refine LOps.pure (Pure.as (lv := .atom _) rfl) rfl ?_ | refine LOps.pure (Pure.mv (lv := .atom _) rfl) rfl ?_
 refine LOps.step (S.fn [_, _] rfl (run_spec isDigit digit_spec s hs) ?_) rfl
 repeat first | refine LOps.nil ?_ | refine LCode.seq ?_ | refine LCode.region ?_ | refine QThen.normal ?_ | refine LOps.pure (Pure.as (lv := .atom _) rfl) rfl ?_ | refine LOps.pure (Pure.mv (lv := .atom _) rfl) rfl ?_ | refine LOps.pure (Pure.slen rfl) rfl ?_ | refine LOps.pure (Pure.lss rfl rfl) rfl ?_
 refine LOps.cut [(0, str s), (2, ptr b 0), (5, str (s.takeWhile isDigit)), (28, bool (wordNext s (s.takeWhile isDigit).length))] ?_ (fun j hj => ?_)
 ·refine LOps.bcase 17 rfl (fun ht => ?_) (fun ht => ?_)
  ·have hlt : (s.takeWhile isDigit).length < s.length := by simpa using ht
   have hw : wordNext s (s.takeWhile isDigit).length = (isLetter s[(s.takeWhile isDigit).length] || decide (cv s[(s.takeWhile isDigit).length] = 95)) := by
    rw [wordNext, List.getElem?_eq_getElem hlt]
   repeat first | refine LOps.pure (Pure.mv (lv := .atom _) rfl) rfl ?_ | refine LOps.want rfl rfl ?_
   refine LOps.pure (Pure.sindex (c := s[(s.takeWhile isDigit).length]) rfl rfl (by omega) (by simp)) rfl ?_
   refine LOps.want rfl rfl ?_
   refine LOps.step (S.fn [_] rfl (letter_spec _) ?_) rfl
   repeat first | refine LOps.pure (Pure.mv (lv := .atom _) rfl) rfl ?_ | refine LOps.want rfl rfl ?_
   refine LOps.bcase 22 rfl (fun hl => ?_) (fun hl => ?_)
   ·repeat first | refine LOps.nil ?_ | refine QThen.normal ?_ | refine LOps.pure (Pure.pickT (lv := .atom _) rfl rfl) rfl ?_ | refine LOps.want rfl rfl ?_ | refine LOps.skip rfl rfl rfl rfl ?_
    exact ⟨⟨rfl, rfl, rfl, bool_eq (by rw [hw, hl]; rfl), trivial⟩, rfl, rfl⟩
   ·repeat first | refine LOps.pure (Pure.mv (lv := .atom _) rfl) rfl ?_ | refine LOps.want rfl rfl ?_
    refine LOps.pure (Pure.sindex (c := s[(s.takeWhile isDigit).length]) rfl rfl (by omega) (by simp)) rfl ?_
    repeat first | refine LOps.nil ?_ | refine QThen.normal ?_ | refine LOps.pure (Pure.eql rfl rfl) rfl ?_ | refine LOps.pure (Pure.pickT (lv := .atom _) rfl rfl) rfl ?_ | refine LOps.pure (Pure.pickF (lv := .atom _) rfl rfl) rfl ?_ | refine LOps.want rfl rfl ?_
    exact ⟨⟨rfl, rfl, rfl, bool_eq (by rw [hw, hl]; rfl), trivial⟩, rfl, rfl⟩
  ·have hge : s.length ≤ (s.takeWhile isDigit).length := by simpa using ht
   repeat first | refine LOps.nil ?_ | refine QThen.normal ?_ | refine LOps.pure (Pure.pickF (lv := .atom _) rfl rfl) rfl ?_ | refine LOps.skip rfl rfl rfl rfl ?_ | refine LOps.skipU rfl rfl rfl ?_
   exact ⟨⟨rfl, rfl, rfl, bool_eq (by rw [wordNext, List.getElem?_eq_none hge]), trivial⟩, rfl, rfl⟩
 ·skip
  refine LCode.cond rfl (fun hc => ?_) (fun hc => ?_)
  ·repeat first | refine LOps.nil ?_ | refine LCode.seq ?_ | refine LCode.region ?_ | refine LCode.ret ?_ | refine QThen.normal ?_ | refine QThen.ret ?_ | refine LOps.pure (Pure.as (lv := .atom _) rfl) rfl ?_ | refine LOps.pure (Pure.bld _ (cs := [_, _, _]) rfl) rfl ?_ | refine LOps.step (S.store (cs' := [_, _, _]) rfl Pick.here rfl rfl rfl rfl rfl ?_) rfl
   exact retRet hj (AllRes.cons (ResIs.cellAgg rfl (List.Mem.head _) rfl (LV.Sub.refl _)) (AllRes.cons (ResIs.tmp (v := .atom _) rfl (LV.Sub.refl _)) (AllRes.cons (ResIs.tmp (v := .atom _) rfl (LV.Sub.refl _)) AllRes.nil))) (by
    rw [lexNumber, if_pos hc]
    rfl)
  ·repeat first | refine LCode.seq ?_ | refine LCode.region ?_ | refine LCode.skip ?_ | refine QThen.normal ?_ | refine LOps.pure (Pure.mv (lv := .atom _) rfl) rfl ?_
   rcases parseUint_digits s hne with hp | ⟨u, hu, hp⟩
   ·refine LOps.step (S.fnIf [_, _, _] rfl (parseUint_range hG (s.takeWhile isDigit) (Nat.le_trans (List.takeWhile_prefix isDigit).length_le hs) hp) ?_) rfl
    rintro lv ⟨v, t, p, rfl⟩
    repeat first | refine LOps.nil ?_ | refine LCode.seq ?_ | refine LCode.region ?_ | refine QThen.normal ?_ | refine LOps.pure (Pure.as (lv := .atom _) rfl) rfl ?_ | refine LOps.pure (Pure.mv (lv := .atom _) rfl) rfl ?_ | refine LOps.pure (Pure.mv (lv := .tuple _) rfl) rfl ?_ | refine LOps.pure (Pure.extract (c := .atom _) rfl rfl) rfl ?_ | refine LOps.pure (Pure.ifaceNeqNil rfl) rfl ?_
    refine LCode.cond rfl (fun hc => ?_) (fun hc => ?_)
    ·repeat first | refine LOps.nil ?_ | refine LCode.seq ?_ | refine LCode.region ?_ | refine LCode.ret ?_ | refine QThen.normal ?_ | refine QThen.ret ?_ | refine LOps.pure (Pure.as (lv := .atom _) rfl) rfl ?_ | refine LOps.pure (Pure.bld _ (cs := [_, _, _]) rfl) rfl ?_ | refine LOps.step (S.store (cs' := [_, _, _]) rfl Pick.here rfl rfl rfl rfl rfl ?_) rfl
     exact retRet hj (AllRes.cons (ResIs.cellAgg rfl (List.Mem.head _) rfl (LV.Sub.refl _)) (AllRes.cons (ResIs.tmp (v := .atom _) rfl (LV.Sub.refl _)) (AllRes.cons (ResIs.tmp (v := .atom _) rfl (LV.Sub.refl _)) AllRes.nil))) (by
      rw [lexNumber, if_neg (by rw [‹wordNext s _ = false›]; decide), hp]
      rfl)
    ·cases hc
   ·refine LOps.step (S.fn [_, _, _] rfl (parseUint_ok (s.takeWhile isDigit) (Nat.le_trans (List.takeWhile_prefix isDigit).length_le hs) u hp) ?_) rfl
    repeat first | refine LOps.nil ?_ | refine LCode.seq ?_ | refine LCode.region ?_ | refine QThen.normal ?_ | refine LOps.pure (Pure.as (lv := .atom _) rfl) rfl ?_ | refine LOps.pure (Pure.mv (lv := .atom _) rfl) rfl ?_ | refine LOps.pure (Pure.mv (lv := .tuple _) rfl) rfl ?_ | refine LOps.pure (Pure.extract (c := .atom _) rfl rfl) rfl ?_ | refine LOps.pure (Pure.nilNeqNil rfl) rfl ?_
    refine LCode.cond rfl (fun hc => ?_) (fun hc => ?_)
    ·cases hc
    ·repeat first | refine LCode.seq ?_ | refine LCode.region ?_ | refine LCode.skip ?_ | refine QThen.normal ?_ | refine LOps.pure (Pure.mv (lv := .atom _) rfl) rfl ?_
     refine LOps.step (S.fn [_, _] rfl (fmtUint_spec hG u hu) ?_) rfl
     repeat first | refine LOps.nil ?_ | refine LCode.ret ?_ | refine QThen.normal ?_ | refine LOps.pure (Pure.as (lv := .atom _) rfl) rfl ?_ | refine LOps.pure (Pure.mv (lv := .atom _) rfl) rfl ?_ | refine LOps.pure (Pure.slen rfl) rfl ?_ | refine LOps.pure (Pure.bld _ (cs := [_, _, _]) rfl) rfl ?_ | refine LOps.step (S.store (cs' := [_, _, _]) rfl Pick.here rfl rfl rfl rfl rfl ?_) rfl
     exact retRet hj (AllRes.cons (ResIs.cellAgg rfl (List.Mem.head _) rfl (LV.Sub.refl _)) (AllRes.cons (ResIs.tmp (v := .atom _) rfl (LV.Sub.refl _)) (AllRes.cons (ResIs.tmp (v := .atom _) rfl (LV.Sub.refl _)) AllRes.nil))) (by
      rw [lexNumber, if_neg (by rw [‹wordNext s _ = false›]; decide), hp]
      rfl)
theorem literal_spec (hG : GW B0 w0) (s : List UInt8) (hs : s.length ≤ 1000000000) : LCalls (KC B0 w0) 134 [str s] [] (Ret (encTokR (lexLiteral s))) := by
 by_cases h3 : s.length < 3
 ·have hl : lexLiteral s = tokErr 3 := by
   match s, h3 with
   | [], _ => rfl
   | [_], _ => rfl
   | [_, _], _ => rfl
  refine LCalls.intro Tryz.func134 rfl (n := 39) rfl rfl rfl ?_
  repeat first | refine LCode.seq ?_ | refine LCode.region ?_
  refine LOps.step (S.alloc fun b => ?_) rfl
  repeat first | refine LOps.nil ?_ | refine LCode.seq ?_ | refine LCode.region ?_ | refine QThen.normal ?_ | refine LOps.pure (Pure.as (lv := .atom _) rfl) rfl ?_ | refine LOps.pure (Pure.mv (lv := .atom _) rfl) rfl ?_ | refine LOps.pure (Pure.slen rfl) rfl ?_ | refine LOps.pure (Pure.lss rfl rfl) rfl ?_
  refine LOps.bcase 8 rfl (fun ht => ?_) (fun ht => ?_)
  ·repeat first | refine LOps.nil ?_ | refine QThen.normal ?_ | refine LOps.pure (Pure.mv (lv := .atom _) rfl) rfl ?_ | refine LOps.pure (Pure.pickT (lv := .atom _) rfl rfl) rfl ?_ | refine LOps.skip rfl rfl rfl rfl ?_
   refine LCode.cond rfl (fun hc => ?_) (fun hc => ?_)
   ·repeat first | refine LOps.nil ?_ | refine LCode.seq ?_ | refine LCode.region ?_ | refine LCode.ret ?_ | refine QThen.normal ?_ | refine QThen.ret ?_ | refine LOps.pure (Pure.as (lv := .atom _) rfl) rfl ?_ | refine LOps.pure (Pure.bld _ (cs := [_, _, _]) rfl) rfl ?_ | refine LOps.step (S.store (cs' := [_, _, _]) rfl Pick.here rfl rfl rfl rfl rfl ?_) rfl
    exact retRet rfl (AllRes.cons (ResIs.cellAgg rfl (List.Mem.head _) rfl (LV.Sub.refl _)) (AllRes.cons (ResIs.tmp (v := .atom _) rfl (LV.Sub.refl _)) (AllRes.cons (ResIs.tmp (v := .atom _) rfl (LV.Sub.refl _)) AllRes.nil))) (by rw [hl]; rfl)
   ·cases hc
  ·exact absurd (of_decide_eq_false ht) (by omega)
 ·match s, h3 with
  | [], h => exact absurd (by simp) h
  | [_], h => exact absurd (by simp) h
  | [_, _], h => exact absurd (by simp) h
  | x :: c1 :: c2 :: r, h =>
   refine LCalls.intro Tryz.func134 rfl (n := 39) rfl rfl rfl ?_
   repeat first | refine LCode.seq ?_ | refine LCode.region ?_
   refine LOps.step (S.alloc fun b => ?_) rfl
   repeat first | refine LOps.nil ?_ | refine LCode.seq ?_ | refine LCode.region ?_ | refine QThen.normal ?_ | refine LOps.pure (Pure.as (lv := .atom _) rfl) rfl ?_ | refine LOps.pure (Pure.mv (lv := .atom _) rfl) rfl ?_ | refine LOps.pure (Pure.slen rfl) rfl ?_ | refine LOps.pure (Pure.lss rfl rfl) rfl ?_ | refine LOps.want rfl rfl ?_
   refine LOps.cut [(0, str (x :: c1 :: c2 :: r)), (2, ptr b 0), (32, bool ((!decide (cv c2 = 39)) || decide (cv c1 < 32) || decide (126 < cv c1) || decide (cv c1 = 39) || decide (cv c1 = 92)))] ?_ (fun j hj => ?_)
   ·refine LOps.bcase 8 rfl (fun ht => ?_) (fun ht0 => ?_)
    ·exact absurd (of_decide_eq_true ht) (by simp only [List.length_cons]; omega)
    ·skip
     refine LOps.pure (Pure.sindex (c := c2) rfl rfl (by decide) rfl) rfl ?_
     repeat first | refine LOps.pure (Pure.mv (lv := .atom _) rfl) rfl ?_ | refine LOps.pure (Pure.neq rfl rfl) rfl ?_ | refine LOps.pure (Pure.pickF (lv := .atom _) rfl rfl) rfl ?_ | refine LOps.want rfl rfl ?_
     refine LOps.bcase 13 rfl (fun ht => ?_) (fun ht1 => ?_)
     ·repeat first | refine LOps.nil ?_ | refine QThen.normal ?_ | refine LOps.pure (Pure.mv (lv := .atom _) rfl) rfl ?_ | refine LOps.pure (Pure.pickT (lv := .atom _) rfl rfl) rfl ?_ | refine LOps.skip rfl rfl rfl rfl ?_
      exact ⟨⟨rfl, rfl, bool_eq (by rw [ht]; rfl), trivial⟩, rfl, rfl⟩
     ·repeat first | refine LOps.pure (Pure.mv (lv := .atom _) rfl) rfl ?_ | refine LOps.want rfl rfl ?_
      refine LOps.pure (Pure.sindex (c := c1) rfl rfl (by decide) rfl) rfl ?_
      repeat first | refine LOps.pure (Pure.mv (lv := .atom _) rfl) rfl ?_ | refine LOps.pure (Pure.lss rfl rfl) rfl ?_ | refine LOps.pure (Pure.pickF (lv := .atom _) rfl rfl) rfl ?_ | refine LOps.want rfl rfl ?_
      refine LOps.bcase 18 rfl (fun ht => ?_) (fun ht2 => ?_)
      ·repeat first | refine LOps.nil ?_ | refine QThen.normal ?_ | refine LOps.pure (Pure.mv (lv := .atom _) rfl) rfl ?_ | refine LOps.pure (Pure.pickT (lv := .atom _) rfl rfl) rfl ?_ | refine LOps.skip rfl rfl rfl rfl ?_
       exact ⟨⟨rfl, rfl, bool_eq (by rw [ht1, ht]; rfl), trivial⟩, rfl, rfl⟩
      ·repeat first | refine LOps.pure (Pure.mv (lv := .atom _) rfl) rfl ?_ | refine LOps.want rfl rfl ?_
       refine LOps.pure (Pure.sindex (c := c1) rfl rfl (by decide) rfl) rfl ?_
       repeat first | refine LOps.pure (Pure.mv (lv := .atom _) rfl) rfl ?_ | refine LOps.pure (Pure.pickF (lv := .atom _) rfl rfl) rfl ?_ | refine LOps.pure (Pure.gtr rfl rfl) rfl ?_ | refine LOps.want rfl rfl ?_
       refine LOps.bcase 23 rfl (fun ht => ?_) (fun ht3 => ?_)
       ·repeat first | refine LOps.nil ?_ | refine QThen.normal ?_ | refine LOps.pure (Pure.mv (lv := .atom _) rfl) rfl ?_ | refine LOps.pure (Pure.pickT (lv := .atom _) rfl rfl) rfl ?_ | refine LOps.skip rfl rfl rfl rfl ?_
        exact ⟨⟨rfl, rfl, bool_eq (by rw [ht1, ht2, ht]; rfl), trivial⟩, rfl, rfl⟩
       ·repeat first | refine LOps.pure (Pure.mv (lv := .atom _) rfl) rfl ?_ | refine LOps.want rfl rfl ?_
        refine LOps.pure (Pure.sindex (c := c1) rfl rfl (by decide) rfl) rfl ?_
        repeat first | refine LOps.pure (Pure.mv (lv := .atom _) rfl) rfl ?_ | refine LOps.pure (Pure.pickF (lv := .atom _) rfl rfl) rfl ?_ | refine LOps.pure (Pure.eql rfl rfl) rfl ?_ | refine LOps.want rfl rfl ?_
        refine LOps.bcase 28 rfl (fun ht => ?_) (fun ht4 => ?_)
        ·repeat first | refine LOps.nil ?_ | refine QThen.normal ?_ | refine LOps.pure (Pure.pickT (lv := .atom _) rfl rfl) rfl ?_ | refine LOps.skip rfl rfl rfl rfl ?_
         exact ⟨⟨rfl, rfl, bool_eq (by rw [ht1, ht2, ht3, ht]; rfl), trivial⟩, rfl, rfl⟩
        ·repeat first | refine LOps.pure (Pure.mv (lv := .atom _) rfl) rfl ?_ | refine LOps.want rfl rfl ?_
         refine LOps.pure (Pure.sindex (c := c1) rfl rfl (by decide) rfl) rfl ?_
         repeat first | refine LOps.nil ?_ | refine QThen.normal ?_ | refine LOps.pure (Pure.pickF (lv := .atom _) rfl rfl) rfl ?_ | refine LOps.pure (Pure.eql rfl rfl) rfl ?_ | refine LOps.want rfl rfl ?_
         exact ⟨⟨rfl, rfl, bool_eq (by rw [ht1, ht2, ht3, ht4]; rfl), trivial⟩, rfl, rfl⟩
   ·skip
    refine LCode.cond rfl (fun hc => ?_) (fun hc => ?_)
    ·repeat first | refine LOps.nil ?_ | refine LCode.seq ?_ | refine LCode.region ?_ | refine LCode.ret ?_ | refine QThen.normal ?_ | refine QThen.ret ?_ | refine LOps.pure (Pure.as (lv := .atom _) rfl) rfl ?_ | refine LOps.pure (Pure.bld _ (cs := [_, _, _]) rfl) rfl ?_ | refine LOps.step (S.store (cs' := [_, _, _]) rfl Pick.here rfl rfl rfl rfl rfl ?_) rfl
     exact retRet hj (AllRes.cons (ResIs.cellAgg rfl (List.Mem.head _) rfl (LV.Sub.refl _)) (AllRes.cons (ResIs.tmp (v := .atom _) rfl (LV.Sub.refl _)) (AllRes.cons (ResIs.tmp (v := .atom _) rfl (LV.Sub.refl _)) AllRes.nil))) (by rw [lexLiteral, if_pos hc]; rfl)
    ·repeat first | refine LCode.seq ?_ | refine LCode.region ?_ | refine LCode.skip ?_ | refine QThen.normal ?_ | refine LOps.pure (Pure.mv (lv := .atom _) rfl) rfl ?_
     refine LOps.pure (Pure.sindex (c := c1) rfl rfl (by decide) rfl) rfl ?_
     refine LOps.pure (Pure.cvt rfl) rfl ?_
     have hw : IntKind.i64.wrap (c1.toNat : Int) = ((c1.toNat : Nat) : Int) := wrap_i64 (by have := c1.toNat_lt; omega)
     rw [hw]
     refine LOps.step (S.fn [_] rfl (itoa_spec hG c1.toNat (by have := c1.toNat_lt; omega)) ?_) rfl
     repeat first | refine LOps.nil ?_ | refine LCode.ret ?_ | refine QThen.normal ?_ | refine LOps.pure (Pure.as (lv := .atom _) rfl) rfl ?_ | refine LOps.pure (Pure.bld _ (cs := [_, _, _]) rfl) rfl ?_ | refine LOps.step (S.store (cs' := [_, _, _]) rfl Pick.here rfl rfl rfl rfl rfl ?_) rfl
     exact retRet hj (AllRes.cons (ResIs.cellAgg rfl (List.Mem.head _) rfl (LV.Sub.refl _)) (AllRes.cons (ResIs.tmp (v := .atom _) rfl (LV.Sub.refl _)) (AllRes.cons (ResIs.tmp (v := .atom _) rfl (LV.Sub.refl _)) AllRes.nil))) (by rw [lexLiteral, if_neg (by rw [hc]; decide)]; rfl)
theorem token_spec (hG : GW B0 w0) (s : List UInt8) (hs : s.length ≤ 1000000000) (hne : s ≠ []) : LCalls (KC B0 w0) 86 [str s] [] (Ret (encTokR (lexToken s))) := by
 match s, hne with
 | c :: r, _ =>
  refine LCalls.intro Tryz.func86 rfl (n := 49) rfl rfl rfl ?_
  repeat first | refine LCode.seq ?_ | refine LCode.region ?_
  refine LOps.step (S.alloc fun b => ?_) rfl
  repeat first | refine LOps.nil ?_ | refine LCode.seq ?_ | refine LCode.region ?_ | refine LCode.block ?_ | refine QThen.normal ?_ | refine LOps.pure (Pure.as (lv := .atom _) rfl) rfl ?_ | refine LOps.pure (Pure.mv (lv := .atom _) rfl) rfl ?_
  refine LOps.pure (Pure.sindex (c := c) rfl rfl (by decide) rfl) rfl ?_
  refine LOps.step (S.fn [_] rfl (digit_spec c) ?_) rfl
  repeat first | refine LOps.nil ?_ | refine QThen.normal ?_ | refine LOps.pure (Pure.as (lv := .atom _) rfl) rfl ?_
  refine LCode.cond rfl (fun hc => ?_) (fun hc => ?_)
  ·repeat first | refine LCode.seq ?_ | refine LCode.region ?_ | refine LOps.pure (Pure.mv (lv := .atom _) rfl) rfl ?_
   refine LOps.step (S.fn [_] rfl (number_spec hG (c :: r) hs (by rw [List.takeWhile_cons_of_pos hc]; simp)) ?_) rfl
   repeat first | refine LOps.nil ?_ | refine LCode.ret ?_ | refine QThen.normal ?_ | refine QThen.ret ?_ | refine QBlock.ret ?_ | refine LOps.pure (Pure.as (lv := .atom _) rfl) rfl ?_ | refine LOps.pure (Pure.extract (c := .agg _) rfl rfl) rfl ?_ | refine LOps.pure (Pure.extract (c := .atom _) rfl rfl) rfl ?_ | refine LOps.step (S.store (cs' := [_, _, _]) rfl Pick.here rfl rfl rfl rfl rfl ?_) rfl
   exact retRet rfl (AllRes.cons (ResIs.cellAgg rfl (List.Mem.head _) rfl (LV.Sub.refl _)) (AllRes.cons (ResIs.tmp (v := .atom _) rfl (LV.Sub.refl _)) (AllRes.cons (ResIs.tmp (v := .atom _) rfl (LV.Sub.refl _)) AllRes.nil))) (by simp only [lexToken, hc, if_true]; rfl)
  ·repeat first | refine LCode.seq ?_ | refine LCode.region ?_ | refine LOps.pure (Pure.mv (lv := .atom _) rfl) rfl ?_
   refine LOps.pure (Pure.sindex (c := c) rfl rfl (by decide) rfl) rfl ?_
   refine LOps.step (S.fn [_] rfl (letter_spec c) ?_) rfl
   repeat first | refine LOps.nil ?_ | refine QThen.normal ?_ | refine LOps.pure (Pure.as (lv := .atom _) rfl) rfl ?_
   refine LCode.cond rfl (fun hl => ?_) (fun hl => ?_)
   ·repeat first | refine LCode.seq ?_ | refine LCode.region ?_ | refine LOps.pure (Pure.mv (lv := .atom _) rfl) rfl ?_
    refine LOps.step (S.fn [_] rfl (name_spec (c :: r) hs) ?_) rfl
    repeat first | refine LOps.nil ?_ | refine LCode.ret ?_ | refine QThen.normal ?_ | refine QThen.ret ?_ | refine QBlock.ret ?_ | refine LOps.pure (Pure.as (lv := .atom _) rfl) rfl ?_ | refine LOps.pure (Pure.extract (c := .agg _) rfl rfl) rfl ?_ | refine LOps.pure (Pure.extract (c := .atom _) rfl rfl) rfl ?_ | refine LOps.step (S.store (cs' := [_, _, _]) rfl Pick.here rfl rfl rfl rfl rfl ?_) rfl
    exact retRet rfl (AllRes.cons (ResIs.cellAgg rfl (List.Mem.head _) rfl (LV.Sub.refl _)) (AllRes.cons (ResIs.tmp (v := .atom _) rfl (LV.Sub.refl _)) (AllRes.cons (ResIs.tmp (v := .atom _) rfl (LV.Sub.refl _)) AllRes.nil))) (by simp only [lexToken, hc, hl, if_true, Bool.false_eq_true, if_false]; rfl)
   ·repeat first | refine LCode.seq ?_ | refine LCode.region ?_ | refine LOps.pure (Pure.mv (lv := .atom _) rfl) rfl ?_
    refine LOps.pure (Pure.sindex (c := c) rfl rfl (by decide) rfl) rfl ?_
    repeat first | refine LOps.nil ?_ | refine QThen.normal ?_ | refine LOps.pure (Pure.as (lv := .atom _) rfl) rfl ?_ | refine LOps.pure (Pure.eql rfl rfl) rfl ?_
    refine LCode.cond rfl (fun hq => ?_) (fun hq => ?_)
    ·repeat first | refine LCode.seq ?_ | refine LCode.region ?_ | refine LOps.pure (Pure.mv (lv := .atom _) rfl) rfl ?_
     refine LOps.step (S.fn [_] rfl (literal_spec hG (c :: r) hs) ?_) rfl
     repeat first | refine LOps.nil ?_ | refine LCode.ret ?_ | refine QThen.normal ?_ | refine QThen.ret ?_ | refine QBlock.ret ?_ | refine LOps.pure (Pure.as (lv := .atom _) rfl) rfl ?_ | refine LOps.pure (Pure.extract (c := .agg _) rfl rfl) rfl ?_ | refine LOps.pure (Pure.extract (c := .atom _) rfl rfl) rfl ?_ | refine LOps.step (S.store (cs' := [_, _, _]) rfl Pick.here rfl rfl rfl rfl rfl ?_) rfl
     exact retRet rfl (AllRes.cons (ResIs.cellAgg rfl (List.Mem.head _) rfl (LV.Sub.refl _)) (AllRes.cons (ResIs.tmp (v := .atom _) rfl (LV.Sub.refl _)) (AllRes.cons (ResIs.tmp (v := .atom _) rfl (LV.Sub.refl _)) AllRes.nil))) (by simp only [lexToken, hc, hl, Bool.false_eq_true, if_false]; rw [if_pos hq]; rfl)
    ·have htok : lexToken (c :: r) = lexSign (c :: r) := by simp only [lexToken, hc, hl, Bool.false_eq_true, if_false]; rw [if_neg (by rw [hq]; decide)]
     repeat first | refine LCode.seq ?_ | refine LCode.region ?_ | refine LCode.skip ?_ | refine QThen.normal ?_ | refine QBlock.normal ?_
     refine LOps.step (S.fn [] rfl signs_spec ?_) rfl
     repeat first | refine LOps.nil ?_ | refine LCode.block ?_ | refine QThen.normal ?_ | refine LOps.pure (Pure.mv (lv := .atom _) rfl) rfl ?_ | refine LOps.pure (Pure.llen rfl) rfl ?_
     refine LCode.loopI (fun k ls H => ∃ m : Nat, k = signs.length - m ∧ ls = [(0, str (c :: r)), (2, ptr b 0), (34, .list (signs.map str)), (35, int .i64 24), (36, int .i64 m)] ∧ H = [(b, .cells 153 [int .i64 0, str [], int .i64 0])] ∧ m ≤ 24 ∧ signs.find? (fun x => x.isPrefixOf (c :: r)) = (signs.drop m).find? (fun x => x.isPrefixOf (c :: r)))
      ⟨_, _, _, ⟨0, rfl, rfl, rfl, by omega, by simp⟩, ⟨rfl, rfl, rfl, rfl, rfl, trivial⟩, HSub.refl _⟩ ?_
     rintro k ls H ⟨m, rfl, rfl, rfl, hm, hI⟩ j hj
     have h24 : signs.length = 24 := rfl
     repeat first | refine LOps.nil ?_ | refine LCode.seq ?_ | refine LCode.region ?_ | refine QThen.normal ?_ | refine LOps.pure (Pure.lss rfl rfl) rfl ?_
     refine LCode.cond rfl (fun ht => ?_) (fun ht => ?_)
     ·have hlt : m < signs.length := by have := of_decide_eq_true ht; omega
      repeat first | refine LCode.seq ?_ | refine LCode.region ?_ | refine LCode.skip ?_ | refine LCode.block ?_ | refine QThen.normal ?_
      refine LOps.pure (Pure.ixRef (el' := str signs[m]) rfl rfl (by omega) (by simp) rfl rfl) rfl ?_
      repeat first | refine LOps.nil ?_ | refine LCode.seq ?_ | refine LCode.region ?_ | refine QThen.normal ?_ | refine LOps.pure (Pure.as (lv := .atom _) rfl) rfl ?_ | refine LOps.pure (Pure.mv (lv := .atom _) rfl) rfl ?_ | refine LOps.pure (Pure.loadRef (c := .atom _) rfl rfl) rfl ?_
      refine LOps.step (S.fn [_, _] rfl (hasPrefix_spec (c :: r) signs[m]) ?_) rfl
      repeat first | refine LOps.nil ?_ | refine QThen.normal ?_
      refine LCode.cond rfl (fun hp => ?_) (fun hp => ?_)
      ·repeat first | refine LOps.nil ?_ | refine LCode.seq ?_ | refine LCode.region ?_ | refine LCode.ret ?_ | refine QThen.normal ?_ | refine QThen.ret ?_ | refine QBlock.ret ?_ | refine LOps.pure (Pure.as (lv := .atom _) rfl) rfl ?_ | refine LOps.pure (Pure.mv (lv := .atom _) rfl) rfl ?_ | refine LOps.pure (Pure.bld _ (cs := [_, _, _]) rfl) rfl ?_ | refine LOps.pure (Pure.slen rfl) rfl ?_ | refine LOps.step (S.store (cs' := [_, _, _]) rfl Pick.here rfl rfl rfl rfl rfl ?_) rfl
       exact retRet hj (AllRes.cons (ResIs.cellAgg rfl (List.Mem.head _) rfl (LV.Sub.refl _)) (AllRes.cons (ResIs.tmp (v := .atom _) rfl (LV.Sub.refl _)) (AllRes.cons (ResIs.tmp (v := .atom _) rfl (LV.Sub.refl _)) AllRes.nil))) (by
        rw [htok, lexSign, hI, List.drop_eq_getElem_cons hlt, List.find?_cons_of_pos (by simpa using hp)]
        rfl)
      ·repeat first | refine LOps.nil ?_ | refine LCode.region ?_ | refine LCode.skip ?_ | refine QThen.normal ?_ | refine QBlock.normal ?_ | refine LOps.pure (Pure.mv (lv := .atom _) rfl) rfl ?_ | refine LOps.pure (Pure.add rfl rfl (by omega)) rfl ?_
       exact ⟨_, _, _, by omega, ⟨m + 1, rfl, rfl, rfl, by omega, by
        rw [hI, List.drop_eq_getElem_cons hlt, List.find?_cons_of_neg (by rw [hp]; decide)]⟩, ⟨rfl, rfl, rfl, rfl, int_eq (by omega), trivial⟩, HSub.refl _, hj⟩
     ·have hge : signs.length ≤ m := by have := of_decide_eq_false ht; omega
      repeat first | refine LOps.nil ?_ | refine LCode.seq ?_ | refine LCode.region ?_ | refine LCode.ret ?_ | refine LCode.exit ?_ | refine QThen.normal ?_ | refine QThen.exit ?_ | refine QBlock.hit ?_ | refine LOps.pure (Pure.as (lv := .atom _) rfl) rfl ?_ | refine LOps.pure (Pure.bld _ (cs := [_, _, _]) rfl) rfl ?_ | refine LOps.step (S.store (cs' := [_, _, _]) rfl Pick.here rfl rfl rfl rfl rfl ?_) rfl
      exact retRet hj (AllRes.cons (ResIs.cellAgg rfl (List.Mem.head _) rfl (LV.Sub.refl _)) (AllRes.cons (ResIs.tmp (v := .atom _) rfl (LV.Sub.refl _)) (AllRes.cons (ResIs.tmp (v := .atom _) rfl (LV.Sub.refl _)) AllRes.nil))) (by
       rw [htok, lexSign, hI, List.drop_eq_nil_of_le hge]
       rfl)
end
end Go.Proofs.YtcbpcianefpniaaGreatDoor
namespace Go.Proofs.YtcbpcianefpniaaGreatDoor
open Go.GL Go.RowKit Go.Stele
set_option maxRecDepth 100000
set_option maxHeartbeats 4000000
attribute [local irreducible] LOps LCode LStep LCalls Go.GL.Pure QThen QBlock RetPost
def lexAllP (s : List UInt8) : Except (Int × Int) (List Tok) := if 60000 < s.length then .error (0, 6) else lexP s.length s 1
def encLex : Except (Int × Int) (List Tok) → LV
 | .ok T => .tuple [.list (T.map encTok), int .i64 0, int .i64 0]
 | .error (l, e) => .tuple [.list [], int .i64 l, int .i64 e]
theorem map_map_ex {A B D : Type} (f : A → B) (h : B → D) (r : Except (Int × Int) A) : (r.map f).map h = r.map (fun x => h (f x)) := by cases r <;> rfl
section
variable {B0 : Nat} {w0 : World}
theorem Tokens_spec (hG : GW B0 w0) (s : List UInt8) (hs : s.length ≤ 1000000000) : LCalls (KC B0 w0) 37 [str s] [] (Ret (encLex (lexAllP s))) := by
 refine LCalls.intro Tryz.func37 rfl (n := 49) rfl rfl rfl ?_
 repeat first | refine LOps.nil ?_ | refine LCode.seq ?_ | refine LCode.region ?_ | refine QThen.normal ?_ | refine LOps.pure (Pure.as (lv := .atom _) rfl) rfl ?_ | refine LOps.pure (Pure.mv (lv := .atom _) rfl) rfl ?_ | refine LOps.pure (Pure.slen rfl) rfl ?_ | refine LOps.pure (Pure.gtr rfl rfl) rfl ?_
 refine LCode.cond rfl (fun hc => ?_) (fun hc => ?_)
 ·repeat first | refine LOps.nil ?_ | refine LCode.seq ?_ | refine LCode.region ?_ | refine LCode.ret ?_ | refine QThen.normal ?_ | refine QThen.ret ?_ | refine LOps.pure (Pure.as (lv := .atom _) rfl) rfl ?_
  exact retRet rfl (AllRes.cons (ResIs.tmp (v := nilSlice) rfl LV.Sub.nil) (AllRes.cons (ResIs.tmp (v := .atom _) rfl (LV.Sub.refl _)) (AllRes.cons (ResIs.tmp (v := .atom _) rfl (LV.Sub.refl _)) AllRes.nil))) (by
   rw [lexAllP, if_pos (by have := of_decide_eq_true hc; omega)]
   rfl)
 ·have hlen : s.length ≤ 60000 := by have := of_decide_eq_false hc; omega
  repeat first | refine LOps.nil ?_ | refine LCode.seq ?_ | refine LCode.region ?_ | refine LCode.skip ?_ | refine LCode.block ?_ | refine QThen.normal ?_ | refine LOps.pure (Pure.as (lv := .atom _) rfl) rfl ?_ | refine LOps.pure (Pure.mv (lv := .atom _) rfl) rfl ?_
  refine LCode.loopI (fun k ls H => ∃ (v : LV) (out : List Tok) (rest : List UInt8) (line : Int) (fuel : Nat), k = rest.length ∧ ls = [(5, v), (6, int .i64 line), (7, str rest)] ∧ Acc 3 v (out.map encTok) H [] ∧
    rest.length ≤ fuel ∧ 0 ≤ line ∧ line + rest.length ≤ 60001 ∧ out.length + rest.length ≤ 60000 ∧ lexP s.length s 1 = (lexP fuel rest line).map (out ++ ·))
   ⟨_, _, _, ⟨nilSlice, [], s, 1, s.length, rfl, rfl, Acc.nil, by omega, by omega, by omega, by simp; omega, by cases lexP s.length s 1 <;> rfl⟩, ⟨rfl, rfl, rfl, trivial⟩, HSub.refl _⟩ ?_
  rintro k ls H ⟨v, out, rest, line, fuel, rfl, rfl, hacc, hf, hl0, hl1, ho, hI⟩ j hj
  repeat first | refine LOps.nil ?_ | refine LCode.seq ?_ | refine LCode.region ?_ | refine QThen.normal ?_ | refine LOps.pure (Pure.mv (lv := .atom _) rfl) rfl ?_ | refine LOps.pure (Pure.sneq rfl rfl) rfl ?_
  refine LCode.cond rfl (fun hne => ?_) (fun hne => ?_)
  ·have hrest : rest ≠ [] := by simpa using hne
   obtain ⟨f, rfl⟩ : ∃ f, fuel = f + 1 := ⟨fuel - 1, by
    have : 0 < rest.length := List.length_pos_iff.2 hrest
    omega⟩
   rw [lexP, if_neg hrest] at hI
   have hsk := skipLen_le rest
   repeat first | refine LCode.seq ?_ | refine LCode.region ?_ | refine LCode.skip ?_ | refine LCode.block ?_ | refine QThen.normal ?_ | refine LOps.pure (Pure.mv (lv := .atom _) rfl) rfl ?_
   refine LOps.step (S.fn [_] rfl (skip_spec rest (by omega)) ?_) rfl
   repeat first | refine LOps.nil ?_ | refine LCode.seq ?_ | refine LCode.region ?_ | refine QThen.normal ?_ | refine LOps.pure (Pure.as (lv := .atom _) rfl) rfl ?_ | refine LOps.pure (Pure.mv (lv := .atom _) rfl) rfl ?_ | refine LOps.pure (Pure.eql rfl rfl) rfl ?_
   refine LCode.cond rfl (fun hz => ?_) (fun hz => ?_)
   ·have hz' : skipLen rest = 0 := by have := of_decide_eq_true hz; omega
    rw [if_pos hz'] at hI
    repeat first | refine LCode.seq ?_ | refine LCode.region ?_ | refine LOps.pure (Pure.mv (lv := .atom _) rfl) rfl ?_
    refine LOps.step (S.fn [_] rfl (token_spec hG rest (by omega) hrest) ?_) rfl
    repeat first | refine LOps.pure (Pure.mv (lv := .tuple _) rfl) rfl ?_ | refine LOps.pure (Pure.extract (c := .agg _) rfl rfl) rfl ?_ | refine LOps.pure (Pure.extract (c := .atom _) rfl rfl) rfl ?_
    refine LOps.step (S.alloc fun b => ?_) rfl
    repeat first | refine LOps.nil ?_ | refine LCode.seq ?_ | refine LCode.region ?_ | refine QThen.normal ?_ | refine LOps.pure (Pure.as (lv := .atom _) rfl) rfl ?_ | refine LOps.pure (Pure.mv (lv := .atom _) rfl) rfl ?_ | refine LOps.pure (Pure.neq rfl rfl) rfl ?_ | refine LOps.step (S.store (cs' := [_, _, _]) rfl Pick.here rfl rfl rfl rfl rfl ?_) rfl
    refine LCode.cond rfl (fun he => ?_) (fun he => ?_)
    ·have he' : (lexToken rest).2.2 ≠ 0 := by simpa using he
     rw [if_pos he'] at hI
     repeat first | refine LOps.nil ?_ | refine LCode.seq ?_ | refine LCode.region ?_ | refine LCode.ret ?_ | refine QThen.normal ?_ | refine QThen.ret ?_ | refine QBlock.ret ?_ | refine LOps.pure (Pure.as (lv := .atom _) rfl) rfl ?_ | refine LOps.pure (Pure.mv (lv := .atom _) rfl) rfl ?_
     exact retRet hj (AllRes.cons (ResIs.tmp (v := nilSlice) rfl LV.Sub.nil) (AllRes.cons (ResIs.tmp (v := .atom _) rfl (LV.Sub.refl _)) (AllRes.cons (ResIs.tmp (v := .atom _) rfl (LV.Sub.refl _)) AllRes.nil))) (by
      rw [lexAllP, if_neg (by omega), hI]
      rfl)
    ·have he' : (lexToken rest).2.2 = 0 := by simpa using he
     rw [if_neg (by simpa using he')] at hI
     obtain ⟨hs0, hs1⟩ := lexToken_size rest he'
     repeat first | refine LOps.nil ?_ | refine LCode.seq ?_ | refine LCode.region ?_ | refine LCode.skip ?_ | refine QThen.normal ?_ | refine LOps.pure (Pure.mv (lv := .atom _) rfl) rfl ?_ | refine LOps.pure (Pure.fieldH rfl) rfl ?_ | refine LOps.step (S.store (cs' := [_, _, _]) rfl Pick.here rfl rfl rfl rfl rfl ?_) rfl
     refine LOps.pure (Pure.mv (lv := v) rfl) rfl ?_
     repeat first | refine LOps.pure (Pure.ldHAgg (cs' := [_, _, _]) rfl (List.Mem.head _) rfl rfl) rfl ?_
     refine LOps.step (S.lit [_] rfl (elemsOk.cons rfl rfl elemsOk.nil) rfl rfl rfl ?_) rfl
     refine LOps.weak (HSub.drop (HSub.refl _)) ?_
     refine LOps.step (S.acc rfl hacc rfl (by simp; rfl) rfl (by simp; omega) fun v' H' hacc' => ?_) rfl
     refine LOps.pure (Pure.as (lv := v') rfl) rfl ?_
     repeat first | refine LOps.nil ?_ | refine LCode.seq ?_ | refine LCode.region ?_ | refine QThen.normal ?_ | refine LOps.pure (Pure.as (lv := .atom _) rfl) rfl ?_ | refine LOps.pure (Pure.mv (lv := .atom _) rfl) rfl ?_
     refine LOps.pure (Pure.sslice (i := 0) (j := (lexToken rest).2.1) rfl rfl ⟨_, rfl⟩ (by omega) (by omega) (by omega)) rfl ?_
     refine LOps.step (S.fn [_, _] rfl (countNl_spec _) ?_) rfl
     have hcnt : (List.drop (Int.toNat 0) (List.take ((lexToken rest).2.1 : Int).toNat rest)).count 10 ≤ (lexToken rest).2.1 := Nat.le_trans List.count_le_length (by simp; omega)
     repeat first | refine LOps.nil ?_ | refine LCode.region ?_ | refine QThen.normal ?_ | refine LOps.pure (Pure.as (lv := .atom _) rfl) rfl ?_ | refine LOps.pure (Pure.mv (lv := .atom _) rfl) rfl ?_ | refine LOps.pure (Pure.add rfl rfl (by omega)) rfl ?_
     refine LOps.pure (Pure.sslice (i := (lexToken rest).2.1) (j := rest.length) rfl ⟨_, rfl⟩ rfl (by omega) (by omega) (by omega)) rfl ?_
     repeat first | refine LOps.nil ?_ | refine QThen.normal ?_ | refine QBlock.normal ?_ | refine LOps.pure (Pure.as (lv := .atom _) rfl) rfl ?_
     have hacc2 : Acc 3 v' ((out ++ [{ (lexToken rest).1 with line := line }]).map encTok) H' [] := by
      rw [List.map_append]
      exact hacc'
     exact ⟨_, _, _, by simp only [List.length_drop]; omega, ⟨v', out ++ [{ (lexToken rest).1 with line := line }], rest.drop (lexToken rest).2.1, line + ((rest.take (lexToken rest).2.1).count 10 : Nat), f, rfl, rfl, hacc2,
      by simp only [List.length_drop]; omega, by omega, by simp only [List.length_drop]; simp at hcnt; omega, by simp only [List.length_drop, List.length_append, List.length_singleton]; omega, by
       rw [hI, map_map_ex]
       congr 1
       funext x
       simp⟩, ⟨rfl, int_eq (by simp), str_eq (by simp), trivial⟩, HSub.refl _, hj⟩
   ·have hz' : ¬ skipLen rest = 0 := by have := of_decide_eq_false hz; omega
    rw [if_neg hz'] at hI
    repeat first | refine LCode.seq ?_ | refine LCode.region ?_ | refine LCode.skip ?_ | refine QThen.normal ?_ | refine LOps.pure (Pure.mv (lv := .atom _) rfl) rfl ?_
    refine LOps.pure (Pure.sslice (i := 0) (j := skipLen rest) rfl rfl ⟨_, rfl⟩ (by omega) (by omega) (by omega)) rfl ?_
    refine LOps.step (S.fn [_, _] rfl (countNl_spec _) ?_) rfl
    have hcnt : (List.drop (Int.toNat 0) (List.take (skipLen rest : Int).toNat rest)).count 10 ≤ skipLen rest := Nat.le_trans List.count_le_length (by simp; omega)
    repeat first | refine LOps.nil ?_ | refine LCode.region ?_ | refine QThen.normal ?_ | refine LOps.pure (Pure.as (lv := .atom _) rfl) rfl ?_ | refine LOps.pure (Pure.mv (lv := .atom _) rfl) rfl ?_ | refine LOps.pure (Pure.add rfl rfl (by omega)) rfl ?_
    refine LOps.pure (Pure.sslice (i := skipLen rest) (j := rest.length) rfl ⟨_, rfl⟩ rfl (by omega) (by omega) (by omega)) rfl ?_
    repeat first | refine LOps.nil ?_ | refine QThen.normal ?_ | refine QBlock.normal ?_ | refine LOps.pure (Pure.as (lv := .atom _) rfl) rfl ?_
    exact ⟨_, _, _, by simp only [List.length_drop]; omega, ⟨v, out, rest.drop (skipLen rest), line + ((rest.take (skipLen rest)).count 10 : Nat), f, rfl, rfl, hacc,
      by simp only [List.length_drop]; omega, by omega, by simp only [List.length_drop]; simp at hcnt; omega, by simp only [List.length_drop]; omega, hI⟩, ⟨rfl, int_eq (by simp), str_eq (by simp), trivial⟩, HSub.refl _, hj⟩
  ·have hrest : rest = [] := by simpa using hne
   repeat first | refine LCode.seq ?_ | refine LCode.region ?_ | refine LCode.exit ?_ | refine QThen.normal ?_ | refine QThen.exit ?_ | refine QBlock.hit ?_
   refine LOps.pure (Pure.mv (lv := v) rfl) rfl ?_
   refine LOps.pure (Pure.as (lv := v) rfl) rfl ?_
   repeat first | refine LOps.nil ?_ | refine LCode.ret ?_ | refine QThen.normal ?_ | refine LOps.pure (Pure.as (lv := .atom _) rfl) rfl ?_
   exact retRet hj (AllRes.cons (ResIs.tmp (v := v) rfl hacc.sub) (AllRes.cons (ResIs.tmp (v := .atom _) rfl (LV.Sub.refl _)) (AllRes.cons (ResIs.tmp (v := .atom _) rfl (LV.Sub.refl _)) AllRes.nil))) (by
    rw [lexAllP, if_neg (by omega), hI, hrest]
    cases fuel <;> simp [lexP, Except.map, encLex, resLV])
end
end Go.Proofs.YtcbpcianefpniaaGreatDoor
namespace Go.Proofs.YtcbpcianefpniaaGreatDoor
open Go.GL Go.RowKit Go.Stele
set_option maxRecDepth 100000
set_option maxHeartbeats 4000000
attribute [local irreducible] LOps LCode LStep LCalls Go.GL.Pure QThen QBlock RetPost LQ LAny LLate LLateOp
@[reducible] def srcH (sb : Nat) (T : List Tok) (i op : Nat) : Nat × LObj := (sb, .cells 95 [.list (T.map encTok), int .i64 i, int .i64 op])
def pan (l e : Int) : List PanicEntry := [{ v := .iface 91 (.agg #[.int .i64 l, .int .i64 e]), recovered := false }]
def PostP {A : Type} (sb : Nat) (T : List Tok) (enc : A → LV) (res : Res A) (r : LRes) (H : Heap) : Prop := match res with
 | .ok v i op => r = .ret (enc v) ∧ H = [srcH sb T i op]
 | .err l e => r = .panic (pan l e) ∧ ∃ i op : Nat, H = [srcH sb T i op]
def encU : Unit → LV := fun _ => .tuple []
theorem map_get {A : Type} (f : A → LV) (l : List A) (i : Nat) (h : i < l.length) : (l.map f)[((i : Nat) : Int).toNat]? = some (f l[i]) := by
 rw [Int.toNat_natCast, List.getElem?_map, List.getElem?_eq_getElem h]
 rfl
section
variable {B0 : Nat} {w0 : World}
theorem is_spec (sb : Nat) (T : List Tok) (i op : Nat) (xs : List (List UInt8)) (hT : T.length ≤ 100000) (hi : i ≤ 1000000) (hx : xs.length ≤ 1000) :
  LCalls (KC B0 w0) 87 [ptr sb 0, .list (xs.map str)] [srcH sb T i op] (fun r H => r = .ret (bool (isTok T i xs)) ∧ H = [srcH sb T i op]) := by
 refine LCalls.intro Tryz.func87 rfl (n := 40) rfl rfl rfl ?_
 repeat first | refine LOps.nil ?_ | refine LCode.seq ?_ | refine LCode.region ?_ | refine QThen.normal ?_ | refine LOps.pure (Pure.as (lv := .atom _) rfl) rfl ?_
 refine LCode.cut [(0, ptr sb 0), (1, .list (xs.map str)), (15, bool (decide (T.length ≤ i)))] ?_ (fun j hj => ?_)
 ·refine LCode.quiet (by kernel_rfl) ?_
  repeat first | refine LQ.pure (Pure.mv (lv := .atom _) rfl) rfl ?_ | refine LQ.pure (Pure.nilCheckH rfl) rfl ?_ | refine LQ.pure (Pure.fieldH rfl) rfl ?_ | refine LQ.pure (Pure.loadH (c := .atom _) rfl (List.Mem.head _) rfl) rfl ?_ | refine LQ.pure (Pure.loadH (c := .list _) rfl (List.Mem.head _) rfl) rfl ?_ | refine LQ.pure (Pure.llen rfl) rfl ?_ | refine LQ.pure (Pure.geq rfl rfl) rfl ?_ | refine LQ.nil ?_ | refine QThen.normal ?_
  exact ⟨⟨rfl, rfl, bool_eq (by rw [decide_eq_decide]; simp), trivial⟩, rfl, rfl⟩
 ·skip
  refine LCode.cond rfl (fun hc => ?_) (fun hc => ?_)
  ·repeat first | refine LOps.nil ?_ | refine LCode.seq ?_ | refine LCode.region ?_ | refine LCode.ret ?_ | refine QThen.normal ?_ | refine QThen.ret ?_ | refine LOps.pure (Pure.as (lv := .atom _) rfl) rfl ?_
   exact RetPost.ret hj (AllRes.cons (ResIs.tmp (v := .atom _) rfl (LV.Sub.refl _)) AllRes.nil) (HSub.refl _) ⟨by rw [isTok, List.getElem?_eq_none (of_decide_eq_true hc)]; rfl, rfl⟩
  ·have hlt : i < T.length := by have := of_decide_eq_false hc; omega
   repeat first | refine LCode.seq ?_ | refine LCode.skip ?_ | refine QThen.normal ?_
   refine LCode.draw (m := 12) rfl [srcH sb T i op] ?_
   refine LAny.take (i := 0) (by first | exact HSub.nil _ | exact HSub.refl _ | exact HSub.drop (HSub.refl _) | exact HSub.pick Pick.here (HSub.nil _) | exact HSub.pick (Pick.there Pick.here) (HSub.nil _) | exact HSub.pick (Pick.there (Pick.there Pick.here)) (HSub.nil _)) rfl (by kernel_rfl) (by kernel_rfl) (by kernel_rfl) rfl (Pure.mv (lv := .atom _) rfl) ?_
   refine LAny.take (i := 1) (by first | exact HSub.nil _ | exact HSub.refl _ | exact HSub.drop (HSub.refl _) | exact HSub.pick Pick.here (HSub.nil _) | exact HSub.pick (Pick.there Pick.here) (HSub.nil _) | exact HSub.pick (Pick.there (Pick.there Pick.here)) (HSub.nil _)) rfl (by kernel_rfl) (by kernel_rfl) (by kernel_rfl) rfl (Pure.nilCheckH rfl) ?_
   refine LAny.take (i := 2) (by first | exact HSub.nil _ | exact HSub.refl _ | exact HSub.drop (HSub.refl _) | exact HSub.pick Pick.here (HSub.nil _) | exact HSub.pick (Pick.there Pick.here) (HSub.nil _) | exact HSub.pick (Pick.there (Pick.there Pick.here)) (HSub.nil _)) rfl (by kernel_rfl) (by kernel_rfl) (by kernel_rfl) rfl (Pure.fieldH rfl) ?_
   refine LAny.take (i := 3) (by first | exact HSub.nil _ | exact HSub.refl _ | exact HSub.drop (HSub.refl _) | exact HSub.pick Pick.here (HSub.nil _) | exact HSub.pick (Pick.there Pick.here) (HSub.nil _) | exact HSub.pick (Pick.there (Pick.there Pick.here)) (HSub.nil _)) rfl (by kernel_rfl) (by kernel_rfl) (by kernel_rfl) rfl (Pure.loadH (c := .list _) rfl (List.Mem.head _) rfl) ?_
   refine LAny.take (i := 4) (by first | exact HSub.nil _ | exact HSub.refl _ | exact HSub.drop (HSub.refl _) | exact HSub.pick Pick.here (HSub.nil _) | exact HSub.pick (Pick.there Pick.here) (HSub.nil _) | exact HSub.pick (Pick.there (Pick.there Pick.here)) (HSub.nil _)) rfl (by kernel_rfl) (by kernel_rfl) (by kernel_rfl) rfl (Pure.mv (lv := .atom _) rfl) ?_
   refine LAny.take (i := 5) (by first | exact HSub.nil _ | exact HSub.refl _ | exact HSub.drop (HSub.refl _) | exact HSub.pick Pick.here (HSub.nil _) | exact HSub.pick (Pick.there Pick.here) (HSub.nil _) | exact HSub.pick (Pick.there (Pick.there Pick.here)) (HSub.nil _)) rfl (by kernel_rfl) (by kernel_rfl) (by kernel_rfl) rfl (Pure.nilCheckH rfl) ?_
   refine LAny.take (i := 6) (by first | exact HSub.nil _ | exact HSub.refl _ | exact HSub.drop (HSub.refl _) | exact HSub.pick Pick.here (HSub.nil _) | exact HSub.pick (Pick.there Pick.here) (HSub.nil _) | exact HSub.pick (Pick.there (Pick.there Pick.here)) (HSub.nil _)) rfl (by kernel_rfl) (by kernel_rfl) (by kernel_rfl) rfl (Pure.fieldH rfl) ?_
   refine LAny.take (i := 7) (by first | exact HSub.nil _ | exact HSub.refl _ | exact HSub.drop (HSub.refl _) | exact HSub.pick Pick.here (HSub.nil _) | exact HSub.pick (Pick.there Pick.here) (HSub.nil _) | exact HSub.pick (Pick.there (Pick.there Pick.here)) (HSub.nil _)) rfl (by kernel_rfl) (by kernel_rfl) (by kernel_rfl) rfl (Pure.loadH (c := .atom _) rfl (List.Mem.head _) rfl) ?_
   refine LAny.take (i := 8) (HSub.refl _) rfl (by kernel_rfl) (by kernel_rfl) (by kernel_rfl) rfl (Pure.ixRef (el' := encTok T[i]) (cs := [_, _, _]) rfl rfl (by omega) (map_get _ _ _ hlt) rfl rfl) ?_
   refine LAny.take (i := 9) (by first | exact HSub.nil _ | exact HSub.refl _ | exact HSub.drop (HSub.refl _) | exact HSub.pick Pick.here (HSub.nil _) | exact HSub.pick (Pick.there Pick.here) (HSub.nil _) | exact HSub.pick (Pick.there (Pick.there Pick.here)) (HSub.nil _)) rfl (by kernel_rfl) (by kernel_rfl) (by kernel_rfl) rfl (Pure.ldRefAgg (cs' := [_, _, _]) rfl rfl rfl) ?_
   refine LAny.late ?_ (HSub.refl _)
   refine LLate.o 10 (LLateOp.step (H1 := []) (F := [srcH sb T i op]) rfl (.inl rfl) rfl (List.Perm.refl _) (HSub.refl _) (S.alloc fun b => ?_))
   refine LLate.o 11 (LLateOp.step (H1 := [(b, _)]) (F := [srcH sb T i op]) rfl (.inl rfl) rfl (List.Perm.refl _) (HSub.refl _) (S.store (cs' := [_, _, _]) rfl Pick.here rfl rfl rfl rfl rfl ?_))
   refine LLate.done (by kernel_rfl) ?_
   repeat first | refine LCode.seq ?_ | refine LCode.region ?_ | refine QThen.normal ?_ | refine LOps.pure (Pure.mv (lv := .atom _) rfl) rfl ?_ | refine LOps.pure (Pure.fieldH rfl) rfl ?_ | refine LOps.pure (Pure.loadH (c := .atom _) rfl (List.Mem.head _) rfl) rfl ?_ | refine LOps.pure (Pure.eql rfl rfl) rfl ?_
   have hsp : isTok T i xs = ((decide (T[i].kind = 3) || decide (T[i].kind = 4)) && xs.contains T[i].text) := by rw [isTok, List.getElem?_eq_getElem hlt]
   rw [hsp]
   refine LOps.bcase 29 rfl (fun h3 => ?_) (fun h3 => ?_)
   ·repeat first | refine LOps.pure (Pure.mv (lv := .atom _) rfl) rfl ?_ | refine LOps.pure (Pure.fieldH rfl) rfl ?_ | refine LOps.pure (Pure.loadH (c := .atom _) rfl (List.Mem.head _) rfl) rfl ?_ | refine LOps.pure (Pure.pickT (lv := .atom _) rfl rfl) rfl ?_ | refine LOps.pure (Pure.mv (lv := .list _) rfl) rfl ?_ | refine LOps.want rfl rfl ?_ | refine LOps.skip rfl rfl rfl rfl ?_
    refine LOps.step (S.fn [_, _] rfl (Contains_spec xs T[i].text (by omega)) ?_) rfl
    repeat first | refine LOps.nil ?_ | refine LCode.ret ?_ | refine QThen.normal ?_ | refine LOps.pure (Pure.as (lv := .atom _) rfl) rfl ?_ | refine LOps.pure (Pure.pickT (lv := .atom _) rfl rfl) rfl ?_
    exact RetPost.ret hj (AllRes.cons (ResIs.tmp (v := .atom _) rfl (LV.Sub.refl _)) AllRes.nil) (HSub.drop (HSub.refl _)) ⟨by rw [h3]; rfl, rfl⟩
   ·repeat first | refine LOps.pure (Pure.mv (lv := .atom _) rfl) rfl ?_ | refine LOps.pure (Pure.fieldH rfl) rfl ?_ | refine LOps.pure (Pure.loadH (c := .atom _) rfl (List.Mem.head _) rfl) rfl ?_ | refine LOps.pure (Pure.eql rfl rfl) rfl ?_ | refine LOps.pure (Pure.pickF (lv := .atom _) rfl rfl) rfl ?_ | refine LOps.want rfl rfl ?_
    refine LOps.bcase 34 rfl (fun h4 => ?_) (fun h4 => ?_)
    ·repeat first | refine LOps.pure (Pure.fieldH rfl) rfl ?_ | refine LOps.pure (Pure.loadH (c := .atom _) rfl (List.Mem.head _) rfl) rfl ?_ | refine LOps.pure (Pure.mv (lv := .list _) rfl) rfl ?_ | refine LOps.want rfl rfl ?_
     refine LOps.step (S.fn [_, _] rfl (Contains_spec xs T[i].text (by omega)) ?_) rfl
     repeat first | refine LOps.nil ?_ | refine LCode.ret ?_ | refine QThen.normal ?_ | refine LOps.pure (Pure.as (lv := .atom _) rfl) rfl ?_ | refine LOps.pure (Pure.pickT (lv := .atom _) rfl rfl) rfl ?_
     exact RetPost.ret hj (AllRes.cons (ResIs.tmp (v := .atom _) rfl (LV.Sub.refl _)) AllRes.nil) (HSub.drop (HSub.refl _)) ⟨by rw [h3, h4]; rfl, rfl⟩
    ·repeat first | refine LOps.nil ?_ | refine LCode.ret ?_ | refine QThen.normal ?_ | refine LOps.pure (Pure.as (lv := .atom _) rfl) rfl ?_ | refine LOps.pure (Pure.pickF (lv := .atom _) rfl rfl) rfl ?_ | refine LOps.skip rfl rfl rfl rfl ?_
     exact RetPost.ret hj (AllRes.cons (ResIs.tmp (v := .atom _) rfl (LV.Sub.refl _)) AllRes.nil) (HSub.drop (HSub.refl _)) ⟨by rw [h3, h4]; rfl, rfl⟩
end
end Go.Proofs.YtcbpcianefpniaaGreatDoor
namespace Go.Proofs.YtcbpcianefpniaaGreatDoor
open Go.GL Go.RowKit Go.Stele
set_option maxRecDepth 100000
set_option maxHeartbeats 4000000
section steps
variable {C : Ctx} {e : Env} {H : Heap} {dst : Option Nat} {ty : TypeId} {pos : String} {aft : Array Edge} {g : Option (Nat × Bool)} {K : LV → Heap → Prop} {X : List PanicEntry → Heap → Prop}
theorem S.fnH {f : FuncId} [TEnter C.P f] (args : List Operand) {ats : Array TypeId} {av : List LV} {lv : LV} {p p' : Nat × LObj} {F : Heap} (has : args.map e.ev = av) (hp : Pick p H F) (hc : LCalls C f av [p] (fun r H => r = .ret lv ∧ H = [p'])) (hk : K lv (p' :: F)) :
  LStep C ⟨dst, .call { callee := .value (.func f), args := args.toArray, argTypes := ats }, ty, pos, aft, g⟩ e H K X :=
 S.call1 args has hp hc (by rintro v H' ⟨h, rfl⟩; cases h; exact hk) (by rintro ch H' ⟨h, _⟩; cases h)
theorem S.callP {A : Type} {enc : A → LV} {res : Res A} {sb i op : Nat} {T : List Tok} {f : FuncId} [TEnter C.P f] (args : List Operand) {ats : Array TypeId} {av : List LV} {F : Heap} (has : args.map e.ev = av) (hp : Pick (srcH sb T i op) H F)
  (hc : LCalls C f av [srcH sb T i op] (PostP sb T enc res)) (hk : ∀ v i' op', res = .ok v i' op' → K (enc v) (srcH sb T i' op' :: F)) (hx : ∀ l er i' op', res = .err l er → X (pan l er) (srcH sb T i' op' :: F)) :
  LStep C ⟨dst, .call { callee := .value (.func f), args := args.toArray, argTypes := ats }, ty, pos, aft, g⟩ e H K X := by
 refine S.call1 args has hp hc ?_ ?_
 ·intro v H' h
  cases hr : res with
  | ok u i' op' =>
   rw [hr] at h
   obtain ⟨h1, rfl⟩ := h
   cases h1
   exact hk _ _ _ hr
  | err l er =>
   rw [hr] at h
   obtain ⟨h1, _⟩ := h
   cases h1
 ·intro ch H' h
  cases hr : res with
  | ok u i' op' =>
   rw [hr] at h
   obtain ⟨h1, _⟩ := h
   cases h1
  | err l er =>
   rw [hr] at h
   obtain ⟨h1, i', op', rfl⟩ := h
   cases h1
   exact hx _ _ _ _ hr
theorem retP {A : Type} {enc : A → LV} {res : Res A} {sb : Nat} {T : List Tok} {n : Nat} {rs : List ResultVar} {vs : List LV} {v : A} {i op : Nat} (hd : e.ds = []) (h : AllRes C n e H rs vs) (hr : res = .ok v i op) (hv : resLV vs = enc v) (hH : HSub [srcH sb T i op] H) :
  RetPost C n rs (PostP sb T enc res) .ret e H := RetPost.ret hd h hH (by rw [hr]; exact ⟨by rw [hv], rfl⟩)
theorem retPn {A : Type} {enc : A → LV} {res : Res A} {sb : Nat} {T : List Tok} {n : Nat} {rs : List ResultVar} {vs : List LV} {v : A} {i op : Nat} (hd : e.ds = []) (h : AllRes C n e H rs vs) (hr : res = .ok v i op) (hv : resLV vs = enc v) (hH : HSub [srcH sb T i op] H) :
  RetPost C n rs (PostP sb T enc res) .normal e H := RetPost.normal hd h hH (by rw [hr]; exact ⟨by rw [hv], rfl⟩)
theorem panP {A : Type} {enc : A → LV} {res : Res A} {sb : Nat} {T : List Tok} {n : Nat} {rs : List ResultVar} {i op : Nat} {l er : Int} (hd : e.ds = []) (hr : res = .err l er) (hH : HSub [srcH sb T i op] H) :
  RetPost C n rs (PostP sb T enc res) (.panic (pan l er)) e H := RetPost.panic hd hH (by rw [hr]; exact ⟨rfl, i, op, rfl⟩)
end steps
attribute [local irreducible] LOps LCode LStep LCalls Go.GL.Pure QThen QBlock RetPost LQ LAny LLate LLateOp
section
variable {B0 : Nat} {w0 : World}
theorem fail_spec {A : Type} (enc : A → LV) (sb : Nat) (T : List Tok) (i op : Nat) (er : Int) (hT : T.length ≤ 100000) (hi : i ≤ 1000000) :
  LCalls (KC B0 w0) 92 [ptr sb 0, int .i64 er] [srcH sb T i op] (PostP sb T enc (.err (failLine T i) er)) := by
 have hml : (T.map encTok).length = T.length := List.length_map _
 refine LCalls.intro Tryz.func92 rfl (n := 31) rfl rfl rfl ?_
 repeat first | refine LOps.nil ?_ | refine LCode.seq ?_ | refine LCode.region ?_ | refine QThen.normal ?_ | refine LOps.pure (Pure.as (lv := .atom _) rfl) rfl ?_ | refine LOps.pure (Pure.mv (lv := .atom _) rfl) rfl ?_ | refine LOps.pure (Pure.nilCheckH rfl) rfl ?_ | refine LOps.pure (Pure.fieldH rfl) rfl ?_ | refine LOps.pure (Pure.loadH (c := .list _) rfl (List.Mem.head _) rfl) rfl ?_ | refine LOps.pure (Pure.llen rfl) rfl ?_ | refine LOps.pure (Pure.gtr rfl rfl) rfl ?_
 refine LCode.cut [(0, ptr sb 0), (1, int .i64 er), (4, int .i64 (failLine T i))] ?_ (fun j hj => ?_)
 ·refine LCode.cond rfl (fun hc => ?_) (fun hc => ?_)
  ·have hpos : 0 < T.length := by have := of_decide_eq_true hc; simp at this; omega
   have hmin : min i (T.length - 1) < T.length := by omega
   have hmv : (if ((T.map encTok).length : Int) - 1 < (i : Int) then ((T.map encTok).length : Int) - 1 else (i : Int)) = ((min i (T.length - 1) : Nat) : Int) := by
    rw [List.length_map]
    split <;> omega
   refine LCode.quiet (by kernel_rfl) ?_
   repeat first | refine LQ.pure (Pure.mv (lv := .atom _) rfl) rfl ?_ | refine LQ.pure (Pure.nilCheckH rfl) rfl ?_ | refine LQ.pure (Pure.fieldH rfl) rfl ?_ | refine LQ.pure (Pure.loadH (c := .list _) rfl (List.Mem.head _) rfl) rfl ?_ | refine LQ.pure (Pure.loadH (c := .atom _) rfl (List.Mem.head _) rfl) rfl ?_ | refine LQ.pure (Pure.sub rfl rfl (by omega)) rfl ?_ | refine LQ.pure (Pure.minI rfl rfl) rfl ?_
   refine LQ.pure (Pure.ixRef (n := ((min i (T.length - 1) : Nat) : Int)) (el' := encTok T[min i (T.length - 1)]) (cs := [_, _, _]) rfl (congrArg (int .i64) hmv) (by omega) (map_get _ _ _ hmin) rfl rfl) rfl ?_
   repeat first | refine LQ.pure (Pure.as (lv := .atom _) rfl) rfl ?_ | refine LQ.pure (Pure.field1 rfl rfl) rfl ?_ | refine LQ.pure (Pure.loadRef (c := .atom _) rfl rfl) rfl ?_ | refine LQ.nil ?_ | refine QThen.normal ?_
   exact ⟨⟨rfl, rfl, int_eq (by rw [failLine, List.getElem?_eq_getElem hmin]), trivial⟩, rfl, rfl⟩
  ·have hz : T = [] := by
    have := of_decide_eq_false hc
    exact List.length_eq_zero_iff.1 (by omega)
   repeat first | refine LCode.skip ?_ | refine QThen.normal ?_
   exact ⟨⟨rfl, rfl, int_eq (by rw [failLine, hz]; rfl), trivial⟩, rfl, rfl⟩
 ·repeat first | refine LCode.region ?_ | refine LOps.pure (Pure.mv (lv := .atom _) rfl) rfl ?_ | refine LOps.pure (Pure.bld _ (cs := [_, _]) rfl) rfl ?_ | refine LOps.pure (Pure.makeInterfaceAgg (vs := [_, _]) rfl) rfl ?_
  refine LOps.step (LStep.panic rfl fun e' he' => ?_) rfl
  exact panP (he'.trans hj) rfl (HSub.refl _)
theorem take_spec (sb : Nat) (T : List Tok) (i op : Nat) (x : List UInt8) (hT : T.length ≤ 100000) (hi : i ≤ 1000000) :
  LCalls (KC B0 w0) 89 [ptr sb 0, str x] [srcH sb T i op] (fun r H => r = .ret (bool (isTok T i [x])) ∧ H = [srcH sb T (if isTok T i [x] then i + 1 else i) op]) := by
 refine LCalls.intro Tryz.func89 rfl (n := 17) rfl rfl rfl ?_
 repeat first | refine LOps.nil ?_ | refine LCode.seq ?_ | refine LCode.region ?_ | refine QThen.normal ?_ | refine LOps.pure (Pure.as (lv := .atom _) rfl) rfl ?_ | refine LOps.pure (Pure.mv (lv := .atom _) rfl) rfl ?_
 refine LOps.step (S.lit [_] rfl (elemsOk.cons rfl rfl elemsOk.nil) rfl rfl rfl ?_) rfl
 refine LOps.step (S.fnH [_, _] rfl Pick.here (is_spec sb T i op [x] hT hi (by simp)) ?_) rfl
 repeat first | refine LOps.nil ?_ | refine QThen.normal ?_ | refine LOps.pure (Pure.not rfl) rfl ?_
 refine LCode.cond rfl (fun hc => ?_) (fun hc => ?_)
 ·have h : isTok T i [x] = false := by simpa using hc
  repeat first | refine LOps.nil ?_ | refine LCode.seq ?_ | refine LCode.region ?_ | refine LCode.ret ?_ | refine QThen.normal ?_ | refine QThen.ret ?_ | refine LOps.pure (Pure.as (lv := .atom _) rfl) rfl ?_
  exact RetPost.ret rfl (AllRes.cons (ResIs.tmp (v := .atom _) rfl (LV.Sub.refl _)) AllRes.nil) (HSub.refl _) ⟨by rw [h]; rfl, by rw [h]; rfl⟩
 ·have h : isTok T i [x] = true := by simpa using hc
  repeat first | refine LOps.nil ?_ | refine LCode.seq ?_ | refine LCode.region ?_ | refine LCode.skip ?_ | refine LCode.ret ?_ | refine QThen.normal ?_ | refine LOps.pure (Pure.as (lv := .atom _) rfl) rfl ?_ | refine LOps.pure (Pure.mv (lv := .atom _) rfl) rfl ?_ | refine LOps.pure (Pure.nilCheckH rfl) rfl ?_ | refine LOps.pure (Pure.fieldH rfl) rfl ?_ | refine LOps.pure (Pure.loadH (c := .atom _) rfl (List.Mem.head _) rfl) rfl ?_ | refine LOps.pure (Pure.add rfl rfl (by omega)) rfl ?_ | refine LOps.step (S.store (cs' := [_, _, _]) rfl Pick.here rfl rfl rfl rfl rfl ?_) rfl
  exact RetPost.ret rfl (AllRes.cons (ResIs.tmp (v := .atom _) rfl (LV.Sub.refl _)) AllRes.nil) (HSub.refl _) ⟨by rw [h]; rfl, by rw [h]; rfl⟩
theorem need_spec (sb : Nat) (T : List Tok) (i op : Nat) (x : List UInt8) (hT : T.length ≤ 100000) (hi : i ≤ 1000000) :
  LCalls (KC B0 w0) 138 [ptr sb 0, str x] [srcH sb T i op] (PostP sb T encU (sNeed T x i op)) := by
 refine LCalls.intro Tryz.func138 rfl (n := 10) rfl rfl rfl ?_
 repeat first | refine LCode.seq ?_ | refine LCode.region ?_ | refine LOps.pure (Pure.mv (lv := .atom _) rfl) rfl ?_
 refine LOps.step (S.fnH [_, _] rfl Pick.here (take_spec sb T i op x hT hi) ?_) rfl
 repeat first | refine LOps.nil ?_ | refine QThen.normal ?_ | refine LOps.pure (Pure.not rfl) rfl ?_
 refine LCode.cond rfl (fun hc => ?_) (fun hc => ?_)
 ·have h : isTok T i [x] = false := by simpa using hc
  simp only [h, Bool.false_eq_true, if_false]
  repeat first | refine LCode.region ?_ | refine LOps.pure (Pure.mv (lv := .atom _) rfl) rfl ?_
  refine LOps.step (S.callP [_, _] rfl Pick.here (fail_spec encU sb T i op 3 hT hi) (fun _ _ _ h => by cases h) (fun l er i' op' h e' he' => ?_)) rfl
  cases h
  exact panP (he'.trans rfl) (by rw [sNeed, h, if_neg (by decide)]; rfl) (HSub.refl _)
 ·have h : isTok T i [x] = true := by simpa using hc
  simp only [h, if_true]
  repeat first | refine LCode.skip ?_
  exact retPn rfl AllRes.nil (by rw [sNeed, h, if_pos rfl]) rfl (HSub.refl _)
theorem word_spec (sb : Nat) (T : List Tok) (i op : Nat) (k : Int) (hT : T.length ≤ 100000) (hi : i ≤ 1000000) :
  LCalls (KC B0 w0) 139 [ptr sb 0, int .i64 k] [srcH sb T i op] (PostP sb T str (sWord T k i op)) := by
 have hml : (T.map encTok).length = T.length := List.length_map _
 refine LCalls.intro Tryz.func139 rfl (n := 51) rfl rfl rfl ?_
 repeat first | refine LOps.nil ?_ | refine LCode.seq ?_ | refine LCode.region ?_ | refine QThen.normal ?_ | refine LOps.pure (Pure.as (lv := .atom _) rfl) rfl ?_
 refine LCode.cut [(0, ptr sb 0), (1, int .i64 k), (29, bool (match T[i]? with | some t => !decide (t.kind = k) | none => true))] ?_ (fun j hj => ?_)
 ·refine LCode.quiet (by kernel_rfl) ?_
  repeat first | refine LQ.pure (Pure.mv (lv := .atom _) rfl) rfl ?_ | refine LQ.pure (Pure.nilCheckH rfl) rfl ?_ | refine LQ.pure (Pure.fieldH rfl) rfl ?_ | refine LQ.pure (Pure.loadH (c := .atom _) rfl (List.Mem.head _) rfl) rfl ?_ | refine LQ.pure (Pure.loadH (c := .list _) rfl (List.Mem.head _) rfl) rfl ?_ | refine LQ.pure (Pure.llen rfl) rfl ?_ | refine LQ.pure (Pure.geq rfl rfl) rfl ?_
  refine LQ.bcase 15 rfl (fun h => ?_) (fun h => ?_)
  ·have hge : T.length ≤ i := by have := of_decide_eq_true h; omega
   repeat first | refine LQ.pure (Pure.pickT (lv := .atom _) rfl rfl) rfl ?_ | refine LQ.skip rfl rfl rfl rfl ?_ | refine LQ.nil ?_ | refine QThen.normal ?_
   exact ⟨⟨rfl, rfl, bool_eq (by rw [List.getElem?_eq_none hge]), trivial⟩, rfl, rfl⟩
  ·have hlt : i < T.length := by have := of_decide_eq_false h; omega
   repeat first | refine LQ.pure (Pure.mv (lv := .atom _) rfl) rfl ?_ | refine LQ.pure (Pure.nilCheckH rfl) rfl ?_ | refine LQ.pure (Pure.fieldH rfl) rfl ?_ | refine LQ.pure (Pure.loadH (c := .atom _) rfl (List.Mem.head _) rfl) rfl ?_ | refine LQ.pure (Pure.loadH (c := .list _) rfl (List.Mem.head _) rfl) rfl ?_ | refine LQ.want rfl rfl ?_
   refine LQ.pure (Pure.ixRef (el' := encTok T[i]) (cs := [_, _, _]) rfl rfl (by omega) (map_get _ _ _ hlt) rfl rfl) rfl ?_
   repeat first | refine LQ.pure (Pure.mv (lv := .atom _) rfl) rfl ?_ | refine LQ.pure (Pure.field1 rfl rfl) rfl ?_ | refine LQ.pure (Pure.loadRef (c := .atom _) rfl rfl) rfl ?_ | refine LQ.pure (Pure.neq rfl rfl) rfl ?_ | refine LQ.pure (Pure.pickF (lv := .atom _) rfl rfl) rfl ?_ | refine LQ.want rfl rfl ?_ | refine LQ.nil ?_ | refine QThen.normal ?_
   exact ⟨⟨rfl, rfl, bool_eq (by rw [List.getElem?_eq_getElem hlt]), trivial⟩, rfl, rfl⟩
 ·skip
  refine LCode.cond rfl (fun hc => ?_) (fun hc => ?_)
  ·have hs : sWord T k i op = synErr T i := by
    unfold sWord
    cases hg : T[i]? with
    | none => rfl
    | some t =>
     rw [hg] at hc
     have : ¬ t.kind = k := by simpa using hc
     simp only
     rw [if_neg this]
   repeat first | refine LCode.region ?_ | refine LOps.pure (Pure.mv (lv := .atom _) rfl) rfl ?_
   refine LOps.step (S.callP [_, _] rfl Pick.here (fail_spec str sb T i op 3 hT hi) (fun _ _ _ h => by cases h) (fun l er i' op' h e' he' => ?_)) rfl
   cases h
   repeat first | refine QThen.panic ?_
   exact panP (he'.trans hj) hs (HSub.refl _)
  ·have hlt : i < T.length := by
    rcases Nat.lt_or_ge i T.length with h | h
    ·exact h
    ·rw [List.getElem?_eq_none h] at hc; cases hc
   rw [List.getElem?_eq_getElem hlt] at hc
   have hk : T[i].kind = k := by simpa using hc
   have hs : sWord T k i op = .ok T[i].text (i + 1) op := by rw [sWord, List.getElem?_eq_getElem hlt]; simp only; rw [if_pos hk]
   repeat first | refine LOps.nil ?_ | refine LCode.seq ?_ | refine LCode.region ?_ | refine LCode.skip ?_ | refine QThen.normal ?_ | refine LOps.pure (Pure.mv (lv := .atom _) rfl) rfl ?_ | refine LOps.pure (Pure.nilCheckH rfl) rfl ?_ | refine LOps.pure (Pure.fieldH rfl) rfl ?_ | refine LOps.pure (Pure.loadH (c := .atom _) rfl (List.Mem.head _) rfl) rfl ?_ | refine LOps.pure (Pure.add rfl rfl (by omega)) rfl ?_ | refine LOps.step (S.store (cs' := [_, _, _]) rfl Pick.here rfl rfl rfl rfl rfl ?_) rfl
   refine LCode.cut [(0, ptr sb 0), (4, str T[i].text)] ?_ (fun j2 hj2 => ?_)
   ·refine LCode.quiet (by kernel_rfl) ?_
    repeat first | refine LQ.pure (Pure.mv (lv := .atom _) rfl) rfl ?_ | refine LQ.pure (Pure.nilCheckH rfl) rfl ?_ | refine LQ.pure (Pure.fieldH rfl) rfl ?_ | refine LQ.pure (Pure.loadH (c := .atom _) rfl (List.Mem.head _) rfl) rfl ?_ | refine LQ.pure (Pure.loadH (c := .list _) rfl (List.Mem.head _) rfl) rfl ?_ | refine LQ.pure (Pure.sub rfl rfl (by omega)) rfl ?_
    refine LQ.pure (Pure.ixRef (n := ((i : Nat) : Int)) (el' := encTok T[i]) (cs := [_, _, _]) rfl (int_eq (by omega)) (by omega) (map_get _ _ _ hlt) rfl rfl) rfl ?_
    repeat first | refine LQ.pure (Pure.as (lv := .atom _) rfl) rfl ?_ | refine LQ.pure (Pure.field1 rfl rfl) rfl ?_ | refine LQ.pure (Pure.loadRef (c := .atom _) rfl rfl) rfl ?_ | refine LQ.nil ?_ | refine QThen.normal ?_
    exact ⟨⟨rfl, rfl, trivial⟩, rfl, rfl⟩
   ·repeat first | refine LCode.ret ?_
    exact retP (hj2.trans hj) (AllRes.cons (ResIs.tmp (v := .atom _) rfl (LV.Sub.refl _)) AllRes.nil) hs rfl (HSub.refl _)
theorem begin_spec (sb : Nat) (T : List Tok) (i op : Nat) (x : List UInt8) (hT : T.length ≤ 100000) (hi : i ≤ 1000000) (ho : op ≤ 1000000) :
  LCalls (KC B0 w0) 140 [ptr sb 0, str x] [srcH sb T i op] (PostP sb T encU (sBegin T x i op)) := by
 refine LCalls.intro Tryz.func140 rfl (n := 32) rfl rfl rfl ?_
 repeat first | refine LCode.seq ?_ | refine LCode.region ?_ | refine LOps.pure (Pure.mv (lv := .atom _) rfl) rfl ?_
 refine LOps.step (S.lit [_] rfl (elemsOk.cons rfl rfl elemsOk.nil) rfl rfl rfl ?_) rfl
 refine LOps.step (S.fnH [_, _] rfl Pick.here (is_spec sb T i op [x] hT hi (by simp)) ?_) rfl
 repeat first | refine LOps.nil ?_ | refine QThen.normal ?_ | refine LOps.pure (Pure.not rfl) rfl ?_
 refine LCode.cond rfl (fun hc => ?_) (fun hc => ?_)
 ·have h : isTok T i [x] = false := by simpa using hc
  repeat first | refine LCode.region ?_ | refine LOps.pure (Pure.mv (lv := .atom _) rfl) rfl ?_
  refine LOps.step (S.callP [_, _] rfl Pick.here (fail_spec encU sb T i op 3 hT hi) (fun _ _ _ h => by cases h) (fun l er i' op' h' e' he' => ?_)) rfl
  cases h'
  repeat first | refine QThen.panic ?_
  exact panP (he'.trans rfl) (by rw [sBegin, h, if_neg (by decide)]; rfl) (HSub.refl _)
 ·have h : isTok T i [x] = true := by simpa using hc
  repeat first | refine LOps.nil ?_ | refine LCode.seq ?_ | refine LCode.region ?_ | refine LCode.skip ?_ | refine QThen.normal ?_ | refine LOps.pure (Pure.mv (lv := .atom _) rfl) rfl ?_ | refine LOps.pure (Pure.nilCheckH rfl) rfl ?_ | refine LOps.pure (Pure.fieldH rfl) rfl ?_ | refine LOps.pure (Pure.loadH (c := .atom _) rfl (List.Mem.head _) rfl) rfl ?_ | refine LOps.pure (Pure.geq rfl rfl) rfl ?_
  refine LCode.cond rfl (fun hd => ?_) (fun hd => ?_)
  ·have hd' : 100 ≤ op := by have := of_decide_eq_true hd; omega
   repeat first | refine LCode.region ?_ | refine LOps.pure (Pure.mv (lv := .atom _) rfl) rfl ?_
   refine LOps.step (S.callP [_, _] rfl Pick.here (fail_spec encU sb T i op 6 hT hi) (fun _ _ _ h => by cases h) (fun l er i' op' h' e' he' => ?_)) rfl
   cases h'
   repeat first | refine QThen.panic ?_
   exact panP (he'.trans rfl) (by rw [sBegin, h, if_pos rfl, if_pos hd']) (HSub.refl _)
  ·have hd' : ¬ 100 ≤ op := by have := of_decide_eq_false hd; omega
   repeat first | refine LOps.nil ?_ | refine LCode.seq ?_ | refine LCode.region ?_ | refine LCode.skip ?_ | refine QThen.normal ?_ | refine LOps.pure (Pure.mv (lv := .atom _) rfl) rfl ?_ | refine LOps.pure (Pure.nilCheckH rfl) rfl ?_ | refine LOps.pure (Pure.fieldH rfl) rfl ?_ | refine LOps.pure (Pure.loadH (c := .atom _) rfl (List.Mem.head _) rfl) rfl ?_ | refine LOps.pure (Pure.add rfl rfl (by omega)) rfl ?_ | refine LOps.step (S.store (cs' := [_, _, _]) rfl Pick.here rfl rfl rfl rfl rfl ?_) rfl
   exact retPn rfl AllRes.nil (by rw [sBegin, h, if_pos rfl, if_neg hd']) rfl (HSub.refl _)
theorem end_spec (sb : Nat) (T : List Tok) (i op : Nat) (x : List UInt8) (hT : T.length ≤ 100000) (hi : i ≤ 1000000) (ho : op ≤ 1000000) (h1 : 1 ≤ op) :
  LCalls (KC B0 w0) 142 [ptr sb 0, str x] [srcH sb T i op] (PostP sb T encU (sEnd T x i op)) := by
 refine LCalls.intro Tryz.func142 rfl (n := 14) rfl rfl rfl ?_
 repeat first | refine LCode.seq ?_ | refine LCode.region ?_ | refine LOps.pure (Pure.mv (lv := .atom _) rfl) rfl ?_
 refine LOps.step (S.callP [_, _] rfl Pick.here (need_spec sb T i op x hT hi) (fun v i' op' h => ?_) (fun l er i' op' h e' he' => ?_)) rfl
 ·have hop : op' = op := by
   unfold sNeed at h
   split at h
   ·cases h; rfl
   ·cases h
  subst hop
  repeat first | refine LOps.nil ?_ | refine LCode.region ?_ | refine QThen.normal ?_ | refine LOps.pure (Pure.mv (lv := .atom _) rfl) rfl ?_ | refine LOps.pure (Pure.nilCheckH rfl) rfl ?_ | refine LOps.pure (Pure.fieldH rfl) rfl ?_ | refine LOps.pure (Pure.loadH (c := .atom _) rfl (List.Mem.head _) rfl) rfl ?_ | refine LOps.pure (Pure.sub rfl rfl (by omega)) rfl ?_ | refine LOps.step (S.store (cs' := [_, _, _]) rfl Pick.here rfl rfl rfl rfl rfl ?_) rfl
  rw [show ((op' : Int) - 1) = ((op' - 1 : Nat) : Int) by omega]
  exact retPn rfl AllRes.nil (by rw [sEnd, h]; rfl) rfl (HSub.refl _)
 ·repeat first | refine QThen.panic ?_
  exact panP (he'.trans rfl) (by rw [sEnd, h]; rfl) (HSub.refl _)
end
end Go.Proofs.YtcbpcianefpniaaGreatDoor
namespace Go.Proofs.YtcbpcianefpniaaGreatDoor
open Go.GL Go.RowKit Go.Stele
set_option maxRecDepth 100000
set_option maxHeartbeats 4000000
attribute [local irreducible] LOps LCode LStep LCalls Go.GL.Pure QThen QBlock RetPost LQ LAny LLate LLateOp
theorem obind_ok {A B : Type} {v : A} {i op : Nat} {f : A → Nat → Nat → OR B} : obind (some (.ok v i op)) f = f v i op := rfl
theorem obind_err {A B : Type} {l e : Int} {f : A → Nat → Nat → OR B} : obind (some (.err l e)) f = some (.err l e) := rfl
theorem obind_is {A B : Type} {r : OR A} {f : A → Nat → Nat → OR B} {q : Res B} (h : obind r f = some q) : ∃ r1, r = some r1 := by
 cases r with
 | none => cases h
 | some r1 => exact ⟨r1, rfl⟩
/-- The tokens that a parser works on: not too many, and each number's text is a number. -/
structure TOK (T : List Tok) : Prop where
 len : T.length ≤ 100000
 txt : ∀ t ∈ T, t.text.length ≤ 100000
 num : ∀ t ∈ T, t.kind = 1 → ∃ u, u < 4294967296 ∧ Go.Lib.parseUintB 32 t.text = .ok u
theorem wrap_u32 {n : Int} (h : 0 ≤ n ∧ n ≤ 4294967295) : IntKind.u32.wrap n = n := by
 simp only [IntKind.wrap, IntKind.bits, IntKind.signed, Bool.false_and]
 simp
 omega
theorem sWord_ok {T : List Tok} {k : Int} {i op i' op' : Nat} {s : List UInt8} (h : sWord T k i op = .ok s i' op') : i' = i + 1 ∧ op' = op ∧ ∃ t, T[i]? = some t ∧ t.kind = k ∧ t.text = s := by
 unfold sWord at h
 split at h
 ·rename_i t ht
  split at h
  ·rename_i hk
   cases h
   exact ⟨rfl, rfl, t, ht, hk, rfl⟩
  ·cases h
 ·cases h
def encNames (l : List (List UInt8)) : LV := .list (l.map str)
def encN (n : Nat) : LV := int .u32 n
def ExprC (B0 : Nat) (w0 : World) (sb : Nat) (T : List Tok) (f : Nat) : Prop :=
 ∀ i op r, i ≤ T.length → op ≤ 100 → eLev T f 0 i op = some r → LCalls (KC B0 w0) 194 [ptr sb 0] [srcH sb T i op] (PostP sb T encE r)
section
variable {B0 : Nat} {w0 : World}
theorem number_specP (hG : GW B0 w0) (sb : Nat) (T : List Tok) (hT : TOK T) (i op : Nat) (hi : i ≤ 1000000) : LCalls (KC B0 w0) 141 [ptr sb 0] [srcH sb T i op] (PostP sb T encN (sNumber T i op)) := by
 have hl := hT.len
 refine LCalls.intro Tryz.func141 rfl (n := 13) rfl rfl rfl ?_
 repeat first | refine LOps.nil ?_ | refine LCode.seq ?_ | refine LCode.region ?_ | refine QThen.normal ?_ | refine LOps.pure (Pure.as (lv := .atom _) rfl) rfl ?_ | refine LOps.pure (Pure.mv (lv := .atom _) rfl) rfl ?_
 refine LOps.step (S.callP [_, _] rfl Pick.here (word_spec sb T i op 1 hl hi) (fun s i1 op1 h1 => ?_) (fun l er i1 op1 h1 e' he' => ?_)) rfl
 ·obtain ⟨rfl, rfl, t, ht, hk, rfl⟩ := sWord_ok h1
  have hmem := List.mem_of_getElem? ht
  obtain ⟨u, hu, hp⟩ := hT.num t hmem hk
  have htx := hT.txt t hmem
  have hn : numOf t.text = u := by rw [numOf, hp]
  have hw : IntKind.u32.wrap (u : Int) = (u : Int) := wrap_u32 (by omega)
  refine LOps.step (S.fn [_, _, _] rfl (parseUint_ok t.text (by omega) u hp) ?_) rfl
  repeat first | refine LOps.nil ?_ | refine LCode.seq ?_ | refine LCode.region ?_ | refine LCode.ret ?_ | refine QThen.normal ?_ | refine LOps.pure (Pure.as (lv := .atom _) rfl) rfl ?_ | refine LOps.pure (Pure.mv (lv := .atom _) rfl) rfl ?_ | refine LOps.pure (Pure.mv (lv := .tuple _) rfl) rfl ?_ | refine LOps.pure (Pure.extract (c := .atom _) rfl rfl) rfl ?_ | refine LOps.pure (Pure.cvt rfl) rfl ?_
  exact retP (v := numOf t.text) rfl (AllRes.cons (ResIs.tmp (v := .atom _) rfl (LV.Sub.refl _)) AllRes.nil) (by rw [sNumber, h1]; rfl) (by rw [hn]; exact int_eq hw) (HSub.refl _)
 ·repeat first | refine QThen.panic ?_
  exact panP (he'.trans rfl) (by rw [sNumber, h1]; rfl) (HSub.refl _)
theorem names_specP (sb : Nat) (T : List Tok) (hT : TOK T) (f i op : Nat) (r : Res (List (List UInt8))) (hi : i ≤ T.length) (hr : sNames T f i op = some r) :
  LCalls (KC B0 w0) 137 [ptr sb 0] [srcH sb T i op] (PostP sb T encNames r) := by
 have hl := hT.len
 rw [sNames] at hr
 refine LCalls.intro Tryz.func137 rfl (n := 15) rfl rfl rfl ?_
 repeat first | refine LOps.nil ?_ | refine LCode.seq ?_ | refine LCode.region ?_ | refine QThen.normal ?_ | refine LOps.pure (Pure.as (lv := .atom _) rfl) rfl ?_ | refine LOps.pure (Pure.mv (lv := .atom _) rfl) rfl ?_
 refine LOps.step (S.callP [_, _] rfl Pick.here (word_spec sb T i op 2 hl (by omega)) (fun s i1 op1 h1 => ?_) (fun l er i1 op1 h1 e' he' => ?_)) rfl
 ·rw [h1, obind_ok] at hr
  have hi1 : i1 ≤ T.length := by
   have := sWord_good T 2 i op
   rw [h1] at this
   exact this.2.2.1 hi
  refine LOps.step (S.litA [_] rfl (elemsOk.cons rfl rfl elemsOk.nil) rfl rfl rfl fun b => ?_) rfl
  repeat first | refine LOps.nil ?_ | refine LCode.seq ?_ | refine LCode.block ?_ | refine QThen.normal ?_ | refine LOps.pure (Pure.as (lv := .app _ _ _ _) rfl) rfl ?_
  refine LCode.loopI (fun k ls H => ∃ (v : LV) (l : List (List UInt8)) (i2 : Nat) (Ha : Heap), ls = [(0, ptr sb 0), (3, v)] ∧ H = srcH sb T i2 op1 :: Ha ∧ Acc 1 v (l.map str) Ha [] ∧ i2 ≤ T.length ∧ l.length ≤ i2 + 1 ∧ sNamesLoop T k l i2 op1 = some r)
   ⟨f, _, srcH sb T i1 op1 :: [(b, .row 1)], ⟨.app b 1 1 [str s], [s], i1, _, rfl, rfl, Acc.row, hi1, by simp, hr⟩, ⟨rfl, rfl, trivial⟩, HSub.pick (Pick.there Pick.here) (HSub.refl _)⟩ ?_
  rintro k ls H ⟨v, l, i2, Ha, rfl, rfl, hacc, hi2, hll, hI⟩ j hj
  obtain ⟨k, rfl⟩ : ∃ k', k = k' + 1 := by
   cases k with
   | zero => rw [sNamesLoop] at hI; cases hI
   | succ k => exact ⟨k, rfl⟩
  rw [sNamesLoop] at hI
  repeat first | refine LCode.seq ?_ | refine LCode.region ?_ | refine LOps.pure (Pure.mv (lv := .atom _) rfl) rfl ?_
  refine LOps.step (S.fnH [_, _] rfl Pick.here (take_spec sb T i2 op1 [44] hl (by omega)) ?_) rfl
  repeat first | refine LOps.nil ?_ | refine QThen.normal ?_
  refine LCode.cond rfl (fun hc => ?_) (fun hc => ?_)
  ·have hlt := isTok_lt hc
   rw [if_pos hc] at hI
   simp only [hc, if_true]
   repeat first | refine LCode.region ?_ | refine LCode.skip ?_ | refine LCode.block ?_ | refine QThen.normal ?_
   refine LOps.pure (Pure.mv (lv := v) rfl) rfl ?_
   repeat first | refine LOps.pure (Pure.mv (lv := .atom _) rfl) rfl ?_
   refine LOps.step (S.callP [_, _] rfl Pick.here (word_spec sb T (i2 + 1) op1 2 hl (by omega)) (fun s2 i3 op3 h3 => ?_) (fun l er i3 op3 h3 e' he' => ?_)) rfl
   ·rw [h3, obind_ok] at hI
    obtain ⟨rfl, rfl, t, ht, _, _⟩ := sWord_ok h3
    have := get_lt ht
    refine LOps.step (S.lit [_] rfl (elemsOk.cons rfl rfl elemsOk.nil) rfl rfl rfl ?_) rfl
    refine LOps.step (S.acc1 rfl hacc rfl (by simp; rfl) rfl (by simp; omega) fun v' H' hacc' => ?_) rfl
    refine LOps.pure (Pure.as (lv := v') rfl) rfl ?_
    repeat first | refine LOps.nil ?_ | refine QThen.normal ?_ | refine QBlock.normal ?_
    exact ⟨k, _, _, by omega, ⟨v', l ++ [s2], i2 + 1 + 1, H', rfl, rfl, by rw [List.map_append]; exact hacc', by omega, by simp; omega, hI⟩, ⟨rfl, rfl, trivial⟩, HSub.refl _, hj⟩
   ·rw [h3, obind_err] at hI
    repeat first | refine QThen.panic ?_ | refine QBlock.panic ?_
    exact panP (he'.trans hj) (by cases hI; rfl) (HSub.pick Pick.here (HSub.nil _))
  ·have hc' : isTok T i2 [[44]] = false := hc
   rw [if_neg (by rw [hc']; decide)] at hI
   simp only [hc', Bool.false_eq_true, if_false]
   repeat first | refine LCode.seq ?_ | refine LCode.region ?_ | refine LCode.exit ?_ | refine QThen.normal ?_ | refine QThen.exit ?_ | refine QBlock.hit ?_
   refine LOps.pure (Pure.mv (lv := v) rfl) rfl ?_
   refine LOps.pure (Pure.as (lv := v) rfl) rfl ?_
   repeat first | refine LOps.nil ?_ | refine LCode.ret ?_ | refine QThen.normal ?_
   exact retP (v := l) hj (AllRes.cons (ResIs.tmp (v := v) rfl hacc.sub) AllRes.nil) (by cases hI; rfl) rfl (HSub.pick Pick.here (HSub.nil _))
 ·rw [h1, obind_err] at hr
  repeat first | refine QThen.panic ?_
  exact panP (he'.trans rfl) (by cases hr; rfl) (HSub.pick Pick.here (HSub.nil _))
theorem index_spec (sb : Nat) (T : List Tok) (hT : TOK T) (f : Nat) (hE : ExprC B0 w0 sb T f) (i op : Nat) (r : Res Ex) (hi : i ≤ T.length) (ho : op ≤ 100) (hr : eIndex T (f + 1) i op = some r) :
  LCalls (KC B0 w0) 216 [ptr sb 0] [srcH sb T i op] (PostP sb T encE r) := by
 have hl := hT.len
 rw [eIndex] at hr
 refine LCalls.intro Tryz.func216 rfl (n := 11) rfl rfl rfl ?_
 repeat first | refine LCode.seq ?_ | refine LCode.region ?_
 refine LOps.step (S.alloc fun b => ?_) rfl
 repeat first | refine LOps.nil ?_ | refine LCode.seq ?_ | refine LCode.region ?_ | refine QThen.normal ?_ | refine LOps.pure (Pure.mv (lv := .atom _) rfl) rfl ?_
 refine LOps.step (S.callP [_, _] rfl (Pick.there Pick.here) (begin_spec sb T i op [91] hl (by omega) (by omega)) (fun v i1 op1 h1 => ?_) (fun l er i1 op1 h1 e' he' => ?_)) rfl
 ·rw [h1, obind_ok] at hr
  obtain ⟨rfl, rfl, ho1, hi1⟩ := sBegin_ok h1
  repeat first | refine LOps.nil ?_ | refine LCode.seq ?_ | refine LCode.region ?_ | refine QThen.normal ?_ | refine LOps.pure (Pure.mv (lv := .atom _) rfl) rfl ?_
  obtain ⟨r1, hr1⟩ := obind_is hr
  refine LOps.step (S.callP [_] rfl Pick.here (hE _ _ r1 (by omega) (by omega) hr1) (fun v i2 op2 h2 => ?_) (fun l er i2 op2 h2 e' he' => ?_)) rfl
  ·rw [hr1, h2, obind_ok] at hr
   obtain ⟨g1, _, g3, rfl⟩ := (ex_good T f).1 0 _ _ _ (hr1.trans (congrArg some h2))
   have g4 := g3 (by omega)
   refine LOps.step (S.alloc fun b2 => ?_) rfl
   repeat first | refine LOps.nil ?_ | refine LCode.seq ?_ | refine LCode.region ?_ | refine QThen.normal ?_ | refine LOps.pure (Pure.mv (lv := .atom _) rfl) rfl ?_ | refine LOps.step (S.store (cs' := [_, _, _, _]) rfl Pick.here rfl rfl rfl rfl rfl ?_) rfl
   refine LOps.step (S.callP [_, _] rfl (Pick.there Pick.here) (end_spec sb T i2 (op + 1) [93] hl (by omega) (by omega) (by omega)) (fun u i3 op3 h3 => ?_) (fun l er i3 op3 h3 e' he' => ?_)) rfl
   ·rw [h3, obind_ok] at hr
    repeat first | refine LOps.nil ?_ | refine LCode.seq ?_ | refine LCode.region ?_ | refine LCode.ret ?_ | refine QThen.normal ?_ | refine LOps.pure (Pure.ldHAgg (cs' := [_, _, _, _]) rfl (List.Mem.tail _ (List.Mem.head _)) rfl rfl) rfl ?_ | refine LOps.step (S.store (cs' := [_, _, _, _]) rfl (Pick.there (Pick.there Pick.here)) rfl rfl rfl rfl rfl ?_) rfl
    exact retP rfl (AllRes.cons (ResIs.cellAgg rfl (List.Mem.head _) rfl (LV.Sub.refl _)) AllRes.nil) (by cases hr; rfl) rfl (HSub.drop (HSub.pick Pick.here (HSub.nil _)))
   ·rw [h3, obind_err] at hr
    repeat first | refine QThen.panic ?_
    exact panP (he'.trans rfl) (by cases hr; rfl) (HSub.pick Pick.here (HSub.nil _))
  ·rw [hr1, h2, obind_err] at hr
   repeat first | refine QThen.panic ?_
   exact panP (he'.trans rfl) (by cases hr; rfl) (HSub.pick Pick.here (HSub.nil _))
 ·rw [h1, obind_err] at hr
  repeat first | refine QThen.panic ?_
  exact panP (he'.trans rfl) (by cases hr; rfl) (HSub.pick Pick.here (HSub.nil _))
end
end Go.Proofs.YtcbpcianefpniaaGreatDoor
namespace Go.Proofs.YtcbpcianefpniaaGreatDoor
open Go.GL Go.RowKit Go.Stele
set_option maxRecDepth 100000
set_option maxHeartbeats 4000000
attribute [local irreducible] LOps LCode LStep LCalls Go.GL.Pure QThen QBlock RetPost LQ LAny LLate LLateOp
def encEL (l : List Ex) : LV := .list (l.map encE)
section
variable {B0 : Nat} {w0 : World}
theorem args_spec (sb : Nat) (T : List Tok) (hT : TOK T) (f : Nat) (hE : ∀ g, g < f → ExprC B0 w0 sb T g) (i op : Nat) (r : Res (List Ex)) (hi : i ≤ T.length) (ho : op ≤ 100) (hr : eArgs T f i op = some r) :
  LCalls (KC B0 w0) 215 [ptr sb 0] [srcH sb T i op] (PostP sb T encEL r) := by
 have hl := hT.len
 obtain ⟨f, rfl⟩ : ∃ g, f = g + 1 := by
  cases f with
  | zero => rw [eArgs] at hr; cases hr
  | succ g => exact ⟨g, rfl⟩
 rw [eArgs] at hr
 refine LCalls.intro Tryz.func215 rfl (n := 23) rfl rfl rfl ?_
 repeat first | refine LOps.nil ?_ | refine LCode.seq ?_ | refine LCode.region ?_ | refine QThen.normal ?_ | refine LOps.pure (Pure.as (lv := .atom _) rfl) rfl ?_ | refine LOps.pure (Pure.mv (lv := .atom _) rfl) rfl ?_
 refine LOps.step (S.callP [_, _] rfl Pick.here (begin_spec sb T i op [40] hl (by omega) (by omega)) (fun v i1 op1 h1 => ?_) (fun l er i1 op1 h1 e' he' => ?_)) rfl
 ·rw [h1, obind_ok] at hr
  obtain ⟨rfl, rfl, ho1, hi1⟩ := sBegin_ok h1
  repeat first | refine LOps.nil ?_ | refine LCode.seq ?_ | refine LCode.region ?_ | refine LCode.block ?_ | refine QThen.normal ?_ | refine LOps.pure (Pure.as (lv := .atom _) rfl) rfl ?_
  obtain ⟨r1, hr1⟩ := obind_is hr
  refine LCode.loopI (fun k ls H => ∃ (v : LV) (l : List Ex) (i2 : Nat) (Ha : Heap), k ≤ f ∧ ls = [(0, ptr sb 0), (3, v)] ∧ H = srcH sb T i2 (op + 1) :: Ha ∧ Acc 4 v (l.map encE) Ha [] ∧ i2 ≤ T.length ∧ l.length ≤ i2 + 1 ∧ eArgsLoop T k l i2 (op + 1) = some r1)
   ⟨f, _, srcH sb T (i + 1) (op + 1) :: [], ⟨nilSlice, [], i + 1, _, Nat.le_refl _, rfl, rfl, Acc.nil, by omega, by simp, hr1⟩, ⟨rfl, rfl, trivial⟩, HSub.refl _⟩ ?_
  rintro k ls H ⟨v, l, i2, Ha, hkf, rfl, rfl, hacc, hi2, hll, hI⟩ j hj
  obtain ⟨k, rfl⟩ : ∃ k', k = k' + 1 := by
   cases k with
   | zero => rw [eArgsLoop] at hI; cases hI
   | succ k => exact ⟨k, rfl⟩
  rw [eArgsLoop] at hI
  repeat first | refine LCode.seq ?_ | refine LCode.region ?_ | refine LOps.pure (Pure.mv (lv := .atom _) rfl) rfl ?_
  refine LOps.step (S.lit [_] rfl (elemsOk.cons rfl rfl elemsOk.nil) rfl rfl rfl ?_) rfl
  refine LOps.step (S.fnH [_, _] rfl Pick.here (is_spec sb T i2 (op + 1) [[41]] hl (by omega) (by simp)) ?_) rfl
  repeat first | refine LOps.nil ?_ | refine QThen.normal ?_ | refine LOps.pure (Pure.not rfl) rfl ?_
  refine LCode.cond rfl (fun hc => ?_) (fun hc => ?_)
  ·have hc' : isTok T i2 [[41]] = false := by simpa using hc
   rw [if_neg (by rw [hc']; decide)] at hI
   repeat first | refine LCode.seq ?_ | refine LCode.region ?_ | refine LCode.skip ?_ | refine LCode.block ?_ | refine QThen.normal ?_
   refine LOps.pure (Pure.mv (lv := v) rfl) rfl ?_
   refine LOps.pure (Pure.llen hacc.elems) rfl ?_
   repeat first | refine LOps.nil ?_ | refine QThen.normal ?_ | refine LOps.pure (Pure.gtr rfl rfl) rfl ?_
   refine LCode.cond rfl (fun hd => ?_) (fun hd => ?_)
   ·have hl0 : ¬ l = [] := by
     rintro rfl
     have := of_decide_eq_true hd
     simp at this
    rw [if_neg hl0] at hI
    repeat first | refine LCode.region ?_ | refine LOps.pure (Pure.mv (lv := .atom _) rfl) rfl ?_
    refine LOps.step (S.callP [_, _] rfl Pick.here (need_spec sb T i2 (op + 1) [44] hl (by omega)) (fun u i3 op3 h3 => ?_) (fun l er i3 op3 h3 e' he' => ?_)) rfl
    ·rw [h3, obind_ok] at hI
     obtain ⟨q1, q2, q3, rfl⟩ : i2 ≤ i3 ∧ (true = true → i2 < i3) ∧ (i2 ≤ T.length → i3 ≤ T.length) ∧ op3 = op + 1 := by
      have := sNeed_good T [44] i2 (op + 1)
      rw [h3] at this
      exact this
     have q4 := q3 hi2
     repeat first | refine LOps.nil ?_ | refine LCode.region ?_ | refine QThen.normal ?_
     refine LOps.pure (Pure.mv (lv := v) rfl) rfl ?_
     repeat first | refine LOps.pure (Pure.mv (lv := .atom _) rfl) rfl ?_
     obtain ⟨r2, hr2⟩ := obind_is hI
     refine LOps.step (S.callP [_] rfl Pick.here (hE k (by omega) _ _ r2 (by omega) (by omega) hr2) (fun e2 i4 op4 h4 => ?_) (fun l er i4 op4 h4 e' he' => ?_)) rfl
     ·rw [hr2, h4, obind_ok] at hI
      obtain ⟨g1, g2, g3, rfl⟩ := (ex_good T k).1 0 _ _ _ (hr2.trans (congrArg some h4))
      have g5 := g3 (by omega)
      have g6 := g2 rfl
      refine LOps.step (S.lit [_] rfl (elemsOk.cons rfl rfl elemsOk.nil) rfl rfl rfl ?_) rfl
      refine LOps.step (S.acc1 rfl hacc rfl (by simp; rfl) rfl (by simp; omega) fun v' H' hacc' => ?_) rfl
      refine LOps.pure (Pure.as (lv := v') rfl) rfl ?_
      repeat first | refine LOps.nil ?_ | refine QThen.normal ?_ | refine QBlock.normal ?_
      exact ⟨k, _, _, by omega, ⟨v', l ++ [e2], i4, H', by omega, rfl, rfl, by rw [List.map_append]; exact hacc', by omega, by simp; omega, hI⟩, ⟨rfl, rfl, trivial⟩, HSub.refl _, hj⟩
     ·rw [hr2, h4, obind_err] at hI
      rw [hr1] at hr
      cases hI
      rw [obind_err] at hr
      repeat first | refine QThen.panic ?_ | refine QBlock.panic ?_
      exact panP (he'.trans hj) (by cases hr; rfl) (HSub.pick Pick.here (HSub.nil _))
    ·rw [h3, obind_err] at hI
     rw [hr1] at hr
     cases hI
     rw [obind_err] at hr
     repeat first | refine QThen.panic ?_ | refine QBlock.panic ?_
     exact panP (he'.trans hj) (by cases hr; rfl) (HSub.pick Pick.here (HSub.nil _))
   ·have hl0 : l = [] := by
     have := of_decide_eq_false hd
     simp at this
     exact this
    rw [if_pos hl0, obind_ok] at hI
    repeat first | refine LCode.region ?_ | refine LCode.skip ?_ | refine QThen.normal ?_
    refine LOps.pure (Pure.mv (lv := v) rfl) rfl ?_
    repeat first | refine LOps.pure (Pure.mv (lv := .atom _) rfl) rfl ?_
    obtain ⟨r2, hr2⟩ := obind_is hI
    refine LOps.step (S.callP [_] rfl Pick.here (hE k (by omega) _ _ r2 (by omega) (by omega) hr2) (fun e2 i4 op4 h4 => ?_) (fun l er i4 op4 h4 e' he' => ?_)) rfl
    ·rw [hr2, h4, obind_ok] at hI
     obtain ⟨g1, g2, g3, rfl⟩ := (ex_good T k).1 0 _ _ _ (hr2.trans (congrArg some h4))
     have g5 := g3 (by omega)
     have g6 := g2 rfl
     refine LOps.step (S.lit [_] rfl (elemsOk.cons rfl rfl elemsOk.nil) rfl rfl rfl ?_) rfl
     refine LOps.step (S.acc1 rfl hacc rfl (by simp; rfl) rfl (by simp; omega) fun v' H' hacc' => ?_) rfl
     refine LOps.pure (Pure.as (lv := v') rfl) rfl ?_
     repeat first | refine LOps.nil ?_ | refine QThen.normal ?_ | refine QBlock.normal ?_
     exact ⟨k, _, _, by omega, ⟨v', l ++ [e2], i4, H', by omega, rfl, rfl, by rw [List.map_append]; exact hacc', by omega, by simp; omega, hI⟩, ⟨rfl, rfl, trivial⟩, HSub.refl _, hj⟩
    ·rw [hr2, h4, obind_err] at hI
     rw [hr1] at hr
     cases hI
     rw [obind_err] at hr
     repeat first | refine QThen.panic ?_ | refine QBlock.panic ?_
     exact panP (he'.trans hj) (by cases hr; rfl) (HSub.pick Pick.here (HSub.nil _))
  ·have hc' : isTok T i2 [[41]] = true := by simpa using hc
   rw [if_pos hc'] at hI
   repeat first | refine LCode.seq ?_ | refine LCode.region ?_ | refine LCode.exit ?_ | refine QThen.normal ?_ | refine QThen.exit ?_ | refine QBlock.hit ?_ | refine LOps.pure (Pure.mv (lv := .atom _) rfl) rfl ?_
   rw [hr1] at hr
   cases hI
   rw [obind_ok] at hr
   refine LOps.step (S.callP [_, _] rfl Pick.here (end_spec sb T i2 (op + 1) [41] hl (by omega) (by omega) (by omega)) (fun u i3 op3 h3 => ?_) (fun l er i3 op3 h3 e' he' => ?_)) rfl
   ·rw [h3, obind_ok] at hr
    repeat first | refine LOps.nil ?_ | refine LCode.seq ?_ | refine LCode.region ?_ | refine QThen.normal ?_
    refine LOps.pure (Pure.mv (lv := v) rfl) rfl ?_
    refine LOps.pure (Pure.as (lv := v) rfl) rfl ?_
    repeat first | refine LOps.nil ?_ | refine LCode.ret ?_ | refine QThen.normal ?_
    exact retP (v := l) hj (AllRes.cons (ResIs.tmp (v := v) rfl hacc.sub) AllRes.nil) (by cases hr; rfl) rfl (HSub.pick Pick.here (HSub.nil _))
   ·rw [h3, obind_err] at hr
    repeat first | refine QThen.panic ?_
    exact panP (he'.trans hj) (by cases hr; rfl) (HSub.pick Pick.here (HSub.nil _))
 ·rw [h1, obind_err] at hr
  repeat first | refine QThen.panic ?_
  exact panP (he'.trans rfl) (by cases hr; rfl) (HSub.pick Pick.here (HSub.nil _))
theorem index_specL (sb : Nat) (T : List Tok) (hT : TOK T) (f : Nat) (hE : ∀ g, g < f → ExprC B0 w0 sb T g) (i op : Nat) (r : Res Ex) (hi : i ≤ T.length) (ho : op ≤ 100) (hr : eIndex T f i op = some r) :
  LCalls (KC B0 w0) 216 [ptr sb 0] [srcH sb T i op] (PostP sb T encE r) := by
 cases f with
 | zero => rw [eIndex] at hr; cases hr
 | succ f => exact index_spec sb T hT f (hE f (by omega)) i op r hi ho hr
theorem prim_spec (hG : GW B0 w0) (sb : Nat) (T : List Tok) (hT : TOK T) (f : Nat) (hE : ∀ g, g < f → ExprC B0 w0 sb T g) (i op : Nat) (r : Res Ex) (hi : i ≤ T.length) (ho : op ≤ 100) (hr : ePrim T f i op = some r) :
  LCalls (KC B0 w0) 223 [ptr sb 0] [srcH sb T i op] (PostP sb T encE r) := by
 have hl := hT.len
 have hml : (T.map encTok).length = T.length := List.length_map _
 obtain ⟨f, rfl⟩ : ∃ g, f = g + 1 := by
  cases f with
  | zero => rw [ePrim] at hr; cases hr
  | succ g => exact ⟨g, rfl⟩
 rw [ePrim] at hr
 refine LCalls.intro Tryz.func223 rfl (n := 63) rfl rfl rfl ?_
 repeat first | refine LCode.seq ?_ | refine LCode.region ?_
 refine LOps.step (S.alloc fun b => ?_) rfl
 repeat first | refine LOps.nil ?_ | refine LCode.seq ?_ | refine LCode.region ?_ | refine QThen.normal ?_ | refine LOps.pure (Pure.mv (lv := .atom _) rfl) rfl ?_
 refine LOps.step (S.lit [_] rfl (elemsOk.cons rfl rfl elemsOk.nil) rfl rfl rfl ?_) rfl
 refine LOps.step (S.fnH [_, _] rfl (Pick.there Pick.here) (is_spec sb T i op [[40]] hl (by omega) (by simp)) ?_) rfl
 repeat first | refine LOps.nil ?_ | refine QThen.normal ?_
 refine LCode.cond rfl (fun hp => ?_) (fun hp => ?_)
 ·rw [if_pos hp] at hr
  repeat first | refine LCode.seq ?_ | refine LCode.region ?_ | refine LOps.pure (Pure.mv (lv := .atom _) rfl) rfl ?_
  refine LOps.step (S.callP [_, _] rfl Pick.here (begin_spec sb T i op [40] hl (by omega) (by omega)) (fun v i1 op1 h1 => ?_) (fun l er i1 op1 h1 e' he' => ?_)) rfl
  ·rw [h1, obind_ok] at hr
   obtain ⟨rfl, rfl, ho1, hi1⟩ := sBegin_ok h1
   repeat first | refine LOps.nil ?_ | refine LCode.seq ?_ | refine LCode.region ?_ | refine QThen.normal ?_ | refine LOps.pure (Pure.mv (lv := .atom _) rfl) rfl ?_
   obtain ⟨r1, hr1⟩ := obind_is hr
   refine LOps.step (S.callP [_] rfl Pick.here (hE f (by omega) _ _ r1 (by omega) (by omega) hr1) (fun v i2 op2 h2 => ?_) (fun l er i2 op2 h2 e' he' => ?_)) rfl
   ·rw [hr1, h2, obind_ok] at hr
    obtain ⟨g1, _, g3, rfl⟩ := (ex_good T f).1 0 _ _ _ (hr1.trans (congrArg some h2))
    have g4 := g3 (by omega)
    refine LOps.step (S.alloc fun b2 => ?_) rfl
    repeat first | refine LOps.nil ?_ | refine LCode.seq ?_ | refine LCode.region ?_ | refine QThen.normal ?_ | refine LOps.pure (Pure.mv (lv := .atom _) rfl) rfl ?_ | refine LOps.step (S.store (cs' := [_, _, _, _]) rfl Pick.here rfl rfl rfl rfl rfl ?_) rfl
    refine LOps.step (S.callP [_, _] rfl (Pick.there Pick.here) (end_spec sb T i2 (op + 1) [41] hl (by omega) (by omega) (by omega)) (fun u i3 op3 h3 => ?_) (fun l er i3 op3 h3 e' he' => ?_)) rfl
    ·rw [h3, obind_ok] at hr
     repeat first | refine LOps.nil ?_ | refine LCode.seq ?_ | refine LCode.region ?_ | refine LCode.ret ?_ | refine QThen.normal ?_ | refine QThen.ret ?_ | refine LOps.pure (Pure.ldHAgg (cs' := [_, _, _, _]) rfl (List.Mem.tail _ (List.Mem.head _)) rfl rfl) rfl ?_ | refine LOps.step (S.store (cs' := [_, _, _, _]) rfl (Pick.there (Pick.there Pick.here)) rfl rfl rfl rfl rfl ?_) rfl
     exact retP rfl (AllRes.cons (ResIs.cellAgg rfl (List.Mem.head _) rfl (LV.Sub.refl _)) AllRes.nil) (by cases hr; rfl) rfl (HSub.drop (HSub.pick Pick.here (HSub.nil _)))
    ·rw [h3, obind_err] at hr
     repeat first | refine QThen.panic ?_
     exact panP (he'.trans rfl) (by cases hr; rfl) (HSub.pick Pick.here (HSub.nil _))
   ·rw [hr1, h2, obind_err] at hr
    repeat first | refine QThen.panic ?_
    exact panP (he'.trans rfl) (by cases hr; rfl) (HSub.pick Pick.here (HSub.nil _))
  ·rw [h1, obind_err] at hr
   repeat first | refine QThen.panic ?_
   exact panP (he'.trans rfl) (by cases hr; rfl) (HSub.pick Pick.here (HSub.nil _))
 ·have hp' : isTok T i [[40]] = false := hp
  rw [if_neg (by rw [hp']; decide)] at hr
  repeat first | refine LCode.seq ?_ | refine LCode.skip ?_ | refine QThen.normal ?_
  refine LCode.cut [(0, ptr sb 0), (2, ptr b 0), (38, bool (decide (kindAt T i = 1)))] ?_ (fun j hj => ?_)
  ·refine LCode.quiet (by kernel_rfl) ?_
   repeat first | refine LQ.pure (Pure.mv (lv := .atom _) rfl) rfl ?_ | refine LQ.pure (Pure.nilCheckH rfl) rfl ?_ | refine LQ.pure (Pure.fieldH rfl) rfl ?_ | refine LQ.pure (Pure.loadH (c := .atom _) rfl (List.Mem.head _) rfl) rfl ?_ | refine LQ.pure (Pure.loadH (c := .list _) rfl (List.Mem.head _) rfl) rfl ?_ | refine LQ.pure (Pure.llen rfl) rfl ?_ | refine LQ.pure (Pure.lss rfl rfl) rfl ?_
   refine LQ.bcase 25 rfl (fun h => ?_) (fun h => ?_)
   ·have hlt : i < T.length := by have := of_decide_eq_true h; omega
    repeat first | refine LQ.pure (Pure.mv (lv := .atom _) rfl) rfl ?_ | refine LQ.pure (Pure.nilCheckH rfl) rfl ?_ | refine LQ.pure (Pure.fieldH rfl) rfl ?_ | refine LQ.pure (Pure.loadH (c := .atom _) rfl (List.Mem.head _) rfl) rfl ?_ | refine LQ.pure (Pure.loadH (c := .list _) rfl (List.Mem.head _) rfl) rfl ?_ | refine LQ.want rfl rfl ?_
    refine LQ.pure (Pure.ixRef (el' := encTok T[i]) (cs := [_, _, _]) rfl rfl (by omega) (map_get _ _ _ hlt) rfl rfl) rfl ?_
    repeat first | refine LQ.pure (Pure.field1 rfl rfl) rfl ?_ | refine LQ.pure (Pure.loadRef (c := .atom _) rfl rfl) rfl ?_ | refine LQ.pure (Pure.eql rfl rfl) rfl ?_ | refine LQ.pure (Pure.pickT (lv := .atom _) rfl rfl) rfl ?_ | refine LQ.want rfl rfl ?_ | refine LQ.nil ?_ | refine QThen.normal ?_
    exact ⟨⟨rfl, rfl, bool_eq (by rw [kindAt, List.getElem?_eq_getElem hlt]), trivial⟩, rfl, rfl⟩
   ·have hge : T.length ≤ i := by have := of_decide_eq_false h; omega
    repeat first | refine LQ.pure (Pure.pickF (lv := .atom _) rfl rfl) rfl ?_ | refine LQ.skip rfl rfl rfl rfl ?_ | refine LQ.nil ?_ | refine QThen.normal ?_
    exact ⟨⟨rfl, rfl, bool_eq (by rw [kindAt, List.getElem?_eq_none hge]; rfl), trivial⟩, rfl, rfl⟩
  ·skip
   refine LCode.cond rfl (fun hk => ?_) (fun hk => ?_)
   ·rw [if_pos (of_decide_eq_true hk)] at hr
    repeat first | refine LCode.seq ?_ | refine LCode.region ?_ | refine LOps.pure (Pure.mv (lv := .atom _) rfl) rfl ?_
    refine LOps.step (S.callP [_] rfl Pick.here (number_specP hG sb T hT i op (by omega)) (fun n i1 op1 h1 => ?_) (fun l er i1 op1 h1 e' he' => ?_)) rfl
    ·rw [h1, obind_ok] at hr
     repeat first | refine LOps.nil ?_ | refine LCode.ret ?_ | refine QThen.normal ?_ | refine QThen.ret ?_ | refine LOps.pure (Pure.bld _ (cs := [_, _, _, _]) rfl) rfl ?_ | refine LOps.step (S.store (cs' := [_, _, _, _]) rfl (Pick.there Pick.here) rfl rfl rfl rfl rfl ?_) rfl
     exact retP (v := .mk nNum n [] []) hj (AllRes.cons (ResIs.cellAgg (k := 4) rfl (List.Mem.head _) rfl (LV.Sub.agg (bs := [_, _, _, .list []]) ⟨LV.Sub.refl _, LV.Sub.refl _, LV.Sub.refl _, LV.Sub.nil, trivial⟩)) AllRes.nil) (by cases hr; rfl) (by rw [encE_mk]; rfl) (HSub.pick (Pick.there Pick.here) (HSub.nil _))
    ·rw [h1, obind_err] at hr
     repeat first | refine QThen.panic ?_
     exact panP (he'.trans hj) (by cases hr; rfl) (HSub.pick Pick.here (HSub.nil _))
   ·rw [if_neg (of_decide_eq_false hk)] at hr
    repeat first | refine LCode.seq ?_ | refine LCode.region ?_ | refine LCode.skip ?_ | refine QThen.normal ?_ | refine LOps.pure (Pure.mv (lv := .atom _) rfl) rfl ?_
    refine LOps.step (S.callP [_, _] rfl Pick.here (word_spec sb T i op 2 hl (by omega)) (fun s i1 op1 h1 => ?_) (fun l er i1 op1 h1 e' he' => ?_)) rfl
    ·rw [h1, obind_ok] at hr
     obtain ⟨rfl, rfl, t, ht, _, _⟩ := sWord_ok h1
     have := get_lt ht
     repeat first | refine LOps.nil ?_ | refine LCode.seq ?_ | refine LCode.region ?_ | refine LCode.block ?_ | refine QThen.normal ?_ | refine LOps.pure (Pure.mv (lv := .atom _) rfl) rfl ?_ | refine LOps.pure (Pure.as (lv := .atom _) rfl) rfl ?_
     refine LOps.step (S.lit [_] rfl (elemsOk.cons rfl rfl elemsOk.nil) rfl rfl rfl ?_) rfl
     refine LOps.step (S.fnH [_, _] rfl Pick.here (is_spec sb T (i + 1) op1 [[91]] hl (by omega) (by simp)) ?_) rfl
     repeat first | refine LOps.nil ?_ | refine QThen.normal ?_ | refine LOps.pure (Pure.as (lv := .atom _) rfl) rfl ?_
     refine LCode.cond rfl (fun hx => ?_) (fun hx => ?_)
     ·rw [if_pos hx] at hr
      obtain ⟨r1, hr1⟩ := obind_is hr
      repeat first | refine LCode.seq ?_ | refine LCode.region ?_ | refine LOps.pure (Pure.mv (lv := .atom _) rfl) rfl ?_
      refine LOps.step (S.callP [_] rfl Pick.here (index_specL sb T hT f (fun g hg => hE g (by omega)) (i + 1) op1 r1 (by omega) (by omega) hr1) (fun e2 i2 op2 h2 => ?_) (fun l er i2 op2 h2 e' he' => ?_)) rfl
      ·rw [hr1, h2, obind_ok] at hr
       refine LOps.step (S.lit [_] rfl (elemsOk.cons rfl rfl elemsOk.nil) rfl rfl rfl ?_) rfl
       repeat first | refine LOps.nil ?_ | refine LCode.ret ?_ | refine QThen.normal ?_ | refine QThen.ret ?_ | refine QBlock.ret ?_ | refine LOps.pure (Pure.bld _ (cs := [_, _, _, _]) rfl) rfl ?_ | refine LOps.step (S.store (cs' := [_, _, _, _]) rfl (Pick.there Pick.here) rfl rfl rfl rfl rfl ?_) rfl
       exact retP (v := .mk nElem 0 s [e2]) hj (AllRes.cons (ResIs.cellAgg rfl (List.Mem.head _) rfl (LV.Sub.refl _)) AllRes.nil) (by cases hr; rfl) (by rw [encE_mk]; rfl) (HSub.pick (Pick.there Pick.here) (HSub.nil _))
      ·rw [hr1, h2, obind_err] at hr
       repeat first | refine QThen.panic ?_ | refine QBlock.panic ?_
       exact panP (he'.trans hj) (by cases hr; rfl) (HSub.pick Pick.here (HSub.nil _))
     ·have hx' : isTok T (i + 1) [[91]] = false := hx
      rw [if_neg (by rw [hx']; decide)] at hr
      repeat first | refine LCode.seq ?_ | refine LCode.region ?_ | refine LOps.pure (Pure.mv (lv := .atom _) rfl) rfl ?_
      refine LOps.step (S.lit [_] rfl (elemsOk.cons rfl rfl elemsOk.nil) rfl rfl rfl ?_) rfl
      refine LOps.step (S.fnH [_, _] rfl Pick.here (is_spec sb T (i + 1) op1 [[40]] hl (by omega) (by simp)) ?_) rfl
      repeat first | refine LOps.nil ?_ | refine QThen.normal ?_ | refine LOps.pure (Pure.as (lv := .atom _) rfl) rfl ?_
      refine LCode.cond rfl (fun hy => ?_) (fun hy => ?_)
      ·rw [if_pos hy] at hr
       obtain ⟨r1, hr1⟩ := obind_is hr
       repeat first | refine LCode.seq ?_ | refine LCode.region ?_ | refine LOps.pure (Pure.mv (lv := .atom _) rfl) rfl ?_
       refine LOps.step (S.callP [_] rfl Pick.here (args_spec sb T hT f (fun g hg => hE g (by omega)) (i + 1) op1 r1 (by omega) (by omega) hr1) (fun e2 i2 op2 h2 => ?_) (fun l er i2 op2 h2 e' he' => ?_)) rfl
       ·rw [hr1, h2, obind_ok] at hr
        repeat first | refine LOps.nil ?_ | refine LCode.ret ?_ | refine QThen.normal ?_ | refine QThen.ret ?_ | refine QBlock.ret ?_ | refine LOps.pure (Pure.bld _ (cs := [_, _, _, _]) rfl) rfl ?_ | refine LOps.step (S.store (cs' := [_, _, _, _]) rfl (Pick.there Pick.here) rfl rfl rfl rfl rfl ?_) rfl
        exact retP (v := .mk nCall 0 s e2) hj (AllRes.cons (ResIs.cellAgg rfl (List.Mem.head _) rfl (LV.Sub.refl _)) AllRes.nil) (by cases hr; rfl) (by rw [encE_mk]; rfl) (HSub.pick (Pick.there Pick.here) (HSub.nil _))
       ·rw [hr1, h2, obind_err] at hr
        repeat first | refine QThen.panic ?_ | refine QBlock.panic ?_
        exact panP (he'.trans hj) (by cases hr; rfl) (HSub.pick Pick.here (HSub.nil _))
      ·have hy' : isTok T (i + 1) [[40]] = false := hy
       rw [if_neg (by rw [hy']; decide)] at hr
       repeat first | refine LOps.nil ?_ | refine LCode.seq ?_ | refine LCode.region ?_ | refine LCode.skip ?_ | refine LCode.ret ?_ | refine QThen.normal ?_ | refine QBlock.normal ?_ | refine LOps.pure (Pure.mv (lv := .atom _) rfl) rfl ?_ | refine LOps.pure (Pure.bld _ (cs := [_, _, _, _]) rfl) rfl ?_ | refine LOps.step (S.store (cs' := [_, _, _, _]) rfl (Pick.there Pick.here) rfl rfl rfl rfl rfl ?_) rfl
       exact retP (v := .mk nVar 0 s []) hj (AllRes.cons (ResIs.cellAgg (k := 4) rfl (List.Mem.head _) rfl (LV.Sub.agg (bs := [_, _, _, .list []]) ⟨LV.Sub.refl _, LV.Sub.refl _, LV.Sub.refl _, LV.Sub.nil, trivial⟩)) AllRes.nil) (by cases hr; rfl) (by rw [encE_mk]; rfl) (HSub.pick (Pick.there Pick.here) (HSub.nil _))
    ·rw [h1, obind_err] at hr
     repeat first | refine QThen.panic ?_
     exact panP (he'.trans hj) (by cases hr; rfl) (HSub.pick Pick.here (HSub.nil _))
end
end Go.Proofs.YtcbpcianefpniaaGreatDoor
namespace Go.Proofs.YtcbpcianefpniaaGreatDoor
open Go.GL Go.RowKit Go.Stele
set_option maxRecDepth 100000
set_option maxHeartbeats 4000000
attribute [local irreducible] LOps LCode LStep LCalls Go.GL.Pure QThen QBlock RetPost LQ LAny LLate LLateOp
def e45 : MapEntry := { key := .string ⟨#[45]⟩, val := .string ⟨#[110, 101, 103]⟩, born := 0 }
def e33 : MapEntry := { key := .string ⟨#[33]⟩, val := .string ⟨#[110, 111, 116]⟩, born := 1 }
section
variable {B0 : Nat} {w0 : World}
def UnaryC (B0 : Nat) (w0 : World) (sb : Nat) (T : List Tok) (f : Nat) : Prop :=
 ∀ i op r, i ≤ T.length → op ≤ 100 → eUnary T f i op = some r → LCalls (KC B0 w0) 211 [ptr sb 0] [srcH sb T i op] (PostP sb T encE r)
/-- Which entries have come up: none of them is the token at hand. -/
def SeenOk (T : List Tok) (i : Nat) (seen : Array Nat) : Prop :=
 seen = #[] ∨ (seen = #[0] ∧ isTok T i [[45]] = false) ∨ (seen = #[1] ∧ isTok T i [[33]] = false) ∨ ((seen = #[0, 1] ∨ seen = #[1, 0]) ∧ isTok T i [[45]] = false ∧ isTok T i [[33]] = false)
theorem over_seen {T : List Tok} {i : Nat} {seen : Array Nat} (h : SeenOk T i seen) (ho : #[e45, e33].filter (fun e => !seen.contains e.born) = #[]) : isTok T i [[45]] = false ∧ isTok T i [[33]] = false := by
 have h1 := Array.filter_eq_empty_iff.1 ho e45 (by simp)
 have h2 := Array.filter_eq_empty_iff.1 ho e33 (by simp)
 rcases h with rfl | ⟨rfl, _⟩ | ⟨rfl, _⟩ | ⟨_, h3, h4⟩
 ·simp [e45] at h1
 ·simp [e33] at h2
 ·simp [e45] at h1
 ·exact ⟨h3, h4⟩
theorem step_seen {T : List Tok} {i : Nat} {seen : Array Nat} {e : MapEntry} (h : SeenOk T i seen) (he : e ∈ (#[e45, e33].filter (fun e => !seen.contains e.born)).toList) :
  seen.size < 2 ∧ ((e = e45 ∧ (isTok T i [[45]] = false → SeenOk T i (seen.push 0))) ∨ (e = e33 ∧ (isTok T i [[33]] = false → SeenOk T i (seen.push 1)))) := by
 have he' := Array.mem_filter.1 (Array.mem_toList_iff.1 he)
 have hor : e = e45 ∨ e = e33 := by simpa using he'.1
 have hno := he'.2
 rcases h with rfl | ⟨rfl, h1⟩ | ⟨rfl, h1⟩ | ⟨rfl | rfl, _, _⟩
 ·rcases hor with rfl | rfl
  ·exact ⟨by decide, .inl ⟨rfl, fun h => .inr (.inl ⟨rfl, h⟩)⟩⟩
  ·exact ⟨by decide, .inr ⟨rfl, fun h => .inr (.inr (.inl ⟨rfl, h⟩))⟩⟩
 ·rcases hor with rfl | rfl
  ·simp [e45] at hno
  ·exact ⟨by decide, .inr ⟨rfl, fun h => .inr (.inr (.inr ⟨.inl rfl, h1, h⟩))⟩⟩
 ·rcases hor with rfl | rfl
  ·exact ⟨by decide, .inl ⟨rfl, fun h => .inr (.inr (.inr ⟨.inr rfl, h, h1⟩))⟩⟩
  ·simp [e33] at hno
 ·rcases hor with rfl | rfl
  ·simp [e45] at hno
  ·simp [e33] at hno
 ·rcases hor with rfl | rfl
  ·simp [e45] at hno
  ·simp [e33] at hno
theorem isTok_excl {T : List Tok} {i : Nat} (h : isTok T i [[33]] = true) : isTok T i [[45]] = false := by
 unfold isTok at h ⊢
 split at h
 ·rename_i t ht
  simp only [Bool.and_eq_true] at h
  have h2 : t.text = [33] := by simpa using h.2
  rw [h2]
  simp
 ·cases h
theorem unary_spec (hG : GW B0 w0) (sb : Nat) (T : List Tok) (hT : TOK T) : ∀ f : Nat, (∀ g, g < f → ExprC B0 w0 sb T g) → UnaryC B0 w0 sb T f := by
 intro f
 induction f with
 | zero => intro _ i op r _ _ hr; rw [eUnary] at hr; cases hr
 | succ f ih =>
  intro hE i op r hi ho hr
  have hl := hT.len
  rw [eUnary] at hr
  refine LCalls.intro Tryz.func211 rfl (n := 36) rfl rfl rfl ?_
  repeat first | refine LCode.seq ?_ | refine LCode.region ?_
  refine LOps.step (S.alloc fun b => ?_) rfl
  repeat first | refine LOps.nil ?_ | refine LCode.seq ?_ | refine LCode.region ?_ | refine QThen.normal ?_
  refine LOps.step (S.makeMap fun mb => ?_) rfl
  refine LOps.step (S.insert (k := ⟨#[45]⟩) (v := .string ⟨#[110, 101, 103]⟩) (kt := 9) (el := 9) (by kernel_rfl) (by kernel_rfl) rfl rfl rfl Pick.here (by simp) ?_) rfl
  refine LOps.step (S.insert (k := ⟨#[33]⟩) (v := .string ⟨#[110, 111, 116]⟩) (kt := 9) (el := 9) (by kernel_rfl) (by kernel_rfl) rfl rfl rfl Pick.here (fun e he => ⟨⟨#[45]⟩, by simp at he; rw [he], by decide⟩) ?_) rfl
  refine LOps.pure (Pure.mv (lv := .atom _) rfl) rfl ?_
  refine LOps.step (S.range (kt := 9) (el := 9) (by kernel_rfl) rfl (List.Mem.head _) fun rb => ?_) rfl
  repeat first | refine LOps.nil ?_ | refine LCode.block ?_ | refine QThen.normal ?_
  refine LCode.loopI (fun k ls H => ∃ seen : Array Nat, k = 2 - seen.size ∧ ls = [(0, ptr sb 0), (2, ptr b 0), (8, ptr rb 0)] ∧ H = [(rb, .obj (.mapIter (some mb) 2 seen 2)), (mb, .obj (.map #[e45, e33] 2)), (b, .cells 170 [str [], int .u32 0, str [], nilSlice]), srcH sb T i op] ∧ SeenOk T i seen)
   ⟨_, _, _, ⟨#[], rfl, rfl, rfl, .inl rfl⟩, ⟨rfl, rfl, rfl, trivial⟩, HSub.refl _⟩ ?_
  rintro k ls H ⟨seen, rfl, rfl, rfl, hS⟩ j hj
  repeat first | refine LCode.seq ?_ | refine LCode.region ?_
  refine LOps.step (S.next (F := [(b, .cells 170 [str [], int .u32 0, str [], nilSlice]), srcH sb T i op]) rfl (List.Perm.refl _) (by decide) (fun hov => ?_) (fun en hen => ?_)) rfl
  ·obtain ⟨hn1, hn2⟩ := over_seen hS hov
   rw [if_neg (by rw [hn1]; decide), if_neg (by rw [hn2]; decide)] at hr
   repeat first | refine LOps.nil ?_ | refine LCode.seq ?_ | refine QThen.normal ?_ | refine LOps.pure (Pure.extract (c := .atom _) rfl rfl) rfl ?_
   refine LCode.cond rfl (fun hcc => ?_) (fun hcc => ?_)
   ·cases hcc
   ·repeat first | refine LCode.seq ?_ | refine LCode.region ?_ | refine LCode.exit ?_ | refine QThen.normal ?_ | refine QThen.exit ?_ | refine QBlock.hit ?_ | refine LOps.pure (Pure.mv (lv := .atom _) rfl) rfl ?_
    refine LOps.step (S.callP [_] rfl (Pick.there (Pick.there (Pick.there Pick.here))) (prim_spec hG sb T hT f (fun g hg => hE g (by omega)) i op r hi ho hr) (fun v i1 op1 h1 => ?_) (fun l er i1 op1 h1 e' he' => ?_)) rfl
    ·repeat first | refine LOps.nil ?_ | refine LCode.ret ?_ | refine QThen.normal ?_ | refine LOps.step (S.store (cs' := [_, _, _, _]) rfl (Pick.there (Pick.there (Pick.there Pick.here))) rfl rfl rfl rfl rfl ?_) rfl
     exact retP (v := v) hj (AllRes.cons (ResIs.cellAgg rfl (List.Mem.head _) rfl (LV.Sub.refl _)) AllRes.nil) h1 rfl (HSub.pick (Pick.there Pick.here) (HSub.nil _))
    ·repeat first | refine QThen.panic ?_
     exact panP (he'.trans hj) h1 (HSub.pick Pick.here (HSub.nil _))
  ·obtain ⟨hsz, ⟨rfl, hnext⟩ | ⟨rfl, hnext⟩⟩ := step_seen hS hen
   ·repeat first | refine LOps.nil ?_ | refine LCode.seq ?_ | refine QThen.normal ?_ | refine LOps.pure (Pure.extract (c := .atom _) rfl rfl) rfl ?_
    refine LCode.cond rfl (fun hcc => ?_) (fun hcc => ?_)
    ·repeat first | refine LCode.seq ?_ | refine LCode.region ?_ | refine LCode.skip ?_ | refine LCode.block ?_ | refine QThen.normal ?_
     refine LOps.pure (Pure.entry (en := e45) (stamp := 0) rfl (List.Mem.head _) (List.Mem.tail _ (List.Mem.head _)) rfl (by show (seen.push 0).back? = _; simp) rfl) rfl ?_
     repeat first | refine LOps.nil ?_ | refine LCode.seq ?_ | refine LCode.region ?_ | refine QThen.normal ?_ | refine LOps.pure (Pure.mv (lv := .atom _) rfl) rfl ?_ | refine LOps.pure (Pure.extract (c := .atom _) rfl rfl) rfl ?_ | refine LOps.pure (Pure.as (lv := .atom _) rfl) rfl ?_
     refine LOps.step (S.lit [_] rfl (elemsOk.cons rfl rfl elemsOk.nil) rfl rfl rfl ?_) rfl
     refine LOps.step (S.fnH [_, _] rfl (Pick.there (Pick.there (Pick.there Pick.here))) (is_spec sb T i op [[45]] hl (by omega) (by simp)) ?_) rfl
     repeat first | refine LOps.nil ?_ | refine QThen.normal ?_
     refine LCode.cond rfl (fun hc => ?_) (fun hc => ?_)
     ·rw [if_pos hc] at hr
      repeat first | refine LCode.seq ?_ | refine LCode.region ?_ | refine LOps.pure (Pure.mv (lv := .atom _) rfl) rfl ?_
      refine LOps.step (S.callP [_, _] rfl Pick.here (begin_spec sb T i op [45] hl (by omega) (by omega)) (fun v i1 op1 h1 => ?_) (fun l er i1 op1 h1 e' he' => ?_)) rfl
      ·rw [h1, obind_ok] at hr
       obtain ⟨rfl, rfl, ho1, hi1⟩ := sBegin_ok h1
       repeat first | refine LOps.nil ?_ | refine LCode.seq ?_ | refine LCode.region ?_ | refine QThen.normal ?_ | refine LOps.pure (Pure.mv (lv := .atom _) rfl) rfl ?_
       obtain ⟨r1, hr1⟩ := obind_is hr
       refine LOps.step (S.callP [_] rfl Pick.here (ih (fun g hg => hE g (by omega)) _ _ r1 (by omega) (by omega) hr1) (fun e2 i2 op2 h2 => ?_) (fun l er i2 op2 h2 e' he' => ?_)) rfl
       ·rw [hr1, h2, obind_ok] at hr
        obtain ⟨g1, _, g3, rfl⟩ := (ex_good T f).2.2.1 _ _ _ (hr1.trans (congrArg some h2))
        have g4 := g3 (by omega)
        refine LOps.step (S.lit [_] rfl (elemsOk.cons rfl rfl elemsOk.nil) rfl rfl rfl ?_) rfl
        repeat first | refine LOps.pure (Pure.bld _ (cs := [_, _, _, _]) rfl) rfl ?_
        refine LOps.step (S.alloc fun b2 => ?_) rfl
        repeat first | refine LOps.nil ?_ | refine LCode.seq ?_ | refine LCode.region ?_ | refine LCode.ret ?_ | refine QThen.normal ?_ | refine QThen.ret ?_ | refine QBlock.ret ?_ | refine LOps.pure (Pure.mv (lv := .atom _) rfl) rfl ?_ | refine LOps.pure (Pure.nilCheckH rfl) rfl ?_ | refine LOps.pure (Pure.fieldH rfl) rfl ?_ | refine LOps.pure (Pure.loadH (c := .atom _) rfl (List.Mem.tail _ (List.Mem.head _)) rfl) rfl ?_ | refine LOps.pure (Pure.sub rfl rfl (by omega)) rfl ?_ | refine LOps.pure (Pure.ldHAgg (cs' := [_, _, _, _]) rfl (List.Mem.tail _ (List.Mem.head _)) rfl rfl) rfl ?_ | refine LOps.step (S.store (cs' := [_, _, _, _]) rfl Pick.here rfl rfl rfl rfl rfl ?_) rfl | refine LOps.step (S.store (cs' := [_, _, _, _]) rfl (Pick.there (Pick.there (Pick.there (Pick.there Pick.here)))) rfl rfl rfl rfl rfl ?_) rfl | refine LOps.step (S.store (cs' := [_, _, _]) rfl (Pick.there Pick.here) rfl rfl rfl rfl rfl ?_) rfl
        exact retP (v := .mk nNeg 0 [] [e2]) hj (AllRes.cons (ResIs.cellAgg rfl (List.Mem.head _) rfl (LV.Sub.refl _)) AllRes.nil) (by cases hr; rfl) (by rw [encE_mk]; rfl) (by
         rw [show (((op + 1 : Nat) : Int) - 1) = ((op + 1 - 1 : Nat) : Int) by omega]
         exact HSub.pick (Pick.there Pick.here) (HSub.nil _))
       ·rw [hr1, h2, obind_err] at hr
        repeat first | refine QThen.panic ?_ | refine QBlock.panic ?_
        exact panP (he'.trans hj) (by cases hr; rfl) (HSub.pick Pick.here (HSub.nil _))
      ·rw [h1, obind_err] at hr
       repeat first | refine QThen.panic ?_ | refine QBlock.panic ?_
       exact panP (he'.trans hj) (by cases hr; rfl) (HSub.pick Pick.here (HSub.nil _))
     ·repeat first | refine LCode.skip ?_ | refine QThen.normal ?_ | refine QBlock.normal ?_
      exact ⟨_, _, _, by have := hsz; simp; omega, ⟨seen.push 0, rfl, rfl, rfl, hnext hc⟩, ⟨rfl, rfl, rfl, trivial⟩, HSub.pick (Pick.there Pick.here) (HSub.pick (Pick.there Pick.here) (HSub.pick (Pick.there Pick.here) (HSub.pick Pick.here (HSub.nil _)))), hj⟩
    ·cases hcc
   ·repeat first | refine LOps.nil ?_ | refine LCode.seq ?_ | refine QThen.normal ?_ | refine LOps.pure (Pure.extract (c := .atom _) rfl rfl) rfl ?_
    refine LCode.cond rfl (fun hcc => ?_) (fun hcc => ?_)
    ·repeat first | refine LCode.seq ?_ | refine LCode.region ?_ | refine LCode.skip ?_ | refine LCode.block ?_ | refine QThen.normal ?_
     refine LOps.pure (Pure.entry (en := e33) (stamp := 1) rfl (List.Mem.head _) (List.Mem.tail _ (List.Mem.head _)) rfl (by show (seen.push 1).back? = _; simp) rfl) rfl ?_
     repeat first | refine LOps.nil ?_ | refine LCode.seq ?_ | refine LCode.region ?_ | refine QThen.normal ?_ | refine LOps.pure (Pure.mv (lv := .atom _) rfl) rfl ?_ | refine LOps.pure (Pure.extract (c := .atom _) rfl rfl) rfl ?_ | refine LOps.pure (Pure.as (lv := .atom _) rfl) rfl ?_
     refine LOps.step (S.lit [_] rfl (elemsOk.cons rfl rfl elemsOk.nil) rfl rfl rfl ?_) rfl
     refine LOps.step (S.fnH [_, _] rfl (Pick.there (Pick.there (Pick.there Pick.here))) (is_spec sb T i op [[33]] hl (by omega) (by simp)) ?_) rfl
     repeat first | refine LOps.nil ?_ | refine QThen.normal ?_
     refine LCode.cond rfl (fun hc => ?_) (fun hc => ?_)
     ·rw [if_neg (by rw [isTok_excl hc]; decide), if_pos hc] at hr
      repeat first | refine LCode.seq ?_ | refine LCode.region ?_ | refine LOps.pure (Pure.mv (lv := .atom _) rfl) rfl ?_
      refine LOps.step (S.callP [_, _] rfl Pick.here (begin_spec sb T i op [33] hl (by omega) (by omega)) (fun v i1 op1 h1 => ?_) (fun l er i1 op1 h1 e' he' => ?_)) rfl
      ·rw [h1, obind_ok] at hr
       obtain ⟨rfl, rfl, ho1, hi1⟩ := sBegin_ok h1
       repeat first | refine LOps.nil ?_ | refine LCode.seq ?_ | refine LCode.region ?_ | refine QThen.normal ?_ | refine LOps.pure (Pure.mv (lv := .atom _) rfl) rfl ?_
       obtain ⟨r1, hr1⟩ := obind_is hr
       refine LOps.step (S.callP [_] rfl Pick.here (ih (fun g hg => hE g (by omega)) _ _ r1 (by omega) (by omega) hr1) (fun e2 i2 op2 h2 => ?_) (fun l er i2 op2 h2 e' he' => ?_)) rfl
       ·rw [hr1, h2, obind_ok] at hr
        obtain ⟨g1, _, g3, rfl⟩ := (ex_good T f).2.2.1 _ _ _ (hr1.trans (congrArg some h2))
        have g4 := g3 (by omega)
        refine LOps.step (S.lit [_] rfl (elemsOk.cons rfl rfl elemsOk.nil) rfl rfl rfl ?_) rfl
        repeat first | refine LOps.pure (Pure.bld _ (cs := [_, _, _, _]) rfl) rfl ?_
        refine LOps.step (S.alloc fun b2 => ?_) rfl
        repeat first | refine LOps.nil ?_ | refine LCode.seq ?_ | refine LCode.region ?_ | refine LCode.ret ?_ | refine QThen.normal ?_ | refine QThen.ret ?_ | refine QBlock.ret ?_ | refine LOps.pure (Pure.mv (lv := .atom _) rfl) rfl ?_ | refine LOps.pure (Pure.nilCheckH rfl) rfl ?_ | refine LOps.pure (Pure.fieldH rfl) rfl ?_ | refine LOps.pure (Pure.loadH (c := .atom _) rfl (List.Mem.tail _ (List.Mem.head _)) rfl) rfl ?_ | refine LOps.pure (Pure.sub rfl rfl (by omega)) rfl ?_ | refine LOps.pure (Pure.ldHAgg (cs' := [_, _, _, _]) rfl (List.Mem.tail _ (List.Mem.head _)) rfl rfl) rfl ?_ | refine LOps.step (S.store (cs' := [_, _, _, _]) rfl Pick.here rfl rfl rfl rfl rfl ?_) rfl | refine LOps.step (S.store (cs' := [_, _, _, _]) rfl (Pick.there (Pick.there (Pick.there (Pick.there Pick.here)))) rfl rfl rfl rfl rfl ?_) rfl | refine LOps.step (S.store (cs' := [_, _, _]) rfl (Pick.there Pick.here) rfl rfl rfl rfl rfl ?_) rfl
        exact retP (v := .mk nNot 0 [] [e2]) hj (AllRes.cons (ResIs.cellAgg rfl (List.Mem.head _) rfl (LV.Sub.refl _)) AllRes.nil) (by cases hr; rfl) (by rw [encE_mk]; rfl) (by
         rw [show (((op + 1 : Nat) : Int) - 1) = ((op + 1 - 1 : Nat) : Int) by omega]
         exact HSub.pick (Pick.there Pick.here) (HSub.nil _))
       ·rw [hr1, h2, obind_err] at hr
        repeat first | refine QThen.panic ?_ | refine QBlock.panic ?_
        exact panP (he'.trans hj) (by cases hr; rfl) (HSub.pick Pick.here (HSub.nil _))
      ·rw [h1, obind_err] at hr
       repeat first | refine QThen.panic ?_ | refine QBlock.panic ?_
       exact panP (he'.trans hj) (by cases hr; rfl) (HSub.pick Pick.here (HSub.nil _))
     ·repeat first | refine LCode.skip ?_ | refine QThen.normal ?_ | refine QBlock.normal ?_
      exact ⟨_, _, _, by have := hsz; simp; omega, ⟨seen.push 1, rfl, rfl, rfl, hnext hc⟩, ⟨rfl, rfl, rfl, trivial⟩, HSub.pick (Pick.there Pick.here) (HSub.pick (Pick.there Pick.here) (HSub.pick (Pick.there Pick.here) (HSub.pick Pick.here (HSub.nil _)))), hj⟩
    ·cases hcc
end
end Go.Proofs.YtcbpcianefpniaaGreatDoor
