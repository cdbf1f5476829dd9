/- The lexer's Tokens, walked. -/
import Derived.Test.YtfodkbchknknjaaDoorLex5
set_option linter.unusedVariables false
set_option linter.unusedSimpArgs false
namespace Go.Proofs.YtfodkbchknknjaaDoor
open Go.GL Go.RowKit Go.Stele
set_option maxRecDepth 100000
set_option maxHeartbeats 4000000
attribute [local irreducible] LOps LCode LStep LCalls Go.GL.Pure QThen QBlock RetPost
def lexAllP (s : List UInt8) : Except (Int × Int) (List Tok) := if 60000 < s.length then .error (0, 6) else lexP s.length s 1
def encLex : Except (Int × Int) (List Tok) → LV
  | .ok T => .tuple [.list (T.map encTok), int .i64 0, int .i64 0]
  | .error (l, e) => .tuple [.list [], int .i64 l, int .i64 e]
theorem map_map_ex {A B D : Type} (f : A → B) (h : B → D) (r : Except (Int × Int) A) : (r.map f).map h = r.map (fun x => h (f x)) := by cases r <;> rfl
section
variable {B0 : Nat} {w0 : World}
theorem Tokens_spec (hG : GW B0 w0) (s : List UInt8) (hs : s.length ≤ 1000000000) : LCalls (KC B0 w0) 11 [str s] [] (Ret (encLex (lexAllP s))) := by
  refine LCalls.intro Tryd.func11 rfl (n := 49) rfl rfl rfl ?_
  repeat first
    | refine LOps.nil ?_
    | refine LCode.seq ?_
    | refine LCode.region ?_
    | refine QThen.normal ?_
    | refine LOps.pure (Pure.as (lv := .atom _) rfl) rfl ?_
    | refine LOps.pure (Pure.mv (lv := .atom _) rfl) rfl ?_
    | refine LOps.pure (Pure.slen rfl) rfl ?_
    | refine LOps.pure (Pure.gtr rfl rfl) rfl ?_
  refine LCode.cond rfl (fun hc => ?_) (fun hc => ?_)
  · repeat first
      | refine LOps.nil ?_
      | refine LCode.seq ?_
      | refine LCode.region ?_
      | refine LCode.ret ?_
      | refine QThen.normal ?_
      | refine QThen.ret ?_
      | refine LOps.pure (Pure.as (lv := .atom _) rfl) rfl ?_
    exact retRet rfl (AllRes.cons (ResIs.tmp (v := nilSlice) rfl LV.Sub.nil) (AllRes.cons (ResIs.tmp (v := .atom _) rfl (LV.Sub.refl _)) (AllRes.cons (ResIs.tmp (v := .atom _) rfl (LV.Sub.refl _)) AllRes.nil))) (by
      rw [lexAllP, if_pos (by have := of_decide_eq_true hc; omega)]
      rfl)
  · have hlen : s.length ≤ 60000 := by have := of_decide_eq_false hc; omega
    repeat first
      | refine LOps.nil ?_
      | refine LCode.seq ?_
      | refine LCode.region ?_
      | refine LCode.skip ?_
      | refine LCode.block ?_
      | refine QThen.normal ?_
      | refine LOps.pure (Pure.as (lv := .atom _) rfl) rfl ?_
      | refine LOps.pure (Pure.mv (lv := .atom _) rfl) rfl ?_
    refine LCode.loopI (fun k ls H => ∃ (v : LV) (out : List Tok) (rest : List UInt8) (line : Int) (fuel : Nat), k = rest.length ∧ ls = [(5, v), (6, int .i64 line), (7, str rest)] ∧ Acc 3 v (out.map encTok) H [] ∧
        rest.length ≤ fuel ∧ 0 ≤ line ∧ line + rest.length ≤ 60001 ∧ out.length + rest.length ≤ 60000 ∧ lexP s.length s 1 = (lexP fuel rest line).map (out ++ ·))
      ⟨_, _, _, ⟨nilSlice, [], s, 1, s.length, rfl, rfl, Acc.nil, by omega, by omega, by omega, by simp; omega, by cases lexP s.length s 1 <;> rfl⟩, ⟨rfl, rfl, rfl, trivial⟩, HSub.refl _⟩ ?_
    rintro k ls H ⟨v, out, rest, line, fuel, rfl, rfl, hacc, hf, hl0, hl1, ho, hI⟩ j hj
    repeat first
      | refine LOps.nil ?_
      | refine LCode.seq ?_
      | refine LCode.region ?_
      | refine QThen.normal ?_
      | refine LOps.pure (Pure.mv (lv := .atom _) rfl) rfl ?_
      | refine LOps.pure (Pure.sneq rfl rfl) rfl ?_
    refine LCode.cond rfl (fun hne => ?_) (fun hne => ?_)
    · have hrest : rest ≠ [] := by simpa using hne
      obtain ⟨f, rfl⟩ : ∃ f, fuel = f + 1 := ⟨fuel - 1, by
        have : 0 < rest.length := List.length_pos_iff.2 hrest
        omega⟩
      rw [lexP, if_neg hrest] at hI
      have hsk := skipLen_le rest
      repeat first
        | refine LCode.seq ?_
        | refine LCode.region ?_
        | refine LCode.skip ?_
        | refine LCode.block ?_
        | refine QThen.normal ?_
        | refine LOps.pure (Pure.mv (lv := .atom _) rfl) rfl ?_
      refine LOps.step (S.fn [_] rfl (skip_spec rest (by omega)) ?_) rfl
      repeat first
        | refine LOps.nil ?_
        | refine LCode.seq ?_
        | refine LCode.region ?_
        | refine QThen.normal ?_
        | refine LOps.pure (Pure.as (lv := .atom _) rfl) rfl ?_
        | refine LOps.pure (Pure.mv (lv := .atom _) rfl) rfl ?_
        | refine LOps.pure (Pure.eql rfl rfl) rfl ?_
      refine LCode.cond rfl (fun hz => ?_) (fun hz => ?_)
      · have hz' : skipLen rest = 0 := by have := of_decide_eq_true hz; omega
        rw [if_pos hz'] at hI
        repeat first
          | refine LCode.seq ?_
          | refine LCode.region ?_
          | refine LOps.pure (Pure.mv (lv := .atom _) rfl) rfl ?_
        refine LOps.step (S.fn [_] rfl (token_spec hG rest (by omega) hrest) ?_) rfl
        repeat first
          | refine LOps.pure (Pure.mv (lv := .tuple _) rfl) rfl ?_
          | refine LOps.pure (Pure.extract (c := .agg _) rfl rfl) rfl ?_
          | refine LOps.pure (Pure.extract (c := .atom _) rfl rfl) rfl ?_
        refine LOps.step (S.alloc fun b => ?_) rfl
        repeat first
          | refine LOps.nil ?_
          | refine LCode.seq ?_
          | refine LCode.region ?_
          | refine QThen.normal ?_
          | refine LOps.pure (Pure.as (lv := .atom _) rfl) rfl ?_
          | refine LOps.pure (Pure.mv (lv := .atom _) rfl) rfl ?_
          | refine LOps.pure (Pure.neq rfl rfl) rfl ?_
          | refine LOps.step (S.store (cs' := [_, _, _]) rfl Pick.here rfl rfl rfl rfl rfl ?_) rfl
        refine LCode.cond rfl (fun he => ?_) (fun he => ?_)
        · have he' : (lexToken rest).2.2 ≠ 0 := by simpa using he
          rw [if_pos he'] at hI
          repeat first
            | refine LOps.nil ?_
            | refine LCode.seq ?_
            | refine LCode.region ?_
            | refine LCode.ret ?_
            | refine QThen.normal ?_
            | refine QThen.ret ?_
            | refine QBlock.ret ?_
            | refine LOps.pure (Pure.as (lv := .atom _) rfl) rfl ?_
            | refine LOps.pure (Pure.mv (lv := .atom _) rfl) rfl ?_
          exact retRet hj (AllRes.cons (ResIs.tmp (v := nilSlice) rfl LV.Sub.nil) (AllRes.cons (ResIs.tmp (v := .atom _) rfl (LV.Sub.refl _)) (AllRes.cons (ResIs.tmp (v := .atom _) rfl (LV.Sub.refl _)) AllRes.nil))) (by
            rw [lexAllP, if_neg (by omega), hI]
            rfl)
        · have he' : (lexToken rest).2.2 = 0 := by simpa using he
          rw [if_neg (by simpa using he')] at hI
          obtain ⟨hs0, hs1⟩ := lexToken_size rest he'
          repeat first
            | refine LOps.nil ?_
            | refine LCode.seq ?_
            | refine LCode.region ?_
            | refine LCode.skip ?_
            | refine QThen.normal ?_
            | refine LOps.pure (Pure.mv (lv := .atom _) rfl) rfl ?_
            | refine LOps.pure (Pure.fieldH rfl) rfl ?_
            | refine LOps.step (S.store (cs' := [_, _, _]) rfl Pick.here rfl rfl rfl rfl rfl ?_) rfl
          refine LOps.pure (Pure.mv (lv := v) rfl) rfl ?_
          repeat first
            | refine LOps.pure (Pure.ldHAgg (cs' := [_, _, _]) rfl (List.Mem.head _) rfl rfl) rfl ?_
          refine LOps.step (S.lit [_] rfl (elemsOk.cons rfl rfl elemsOk.nil) rfl rfl rfl ?_) rfl
          refine LOps.weak (HSub.drop (HSub.refl _)) ?_
          refine LOps.step (S.acc rfl hacc rfl (by simp; rfl) rfl (by simp; omega) fun v' H' hacc' => ?_) rfl
          refine LOps.pure (Pure.as (lv := v') rfl) rfl ?_
          repeat first
            | refine LOps.nil ?_
            | refine LCode.seq ?_
            | refine LCode.region ?_
            | refine QThen.normal ?_
            | refine LOps.pure (Pure.as (lv := .atom _) rfl) rfl ?_
            | refine LOps.pure (Pure.mv (lv := .atom _) rfl) rfl ?_
          refine LOps.pure (Pure.sslice (i := 0) (j := (lexToken rest).2.1) rfl rfl ⟨_, rfl⟩ (by omega) (by omega) (by omega)) rfl ?_
          refine LOps.step (S.fn [_, _] rfl (countNl_spec _) ?_) rfl
          have hcnt : (List.drop (Int.toNat 0) (List.take ((lexToken rest).2.1 : Int).toNat rest)).count 10 ≤ (lexToken rest).2.1 := Nat.le_trans List.count_le_length (by simp; omega)
          repeat first
            | refine LOps.nil ?_
            | refine LCode.region ?_
            | refine QThen.normal ?_
            | refine LOps.pure (Pure.as (lv := .atom _) rfl) rfl ?_
            | refine LOps.pure (Pure.mv (lv := .atom _) rfl) rfl ?_
            | refine LOps.pure (Pure.add rfl rfl (by omega)) rfl ?_
          refine LOps.pure (Pure.sslice (i := (lexToken rest).2.1) (j := rest.length) rfl ⟨_, rfl⟩ rfl (by omega) (by omega) (by omega)) rfl ?_
          repeat first
            | refine LOps.nil ?_
            | refine QThen.normal ?_
            | refine QBlock.normal ?_
            | refine LOps.pure (Pure.as (lv := .atom _) rfl) rfl ?_
          have hacc2 : Acc 3 v' ((out ++ [{ (lexToken rest).1 with line := line }]).map encTok) H' [] := by
            rw [List.map_append]
            exact hacc'
          exact ⟨_, _, _, by simp only [List.length_drop]; omega, ⟨v', out ++ [{ (lexToken rest).1 with line := line }], rest.drop (lexToken rest).2.1, line + ((rest.take (lexToken rest).2.1).count 10 : Nat), f, rfl, rfl, hacc2,
            by simp only [List.length_drop]; omega, by omega, by simp only [List.length_drop]; simp at hcnt; omega, by simp only [List.length_drop, List.length_append, List.length_singleton]; omega, by
              rw [hI, map_map_ex]
              congr 1
              funext x
              simp⟩, ⟨rfl, int_eq (by simp), str_eq (by simp), trivial⟩, HSub.refl _, hj⟩
      · have hz' : ¬ skipLen rest = 0 := by have := of_decide_eq_false hz; omega
        rw [if_neg hz'] at hI
        repeat first
          | refine LCode.seq ?_
          | refine LCode.region ?_
          | refine LCode.skip ?_
          | refine QThen.normal ?_
          | refine LOps.pure (Pure.mv (lv := .atom _) rfl) rfl ?_
        refine LOps.pure (Pure.sslice (i := 0) (j := skipLen rest) rfl rfl ⟨_, rfl⟩ (by omega) (by omega) (by omega)) rfl ?_
        refine LOps.step (S.fn [_, _] rfl (countNl_spec _) ?_) rfl
        have hcnt : (List.drop (Int.toNat 0) (List.take (skipLen rest : Int).toNat rest)).count 10 ≤ skipLen rest := Nat.le_trans List.count_le_length (by simp; omega)
        repeat first
          | refine LOps.nil ?_
          | refine LCode.region ?_
          | refine QThen.normal ?_
          | refine LOps.pure (Pure.as (lv := .atom _) rfl) rfl ?_
          | refine LOps.pure (Pure.mv (lv := .atom _) rfl) rfl ?_
          | refine LOps.pure (Pure.add rfl rfl (by omega)) rfl ?_
        refine LOps.pure (Pure.sslice (i := skipLen rest) (j := rest.length) rfl ⟨_, rfl⟩ rfl (by omega) (by omega) (by omega)) rfl ?_
        repeat first
          | refine LOps.nil ?_
          | refine QThen.normal ?_
          | refine QBlock.normal ?_
          | refine LOps.pure (Pure.as (lv := .atom _) rfl) rfl ?_
        exact ⟨_, _, _, by simp only [List.length_drop]; omega, ⟨v, out, rest.drop (skipLen rest), line + ((rest.take (skipLen rest)).count 10 : Nat), f, rfl, rfl, hacc,
            by simp only [List.length_drop]; omega, by omega, by simp only [List.length_drop]; simp at hcnt; omega, by simp only [List.length_drop]; omega, hI⟩, ⟨rfl, int_eq (by simp), str_eq (by simp), trivial⟩, HSub.refl _, hj⟩
    · have hrest : rest = [] := by simpa using hne
      repeat first
        | refine LCode.seq ?_
        | refine LCode.region ?_
        | refine LCode.exit ?_
        | refine QThen.normal ?_
        | refine QThen.exit ?_
        | refine QBlock.hit ?_
      refine LOps.pure (Pure.mv (lv := v) rfl) rfl ?_
      refine LOps.pure (Pure.as (lv := v) rfl) rfl ?_
      repeat first
        | refine LOps.nil ?_
        | refine LCode.ret ?_
        | refine QThen.normal ?_
        | refine LOps.pure (Pure.as (lv := .atom _) rfl) rfl ?_
      exact retRet hj (AllRes.cons (ResIs.tmp (v := v) rfl hacc.sub) (AllRes.cons (ResIs.tmp (v := .atom _) rfl (LV.Sub.refl _)) (AllRes.cons (ResIs.tmp (v := .atom _) rfl (LV.Sub.refl _)) AllRes.nil))) (by
        rw [lexAllP, if_neg (by omega), hI, hrest]
        cases fuel <;> simp [lexP, Except.map, encLex, resLV])
end
end Go.Proofs.YtfodkbchknknjaaDoor
