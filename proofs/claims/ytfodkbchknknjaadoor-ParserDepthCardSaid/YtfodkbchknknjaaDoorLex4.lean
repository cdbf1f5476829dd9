/- The lexer's tokens, walked. -/
import Derived.Test.YtfodkbchknknjaaDoorLex3
import Derived.Test.YtfodkbchknknjaaDoorLexSpec2
set_option linter.unusedVariables false
set_option linter.unusedSimpArgs false
namespace Go.Proofs.YtfodkbchknknjaaDoor
open Go.GL Go.RowKit Go.Stele
set_option maxRecDepth 100000
set_option maxHeartbeats 4000000
attribute [local irreducible] LOps LCode LStep LCalls Go.GL.Pure QThen QBlock RetPost
def encTok (t : Tok) : LV := .agg [int .i64 t.kind, str t.text, int .i64 t.line]
def encTokR (r : TokR) : LV := .tuple [encTok r.1, int .i64 r.2.1, int .i64 r.2.2]
theorem elemsOk_strs (l : List (List UInt8)) : elemsOk 1 (l.map str) := fun v hv => by
  obtain ⟨x, _, rfl⟩ := List.mem_map.1 hv
  exact ⟨rfl, rfl⟩
section
variable {B0 : Nat} {w0 : World}
theorem Keywords_spec : LCalls (KC B0 w0) 51 [] [] (Ret (.list (keywords.map str))) := by
  refine LCalls.intro Tryd.func51 rfl (n := 2) rfl rfl rfl ?_
  repeat first
    | refine LOps.nil ?_
    | refine LCode.seq ?_
    | refine LCode.region ?_
    | refine QThen.normal ?_
    | refine LOps.pure (Pure.as (lv := .atom _) rfl) rfl ?_
  refine LOps.step (S.lit [_, _, _, _, _, _, _, _] rfl (elemsOk_strs keywords) rfl rfl rfl ?_) rfl
  repeat first
    | refine LOps.nil ?_
    | refine LCode.ret ?_
    | refine QThen.normal ?_
    | refine LOps.pure (Pure.as (lv := .list _) rfl) rfl ?_
  exact retRet rfl (AllRes.cons (ResIs.tmp (v := .list _) rfl (LV.Sub.refl _)) AllRes.nil) rfl
theorem signs_spec : LCalls (KC B0 w0) 35 [] [] (Ret (.list (signs.map str))) := by
  refine LCalls.intro Tryd.func35 rfl (n := 2) rfl rfl rfl ?_
  repeat first
    | refine LOps.nil ?_
    | refine LCode.seq ?_
    | refine LCode.region ?_
    | refine QThen.normal ?_
    | refine LOps.pure (Pure.as (lv := .atom _) rfl) rfl ?_
  refine LOps.step (S.lit [_, _, _, _, _, _, _, _, _, _, _, _, _, _, _, _, _, _, _, _, _, _, _, _] rfl (elemsOk_strs signs) rfl rfl rfl ?_) rfl
  repeat first
    | refine LOps.nil ?_
    | refine LCode.ret ?_
    | refine QThen.normal ?_
    | refine LOps.pure (Pure.as (lv := .list _) rfl) rfl ?_
  exact retRet rfl (AllRes.cons (ResIs.tmp (v := .list _) rfl (LV.Sub.refl _)) AllRes.nil) rfl
theorem Index_spec (l : List (List UInt8)) (x : List UInt8) (hl : l.length ≤ 1000000000) : LCalls (KC B0 w0) 54 [.list (l.map str), str x] [] (RetIf fun lv => ∃ n : Int, lv = int .i64 n ∧ decide (0 ≤ n) = l.contains x) := by
  refine LCalls.intro Tryd.func54 rfl (n := 19) rfl rfl rfl ?_
  repeat first
    | refine LOps.nil ?_
    | refine LCode.seq ?_
    | refine LCode.region ?_
    | refine LCode.block ?_
    | refine QThen.normal ?_
    | refine LOps.pure (Pure.as (lv := .atom _) rfl) rfl ?_
    | refine LOps.pure (Pure.mv (lv := .list _) rfl) rfl ?_
    | refine LOps.pure (Pure.mv (lv := .atom _) rfl) rfl ?_
    | refine LOps.pure (Pure.llen rfl) rfl ?_
  refine LCode.loopI (fun k ls H => ∃ m : Nat, k = l.length - m ∧ ls = [(0, .list (l.map str)), (1, str x), (7, int .i64 (l.map str).length), (8, int .i64 m)] ∧ H = [] ∧ m ≤ l.length ∧ l.contains x = (l.drop m).contains x)
    ⟨_, _, _, ⟨0, rfl, rfl, rfl, by omega, by simp⟩, ⟨rfl, rfl, rfl, rfl, trivial⟩, HSub.refl _⟩ ?_
  rintro k ls H ⟨m, rfl, rfl, rfl, hm, hI⟩ j hj
  repeat first
    | refine LOps.nil ?_
    | refine LCode.seq ?_
    | refine LCode.region ?_
    | refine QThen.normal ?_
    | refine LOps.pure (Pure.lss rfl rfl) rfl ?_
  refine LCode.cond rfl (fun hc => ?_) (fun hc => ?_)
  · have hlt : m < l.length := by simpa using hc
    repeat first
      | refine LOps.nil ?_
      | refine LCode.seq ?_
      | refine LCode.region ?_
      | refine LCode.skip ?_
      | refine LCode.block ?_
      | refine QThen.normal ?_
      | refine LOps.pure (Pure.as (lv := .atom _) rfl) rfl ?_
      | refine LOps.pure (Pure.mv (lv := .list _) rfl) rfl ?_
      | refine LOps.pure (Pure.mv (lv := .atom _) rfl) rfl ?_
    refine LOps.pure (Pure.ixRef (el' := str l[m]) rfl rfl (by omega) (by simp) rfl rfl) rfl ?_
    repeat first
      | refine LOps.nil ?_
      | refine QThen.normal ?_
      | refine LOps.pure (Pure.loadRef (c := .atom _) rfl rfl) rfl ?_
      | refine LOps.pure (Pure.seq rfl rfl) rfl ?_
    refine LCode.cond rfl (fun he => ?_) (fun he => ?_)
    · repeat first
        | refine LOps.nil ?_
        | refine LCode.seq ?_
        | refine LCode.region ?_
        | refine LCode.ret ?_
        | refine QThen.normal ?_
        | refine QThen.ret ?_
        | refine QBlock.ret ?_
        | refine LOps.pure (Pure.as (lv := .atom _) rfl) rfl ?_
        | refine LOps.pure (Pure.mv (lv := .atom _) rfl) rfl ?_
      have hx : x = l[m] := by simpa using he
      exact retRetIf hj (AllRes.cons (ResIs.tmp (v := .atom _) rfl (LV.Sub.refl _)) AllRes.nil) ⟨m, rfl, by
        rw [hx, decide_eq_true (by omega)]
        simp⟩
    · repeat first
        | refine LOps.nil ?_
        | refine LCode.region ?_
        | refine LCode.skip ?_
        | refine QThen.normal ?_
        | refine QBlock.normal ?_
        | refine LOps.pure (Pure.mv (lv := .atom _) rfl) rfl ?_
        | refine LOps.pure (Pure.add rfl rfl (by omega)) rfl ?_
      have hx : ¬ x = l[m] := by simpa using he
      exact ⟨_, _, _, by omega, ⟨m + 1, rfl, rfl, rfl, by omega, by
        rw [hI, List.drop_eq_getElem_cons hlt, List.contains_cons]
        simp [hx]⟩, ⟨rfl, rfl, rfl, int_eq (by omega), trivial⟩, HSub.refl _, hj⟩
  · have hge : l.length ≤ m := by simpa using hc
    repeat first
      | refine LOps.nil ?_
      | refine LCode.seq ?_
      | refine LCode.region ?_
      | refine LCode.ret ?_
      | refine LCode.exit ?_
      | refine QThen.normal ?_
      | refine QThen.exit ?_
      | refine QBlock.hit ?_
      | refine LOps.pure (Pure.as (lv := .atom _) rfl) rfl ?_
    exact retRetIf hj (AllRes.cons (ResIs.tmp (v := .atom _) rfl (LV.Sub.refl _)) AllRes.nil) ⟨-1, rfl, by
      rw [hI, List.drop_eq_nil_of_le hge]
      rfl⟩
theorem Contains_spec (l : List (List UInt8)) (x : List UInt8) (hl : l.length ≤ 1000000000) : LCalls (KC B0 w0) 39 [.list (l.map str), str x] [] (Ret (bool (l.contains x))) := by
  refine LCalls.intro Tryd.func39 rfl (n := 9) rfl rfl rfl ?_
  repeat first
    | refine LOps.nil ?_
    | refine LCode.seq ?_
    | refine LCode.region ?_
    | refine QThen.normal ?_
    | refine LOps.pure (Pure.as (lv := .atom _) rfl) rfl ?_
    | refine LOps.pure (Pure.mv (lv := .list _) rfl) rfl ?_
    | refine LOps.pure (Pure.mv (lv := .atom _) rfl) rfl ?_
  refine LOps.step (S.fnIf [_, _] rfl (Index_spec l x hl) ?_) rfl
  rintro lv ⟨n, rfl, hn⟩
  repeat first
    | refine LOps.nil ?_
    | refine LCode.ret ?_
    | refine QThen.normal ?_
    | refine LOps.pure (Pure.as (lv := .atom _) rfl) rfl ?_
    | refine LOps.pure (Pure.geq rfl rfl) rfl ?_
  exact retRet rfl (AllRes.cons (ResIs.tmp (v := .atom _) rfl (LV.Sub.refl _)) AllRes.nil) (by rw [← hn]; rfl)
theorem name_spec (s : List UInt8) (hs : s.length ≤ 1000000000) : LCalls (KC B0 w0) 33 [str s] [] (Ret (encTokR (lexName s))) := by
  refine LCalls.intro Tryd.func33 rfl (n := 21) rfl rfl rfl ?_
  repeat first
    | refine LCode.seq ?_
    | refine LCode.region ?_
  refine LOps.step (S.alloc fun b => ?_) rfl
  repeat first
    | refine LOps.nil ?_
    | refine LCode.seq ?_
    | refine LCode.region ?_
    | refine QThen.normal ?_
    | refine LOps.pure (Pure.as (lv := .atom _) rfl) rfl ?_
    | refine LOps.pure (Pure.mv (lv := .atom _) rfl) rfl ?_
  refine LOps.step (S.fn [_, _] rfl (run_spec isInner inner_spec s hs) ?_) rfl
  repeat first
    | refine LOps.nil ?_
    | refine LCode.seq ?_
    | refine LCode.region ?_
    | refine QThen.normal ?_
    | refine LOps.pure (Pure.as (lv := .atom _) rfl) rfl ?_
    | refine LOps.pure (Pure.mv (lv := .atom _) rfl) rfl ?_
    | refine LOps.pure (Pure.slen rfl) rfl ?_
    | refine LOps.pure (Pure.gtr rfl rfl) rfl ?_
  refine LCode.cond rfl (fun hc => ?_) (fun hc => ?_)
  · repeat first
      | refine LOps.nil ?_
      | refine LCode.seq ?_
      | refine LCode.region ?_
      | refine LCode.ret ?_
      | refine QThen.normal ?_
      | refine QThen.ret ?_
      | refine LOps.pure (Pure.as (lv := .atom _) rfl) rfl ?_
      | refine LOps.pure (Pure.bld _ (cs := [_, _, _]) rfl) rfl ?_
      | refine LOps.step (S.store (cs' := [_, _, _]) rfl Pick.here rfl rfl rfl rfl rfl ?_) rfl
    exact retRet rfl (AllRes.cons (ResIs.cellAgg rfl (List.Mem.head _) rfl (LV.Sub.refl _)) (AllRes.cons (ResIs.tmp (v := .atom _) rfl (LV.Sub.refl _)) (AllRes.cons (ResIs.tmp (v := .atom _) rfl (LV.Sub.refl _)) AllRes.nil))) (by
      rw [lexName, if_pos (by have := of_decide_eq_true hc; omega)]
      rfl)
  · repeat first
      | refine LOps.nil ?_
      | refine LCode.seq ?_
      | refine LCode.region ?_
      | refine LCode.skip ?_
      | refine QThen.normal ?_
      | refine LOps.pure (Pure.as (lv := .atom _) rfl) rfl ?_
    refine LOps.step (S.fn [] rfl Keywords_spec ?_) rfl
    repeat first
      | refine LOps.pure (Pure.mv (lv := .atom _) rfl) rfl ?_
    refine LOps.step (S.fn [_, _] rfl (Contains_spec keywords (s.takeWhile isInner) (by decide)) ?_) rfl
    repeat first
      | refine LOps.nil ?_
      | refine QThen.normal ?_
    refine LCode.cond rfl (fun hk => ?_) (fun hk => ?_)
    · repeat first
        | refine LOps.nil ?_
        | refine LCode.seq ?_
        | refine LCode.region ?_
        | refine LCode.ret ?_
        | refine QThen.normal ?_
        | refine LOps.pure (Pure.as (lv := .atom _) rfl) rfl ?_
        | refine LOps.pure (Pure.mv (lv := .atom _) rfl) rfl ?_
        | refine LOps.pure (Pure.slen rfl) rfl ?_
        | refine LOps.pure (Pure.bld _ (cs := [_, _, _]) rfl) rfl ?_
        | refine LOps.step (S.store (cs' := [_, _, _]) rfl Pick.here rfl rfl rfl rfl rfl ?_) rfl
      exact retRet rfl (AllRes.cons (ResIs.cellAgg rfl (List.Mem.head _) rfl (LV.Sub.refl _)) (AllRes.cons (ResIs.tmp (v := .atom _) rfl (LV.Sub.refl _)) (AllRes.cons (ResIs.tmp (v := .atom _) rfl (LV.Sub.refl _)) AllRes.nil))) (by
        rw [lexName, if_neg (by have := of_decide_eq_false hc; omega), if_pos hk]
        rfl)
    · repeat first
        | refine LOps.nil ?_
        | refine LCode.seq ?_
        | refine LCode.region ?_
        | refine LCode.skip ?_
        | refine LCode.ret ?_
        | refine QThen.normal ?_
        | refine LOps.pure (Pure.as (lv := .atom _) rfl) rfl ?_
        | refine LOps.pure (Pure.mv (lv := .atom _) rfl) rfl ?_
        | refine LOps.pure (Pure.slen rfl) rfl ?_
        | refine LOps.pure (Pure.bld _ (cs := [_, _, _]) rfl) rfl ?_
        | refine LOps.step (S.store (cs' := [_, _, _]) rfl Pick.here rfl rfl rfl rfl rfl ?_) rfl
      exact retRet rfl (AllRes.cons (ResIs.cellAgg rfl (List.Mem.head _) rfl (LV.Sub.refl _)) (AllRes.cons (ResIs.tmp (v := .atom _) rfl (LV.Sub.refl _)) (AllRes.cons (ResIs.tmp (v := .atom _) rfl (LV.Sub.refl _)) AllRes.nil))) (by
        rw [lexName, if_neg (by have := of_decide_eq_false hc; omega), if_neg (by rw [hk]; decide)]
        rfl)
end
end Go.Proofs.YtfodkbchknknjaaDoor
