/- The parser's levels, the closures that binary makes, the iterator over the levels from the last to the first, walked. -/
import Derived.Test.YtfodkbchknknjaaDoorParP6
import Derived.Test.YtfodkbchknknjaaDoorGlRange
set_option linter.unusedVariables false
set_option linter.unusedSimpArgs false
namespace Go.Proofs.YtfodkbchknknjaaDoor
open Go.GL Go.RowKit Go.Stele
set_option maxRecDepth 100000
set_option maxHeartbeats 4000000
attribute [local irreducible] LOps LCode LStep LCalls Go.GL.Pure QThen QBlock RetPost LQ LAny LLate LLateOp
def lvLV (k : Nat) : LV := .list ((lvOps k).map str)
def levelsLV : List LV := [lvLV 0, lvLV 1, lvLV 2, lvLV 3, lvLV 4, lvLV 5]
section
variable {B0 : Nat} {w0 : World}
theorem levels_spec : LCalls (KC B0 w0) 82 [] [] (Ret (.list levelsLV)) := by
  refine LCalls.intro Tryd.func82 rfl (n := 8) rfl rfl rfl ?_
  repeat first
    | refine LOps.nil ?_
    | refine LCode.seq ?_
    | refine LCode.region ?_
    | refine QThen.normal ?_
    | refine LOps.pure (Pure.as (lv := .atom _) rfl) rfl ?_
  refine LOps.step (S.lit (es := [str [124, 124]]) [_] rfl (elemsOk.cons rfl rfl elemsOk.nil) rfl rfl rfl ?_) rfl
  refine LOps.step (S.lit (es := [str [38, 38]]) [_] rfl (elemsOk.cons rfl rfl elemsOk.nil) rfl rfl rfl ?_) rfl
  refine LOps.step (S.lit (es := [str [61, 61], str [33, 61], str [60], str [62], str [60, 61], str [62, 61]]) [_, _, _, _, _, _] rfl (elemsOk.cons rfl rfl (elemsOk.cons rfl rfl (elemsOk.cons rfl rfl (elemsOk.cons rfl rfl (elemsOk.cons rfl rfl (elemsOk.cons rfl rfl elemsOk.nil)))))) rfl rfl rfl ?_) rfl
  refine LOps.step (S.lit (es := [str [94]]) [_] rfl (elemsOk.cons rfl rfl elemsOk.nil) rfl rfl rfl ?_) rfl
  refine LOps.step (S.lit (es := [str [43], str [45]]) [_, _] rfl (elemsOk.cons rfl rfl (elemsOk.cons rfl rfl elemsOk.nil)) rfl rfl rfl ?_) rfl
  refine LOps.step (S.lit (es := [str [42], str [47], str [37]]) [_, _, _] rfl (elemsOk.cons rfl rfl (elemsOk.cons rfl rfl (elemsOk.cons rfl rfl elemsOk.nil))) rfl rfl rfl ?_) rfl
  refine LOps.step (S.lit (es := levelsLV) [_, _, _, _, _, _] rfl (elemsOk.cons rfl rfl (elemsOk.cons rfl rfl (elemsOk.cons rfl rfl (elemsOk.cons rfl rfl (elemsOk.cons rfl rfl (elemsOk.cons rfl rfl elemsOk.nil)))))) rfl rfl rfl ?_) rfl
  repeat first
    | refine LOps.nil ?_
    | refine LCode.ret ?_
    | refine QThen.normal ?_
    | refine LOps.pure (Pure.as (lv := .list _) rfl) rfl ?_
  exact retRet rfl (AllRes.cons (ResIs.tmp (v := .list _) rfl (LV.Sub.refl _)) AllRes.nil) rfl
theorem binary_spec (sb : Nat) (ops : List LV) (once : Bool) (fn : FuncId) (first caps : Array Value) : LCalls (KC B0 w0) 83 [ptr sb 0, .list ops, bool once, .atom (.func (.func fn) first caps)] []
    (fun r H => ∃ bo bs bp bn : Nat, r = .ret (.atom (.func (.func 95) #[] #[.pointer (some ⟨bo, 0, none⟩), .pointer (some ⟨bs, 0, none⟩), .pointer (some ⟨bp, 0, none⟩), .pointer (some ⟨bn, 0, none⟩)])) ∧
      H = [(bo, .cells 94 [.atom (.func (.func fn) first caps)]), (bs, .cells 49 [ptr sb 0]), (bp, .cells 25 [.list ops]), (bn, .cells 4 [bool once])]) := by
  refine LCalls.intro Tryd.func83 rfl (n := 10) rfl rfl rfl ?_
  repeat first
    | refine LCode.seq ?_
    | refine LCode.region ?_
  refine LOps.step (S.box rfl fun bs => ?_) rfl
  refine LOps.step (S.box rfl fun bp => ?_) rfl
  refine LOps.step (S.box rfl fun bn => ?_) rfl
  refine LOps.step (S.box rfl fun bo => ?_) rfl
  repeat first
    | refine LOps.nil ?_
    | refine LCode.seq ?_
    | refine LCode.region ?_
    | refine LCode.ret ?_
    | refine QThen.normal ?_
    | refine LOps.pure (Pure.as (lv := .atom _) rfl) rfl ?_
    | refine LOps.pure (Pure.makeFunc rfl rfl) rfl ?_
  exact RetPost.ret rfl (AllRes.cons (ResIs.tmp (v := .atom _) rfl (LV.Sub.refl _)) AllRes.nil) (HSub.pick Pick.here (HSub.pick (Pick.there (Pick.there Pick.here)) (HSub.pick (Pick.there Pick.here) (HSub.pick Pick.here (HSub.nil _))))) ⟨bo, bs, bp, bn, rfl, rfl⟩
theorem backward_spec (es : List LV) : LCalls (KC B0 w0) 81 [.list es] [] (fun r H => ∃ b : Nat, r = .ret (.atom (.func (.func 94) #[] #[.pointer (some ⟨b, 0, none⟩)])) ∧ H = [(b, .cells 112 [.list es])]) := by
  refine LCalls.intro Tryd.func81 rfl (n := 4) rfl rfl rfl ?_
  repeat first
    | refine LCode.seq ?_
    | refine LCode.region ?_
  refine LOps.step (S.box rfl fun b => ?_) rfl
  repeat first
    | refine LOps.nil ?_
    | refine LCode.seq ?_
    | refine LCode.region ?_
    | refine LCode.ret ?_
    | refine QThen.normal ?_
    | refine LOps.pure (Pure.as (lv := .atom _) rfl) rfl ?_
    | refine LOps.pure (Pure.makeFunc rfl rfl) rfl ?_
  exact RetPost.ret rfl (AllRes.cons (ResIs.tmp (v := .atom _) rfl (LV.Sub.refl _)) AllRes.nil) (HSub.refl _) ⟨b, rfl, rfl⟩
/-- What the iterator hands to yield in the round q: the place and the element, from the last to the first. -/
def backArgs (ls : List (List (List UInt8))) (q : Nat) : List LV := [int .i64 ((ls.length : Int) - 1 - q), .list (((ls[ls.length - 1 - q]?).getD []).map str)]
theorem iter_spec (b : Nat) (ls : List (List (List UInt8))) (hl : ls.length ≤ 100000) : LIter (KC B0 w0) 94 [ptr b 0] [(b, .cells 112 [.list (ls.map fun l => .list (l.map str))])] ls.length (backArgs ls) := by
  intro l J hY H0 h0
  have hml : (ls.map fun l => LV.list (l.map str)).length = ls.length := List.length_map _
  refine LCalls.intro Tryd.func94 rfl (n := 19) rfl rfl rfl ?_
  refine LCode.perm (H' := (b, .cells 112 [.list (ls.map fun l => .list (l.map str))]) :: H0) (List.perm_append_singleton _ _) ?_
  repeat first
    | refine LOps.nil ?_
    | refine LCode.seq ?_
    | refine LCode.region ?_
    | refine LCode.block ?_
    | refine QThen.normal ?_
    | refine LOps.pure (Pure.loadH (c := .list _) rfl (List.Mem.head _) rfl) rfl ?_
    | refine LOps.pure (Pure.llen rfl) rfl ?_
    | refine LOps.pure (Pure.sub rfl rfl (by omega)) rfl ?_
    | refine LOps.pure (Pure.as (lv := .atom _) rfl) rfl ?_
  refine LCode.loopI (fun k lsl H => ∃ (q : Nat) (Hq : Heap), q ≤ ls.length ∧ k = ls.length - q ∧ lsl = [(0, .atom (.func (.yield l) #[] #[])), (1, ptr b 0), (3, int .i64 ((ls.length : Int) - 1 - q))] ∧ H = (b, .cells 112 [.list (ls.map fun l => .list (l.map str))]) :: Hq ∧ J q Hq)
    ⟨_, _, _, ⟨0, H0, Nat.zero_le _, rfl, rfl, rfl, h0⟩, ⟨rfl, rfl, int_eq (by simp), trivial⟩, HSub.refl _⟩ ?_
  rintro k lsl H ⟨q, Hq, hq, rfl, rfl, rfl, hJ⟩ j hj
  repeat first
    | refine LOps.nil ?_
    | refine LCode.seq ?_
    | refine LCode.region ?_
    | refine QThen.normal ?_
    | refine LOps.pure (Pure.mv (lv := .atom _) rfl) rfl ?_
    | refine LOps.pure (Pure.geq rfl rfl) rfl ?_
  refine LCode.cond rfl (fun hc => ?_) (fun hc => ?_)
  · have hlt : q < ls.length := by have := of_decide_eq_true hc; omega
    have hix : ((ls.length : Int) - 1 - q).toNat = ls.length - 1 - q := by omega
    have hlt2 : ls.length - 1 - q < ls.length := by omega
    have hel : (ls.map fun l => LV.list (l.map str))[((ls.length : Int) - 1 - q).toNat]? = some (.list (((ls[ls.length - 1 - q]?).getD []).map str)) := by
      rw [hix, List.getElem?_map, List.getElem?_eq_getElem hlt2]
      rfl
    repeat first
      | refine LCode.seq ?_
      | refine LCode.skip ?_
      | refine LCode.block ?_
      | refine QThen.normal ?_
    refine LCode.regionW ?_
    repeat first
      | refine LOpsW.pure (Pure.loadH (c := .list _) rfl (List.Mem.head _) rfl) rfl ?_
      | refine LOpsW.pure (Pure.mv (lv := .atom _) rfl) rfl ?_
    refine LOpsW.pure (Pure.ixRef (cs := [_]) rfl rfl (by omega) hel rfl rfl) rfl ?_
    repeat first
      | refine LOpsW.pure (Pure.loadRef (c := .list _) rfl rfl) rfl ?_
    refine LOpsW.yield (H := (b, .cells 112 [.list (ls.map fun l => .list (l.map str))]) :: Hq) (args := [_, _]) rfl rfl (LYield.frame (H := Hq) (F := [(b, .cells 112 [.list (ls.map fun l => .list (l.map str))])]) (List.perm_append_singleton _ _).symm (K := fun H' => ∃ H1, H' = H1 ++ [(b, .cells 112 [.list (ls.map fun l => .list (l.map str))])] ∧ J (q + 1) H1) (LYield.mono (hY q Hq hlt hJ) fun H' h => ⟨H', rfl, h⟩)) rfl ?_
    rintro H' ⟨H1, rfl, hJ1⟩
    repeat first
      | refine LOpsW.pure (Pure.not rfl) rfl ?_
    refine LOpsW.nil ?_
    refine QThen.normal ?_
    refine LCode.weak (H' := (b, .cells 112 [.list (ls.map fun l => .list (l.map str))]) :: H1) ⟨[], by rw [List.append_nil]; exact List.perm_append_singleton _ _⟩ ?_
    refine LCode.cond rfl (fun hcc => ?_) (fun hcc => ?_)
    · cases hcc
    · repeat first
        | refine LOps.nil ?_
        | refine LCode.region ?_
        | refine LCode.skip ?_
        | refine QThen.normal ?_
        | refine QBlock.normal ?_
        | refine LOps.pure (Pure.sub rfl rfl (by omega)) rfl ?_
        | refine LOps.pure (Pure.as (lv := .atom _) rfl) rfl ?_
        | refine LOps.pure (Pure.mv (lv := .atom _) rfl) rfl ?_
      exact ⟨_, _, _, by omega, ⟨q + 1, H1, hlt, rfl, rfl, rfl, hJ1⟩, ⟨rfl, rfl, int_eq (by omega), trivial⟩, HSub.refl _, hj⟩
  · have hge : q = ls.length := by have := of_decide_eq_false hc; omega
    subst hge
    repeat first
      | refine LCode.exit ?_
      | refine QThen.exit ?_
      | refine QBlock.hit ?_
    exact RetPost.normal hj AllRes.nil ⟨[], by rw [List.append_nil]; exact (List.perm_append_singleton _ _).symm⟩ ⟨⟨_, rfl⟩, Hq, rfl, hJ⟩
end
end Go.Proofs.YtfodkbchknknjaaDoor
