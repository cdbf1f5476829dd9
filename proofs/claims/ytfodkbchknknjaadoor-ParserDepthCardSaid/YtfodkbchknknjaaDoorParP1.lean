/- The parser's small steps, walked. -/
import Derived.Test.YtfodkbchknknjaaDoorLex6
import Derived.Test.YtfodkbchknknjaaDoorGlAcc
import Derived.Test.YtfodkbchknknjaaDoorParSpec2
set_option linter.unusedVariables false
set_option linter.unusedSimpArgs false
namespace Go.Proofs.YtfodkbchknknjaaDoor
open Go.GL Go.RowKit Go.Stele
set_option maxRecDepth 100000
set_option maxHeartbeats 4000000
attribute [local irreducible] LOps LCode LStep LCalls Go.GL.Pure QThen QBlock RetPost LQ LAny LLate LLateOp
@[reducible] def srcH (sb : Nat) (T : List Tok) (i op : Nat) : Nat × LObj := (sb, .cells 51 [.list (T.map encTok), int .i64 i, int .i64 op])
def pan (l e : Int) : List PanicEntry := [{ v := .iface 47 (.agg #[.int .i64 l, .int .i64 e]), recovered := false }]
def PostP {A : Type} (sb : Nat) (T : List Tok) (enc : A → LV) (res : Res A) (r : LRes) (H : Heap) : Prop := match res with
  | .ok v i op => r = .ret (enc v) ∧ H = [srcH sb T i op]
  | .err l e => r = .panic (pan l e) ∧ ∃ i op : Nat, H = [srcH sb T i op]
def encU : Unit → LV := fun _ => .tuple []
theorem map_get {A : Type} (f : A → LV) (l : List A) (i : Nat) (h : i < l.length) : (l.map f)[((i : Nat) : Int).toNat]? = some (f l[i]) := by
  rw [Int.toNat_natCast, List.getElem?_map, List.getElem?_eq_getElem h]
  rfl
theorem and_eq {a b : Bool} (h : a = true) : (a && b) = b := by rw [h]; rfl
section
variable {B0 : Nat} {w0 : World}
theorem is_spec (sb : Nat) (T : List Tok) (i op : Nat) (xs : List (List UInt8)) (hT : T.length ≤ 100000) (hi : i ≤ 1000000) (hx : xs.length ≤ 1000) :
    LCalls (KC B0 w0) 19 [ptr sb 0, .list (xs.map str)] [srcH sb T i op] (fun r H => r = .ret (bool (isTok T i xs)) ∧ H = [srcH sb T i op]) := by
  refine LCalls.intro Tryd.func19 rfl (n := 40) rfl rfl rfl ?_
  repeat first
    | refine LOps.nil ?_
    | refine LCode.seq ?_
    | refine LCode.region ?_
    | refine QThen.normal ?_
    | refine LOps.pure (Pure.as (lv := .atom _) rfl) rfl ?_
  refine LCode.cut [(0, ptr sb 0), (1, .list (xs.map str)), (15, bool (decide (T.length ≤ i)))] ?_ (fun j hj => ?_)
  · refine LCode.quiet (by kernel_rfl) ?_
    repeat first
      | refine LQ.pure (Pure.mv (lv := .atom _) rfl) rfl ?_
      | refine LQ.pure (Pure.nilCheckH rfl) rfl ?_
      | refine LQ.pure (Pure.fieldH rfl) rfl ?_
      | refine LQ.pure (Pure.loadH (c := .atom _) rfl (List.Mem.head _) rfl) rfl ?_
      | refine LQ.pure (Pure.loadH (c := .list _) rfl (List.Mem.head _) rfl) rfl ?_
      | refine LQ.pure (Pure.llen rfl) rfl ?_
      | refine LQ.pure (Pure.geq rfl rfl) rfl ?_
      | refine LQ.nil ?_
      | refine QThen.normal ?_
    exact ⟨⟨rfl, rfl, bool_eq (by rw [decide_eq_decide]; simp), trivial⟩, rfl, rfl⟩
  · skip
    refine LCode.cond rfl (fun hc => ?_) (fun hc => ?_)
    · repeat first
        | refine LOps.nil ?_
        | refine LCode.seq ?_
        | refine LCode.region ?_
        | refine LCode.ret ?_
        | refine QThen.normal ?_
        | refine QThen.ret ?_
        | refine LOps.pure (Pure.as (lv := .atom _) rfl) rfl ?_
      exact RetPost.ret hj (AllRes.cons (ResIs.tmp (v := .atom _) rfl (LV.Sub.refl _)) AllRes.nil) (HSub.refl _) ⟨by rw [isTok, List.getElem?_eq_none (of_decide_eq_true hc)]; rfl, rfl⟩
    · have hlt : i < T.length := by have := of_decide_eq_false hc; omega
      repeat first
        | refine LCode.seq ?_
        | refine LCode.skip ?_
        | refine QThen.normal ?_
      refine LCode.draw (m := 12) rfl [srcH sb T i op] ?_
      refine LAny.take (i := 0) (by first | exact HSub.nil _ | exact HSub.refl _ | exact HSub.drop (HSub.refl _) | exact HSub.pick Pick.here (HSub.nil _) | exact HSub.pick (Pick.there Pick.here) (HSub.nil _) | exact HSub.pick (Pick.there (Pick.there Pick.here)) (HSub.nil _)) rfl (by kernel_rfl) (by kernel_rfl) (by kernel_rfl) rfl (Pure.mv (lv := .atom _) rfl) ?_
      refine LAny.take (i := 1) (by first | exact HSub.nil _ | exact HSub.refl _ | exact HSub.drop (HSub.refl _) | exact HSub.pick Pick.here (HSub.nil _) | exact HSub.pick (Pick.there Pick.here) (HSub.nil _) | exact HSub.pick (Pick.there (Pick.there Pick.here)) (HSub.nil _)) rfl (by kernel_rfl) (by kernel_rfl) (by kernel_rfl) rfl (Pure.nilCheckH rfl) ?_
      refine LAny.take (i := 2) (by first | exact HSub.nil _ | exact HSub.refl _ | exact HSub.drop (HSub.refl _) | exact HSub.pick Pick.here (HSub.nil _) | exact HSub.pick (Pick.there Pick.here) (HSub.nil _) | exact HSub.pick (Pick.there (Pick.there Pick.here)) (HSub.nil _)) rfl (by kernel_rfl) (by kernel_rfl) (by kernel_rfl) rfl (Pure.fieldH rfl) ?_
      refine LAny.take (i := 3) (by first | exact HSub.nil _ | exact HSub.refl _ | exact HSub.drop (HSub.refl _) | exact HSub.pick Pick.here (HSub.nil _) | exact HSub.pick (Pick.there Pick.here) (HSub.nil _) | exact HSub.pick (Pick.there (Pick.there Pick.here)) (HSub.nil _)) rfl (by kernel_rfl) (by kernel_rfl) (by kernel_rfl) rfl (Pure.loadH (c := .list _) rfl (List.Mem.head _) rfl) ?_
      refine LAny.take (i := 4) (by first | exact HSub.nil _ | exact HSub.refl _ | exact HSub.drop (HSub.refl _) | exact HSub.pick Pick.here (HSub.nil _) | exact HSub.pick (Pick.there Pick.here) (HSub.nil _) | exact HSub.pick (Pick.there (Pick.there Pick.here)) (HSub.nil _)) rfl (by kernel_rfl) (by kernel_rfl) (by kernel_rfl) rfl (Pure.mv (lv := .atom _) rfl) ?_
      refine LAny.take (i := 5) (by first | exact HSub.nil _ | exact HSub.refl _ | exact HSub.drop (HSub.refl _) | exact HSub.pick Pick.here (HSub.nil _) | exact HSub.pick (Pick.there Pick.here) (HSub.nil _) | exact HSub.pick (Pick.there (Pick.there Pick.here)) (HSub.nil _)) rfl (by kernel_rfl) (by kernel_rfl) (by kernel_rfl) rfl (Pure.nilCheckH rfl) ?_
      refine LAny.take (i := 6) (by first | exact HSub.nil _ | exact HSub.refl _ | exact HSub.drop (HSub.refl _) | exact HSub.pick Pick.here (HSub.nil _) | exact HSub.pick (Pick.there Pick.here) (HSub.nil _) | exact HSub.pick (Pick.there (Pick.there Pick.here)) (HSub.nil _)) rfl (by kernel_rfl) (by kernel_rfl) (by kernel_rfl) rfl (Pure.fieldH rfl) ?_
      refine LAny.take (i := 7) (by first | exact HSub.nil _ | exact HSub.refl _ | exact HSub.drop (HSub.refl _) | exact HSub.pick Pick.here (HSub.nil _) | exact HSub.pick (Pick.there Pick.here) (HSub.nil _) | exact HSub.pick (Pick.there (Pick.there Pick.here)) (HSub.nil _)) rfl (by kernel_rfl) (by kernel_rfl) (by kernel_rfl) rfl (Pure.loadH (c := .atom _) rfl (List.Mem.head _) rfl) ?_
      refine LAny.take (i := 8) (HSub.refl _) rfl (by kernel_rfl) (by kernel_rfl) (by kernel_rfl) rfl (Pure.ixRef (el' := encTok T[i]) (cs := [_, _, _]) rfl rfl (by omega) (map_get _ _ _ hlt) rfl rfl) ?_
      refine LAny.take (i := 9) (by first | exact HSub.nil _ | exact HSub.refl _ | exact HSub.drop (HSub.refl _) | exact HSub.pick Pick.here (HSub.nil _) | exact HSub.pick (Pick.there Pick.here) (HSub.nil _) | exact HSub.pick (Pick.there (Pick.there Pick.here)) (HSub.nil _)) rfl (by kernel_rfl) (by kernel_rfl) (by kernel_rfl) rfl (Pure.ldRefAgg (cs' := [_, _, _]) rfl rfl rfl) ?_
      refine LAny.late ?_ (HSub.refl _)
      refine LLate.one (i := 10) (by kernel_rfl) (LLateOp.step (H1 := []) (F := [srcH sb T i op]) rfl (.inl rfl) rfl (List.Perm.refl _) (HSub.refl _) (S.alloc fun b => ?_))
      refine LLate.one (i := 11) (by kernel_rfl) (LLateOp.step (H1 := [(b, _)]) (F := [srcH sb T i op]) rfl (.inl rfl) rfl (List.Perm.refl _) (HSub.refl _) (S.store (cs' := [_, _, _]) rfl Pick.here rfl rfl rfl rfl rfl ?_))
      refine LLate.done (by kernel_rfl) ?_
      repeat first
        | refine LCode.seq ?_
        | refine LCode.region ?_
        | refine QThen.normal ?_
        | refine LOps.pure (Pure.mv (lv := .atom _) rfl) rfl ?_
        | refine LOps.pure (Pure.fieldH rfl) rfl ?_
        | refine LOps.pure (Pure.loadH (c := .atom _) rfl (List.Mem.head _) rfl) rfl ?_
        | refine LOps.pure (Pure.eql rfl rfl) rfl ?_
      have hsp : isTok T i xs = ((decide (T[i].kind = 3) || decide (T[i].kind = 4)) && xs.contains T[i].text) := by rw [isTok, List.getElem?_eq_getElem hlt]
      rw [hsp]
      refine LOps.bcase 29 rfl (fun h3 => ?_) (fun h3 => ?_)
      · repeat first
          | refine LOps.pure (Pure.mv (lv := .atom _) rfl) rfl ?_
          | refine LOps.pure (Pure.fieldH rfl) rfl ?_
          | refine LOps.pure (Pure.loadH (c := .atom _) rfl (List.Mem.head _) rfl) rfl ?_
          | refine LOps.pure (Pure.pickT (lv := .atom _) rfl rfl) rfl ?_
          | refine LOps.pure (Pure.mv (lv := .list _) rfl) rfl ?_
          | refine LOps.want rfl rfl ?_
          | refine LOps.skip rfl rfl rfl rfl ?_
        refine LOps.step (S.fn [_, _] rfl (Contains_spec xs T[i].text (by omega)) ?_) rfl
        repeat first
          | refine LOps.nil ?_
          | refine LCode.ret ?_
          | refine QThen.normal ?_
          | refine LOps.pure (Pure.as (lv := .atom _) rfl) rfl ?_
          | refine LOps.pure (Pure.pickT (lv := .atom _) rfl rfl) rfl ?_
        exact RetPost.ret hj (AllRes.cons (ResIs.tmp (v := .atom _) rfl (LV.Sub.refl _)) AllRes.nil) (HSub.drop (HSub.refl _)) ⟨by rw [h3]; rfl, rfl⟩
      · repeat first
          | refine LOps.pure (Pure.mv (lv := .atom _) rfl) rfl ?_
          | refine LOps.pure (Pure.fieldH rfl) rfl ?_
          | refine LOps.pure (Pure.loadH (c := .atom _) rfl (List.Mem.head _) rfl) rfl ?_
          | refine LOps.pure (Pure.eql rfl rfl) rfl ?_
          | refine LOps.pure (Pure.pickF (lv := .atom _) rfl rfl) rfl ?_
          | refine LOps.want rfl rfl ?_
        refine LOps.bcase 34 rfl (fun h4 => ?_) (fun h4 => ?_)
        · repeat first
            | refine LOps.pure (Pure.fieldH rfl) rfl ?_
            | refine LOps.pure (Pure.loadH (c := .atom _) rfl (List.Mem.head _) rfl) rfl ?_
            | refine LOps.pure (Pure.mv (lv := .list _) rfl) rfl ?_
            | refine LOps.want rfl rfl ?_
          refine LOps.step (S.fn [_, _] rfl (Contains_spec xs T[i].text (by omega)) ?_) rfl
          repeat first
            | refine LOps.nil ?_
            | refine LCode.ret ?_
            | refine QThen.normal ?_
            | refine LOps.pure (Pure.as (lv := .atom _) rfl) rfl ?_
            | refine LOps.pure (Pure.pickT (lv := .atom _) rfl rfl) rfl ?_
          exact RetPost.ret hj (AllRes.cons (ResIs.tmp (v := .atom _) rfl (LV.Sub.refl _)) AllRes.nil) (HSub.drop (HSub.refl _)) ⟨by rw [h3, h4]; rfl, rfl⟩
        · repeat first
            | refine LOps.nil ?_
            | refine LCode.ret ?_
            | refine QThen.normal ?_
            | refine LOps.pure (Pure.as (lv := .atom _) rfl) rfl ?_
            | refine LOps.pure (Pure.pickF (lv := .atom _) rfl rfl) rfl ?_
            | refine LOps.skip rfl rfl rfl rfl ?_
          exact RetPost.ret hj (AllRes.cons (ResIs.tmp (v := .atom _) rfl (LV.Sub.refl _)) AllRes.nil) (HSub.drop (HSub.refl _)) ⟨by rw [h3, h4]; rfl, rfl⟩
end
end Go.Proofs.YtfodkbchknknjaaDoor
