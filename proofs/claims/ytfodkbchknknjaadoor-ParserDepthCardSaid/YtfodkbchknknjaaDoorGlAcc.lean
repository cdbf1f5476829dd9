/- A small logic over the walk's 'Code.wp': append beside another block. -/
import Derived.Test.YtfodkbchknknjaaDoorGlDraw2
namespace Go.GL
open Go.RowKit
section
variable {C : Ctx} {e : Env} {H : Heap} {dst : Option Nat} {ty : TypeId} {pos : String} {aft : Array Edge} {g : Option (Nat × Bool)} {K : LV → Heap → Prop} {X : List PanicEntry → Heap → Prop} {x y : Operand}
/-- append onto a list under construction whose part of the heap is H1; A is the rest. -/
theorem S.accF {sT xT el s bytes : Nat} [ht : TSlice C.P sT el s] [hr : TRow C.P el s bytes] {e2 s2 : Nat} [hx2 : TSlice C.P xT e2 s2] {v : LV} {es ms : List LV} {H1 F A : Heap}
    (hp : H.Perm (H1 ++ A)) (hx : e.ev x = v) (ha : Acc s v es H1 F) (hy : GL.elems (e.ev y) = some ms) (hs : ∀ v ∈ ms, v.cells.length = s) (hok : (ms.flatMap LV.cells).all cellOk = true) (hroom : (es.length + ms.length) * bytes ≤ 140737488355328)
    (hk : ∀ v' H', Acc s v' (es ++ ms) H' F → K v' (A ++ H')) : LStep C ⟨dst, .call { callee := .builtin .append, args := #[x, y], argTypes := #[sT, xT] }, ty, pos, aft, g⟩ e H K X := by
  refine LStep.conseq (K := fun lv H' => ∃ H2, H' = H2 ++ A ∧ Acc s lv (es ++ ms) H2 F) (LStep.frame hp (S.acc hx ha hy hs hok hroom fun v' H' h => ⟨H', rfl, h⟩)) ?_
  rintro lv H' ⟨H2, rfl, h⟩
  exact ⟨lv, A ++ H2, LV.Sub.refl _, ⟨[], by simpa using List.perm_append_comm⟩, hk _ _ h⟩
theorem S.acc1 {sT xT el s bytes : Nat} [ht : TSlice C.P sT el s] [hr : TRow C.P el s bytes] {e2 s2 : Nat} [hx2 : TSlice C.P xT e2 s2] {v : LV} {es ms : List LV} {H1 F : Heap} {q : Nat × LObj}
    (hx : e.ev x = v) (ha : Acc s v es H1 F) (hy : GL.elems (e.ev y) = some ms) (hs : ∀ v ∈ ms, v.cells.length = s) (hok : (ms.flatMap LV.cells).all cellOk = true) (hroom : (es.length + ms.length) * bytes ≤ 140737488355328)
    (hk : ∀ v' H', Acc s v' (es ++ ms) H' F → K v' (q :: H')) : LStep C ⟨dst, .call { callee := .builtin .append, args := #[x, y], argTypes := #[sT, xT] }, ty, pos, aft, g⟩ e (q :: H1) K X :=
  S.accF (A := [q]) ((List.perm_append_singleton _ _).symm) hx ha hy hs hok hroom hk
end
end Go.GL
