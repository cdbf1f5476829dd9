/- A small logic over the walk's 'Code.wp': the parts of a heap, found by instances. -/
import Derived.Test.YtfodkbchknknjaaGreatDoorGlPair
set_option linter.unusedVariables false
set_option linter.unusedSimpArgs false
namespace Go.GL
open Go.RowKit
/-- F is what is left of H beside X. -/
class IsPart (X H : Heap) (F : outParam Heap) : Prop where
  perm : H.Perm (X ++ F)
/-- A lies in B. -/
class IsIn (A B : Heap) : Prop where
  sub : HSub A B
instance (priority := high) {X A : Heap} : IsPart X (X ++ A) A := ⟨List.Perm.refl _⟩
instance (priority := low) {X A B F : Heap} [h : IsPart X A F] : IsPart X (B ++ A) (B ++ F) := ⟨by
  refine (h.perm.append_left B).trans ?_
  rw [← List.append_assoc, ← List.append_assoc]
  exact List.perm_append_comm.append_right F⟩
instance (priority := high) {A : Heap} : IsIn A A := ⟨HSub.refl _⟩
instance (priority := low) {A X B : Heap} [h : IsIn A B] : IsIn A (X ++ B) := ⟨by
  obtain ⟨G, hG⟩ := h.sub
  exact ⟨G ++ X, (List.perm_append_comm).trans ((hG.append_right X).trans (by rw [List.append_assoc]))⟩⟩
/-- Elements of this size, which may be stored. -/
class Elems (s : Nat) (ms : List LV) : Prop where
  len : ∀ v ∈ ms, v.cells.length = s
  ok : (ms.flatMap LV.cells).all cellOk = true
class Small (l : List LV) : Prop where
  le : l.length ≤ 2000000000
instance : Small [] := ⟨by simp⟩
instance {l : List LV} [h : Small l] : Small ([] ++ l) := h
instance {l : List (List UInt8)} : Elems 1 (l.map str) := ⟨strs_len l, strs_ok l⟩
section
variable {C : Ctx} {n : Nat} {ops : Array Oper} {Q : Post} {HF : Heap} {fuel : Nat} {listed : Array Bool} {e : Env} {H F : Heap} {i : Nat} {dst : Option Nat} {op : Op} {ty : TypeId} {pos : String} {aft : Array Edge}
/-- A drawn operation that adds to the heap. -/
theorem LLateOp.new (hi : ops[i]? = some ⟨dst, op, ty, pos, aft, none⟩) (hd : dstOk n dst) [hHF : IsIn HF H]
    (h : LStep C ⟨dst, op, ty, pos, aft, none⟩ e [] (fun lv H' => LLate C n ops Q HF fuel (listed.setIfInBounds i true) (e.put dst lv) (H' ++ H)) (fun ch H' => ∀ e', e'.ds = e.ds → Q (.panic ch) e' (H' ++ H))) : LLateOp C n ops Q HF fuel listed e H i :=
  LLateOp.step (H1 := []) hi (.inl rfl) hd (List.Perm.refl _) hHF.sub h
/-- A drawn operation that turns a part of the heap. -/
theorem LLateOp.part (H1 : Heap) [hp : IsPart H1 H F] [hHF : IsIn HF F] (hi : ops[i]? = some ⟨dst, op, ty, pos, aft, none⟩) (hd : dstOk n dst)
    (h : LStep C ⟨dst, op, ty, pos, aft, none⟩ e H1 (fun lv H' => LLate C n ops Q HF fuel (listed.setIfInBounds i true) (e.put dst lv) (H' ++ F)) (fun ch H' => ∀ e', e'.ds = e.ds → Q (.panic ch) e' (H' ++ F))) : LLateOp C n ops Q HF fuel listed e H i :=
  LLateOp.step (H1 := H1) hi (.inl rfl) hd hp.perm hHF.sub h
theorem t1 (i : Nat) (hr : Region.ready .any ops listed = [i]) (h : LLateOp C n ops Q HF fuel listed e H i) : LLate C n ops Q HF (fuel + 1) listed e H := LLate.one hr h
theorem t2 (i j : Nat) (hr : Region.ready .any ops listed = [i, j]) (h : LLateOp C n ops Q HF fuel listed e H i) (h' : LLateOp C n ops Q HF fuel listed e H j) : LLate C n ops Q HF (fuel + 1) listed e H := LLate.two hr h h'
theorem t3 (i j k : Nat) (hr : Region.ready .any ops listed = [i, j, k]) (h : LLateOp C n ops Q HF fuel listed e H i) (h' : LLateOp C n ops Q HF fuel listed e H j) (h2 : LLateOp C n ops Q HF fuel listed e H k) : LLate C n ops Q HF (fuel + 1) listed e H := LLate.three hr h h' h2
theorem t4 (i j k l : Nat) (hr : Region.ready .any ops listed = [i, j, k, l]) (h : LLateOp C n ops Q HF fuel listed e H i) (h' : LLateOp C n ops Q HF fuel listed e H j) (h2 : LLateOp C n ops Q HF fuel listed e H k) (h3 : LLateOp C n ops Q HF fuel listed e H l) : LLate C n ops Q HF (fuel + 1) listed e H := LLate.four hr h h' h2 h3
theorem nLit {t el s : Nat} {zs : List Value} [ht : TSlice C.P t el s] [hz : TZero C.P el zs] [hHF : IsIn HF H] (hi : ops[i]? = some ⟨dst, .buildSlice t 0 #[], ty, pos, aft, none⟩) (hd : dstOk n dst)
    (k : ∀ b, LLate C n ops Q HF fuel (listed.setIfInBounds i true) (e.put dst (.app b 0 s [])) ([(b, .row (([] : List LV).length * s))] ++ H)) : LLateOp C n ops Q HF fuel listed e H i :=
  LLateOp.new hi hd (S.litA [] rfl elemsOk.nil rfl rfl (by rw [Nat.zero_mul]; rfl) fun b => k b)
theorem nApp {sT xT el s bytes : Nat} [ht : TSlice C.P sT el s] [hr : TRow C.P el s bytes] {e2 s2 : Nat} [hx2 : TSlice C.P xT e2 s2] {b cap : Nat} {es ms : List LV} {x y : Operand} (hi : ops[i]? = some ⟨dst, .call { callee := .builtin .append, args := #[x, y], argTypes := #[sT, xT] }, ty, pos, aft, none⟩) (hd : dstOk n dst)
    (hx : e.ev x = .app b cap s es) (hy : elems (e.ev y) = some ms) (hk : Nat.ble bytes 10000 = true) [hp : IsPart [(b, .row (es.length * s))] H F] [hHF : IsIn HF F] [hm : Elems s ms] [h1 : Small es] [h2 : Small ms]
    (k : ∀ b' cap', LLate C n ops Q HF fuel (listed.setIfInBounds i true) (e.put dst (.app b' cap' s (es ++ ms))) ([(b', .row ((es ++ ms).length * s))] ++ F)) : LLateOp C n ops Q HF fuel listed e H i :=
  LLateOp.part [(b, .row (es.length * s))] hi hd (S.app (F := []) hx Pick.here rfl hy hm.len hm.ok (by
    have h3 : bytes ≤ 10000 := Nat.le_of_ble_eq_true hk
    have h4 := h1.le
    have h5 := h2.le
    have h6 : (es.length + ms.length) * bytes ≤ 4000000000 * 10000 := Nat.mul_le_mul (by omega) h3
    omega) fun b' c' => k b' c')
theorem nStore {t sz : Nat} {zs : List Value} [ht : TSize C.P t sz] [hz : TZero C.P t zs] {b : Nat} {vs : List LV} {x y : Operand} (hi : ops[i]? = some ⟨dst, .store t x y, ty, pos, aft, none⟩) (hd : dstOk n dst) (hx : e.ev x = ptr b 0) (hy : (e.ev y).cells? = some vs)
    (hn : vs.length = sz) (hl : Nat.ble (0 + sz) (zs.map LV.atom).length = true) (hok : vs.all cellOk = true) (hc : setL (zs.map LV.atom) 0 vs = vs) [hp : IsPart [(b, .cells t (zs.map LV.atom))] H F] [hHF : IsIn HF F]
    (k : LLate C n ops Q HF fuel (listed.setIfInBounds i true) (e.put dst (.atom undef)) ([(b, .cells t vs)] ++ F)) : LLateOp C n ops Q HF fuel listed e H i :=
  LLateOp.part [(b, .cells t (zs.map LV.atom))] hi hd (S.store hx Pick.here hy hn hl hok hc k)
theorem LLate.weakH {H' : Heap} (s : HSub H' H) (h : LLate C n ops Q HF fuel listed e H') : LLate C n ops Q HF fuel listed e H := fun w0 L0 a w L hL hA hsz hE hH =>
  wpAnyH_mono (fun _ _ _ => lift_weak s.keys) _ _ _ _ (h w0 L0 a w L hL hA hsz hE (hH.weak s))
theorem LLate.gen (h : ∀ LL : Nat → Array Bool → Env → Heap → Prop, (∀ f L e H, LL f L e H → LLate C n ops Q HF f L e H) → (∀ f L e H, LLate C n ops Q HF f L e H → LL f L e H) → LL fuel listed e H) : LLate C n ops Q HF fuel listed e H := h _ (fun _ _ _ _ h => h) (fun _ _ _ _ h => h)
end
end Go.GL
