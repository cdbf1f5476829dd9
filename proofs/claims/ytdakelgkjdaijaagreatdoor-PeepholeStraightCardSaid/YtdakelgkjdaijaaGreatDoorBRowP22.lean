/- Texts joined: GlDraw2, Lex5, GlAcc, ParP1, GlMap, GlPair, ParTok, GlStr, Fmt3, Fmt4, GlSet, GlInts, GlBytes, GlKv, PeepSpec, LexJoin, PeepNum, PeepWords, PeepOpt, PeepRef, PeepAsm. -/
import Derived.Laws.IdiomStrings
import Derived.DeepKeys
import Derived.Lib.Builder
import Derived.Lib.AppendStr
import Derived.Lib.Join
import Derived.RangeFuncFrom
import Derived.RangeFuncLeaves
import Derived.TacticsIn
import Derived.Lib.Split
import Derived.Test.YtdakelgkjdaijaaGreatDoorBRowP21
set_option linter.unusedVariables false
set_option linter.unusedSimpArgs false
namespace Go.GL
open Go.RowKit
class TIface (P : Program) (t : TypeId) : Prop where
 und : ∃ ms, P.underlying t = some (.interface ms)
def chkIface (P : Program) (t : Nat) : Bool := match P.underlying t with | some (.interface _) => true | _ => false
theorem TIface.of {P : Program} {t : Nat} (h : chkIface P t = true) : TIface P t := by
 unfold chkIface at h
 refine ⟨?_⟩
 cases hu : P.underlying t with
 | none => rw [hu] at h; simp at h
 | some d => rw [hu] at h; cases d <;> simp_all
section
variable {C : Ctx} {e : Env} {H : Heap} {dst : Option Nat} {ty : TypeId} {pos : String} {aft : Array Edge} {g : Option (Nat × Bool)} {xT yT : TypeId} {x : Operand}
theorem equal_step (t : TypeId) (x y : Value) : Op.equal t x y = Op.equalIn (9999 + 1) t x y := rfl
theorem run_equal_nil {P : Program} {t : TypeId} [h : TIface P t] (w : World) : (Op.equal t .nilIface .nilIface).run P w = .ok true w := by
 obtain ⟨ms, hu⟩ := h.und
 rw [equal_step, Op.equalIn]
 simp only [Sem.run_bind, run_underlying' hu, Result.andThen_ok, Sem.run_pure]
theorem run_equal_iface {P : Program} {t : TypeId} [h : TIface P t] (u : TypeId) (p : Value) (w : World) : (Op.equal t (.iface u p) .nilIface).run P w = .ok false w := by
 obtain ⟨ms, hu⟩ := h.und
 rw [equal_step, Op.equalIn]
 simp only [Sem.run_bind, run_underlying' hu, Result.andThen_ok, Sem.run_pure]
theorem Pure.nilNeqNil [TIface C.P xT] (hx : e.ev x = .atom .nilIface) : Pure C ⟨dst, .binOp .neq xT x (.const .nilIface) yT, ty, pos, aft, g⟩ e H (bool false) :=
 .of_any fun ρ _ _ h => ⟨_, rep_atom, fun w' => by
  have h1 := atom_of h hx
  have h2 := atom_of h (x := .const .nilIface) rfl
  have he : eqGuard .neq xT x (.const .nilIface) .nilIface .nilIface = Pure.pure () := by simp [eqGuard]
  have hb : binOp .neq xT .nilIface .nilIface = (do Pure.pure (.bool (!(← Op.equal xT .nilIface .nilIface)))) := rfl
  simp only [execOp, h1, h2, he, hb, Sem.run_bind, Sem.run_pure, Result.andThen_ok, run_equal_nil, Bool.not_true]⟩
theorem Pure.ifaceNeqNil [TIface C.P xT] {u : TypeId} {p : Value} (hx : e.ev x = .atom (.iface u p)) : Pure C ⟨dst, .binOp .neq xT x (.const .nilIface) yT, ty, pos, aft, g⟩ e H (bool true) :=
 .of_any fun ρ _ _ h => ⟨_, rep_atom, fun w' => by
  have h1 := atom_of h hx
  have h2 := atom_of h (x := .const .nilIface) rfl
  have he : eqGuard .neq xT x (.const .nilIface) (.iface u p) .nilIface = Pure.pure () := by simp [eqGuard]
  have hb : binOp .neq xT (.iface u p) .nilIface = (do Pure.pure (.bool (!(← Op.equal xT (.iface u p) .nilIface)))) := rfl
  simp only [execOp, h1, h2, he, hb, Sem.run_bind, Sem.run_pure, Result.andThen_ok, run_equal_iface, Bool.not_false]⟩
theorem str_eq {a b : List UInt8} (h : a = b) : str a = str b := by rw [h]
theorem Pure.cvt {k k0 k' : IntKind} {s d : TypeId} {n : Int} [hs : TKind C.P s k0] [hd : TKind C.P d k'] (hx : e.ev x = int k n) : Pure C ⟨dst, .convert s d x, ty, pos, aft, g⟩ e H (int k' (k'.wrap n)) := Pure.convInt ⟨_, hs.und⟩ hx
end
end Go.GL
/- A small logic over the walk's 'Code.wp': drawn regions in which more than one operation may come up; division; bytes to a string. -/
namespace Go.GL
open Go.RowKit
section any
variable {C : Ctx} {n : Nat} {ops : Array Oper} {Q : Post} {HF : Heap} {fuel : Nat} {listed : Array Bool} {e : Env} {H : Heap}
/-- Number i comes up. -/
def LLateOp (C : Ctx) (n : Nat) (ops : Array Oper) (Q : Post) (HF : Heap) (fuel : Nat) (listed : Array Bool) (e : Env) (H : Heap) (i : Nat) : Prop :=
 ∀ w0 L0 a w L, (∀ b, L0 b ≤ L b) → Agree w0 L0 HF w → (∀ p ∈ HF, p.1 < w.heap.size) → RelE n a e w L → RelH C w L H →
  wpOp C.P ops (lift C n w L (keys H) Q) i (fun a' w' => Agree w0 L0 HF w' ∧ wpAnyH C.P .any ops (lift C n w L (keys H) Q) (Agree w0 L0 HF) fuel (listed.setIfInBounds i true) a' w') a w
theorem LLate.all {is : List Nat} (hr : Region.ready .any ops listed = is) (hne : is ≠ []) (h : ∀ i ∈ is, LLateOp C n ops Q HF fuel listed e H i) : LLate C n ops Q HF (fuel + 1) listed e H := fun w0 L0 a w L hL hA hsz hE hH =>
 wpAnyH_all hr hne fun j hj => h j hj w0 L0 a w L hL hA hsz hE hH
theorem LLateOp.step {i : Nat} {dst : Option Nat} {op : Op} {ty : TypeId} {pos : String} {aft : Array Edge} {g : Option (Nat × Bool)} {H1 F : Heap} (hi : ops[i]? = some ⟨dst, op, ty, pos, aft, g⟩) (hg : g = none ∨ ∃ j b d, g = some (j, b) ∧ (ops[j]?).bind (·.dst) = some d ∧ e.s d = .atom (.bool b)) (hd : dstOk n dst)
  (p : H.Perm (H1 ++ F)) (hHF : HSub HF F)
  (h : LStep C ⟨dst, op, ty, pos, aft, g⟩ e H1 (fun lv H' => LLate C n ops Q HF fuel (listed.setIfInBounds i true) (e.put dst lv) (H' ++ F)) (fun ch H' => ∀ e', e'.ds = e.ds → Q (.panic ch) e' (H' ++ F))) :
  LLateOp C n ops Q HF fuel listed e H i := fun w0 L0 a w L hL hA hsz hE hH => by
 have hH' := hH.perm p
 have hn : (keys H1 ++ keys F).Nodup := by simpa [keys] using hH'.nodup
 have hdis : ∀ q ∈ HF, q.1 ∉ keys H1 := fun q hq hm => (List.nodup_append.1 hn).2.2 _ hm _ (List.mem_map_of_mem (hHF.mem q hq)) rfl
 have hw : Region.wanted ⟨dst, op, ty, pos, aft, g⟩ (yielded ops a.tmps) = true := by
  rcases hg with rfl | ⟨j, b, d, rfl, hj, hb⟩
  ·simp [Region.wanted]
  ·simp [Region.wanted, yielded_env hE hj hb]
 unfold wpOp
 rw [hi]
 simp only
 rw [if_pos hw]
 refine .inl (step_wp (H := H1) h hd hE hH'.left (fun lv H' L' w' a' h1 h2 h3 h4 => ?_) (fun ch H' L' w' h1 h2 h3 => ?_))
 ·have hfr := hH'.frame h1 h2
  have hag : Agree w0 L0 HF w' := ⟨fun q hq => (h1.block q.1 (hsz q hq) (hdis q hq)).trans (hA.1 q hq), fun b i hi => (h1.ext.live b i (Nat.lt_of_lt_of_le hi (hL b))).trans (hA.2 b i hi)⟩
  exact ⟨hag, wpAnyH_mono (fun _ _ _ => lift_trans (hfr.2.perm p.symm)) _ _ _ _ (h4 w0 L0 a' w' L' (fun b => Nat.le_trans (hL b) (h1.ext.mono b)) hag (fun q hq => Nat.lt_of_lt_of_le (hsz q hq) h1.ext.size) h3 hfr.1)⟩
 ·have hfr := hH'.frame h1 h2
  exact ⟨e, H' ++ F, L', hfr.2.perm p.symm, hfr.1, hE.ds, h3 e rfl⟩
theorem LLate.one {i : Nat} (hr : Region.ready .any ops listed = [i]) (h : LLateOp C n ops Q HF fuel listed e H i) : LLate C n ops Q HF (fuel + 1) listed e H :=
 LLate.all hr (by simp) fun j hj => by
  obtain rfl := List.mem_singleton.1 hj
  exact h
theorem LLate.two {i j : Nat} (hr : Region.ready .any ops listed = [i, j]) (h : LLateOp C n ops Q HF fuel listed e H i) (h' : LLateOp C n ops Q HF fuel listed e H j) : LLate C n ops Q HF (fuel + 1) listed e H :=
 LLate.all hr (by simp) fun k hk => by
  rcases List.mem_cons.1 hk with rfl | hk
  ·exact h
  ·obtain rfl := List.mem_singleton.1 hk
   exact h'
/-- The same, where nothing is held. -/
theorem LLateOp.whole {i : Nat} {dst : Option Nat} {op : Op} {ty : TypeId} {pos : String} {aft : Array Edge} {g : Option (Nat × Bool)} (hi : ops[i]? = some ⟨dst, op, ty, pos, aft, g⟩) (hg : g = none ∨ ∃ j b d, g = some (j, b) ∧ (ops[j]?).bind (·.dst) = some d ∧ e.s d = .atom (.bool b)) (hd : dstOk n dst)
  (h : LStep C ⟨dst, op, ty, pos, aft, g⟩ e H (fun lv H' => LLate C n ops Q [] fuel (listed.setIfInBounds i true) (e.put dst lv) H') (fun ch H' => ∀ e', e'.ds = e.ds → Q (.panic ch) e' H')) :
  LLateOp C n ops Q [] fuel listed e H i := LLateOp.step (H1 := H) (F := []) hi hg hd (by simp) (HSub.nil _) (by simpa using h)
end any
section pure
variable {C : Ctx} {e : Env} {H : Heap} {dst : Option Nat} {ty : TypeId} {pos : String} {aft : Array Edge} {g : Option (Nat × Bool)} {xT yT : TypeId} {x y : Operand} {k : IntKind} {a b : Int}
theorem Pure.rem (hx : e.ev x = int .i64 a) (hy : e.ev y = int .i64 b) (hb : 0 < b) (ha : 0 ≤ a) : Pure C ⟨dst, .binOp .rem xT x y yT, ty, pos, aft, g⟩ e H (int .i64 (a % b)) :=
 .of_any fun _ _ _ h' => ⟨_, rep_atom, run_int (atom_of h' hx) (atom_of h' hy) (by simp) (by simp) (s := Op.intDiv .rem .i64 a b) (by simp only [binOp, ne_eq, not_true_eq_false, if_false]) (fun w => by
  have h1 : a.tmod b = a % b := Int.tmod_eq_emod_of_nonneg ha
  rw [Op.intDiv, if_neg (by omega)]
  simp only [h1]
  rfl)⟩
theorem Pure.bytesStr {s d el : TypeId} [hs : TSlice C.P s el 1] [he : TKind C.P el .u8] [hd : TStr C.P d] {l : List UInt8} (hx : elems (e.ev x) = some (l.map fun b => int .u8 b.toNat)) (hne : l ≠ []) :
  Pure C ⟨dst, .convert s d x, ty, pos, aft, g⟩ e H (str l) := fun ρ w L h _ => by
 obtain ⟨a, cap, hv, hcap, hr⟩ := (h x).elems hx
 obtain ⟨b, off, k', rfl, hrr⟩ := hr (by simpa using hne)
 refine ⟨_, rep_atom, fun w' ha => ?_⟩
 have h0 : execOp ρ ⟨dst, .convert s d x, ty, pos, aft, g⟩ = (do Pure.pure (.value (← convert s d (ρ x)))) := rfl
 have hlen : (l.map fun b => int .u8 b.toNat).length = l.length := by simp
 have := run_convert_bytes_back (P := C.P) w' s d el ⟨b, off, none⟩ cap l hs.und he.und hd.und (fun j hj => by
  obtain ⟨h1, h2⟩ := hrr.get (i := j) (e := int .u8 l[j].toNat) (by simp [hj])
  simp only [LV.cells, RepC, List.length_singleton] at h1 h2
  obtain ⟨h3, ⟨v, h4, h5⟩, _⟩ := h2
  simp only [Rep] at h5
  subst h5
  subst h1
  rw [Nat.mul_one] at h3 h4
  rw [add_mk]
  rw [ha.2 b _ h3]
  exact h4)
 rw [h0, hv, hlen]
 simp only [Sem.run_bind, this, Result.andThen_ok, Sem.run_pure]
end pure
end Go.GL
namespace Go.GL
open Go.RowKit
theorem LAny.tk (i : Nat) {C : Ctx} {n : Nat} {ops : Array Oper} {Q : Post} {HF : Heap} {fuel : Nat} {listed : Array Bool} {e : Env} {H : Heap} {dst : Option Nat} {op : Op} {ty : TypeId} {pos : String} {aft : Array Edge} {lv : LV}
  (hi : ops[i]? = some ⟨dst, op, ty, pos, aft, none⟩) (hd : dstOk n dst) (hp : Pure C ⟨dst, op, ty, pos, aft, none⟩ e HF lv) (k : LAny C n ops Q HF fuel (listed.setIfInBounds i true) (e.put dst lv) H) (hs : Region.noSelect ops = true := by kernel_rfl) (hf : Region.free .any ops listed i = true := by kernel_rfl) (hr : (Region.ready .any ops listed).contains i = true := by kernel_rfl)
  (hHF : HSub HF H := by first | exact HSub.nil _ | exact HSub.refl _ | exact HSub.drop (HSub.refl _) | exact HSub.pick Pick.here (HSub.nil _) | exact HSub.pick (Pick.there Pick.here) (HSub.nil _) | exact HSub.pick (Pick.there (Pick.there Pick.here)) (HSub.nil _) | exact HSub.pick Pick.here (HSub.pick Pick.here (HSub.nil _)) | exact ⟨_, List.Perm.refl _⟩) : LAny C n ops Q HF (fuel + 1) listed e H := LAny.take hHF hi hs hf hr hd hp k
theorem LAny.tkW (i : Nat) {C : Ctx} {n : Nat} {ops : Array Oper} {Q : Post} {HF : Heap} {fuel : Nat} {listed : Array Bool} {e : Env} {H : Heap} {j d : Nat} {b : Bool} {dst : Option Nat} {op : Op} {ty : TypeId} {pos : String} {aft : Array Edge} {lv : LV}
  (hi : ops[i]? = some ⟨dst, op, ty, pos, aft, some (j, b)⟩) (hj : (ops[j]?).bind (·.dst) = some d) (hb : e.s d = .atom (.bool b)) (hd : dstOk n dst) (hp : Pure C ⟨dst, op, ty, pos, aft, some (j, b)⟩ e HF lv) (k : LAny C n ops Q HF fuel (listed.setIfInBounds i true) (e.put dst lv) H) (hs : Region.noSelect ops = true := by kernel_rfl) (hf : Region.free .any ops listed i = true := by kernel_rfl) (hr : (Region.ready .any ops listed).contains i = true := by kernel_rfl)
  (hHF : HSub HF H := by first | exact HSub.nil _ | exact HSub.refl _ | exact HSub.drop (HSub.refl _) | exact HSub.pick Pick.here (HSub.nil _) | exact HSub.pick (Pick.there Pick.here) (HSub.nil _) | exact HSub.pick (Pick.there (Pick.there Pick.here)) (HSub.nil _) | exact HSub.pick Pick.here (HSub.pick Pick.here (HSub.nil _)) | exact ⟨_, List.Perm.refl _⟩) : LAny C n ops Q HF (fuel + 1) listed e H := LAny.takeWant hHF hi hj hb hs hf hr hd hp k
theorem LLate.o {C : Ctx} {n : Nat} {ops : Array Oper} {Q : Post} {HF : Heap} {fuel : Nat} {listed : Array Bool} {e : Env} {H : Heap} (i : Nat) (h : LLateOp C n ops Q HF fuel listed e H i) (hr : Region.ready .any ops listed = [i] := by kernel_rfl) : LLate C n ops Q HF (fuel + 1) listed e H := LLate.one hr h
end Go.GL
namespace Go.Proofs.YtdakelgkjdaijaaGreatDoor
open Go.GL Go.RowKit Go.Stele
set_option maxRecDepth 100000
set_option maxHeartbeats 4000000
attribute [local irreducible] LOps LCode LStep LCalls Go.GL.Pure QThen QBlock RetPost
instance : TIface Tryz.prog 72 := .of (by kernel_rfl)
section
variable {B0 : Nat} {w0 : World}
end
end Go.Proofs.YtdakelgkjdaijaaGreatDoor
namespace Go.GL
open Go.RowKit
section
variable {C : Ctx} {e : Env} {H : Heap} {dst : Option Nat} {ty : TypeId} {pos : String} {aft : Array Edge} {g : Option (Nat × Bool)} {K : LV → Heap → Prop} {X : List PanicEntry → Heap → Prop} {x y : Operand}
/-- append onto a list under construction whose part of the heap is H1; A is the rest. -/
theorem S.accF {sT xT el s bytes : Nat} [ht : TSlice C.P sT el s] [hr : TRow C.P el s bytes] {e2 s2 : Nat} [hx2 : TSlice C.P xT e2 s2] {v : LV} {es ms : List LV} {H1 F A : Heap}
  (hp : H.Perm (H1 ++ A)) (hx : e.ev x = v) (ha : Acc s v es H1 F) (hy : GL.elems (e.ev y) = some ms) (hs : ∀ v ∈ ms, v.cells.length = s) (hok : (ms.flatMap LV.cells).all cellOk = true) (hroom : (es.length + ms.length) * bytes ≤ 140737488355328)
  (hk : ∀ v' H', Acc s v' (es ++ ms) H' F → K v' (A ++ H')) : LStep C ⟨dst, .call { callee := .builtin .append, args := #[x, y], argTypes := #[sT, xT] }, ty, pos, aft, g⟩ e H K X := by
 refine LStep.conseq (K := fun lv H' => ∃ H2, H' = H2 ++ A ∧ Acc s lv (es ++ ms) H2 F) (LStep.frame hp (S.acc hx ha hy hs hok hroom fun v' H' h => ⟨H', rfl, h⟩)) ?_
 rintro lv H' ⟨H2, rfl, h⟩
 exact ⟨lv, A ++ H2, LV.Sub.refl _, ⟨[], by simpa using List.perm_append_comm⟩, hk _ _ h⟩
theorem S.acc1 {sT xT el s bytes : Nat} [ht : TSlice C.P sT el s] [hr : TRow C.P el s bytes] {e2 s2 : Nat} [hx2 : TSlice C.P xT e2 s2] {v : LV} {es ms : List LV} {H1 F : Heap} {q : Nat × LObj}
  (hx : e.ev x = v) (ha : Acc s v es H1 F) (hy : GL.elems (e.ev y) = some ms) (hs : ∀ v ∈ ms, v.cells.length = s) (hok : (ms.flatMap LV.cells).all cellOk = true) (hroom : (es.length + ms.length) * bytes ≤ 140737488355328)
  (hk : ∀ v' H', Acc s v' (es ++ ms) H' F → K v' (q :: H')) : LStep C ⟨dst, .call { callee := .builtin .append, args := #[x, y], argTypes := #[sT, xT] }, ty, pos, aft, g⟩ e (q :: H1) K X :=
 S.accF (A := [q]) ((List.perm_append_singleton _ _).symm) hx ha hy hs hok hroom hk
end
end Go.GL
namespace Go.Proofs.YtdakelgkjdaijaaGreatDoor
open Go.GL Go.RowKit Go.Stele
set_option maxRecDepth 100000
set_option maxHeartbeats 4000000
attribute [local irreducible] LOps LCode LStep LCalls Go.GL.Pure QThen QBlock RetPost LQ LAny LLate LLateOp
theorem map_get {A : Type} (f : A → LV) (l : List A) (i : Nat) (h : i < l.length) : (l.map f)[((i : Nat) : Int).toNat]? = some (f l[i]) := by
 rw [Int.toNat_natCast, List.getElem?_map, List.getElem?_eq_getElem h]
 rfl
section
variable {B0 : Nat} {w0 : World}
end
end Go.Proofs.YtdakelgkjdaijaaGreatDoor
namespace Go.GL
open Go.RowKit
def noCells : Obj → Bool
 | .cells _ _ _ => false
 | _ => true
theorem shape_none {w : World} {b : Nat} {o : Obj} (h : w.heap[b]? = some o) (ho : noCells o = true) : w.shape? b = none := by
 simp only [World.shape?, h]
 cases o <;> simp_all [noCells]
section
variable {C : Ctx} {e : Env} {H : Heap} {dst : Option Nat} {ty : TypeId} {pos : String} {aft : Array Edge} {g : Option (Nat × Bool)} {K : LV → Heap → Prop} {X : List PanicEntry → Heap → Prop} {x y : Operand}
theorem left_newObj {w : World} {L : Live} (hH : RelH C w L []) {o : Obj} (ho : noCells o = true) {v : Value} (hk : K (.atom v) [(w.heap.size, .obj o)]) : Left C w L [] (World.push w o) v K := by
 have := fr_push hH o 0 [(w.heap.size, .obj o)] (fun p hp => by
  simp only [List.mem_singleton] at hp
  subst hp
  exact ⟨rfl, by simp [Live.upd], heap_push_self, shape_none heap_push_self ho⟩) (by simp)
 exact ⟨_, _, _, this.1, this.2, rep_atom, hk⟩
/-- The block of an object that is kept turns; draws may have come between. -/
theorem left_obj {w w' : World} {L : Live} {b : Nat} {o o' : Obj} (hH : RelH C w L [(b, .obj o)]) (ho' : noCells o' = true) (h1 : w'.os = w.os) (h2 : w'.tape = w.tape) (h3 : w'.output = w.output)
  (h4 : w'.heap.size = w.heap.size) (h5 : ∀ c, c ≠ b → w'.heap[c]? = w.heap[c]?) (h6 : w'.heap[b]? = some o') {v : Value} {lv : LV} (hv : ∀ L, Rep w' L lv v) (hk : K lv [(b, .obj o')]) : Left C w L [(b, .obj o)] w' v K := by
 obtain ⟨hb0, hbs, hl, hx1, hx2⟩ := hH.objs _ (List.mem_singleton.2 rfl)
 simp only at hb0 hbs hl hx1 hx2
 have hx : Ext w L w' L := by
  refine ⟨by rw [h4]; exact Nat.le_refl _, fun c hc => ?_, fun c i hi => ?_, fun _ => Nat.le_refl _⟩
  ·by_cases he : c = b
   ·subst he
    rw [hx2]
    exact shape_none h6 ho'
   ·exact shape_of_heap (h5 c he)
  ·by_cases he : c = b
   ·subst he; rw [hl] at hi; omega
   ·exact cell_of_heap (h5 c he) i
 refine ⟨lv, [(b, .obj o')], L, ⟨h1, h2, h3, hx, fun c hc hn => h5 c (by simpa using hn), fun _ _ _ => rfl, fun p hp => .inl (by simp only [List.mem_singleton] at hp; subst hp; simp)⟩,
  ⟨?_, hH.lbase, by rw [h4]; exact hH.b0, by rw [h4]; exact hH.wf, by simp, fun p hp => ?_⟩, hv L, hk⟩
 ·exact hH.base.trans ⟨h1, h2, h3, by rw [h4]; exact Nat.le_refl _, fun c hc => h5 c (by omega)⟩
 ·simp only [List.mem_singleton] at hp
  subst hp
  exact ⟨hb0, by rw [h4]; exact hbs, hl, h6, shape_none h6 ho'⟩
theorem S.makeMap {t : TypeId} (hk : ∀ b, K (.atom (.map (some b))) ((b, .obj (.map #[] 0)) :: H)) : LStep C ⟨dst, .makeMap t none, ty, pos, aft, g⟩ e H K X := by
 refine LStep.at0 fun ρ w L _ hH => ?_
 have h3 : execOp ρ ⟨dst, .makeMap t none, ty, pos, aft, g⟩ = (do Pure.pure (.value (← Instr.makeMap t none))) := rfl
 have h4 : (Instr.makeMap t none).run C.P w = .ok (.map (some w.heap.size)) (World.push w (.map #[] 0)) := rfl
 rw [h3, Sem.run_bind, h4]
 exact left_newObj hH rfl (hk _)
def setW (w : World) (b : Nat) (o : Obj) : World := { w with heap := w.heap.setIfInBounds b o }
theorem setW_other {w : World} {b c : Nat} {o : Obj} (h : c ≠ b) : (setW w b o).heap[c]? = w.heap[c]? := by
 simp only [setW, Array.getElem?_setIfInBounds]
 rw [if_neg (Ne.symm h)]
theorem setW_self {w : World} {b : Nat} {o : Obj} (h : b < w.heap.size) : (setW w b o).heap[b]? = some o := by
 simp only [setW, Array.getElem?_setIfInBounds]
 simp [h]
theorem run_setObj {P : Program} {w : World} {b : Nat} {o o' : Obj} (h : w.heap[b]? = some o) (ho : noCells o = true) : (setObj b o').run P w = .ok () (setW w b o') := by
 simp only [setObj, Sem.run, h]
 cases o <;> first | rfl | (simp [noCells] at ho)
theorem findNow_str (k : ByteArray) : ∀ (es : List MapEntry) (i : Nat), (∀ e ∈ es, ∃ s, e.key = .string s ∧ ¬ (k == s) = true) → Instr.findNow .string (.string k) es i = some none
 | [], _, _ => rfl
 | e :: es, i, h => by
  obtain ⟨s, hs, hne⟩ := h e List.mem_cons_self
  have hne' : (k == s) = false := by simpa using hne
  simp only [Instr.findNow, hs, Instr.sameNow, hne']
  exact findNow_str k es (i + 1) (fun e he => h e (List.mem_cons_of_mem _ he))
/-- A new key in a map whose keys are strings. -/
theorem S.insert {t kt el : TypeId} (ht : C.P.underlying t = some (.map kt el)) (hkt : C.P.underlying kt = some .string) {b clock : Nat} {es : Array MapEntry} {F : Heap} {m z : Operand} {k : ByteArray} {v : Value} (hm : e.ev m = .atom (.map (some b))) (hx : e.ev x = .atom (.string k)) (hz : e.ev z = .atom v)
  (hp : Pick (b, .obj (.map es clock)) H F) (hnew : ∀ e ∈ es.toList, ∃ s, e.key = .string s ∧ ¬ (k == s) = true) (hk : K (.atom undef) ((b, .obj (.map (es.push { key := .string k, val := v, born := clock }) (clock + 1))) :: F)) : LStep C ⟨dst, .insert t m x z, ty, pos, aft, g⟩ e H K X := by
 refine LStep.at1 hp fun ρ w L h hH => ?_
 obtain ⟨hb0, hbs, hl, hx1, hx2⟩ := hH.objs _ (List.mem_singleton.2 rfl)
 simp only at hb0 hbs hl hx1 hx2
 have h3 : execOp ρ ⟨dst, .insert t m x z, ty, pos, aft, g⟩ = (do Instr.mapUpdate t (ρ m) (ρ x) (ρ z); Pure.pure .skip) := rfl
 have hf : (Instr.findKey kt (.string k) es.toList).run C.P w = .ok none w := by
  simp only [Instr.findKey, Sem.run_bind, run_underlying' hkt, Result.andThen_ok, findNow_str k es.toList 0 hnew, Sem.run_pure]
 have hc : (Instr.checkKey false 10000 kt (.string k)).run C.P w = .ok () w := by
  have hck : Instr.checkKey false 10000 kt (.string k) = Instr.checkKey false (9999 + 1) kt (.string k) := rfl
  rw [hck, Instr.checkKey]
  simp only [Sem.run_bind, run_underlying' hkt, Result.andThen_ok, Sem.run_pure]
 have hg : (getObj b).run C.P w = .ok (.map es clock) w := by simp only [getObj, Sem.run, hx1]
 rw [h3, atom_of h hm, atom_of h hx, atom_of h hz]
 simp only [Instr.mapUpdate, Sem.run_bind, run_underlying' ht, Result.andThen_ok, hg, hc, hf]
 have hs : (setObj b (.map (es.push { key := .string k, val := v, born := clock }) (clock + 1))).run C.P w = .ok () (setW w b (.map (es.push { key := .string k, val := v, born := clock }) (clock + 1))) := run_setObj hx1 rfl
 rw [hs]
 exact left_obj (w' := setW w b (.map (es.push { key := .string k, val := v, born := clock }) (clock + 1))) hH rfl rfl rfl rfl (by simp [setW]) (fun c hc => setW_other hc) (setW_self hbs) (fun _ => rep_atom) hk
/-- A late operation that only computes or reads. -/
theorem LLateOp.pureH {n : Nat} {ops : Array Oper} {Q : Post} {HF : Heap} {fuel : Nat} {listed : Array Bool} {i : Nat} {op : Op} {lv : LV} (hi : ops[i]? = some ⟨dst, op, ty, pos, aft, none⟩) (hd : dstOk n dst)
  (hp : Pure C ⟨dst, op, ty, pos, aft, none⟩ e H lv) (k : LLate C n ops Q HF fuel (listed.setIfInBounds i true) (e.put dst lv) H) : LLateOp C n ops Q HF fuel listed e H i := fun w0 L0 a w L hL hA hsz hE hH => by
 obtain ⟨v, hv, hrun⟩ := hp a.eval w L hE.ev hH
 unfold wpOp
 rw [hi]
 simp only
 rw [if_pos (by simp [Region.wanted])]
 refine .inl ?_
 unfold Oper.wp
 rw [hrun w (Agree.refl _ _ _)]
 exact ⟨hA, k w0 L0 _ w L hL hA hsz (hE.put hd hv) hH⟩
end
end Go.GL
namespace Go.GL
open Go.RowKit
section
variable {C : Ctx} {n : Nat} {Q : Post} {e : Env} {H : Heap} {k : Env → Heap → Prop}
/-- The same, where the heap is met in whatever order, and code follows. -/
theorem LCode.midC {A : Type} {c c2 : Code} {Q2 : Post} (l : A → List (Nat × LV)) (H1 : A → Heap) (F : A → Prop) (hx : LCode C n c (QThen (fun e' H' => ∃ a, F a ∧ AllSlots e' (l a) ∧ HSub (H1 a) H' ∧ e'.ds = e.ds) Q) e H) (hy : ∀ a, F a → ∀ j : Env, j.ds = e.ds → LCode C n c2 Q2 (Env.slots j (l a)) (H1 a)) : LCode C n c (QThen (fun e H => LCode C n c2 Q2 e H) Q) e H := by
 refine LCode.conseq hx ?_
 rintro ex e' H' hq
 cases ex with
 | normal =>
  obtain ⟨a, hF, h1, h2, h3⟩ := hq
  have := hy a hF e' h3
  rw [Env.slots_self h1.mem] at this
  exact LCode.weak h2 this
 | exit id => exact hq
 | goto id => exact hq
 | ret => exact hq
 | panic ch => exact hq
 | outgrown => exact hq
end
section
variable {C : Ctx} {e : Env} {H : Heap} {dst : Option Nat} {ty : TypeId} {pos : String} {aft : Array Edge} {g : Option (Nat × Bool)} {x : Operand}
/-- A type assertion with two results that holds. -/
theorem Pure.assertOk {t xT : TypeId} [ht : TConcrete C.P t] {vs : List Value} (hx : e.ev x = .atom (.iface t (.agg vs.toArray))) : Pure C ⟨dst, .typeAssert x xT t true, ty, pos, aft, g⟩ e H (.tuple [.agg (vs.map .atom), bool true]) :=
 .of_any fun ρ w L h => ⟨.tuple #[.agg vs.toArray, .bool true], by
  simp only [Rep]
  exact ⟨[.agg vs.toArray, .bool true], rfl, by simp only [RepL, Rep]; exact ⟨_, _, rfl, ⟨vs, rfl, repL_atoms vs⟩, _, _, rfl, rfl, rfl⟩⟩, fun w' => by
  obtain ⟨d, hd, hm⟩ := ht.out
  have h3 : execOp ρ ⟨dst, .typeAssert x xT t true, ty, pos, aft, g⟩ = (do Pure.pure (.value (← Instr.typeAssert (ρ x) xT t true))) := rfl
  rw [h3, atom_of h hx]
  simp only [Instr.typeAssert, Sem.run_bind, run_underlying' hd, Result.andThen_ok]
  cases d <;> simp_all⟩
end
theorem strs_len (l : List (List UInt8)) : ∀ v ∈ l.map str, v.cells.length = 1 := fun v hv => by
 obtain ⟨x, _, rfl⟩ := List.mem_map.1 hv
 rfl
end Go.GL
/- A small logic over the walk's 'Code.wp': structs of a string and an int, compared. -/
namespace Go.GL
open Go.RowKit
section
variable {C : Ctx} {e : Env} {H : Heap} {dst : Option Nat} {ty : TypeId} {pos : String} {aft : Array Edge} {g : Option (Nat × Bool)} {xT yT : TypeId} {x y : Operand}
end
end Go.GL
namespace Go.Stele
open Go.Lib
theorem pu_append (M : Nat) : ∀ (l r : List UInt8) (acc u : Nat), parseUintM M acc l = .ok u → parseUintM M acc (l ++ r) = parseUintM M u r
 | [], r, acc, u, h => by
  rw [parseUintM] at h
  cases h
  rfl
 | c :: l, r, acc, u, h => by
  rw [parseUintM] at h
  rw [List.cons_append, parseUintM]
  split at h
  ·rename_i hc
   rw [if_pos hc]
   split at h
   ·cases h
   ·rename_i h1
    rw [if_neg h1]
    split at h
    ·cases h
    ·rename_i h2
     rw [if_neg h2]
     exact pu_append M l r _ u h
  ·cases h
theorem digit_toNat {d : Nat} (h : d < 10) : (UInt8.ofNat (48 + d)).toNat = 48 + d := by
 rw [UInt8.toNat_ofNat']
 omega
theorem pu_dec (M : Nat) (hM : M ≤ 4294967295) (u : Nat) (hu : u ≤ M) : parseUintM M 0 (decDigits u) = .ok u := by
 induction u using Nat.strongRecOn with
 | _ u ih =>
  have one : ∀ a d, d < 10 → a * 10 + d ≤ M → parseUintM M a [UInt8.ofNat (48 + d)] = .ok (a * 10 + d) := fun a d hd ha => by
   rw [parseUintM, digit_toNat hd, if_pos (by omega), if_neg (by omega), if_neg (by omega), parseUintM]
   congr 1
   omega
  rw [decDigits]
  split
  ·have := one 0 u (by assumption) (by omega)
   simpa using this
  ·rw [pu_append M _ _ 0 (u / 10) (ih (u / 10) (by omega) (by omega)), one _ _ (by omega) (by omega)]
   congr 1
   omega
theorem decDigits_ne (u : Nat) : decDigits u ≠ [] := by
 rw [decDigits]
 split <;> simp
theorem pu32_dec (u : Nat) (hu : u < 4294967296) : parseUintB 32 (decDigits u) = .ok u := by
 rw [parseUintB, if_neg (decDigits_ne u)]
 exact pu_dec _ (by decide) u (by omega)
theorem nDigits_le : ∀ (k u : Nat), u < 10 ^ (k + 1) → nDigits u ≤ k + 1
 | 0, u, h => by rw [nDigits_small (by simpa using h)]; omega
 | k + 1, u, h => by
  by_cases hu : u < 10
  ·rw [nDigits_small hu]; omega
  ·rw [nDigits_big hu]
   have := nDigits_le k (u / 10) (by rw [Nat.pow_succ] at h; omega)
   omega
theorem dec_len {u : Nat} (hu : u < 4294967296) : (decDigits u).length ≤ 10 := by
 rw [decDigits_length]
 exact nDigits_le 9 u (by omega)
theorem pu32_lt {l : List UInt8} {u : Nat} (h : parseUintB 32 l = .ok u) : u < 4294967296 := by
 have key : ∀ (l : List UInt8) (acc u : Nat), acc ≤ 4294967295 → parseUintM 4294967295 acc l = .ok u → u ≤ 4294967295 := by
  intro l
  induction l with
  | nil => intro acc u ha h; rw [parseUintM] at h; cases h; exact ha
  | cons c l ih =>
   intro acc u ha h
   rw [parseUintM] at h
   split at h
   ·split at h
    ·cases h
    ·split at h
     ·cases h
     ·exact ih _ _ (by omega) h
   ·cases h
 rw [parseUintB] at h
 split at h
 ·cases h
 ·have := key _ _ _ (by omega) h
  omega
end Go.Stele
namespace Go.GL
open Go.RowKit
section
variable {C : Ctx} {e : Env} {H : Heap} {x y : Operand} {dst : Option Nat} {ty : TypeId} {pos : String} {aft : Array Edge} {g : Option (Nat × Bool)} {K : LV → Heap → Prop} {X : List PanicEntry → Heap → Prop}
def byts (l : List UInt8) : List LV := l.map fun b => int .u8 b.toNat
theorem byts_len (l : List UInt8) : (byts l).length = l.length := List.length_map _
theorem byts_app (l m : List UInt8) : byts (l ++ m) = byts l ++ byts m := List.map_append
theorem byts_size (l : List UInt8) : ∀ v ∈ byts l, v.cells.length = 1 := by
 intro v hv
 obtain ⟨b, _, rfl⟩ := List.mem_map.1 hv
 rfl
theorem byts_flat (l : List UInt8) : (byts l).flatMap LV.cells = byts l := by
 induction l with
 | nil => rfl
 | cons b l ih =>
  have h : byts (b :: l) = int .u8 b.toNat :: byts l := rfl
  rw [h, List.flatMap_cons, ih]
  rfl
def bytV (l : List UInt8) : List Value := l.map fun b => .int .u8 b.toNat
theorem bytV_flat (l : List UInt8) : ∀ v ∈ bytV l, (∀ cs, v ≠ Value.agg cs) ∧ (∀ cs, v ≠ Value.tuple cs) := by
 intro v hv
 obtain ⟨b, _, rfl⟩ := List.mem_map.1 hv
 exact And.intro (fun _ h => by cases h) (fun _ h => by cases h)
theorem first_str {P : Program} (l : List UInt8) (w' : World) : (Builtin.firstCells 1 l.length (.string ⟨l.toArray⟩)).run P w' = .ok (bytV l).toArray w' := by
 have := Go.Lib.run_firstCells_string (P := P) w' 1 ⟨l.toArray⟩
 rw [size_mk] at this
 rw [this]
 rfl
/-! ### A buffer whose cells are all known: it can be frozen -/
theorem repL_atoms_eq {w : World} {L : Live} : ∀ {zs xs : List Value}, RepL w L (zs.map .atom) xs → xs = zs
 | [], _, h => by simpa only [List.map_nil, RepL] using h
 | z :: zs, xs, h => by
  simp only [List.map_cons, RepL] at h
  obtain ⟨y, ys, rfl, h1, h2⟩ := h
  simp only [Rep] at h1
  rw [h1, repL_atoms_eq h2]
/-- A row of bytes that holds l, at the slice v. -/
inductive BRow (el : TypeId) : Value → List UInt8 → Heap → Prop
 | nil : BRow el (.slice none 0 0) [] []
 | row {b : Nat} {l : List UInt8} {xs : List Value} (h0 : l ≠ []) (h1 : l.length ≤ xs.length) (h2 : xs.take l.length = bytV l) : BRow el (.slice (some ⟨b, 0, none⟩) l.length xs.length) l [(b, .cells el (xs.map .atom))]
theorem bytV_len (l : List UInt8) : (bytV l).length = l.length := List.length_map _
theorem bytV_app (l m : List UInt8) : bytV (l ++ m) = bytV l ++ bytV m := List.map_append
theorem left_newB {w : World} {L : Live} (hH : RelH C w L []) {el : TypeId} {l : List UInt8} {xs : List Value} (h0 : l ≠ []) (h1 : l.length ≤ xs.length) (h2 : xs.take l.length = bytV l) (hk : ∀ v' H', BRow el v' l H' → K (.atom v') H') :
  Left C w L [] (World.push w (.cells xs.toArray el)) (.slice (some ⟨w.heap.size, 0, none⟩) l.length xs.length) K := by
 have hx := ext_push hH.wf (.cells xs.toArray el) 0
 have := fr_push hH (.cells xs.toArray el) 0 [(w.heap.size, .cells el (xs.map .atom))] (fun p hp => by
  simp only [List.mem_singleton] at hp
  subst hp
  exact ⟨rfl, by simp [Live.upd], xs, heap_push_self, repL_atoms xs⟩) (by simp)
 exact ⟨.atom _, _, _, this.1, this.2, rep_atom, hk _ _ (BRow.row h0 h1 h2)⟩
theorem LStep.appB {sT xT el bytes : Nat} [ht : TSlice C.P sT el 1] [hr : TRow C.P el 1 bytes] [hx2 : TStr C.P xT] {v : Value} {l m : List UInt8}
  (hx : e.ev x = .atom v) (ha : BRow el v l H) (hy : e.ev y = str m) (hroom : (l.length + m.length) * bytes ≤ 140737488355328)
  (hk : ∀ v' H', BRow el v' (l ++ m) H' → K (.atom v') H') : LStep C ⟨dst, .call { callee := .builtin .append, args := #[x, y], argTypes := #[sT, xT] }, ty, pos, aft, g⟩ e H K X := by
 have h0 : ∀ (cs : Array Bool) (args : Array Value), builtin .append #[sT, xT] ty cs args = (do Pure.pure (.value (← Builtin.append_ #[sT, xT] ty args))) := fun _ _ => rfl
 have hlen : ∀ w' : World, (Builtin.lenOf (.string ⟨m.toArray⟩)).run C.P w' = .ok m.length w' := fun w' => by simp [Builtin.lenOf, size_mk]
 cases ha with
 | nil =>
  by_cases hne : m = []
  ·subst hne
   intro ρ w L h hH
   have hr : (Builtin.append_ #[sT, xT] ty #[.slice none 0 0, .string ⟨#[]⟩]).run C.P w = .ok (.slice none 0 0) w := by
    obtain ⟨i, hi, his⟩ := ht.size
    simp [Builtin.append_, run_underlying' ht.und, run_underlying' hx2.und, sizeOf, typeInfo, hi, Builtin.lenOf, Builtin.firstCells, show (ByteArray.mk #[]).size = 0 from rfl, show ((ByteArray.mk #[]).extract 0 0).data = #[] from rfl]
   rw [execOp_builtin', h0]
   simp only [List.map_toArray, List.map_cons, List.map_nil, Sem.run_bind, atom_of h hx, atom_of h hy, hr, Result.andThen_ok, Sem.run_pure]
   exact ⟨_, [], L, Fr.refl _ _ _, hH, rep_atom, hk _ _ BRow.nil⟩
  ·intro ρ w L h hH
   have hpos : 0 < m.length := List.length_pos_iff.2 hne
   obtain ⟨cap', rest, r1, r2, r3⟩ := run_append_new (ty := ty) (P := C.P) (w := w) (sT := sT) (xT := xT) (a := none) (len := 0) (cap := 0) (n := m.length) (xv := .string ⟨m.toArray⟩) (old := []) (new := bytV m) (.inl hx2.und) hlen (fun w' _ => first_str m w')
    (fun w' _ => by simp [Builtin.firstCells]) (by simpa using hroom) (by omega)
   rw [execOp_builtin', h0]
   simp only [List.map_toArray, List.map_cons, List.map_nil, Sem.run_bind, atom_of h hx, atom_of h hy, r3, Result.andThen_ok, Sem.run_pure, List.nil_append, Nat.zero_add]
   have hcl : (bytV m ++ rest).length = cap' := by rw [List.length_append, r2, bytV_len]; omega
   obtain ⟨lv, H', L', g1, g2, g3, g4⟩ := left_newB (K := K) (el := el) (l := m) (xs := bytV m ++ rest) hH.drew hne (by rw [hcl]; omega) (by rw [List.take_left' (bytV_len m)]) (fun v' H' h' => hk v' H' h')
   rw [hcl] at g3
   exact ⟨lv, H', L', g1.of_drew, g2, g3, g4⟩
 | row hne h1 h2 =>
  rename_i b xs
  intro ρ w L h hH
  obtain ⟨hb0, hbs, hl, zs, hz1, hz2⟩ := hH.objs _ (List.mem_singleton.2 rfl)
  have hz := repL_atoms_eq hz2
  subst hz
  simp only at hb0 hbs hl hz1
  rw [execOp_builtin', h0]
  simp only [List.map_toArray, List.map_cons, List.map_nil, Sem.run_bind, atom_of h hx, atom_of h hy]
  by_cases hc : l.length + m.length ≤ zs.length
  ·have hrun := run_append_in (ty := ty) (P := C.P) (w := w) (sT := sT) (xT := xT) (s := 1) (a := some ⟨b, 0, none⟩) (len := l.length) (cap := zs.length) (n := m.length) (xv := .string ⟨m.toArray⟩) (new := bytV m) (.inl hx2.und) hlen (fun w' _ => first_str m w') hc
   obtain ⟨w', r1, r2, r3, r4, r5, r6, r7⟩ := storeCells_run (P := C.P) (b := b) (off := 0 + l.length * 1) (t := el) (fr := (0, 0)) (bytV m) 0 w zs hz1 (by rw [bytV_len]; omega) (fun j _ _ => by simp) (bytV_flat m)
   rw [hrun]
   simp only [add_mk, r1, Result.andThen_ok, Sem.run_pure]
   have hx' : (zs.take (0 + l.length * 1 + 0) ++ bytV m ++ zs.drop (0 + l.length * 1 + 0 + (bytV m).length)).length = zs.length := by
    simp only [List.length_append, List.length_take, List.length_drop, bytV_len]
    omega
   have hfin := left_write (v := .slice (some ⟨b, 0, none⟩) (l.length + m.length) zs.length) (lv := .atom (.slice (some ⟨b, 0, none⟩) (l.length + m.length) zs.length)) (K := K) (cs' := (zs.take (0 + l.length * 1 + 0) ++ bytV m ++ zs.drop (0 + l.length * 1 + 0 + (bytV m).length)).map .atom) hH r2 r3 r4 r5 r6 r7 (by rw [hx', List.length_map]) (repL_atoms _) rep_atom (by
    have hb : BRow el (.slice (some ⟨b, 0, none⟩) (l ++ m).length (zs.take (0 + l.length * 1 + 0) ++ bytV m ++ zs.drop (0 + l.length * 1 + 0 + (bytV m).length)).length) (l ++ m) _ := BRow.row (b := b) (el := el) (by simp [hne]) (by rw [hx', List.length_append]; exact hc) (by
     have he : 0 + l.length * 1 + 0 = l.length := by omega
     rw [he, h2, ← bytV_app, List.take_left' (bytV_len _)])
    rw [hx', List.length_append] at hb
    exact hk _ _ hb)
   exact hfin
  ·have hold : ∀ w' : World, w'.heap = w.heap → (Builtin.firstCells 1 l.length (.slice (some ⟨b, 0, none⟩) l.length zs.length)).run C.P w' = .ok (bytV l).toArray w' := fun w' hw => by
    have := loadCellsFrom_run (P := C.P) (w := w') (b := b) (off := 0) l.length 0 #[] (bytV l) (bytV_len l) (fun j x' hj => by
     have hj' : zs[j]? = some x' := by
      rw [← h2, List.getElem?_take] at hj
      split at hj
      ·exact hj
      ·cases hj
     simp [World.cell?, hw, hz1, hj'])
    simp only [Builtin.firstCells, loadCells, Nat.mul_one, this]
    simp
   obtain ⟨cap', rest, r1, r2, r3⟩ := run_append_new (ty := ty) (P := C.P) (w := w) (sT := sT) (xT := xT) (a := some ⟨b, 0, none⟩) (len := l.length) (cap := zs.length) (n := m.length) (xv := .string ⟨m.toArray⟩) (old := bytV l) (new := bytV m) (.inl hx2.und) hlen (fun w' _ => first_str m w') hold hroom (by omega)
   rw [r3]
   simp only [Result.andThen_ok, Sem.run_pure]
   have hcl : (bytV l ++ bytV m ++ rest).length = cap' := by rw [List.length_append, List.length_append, r2, bytV_len, bytV_len]; omega
   have hH0 : RelH C w L [] := hH.sub (List.nil_sublist _)
   obtain ⟨lv, H', L', g1, g2, g3, g4⟩ := left_newB (K := K) (el := el) (l := l ++ m) (xs := bytV l ++ bytV m ++ rest) hH0.drew (by simp [hne]) (by rw [hcl, List.length_append]; omega) (by rw [← bytV_app, List.take_left' (bytV_len _)]) (fun v' H' h' => hk v' H' h')
   rw [hcl, List.length_append] at g3
   exact ⟨lv, H', L', g1.of_drew.wide (by simp), g2, g3, g4⟩
theorem S.appB1 {sT xT el bytes : Nat} [ht : TSlice C.P sT el 1] [hr : TRow C.P el 1 bytes] [hx2 : TStr C.P xT] {v : Value} {l m : List UInt8} {H1 : Heap} {q : Nat × LObj}
  (hx : e.ev x = .atom v) (ha : BRow el v l H1) (hy : e.ev y = str m) (hroom : (l.length + m.length) * bytes ≤ 140737488355328)
  (hk : ∀ v' H', BRow el v' (l ++ m) H' → K (.atom v') (q :: H')) : LStep C ⟨dst, .call { callee := .builtin .append, args := #[x, y], argTypes := #[sT, xT] }, ty, pos, aft, g⟩ e (q :: H1) K X := by
 refine LStep.conseq (K := fun lv H' => ∃ v' H2, lv = .atom v' ∧ H' = H2 ++ [q] ∧ BRow el v' (l ++ m) H2) (LStep.frame (List.perm_append_singleton _ _).symm (LStep.appB hx ha hy hroom fun v' H' h => ⟨v', H', rfl, rfl, h⟩)) ?_
 rintro lv H' ⟨v', H2, rfl, rfl, h⟩
 exact ⟨_, [q] ++ H2, LV.Sub.refl _, ⟨[], by simp⟩, hk _ _ h⟩
end
end Go.GL
namespace Go.Proofs.YtdakelgkjdaijaaGreatDoor
open Go.GL Go.RowKit Go.Stele
set_option maxRecDepth 100000
set_option maxHeartbeats 4000000
/-- A builder at b that holds l. -/
def BH (b : Nat) (l : List UInt8) (H : Heap) : Prop := ∃ p v Hv, (p = LV.atom (.pointer none) ∨ p = ptr b 0) ∧ BRow 5 v l Hv ∧ H = (b, .cells 70 [p, .atom v]) :: Hv
theorem lays240 : Lays.n240 Tryz.prog Tryz.lays156_ren := { Tryz.lays156 with }
section
variable {B0 : Nat} {w0 : World}
theorem copyCheck_spec (b : Nat) (p v : LV) (hp : p = LV.atom (.pointer none) ∨ p = ptr b 0) : LCalls (KC B0 w0) 61 [ptr b 0] [(b, .cells 70 [p, v])]
  (fun r H' => (∃ x, r = .ret (.atom x)) ∧ H' = [(b, .cells 70 [ptr b 0, v])]) := fun xs w L hv hH => by
 simp only [RepL] at hv
 obtain ⟨y, ys, rfl, hy, rfl⟩ := hv
 simp only [Rep] at hy
 subst hy
 obtain ⟨hb0, hbs, hl, zs, hx1, hx2⟩ := hH.objs _ (List.mem_singleton.2 rfl)
 simp only at hb0 hbs hl hx1 hx2
 have hz := hx2
 simp only [RepL] at hz
 obtain ⟨a, as1, rfl, ha, c, as2, rfl, hc, rfl⟩ := hz
 rcases hp with rfl | rfl
 ·simp only [Rep] at ha
  subst ha
  have h0 : w.cell? ⟨b, 0, none⟩ = some (.pointer none) := by simp [World.cell?, hx1]
  have hsh : w.shape? b = some (70, 2) := by simp [World.shape?, hx1]
  have hfz : w.frozen? ⟨b, 0, none⟩ = false := Go.Lib.frozen_of_heap hx1 0
  refine (Any.Builder_copyCheck_fresh (P := Tryz.prog) lays240 Tryz.Builder_Extra_156.toX72 b w h0 hsh hfz).mono fun e w' he => ?_
  obtain ⟨rfl, rfl⟩ := he
  refine left_write (w := w) (w' := w.setCell ⟨b, 0, none⟩ (.pointer (some ⟨b, 0, none⟩))) (xs' := [.pointer (some ⟨b, 0, none⟩), c]) (cs' := [ptr b 0, v]) (lv := .atom (.tuple #[])) hH rfl rfl rfl (by simp [World.setCell]) (fun d hd => by simp [World.setCell, Array.getElem?_modify, Ne.symm hd]) (by rw [setCell_heap (xs := [.pointer none, c]) hx1]; rfl) rfl ?_ rep_atom ⟨⟨_, rfl⟩, rfl⟩
  simp only [RepL] at hx2 ⊢
  exact ⟨_, _, rfl, rep_atom, c, [], rfl, hc, rfl⟩
 ·simp only [Rep] at ha
  subst ha
  have h0 : w.cell? ⟨b, 0, none⟩ = some (.pointer (some ⟨b, 0, none⟩)) := by simp [World.cell?, hx1]
  refine (Any.Builder_copyCheck_used (P := Tryz.prog) lays240 Tryz.Builder_Extra_156.toX72 b w h0).mono fun e w' he => ?_
  obtain ⟨rfl, rfl⟩ := he
  exact ⟨.atom (.tuple #[]), _, L, Fr.refl _ _ _, hH, rep_atom, ⟨_, rfl⟩, rfl⟩
attribute [local irreducible] LOps LCode LStep LCalls Go.GL.Pure QThen QBlock RetPost LQ LAny LLate LLateOp
theorem writeString_spec (b : Nat) (l m : List UInt8) (H : Heap) (hB : BH b l H) (hlen : l.length + m.length ≤ 10000000000) : LCalls (KC B0 w0) 25 [ptr b 0, str m] H (fun r H' => (∃ x, r = .ret x) ∧ BH b (l ++ m) H') := by
 obtain ⟨p, v, Hv, hp, hacc, rfl⟩ := hB
 refine LCalls.intro Tryz.func25 rfl (n := 19) rfl rfl rfl ?_
 repeat first | refine LOps.nil ?_ | refine LCode.seq ?_ | refine LCode.region ?_ | refine QThen.normal ?_ | refine LOps.pure (Pure.as (lv := .atom _) rfl) rfl ?_ | refine LOps.pure (Pure.mv (lv := .atom _) rfl) rfl ?_
 refine LOps.step (S.callH (H1 := [(b, _)]) (F := Hv) [_] rfl (List.Perm.refl _) (copyCheck_spec b p (.atom v) hp) (fun x H' h => ?_) (fun ch H' h => ?_)) rfl
 ·obtain ⟨⟨x', hx'⟩, rfl⟩ := h
  cases hx'
  repeat first | refine LOps.nil ?_ | refine LCode.seq ?_ | refine LCode.region ?_ | refine QThen.normal ?_ | refine LOps.pure (Pure.mv (lv := .atom _) rfl) rfl ?_ | refine LOps.pure (Pure.nilCheckH rfl) rfl ?_ | refine LOps.pure (Pure.fieldH rfl) rfl ?_ | refine LOps.pure (Pure.loadH (c := .atom _) rfl (List.Mem.head _) rfl) rfl ?_
  refine LOps.step (S.appB1 (q := (b, .cells 70 [ptr b 0, .atom v])) (l := l) (m := m) rfl hacc rfl (by omega) fun v' H' hacc' => ?_) rfl
  repeat first | refine LOps.pure (Pure.nilCheckH rfl) rfl ?_ | refine LOps.pure (Pure.fieldH rfl) rfl ?_
  have hacc2 := hacc'
  generalize l ++ m = lm at hacc' hacc2 ⊢
  cases hacc' with
  | nil =>
   repeat first | refine LOps.nil ?_ | refine LCode.seq ?_ | refine LCode.region ?_ | refine LCode.ret ?_ | refine QThen.normal ?_ | refine LOps.pure (Pure.as (lv := .atom _) rfl) rfl ?_ | refine LOps.pure (Pure.mv (lv := .atom _) rfl) rfl ?_ | refine LOps.pure (Pure.slen rfl) rfl ?_ | refine LOps.step (S.store (cs' := [_, _]) rfl Pick.here rfl rfl rfl rfl rfl ?_) rfl
   exact RetPost.ret rfl (AllRes.cons (ResIs.tmp (v := .atom _) rfl (LV.Sub.refl _)) (AllRes.cons (ResIs.tmp (v := .atom _) rfl (LV.Sub.refl _)) AllRes.nil)) (HSub.refl _) ⟨⟨_, rfl⟩, ptr b 0, _, _, .inr rfl, hacc2, rfl⟩
  | row h0 h1 h2 =>
   repeat first | refine LOps.nil ?_ | refine LCode.seq ?_ | refine LCode.region ?_ | refine LCode.ret ?_ | refine QThen.normal ?_ | refine LOps.pure (Pure.as (lv := .atom _) rfl) rfl ?_ | refine LOps.pure (Pure.mv (lv := .atom _) rfl) rfl ?_ | refine LOps.pure (Pure.slen rfl) rfl ?_ | refine LOps.step (S.store (cs' := [_, _]) rfl Pick.here rfl rfl rfl rfl rfl ?_) rfl
   exact RetPost.ret rfl (AllRes.cons (ResIs.tmp (v := .atom _) rfl (LV.Sub.refl _)) (AllRes.cons (ResIs.tmp (v := .atom _) rfl (LV.Sub.refl _)) AllRes.nil)) (HSub.refl _) ⟨⟨_, rfl⟩, ptr b 0, _, _, .inr rfl, hacc2, rfl⟩
 ·obtain ⟨⟨x', hx'⟩, _⟩ := h
  cases hx'
end
end Go.Proofs.YtdakelgkjdaijaaGreatDoor
namespace Go.Proofs.YtdakelgkjdaijaaGreatDoor
open Go Go.Shelf Go.RowKit
section
variable {P : Program} {ρ : Ren}
set_option maxHeartbeats 4000000 in
set_option maxRecDepth 100000 in
theorem builder_string_row (L : Lays.n169 P ρ) (X : Builder.Extra P ρ) (b g : Nat) (p : Value) (l : List UInt8) (cur : Array Value) (w : World) (hbk : w.heap[b]? = some (.cells #[p, .slice (some ⟨g, 0, none⟩) l.length cur.size] (ρ.t 72) (0, 0)))
  (hg : w.heap[g]? = some (.cells cur (ρ.t 5) (0, 0))) (h0 : l ≠ []) (hn : l.length ≤ cur.size) (hbig : l.length ≤ 9223372036854775807) (hcell : ∀ (j : Nat) (x : UInt8), l[j]? = some x → cur[j]? = some (.int .u8 x.toNat)) :
  Calls P (ρ.f 169) #[.pointer (some ⟨b, 0, none⟩)] w fun e w' => e = .returned (.string ⟨l.toArray⟩) ∧ w' = w.drew.freeze ⟨g, 0, none⟩ l.length := by
 have hl0 : l.length ≠ 0 := by simpa using h0
 have c1 : w.drew.cell? ⟨b, 1, none⟩ = some (.slice (some ⟨g, 0, none⟩) l.length cur.size) := by
  have : w.drew.heap[b]? = some (.cells #[p, .slice (some ⟨g, 0, none⟩) l.length cur.size] (ρ.t 72) (0, 0)) := hbk
  rw [Lib.cell_of_heap this]; rfl
 have hSD : (Builtin.unsafeSliceData_ #[(ρ.t 37)] (ρ.t 127) #[.slice (some ⟨g, 0, none⟩) l.length cur.size]).run P w.drew = .ok (.pointer (some ⟨g, 0, none⟩)) w.drew :=
  Lib.run_unsafeSliceData_row _ _ _ _ _ _ (by omega)
 have hUS : (Builtin.unsafeString_ #[(ρ.t 127), (ρ.t 3)] (ρ.t 9) #[.pointer (some ⟨g, 0, none⟩), .int .i64 l.length]).run P w.drew = .ok (.string ⟨l.toArray⟩) (w.drew.freeze ⟨g, 0, none⟩ l.length) := by
  refine Lib.run_unsafeString_row w.drew (ρ.t 127) (ρ.t 3) (ρ.t 9) (ρ.t 5) L.t127 X.cellsByte g cur.size (by have hg' : w.drew.heap[g]? = some (.cells cur (ρ.t 5) (0, 0)) := hg; simp [World.shape?, hg']) l h0 hn hbig ?_
  intro j x hx
  have hg' : w.drew.heap[g]? = some (.cells cur (ρ.t 5) (0, 0)) := hg
  have := hcell j x hx
  rw [Go.GL.add_mk]
  simp [World.cell?, hg', this]
 have mixed := L.mixed
 have t72 := L.t72; have a72 := L.a72; have z72 := L.z72; have v72 := L.v72; have u72 := run_underlying L.t72
 have t70 := L.t70; have a70 := L.a70; have z70 := L.z70; have v70 := L.v70; have u70 := run_underlying L.t70
 have t37 := L.t37; have a37 := L.a37; have z37 := L.z37; have v37 := L.v37; have u37 := run_underlying L.t37
 have t127 := L.t127; have a127 := L.a127; have z127 := L.z127; have v127 := L.v127; have u127 := run_underlying L.t127
 have t3 := L.t3; have a3 := L.a3; have z3 := L.z3; have v3 := L.v3; have u3 := run_underlying L.t3
 have t9 := L.t9; have a9 := L.a9; have z9 := L.z9; have v9 := L.v9; have u9 := run_underlying L.t9
 have t5 := X.t5; have a5 := X.a5; have z5 := X.z5; have v5 := X.v5; have u5 := run_underlying X.t5
 go_enter L.f169, Body.n169_ntmps ρ
 go_wp2
 go_region_o
 all_goals (go_wp2; go_ret; exact ⟨rfl, rfl⟩)
end
open Go.GL Go.Stele
theorem lays169 : Lays.n169 Tryz.prog Tryz.lays156_ren := { Tryz.lays156 with }
section
variable {B0 : Nat} {w0 : World}
theorem fr_freeze {C : Ctx} {w : World} {L : Live} {H : Heap} (hH : RelH C w L H) {g n : Nat} (hm : g ∈ keys H) (hb : C.B0 ≤ g) : Fr (keys H) w L (w.drew.freeze ⟨g, 0, none⟩ n) L [] ∧ RelH C (w.drew.freeze ⟨g, 0, none⟩ n) L [] := by
 have hbl : ∀ c, c ≠ g → (w.drew.freeze ⟨g, 0, none⟩ n).heap[c]? = w.heap[c]? := fun c hc => by
  unfold World.freeze
  split
  ·rfl
  ·simp only [Array.getElem?_modify]
   rw [if_neg (Ne.symm hc)]
   rfl
 have hsz : (w.drew.freeze ⟨g, 0, none⟩ n).heap.size = w.heap.size := by
  unfold World.freeze
  split
  ·rfl
  ·simp
 have hsh : ∀ c, (w.drew.freeze ⟨g, 0, none⟩ n).shape? c = w.shape? c := fun c => by
  by_cases hc : c = g
  ·subst hc
   unfold World.freeze
   split
   ·rfl
   ·simp only [World.shape?, Array.getElem?_modify, if_true]
    show (match Option.map _ w.heap[c]? with | some (Obj.cells c e _) => some (e, c.size) | _ => none) = _
    cases w.heap[c]? with
    | none => rfl
    | some o => cases o <;> rfl
  ·exact shape_of_heap (hbl c hc)
 have hce : ∀ c i, (w.drew.freeze ⟨g, 0, none⟩ n).cell? ⟨c, i, none⟩ = w.cell? ⟨c, i, none⟩ := fun c i => by
  by_cases hc : c = g
  ·subst hc
   unfold World.freeze
   split
   ·rfl
   ·simp only [World.cell?, Array.getElem?_modify, if_true]
    show (match Option.map _ w.heap[c]? with | some (Obj.cells c e _) => _ | _ => none) = _
    cases w.heap[c]? with
    | none => rfl
    | some o => cases o <;> rfl
  ·exact cell_of_heap (hbl c hc) i
 have hos : (w.drew.freeze ⟨g, 0, none⟩ n).os = w.os ∧ (w.drew.freeze ⟨g, 0, none⟩ n).tape = w.tape ∧ (w.drew.freeze ⟨g, 0, none⟩ n).output = w.output := by
  unfold World.freeze
  split <;> exact ⟨rfl, rfl, rfl⟩
 exact ⟨⟨hos.1, hos.2.1, hos.2.2, ⟨Nat.le_of_eq hsz.symm, fun c _ => hsh c, fun c i _ => hce c i, fun _ => Nat.le_refl _⟩, fun c _ hc => hbl c (fun h => hc (h ▸ hm)), fun _ _ _ => rfl, by simp⟩,
  ⟨hH.base.trans ⟨hos.1, hos.2.1, hos.2.2, Nat.le_of_eq hsz.symm, fun c hc => hbl c (by omega)⟩, hH.lbase, by rw [hsz]; exact hH.b0, fun c hc => hH.wf c (by rw [hsz] at hc; exact hc), List.nodup_nil, by simp⟩⟩
theorem string_spec (b : Nat) (l : List UInt8) (H : Heap) (hB : BH b l H) (hlen : l.length ≤ 10000000000) : LCalls (KC B0 w0) 27 [ptr b 0] H (Ret (str l)) := fun xs w L hv hH => by
 obtain ⟨p, v, Hv, hp, hacc, rfl⟩ := hB
 simp only [RepL] at hv
 obtain ⟨y, ys, rfl, hy, rfl⟩ := hv
 simp only [Rep] at hy
 subst hy
 obtain ⟨hb0, hbs, hl, zs, hx1, hx2⟩ := hH.objs _ (List.mem_cons_self ..)
 simp only at hb0 hbs hl hx1 hx2
 simp only [RepL] at hx2
 obtain ⟨a, as1, rfl, ha, c, as2, rfl, hc, rfl⟩ := hx2
 simp only [Rep] at hc
 subst hc
 cases hacc with
 | nil =>
  refine (Any.Builder_String_nil (P := Tryz.prog) lays169 Tryz.Builder_Extra_156 w.heap.size b a w hx1).mono fun e w' he => ?_
  obtain ⟨rfl, hb⟩ := he
  obtain ⟨h1, h2⟩ := fr_below (hH.sub (List.nil_sublist _)) hb
  exact ⟨str [], [], L, h1.wide (by simp), h2, rep_atom, rfl, rfl⟩
 | row h0 h1 h2 =>
  rename_i g xs
  obtain ⟨hg0, hgs, hgl, ws, hw1, hw2⟩ := hH.objs _ (List.mem_cons_of_mem _ (List.mem_singleton.2 rfl))
  simp only at hg0 hgs hgl hw1
  have := repL_atoms_eq hw2
  subst this
  have hcell : ∀ (j : Nat) (x : UInt8), l[j]? = some x → ws.toArray[j]? = some (Value.int .u8 x.toNat) := fun j x hx => by
   have hj : (bytV l)[j]? = some (Value.int .u8 x.toNat) := by simp [bytV, hx]
   rw [← h2, List.getElem?_take] at hj
   split at hj
   ·simpa using hj
   ·cases hj
  refine (builder_string_row (P := Tryz.prog) lays169 Tryz.Builder_Extra_156 b g a l ws.toArray w hx1 hw1 h0 (by simpa using h1) (by omega) hcell).mono fun e w' he => ?_
  obtain ⟨rfl, rfl⟩ := he
  obtain ⟨f1, f2⟩ := fr_freeze (n := l.length) hH (g := g) (by simp) hg0
  exact ⟨str l, [], L, f1, f2, rep_atom, rfl, rfl⟩
end
end Go.Proofs.YtdakelgkjdaijaaGreatDoor
namespace Go.GL
open Go.RowKit
/-- The keys of the map are the strings of p, and each is mapped to true. -/
structure SetMap (es : Array MapEntry) (p : List UInt8 → Bool) : Prop where
 keys : ∀ e ∈ es.toList, ∃ s : List UInt8, e.key = .string ⟨s.toArray⟩ ∧ e.val = .bool true ∧ p s = true
 all : ∀ s, p s = true → ∃ e ∈ es.toList, e.key = .string ⟨s.toArray⟩
theorem SetMap.nil : SetMap #[] fun _ => false := ⟨fun e he => by simp at he, fun s h => by cases h⟩
theorem bytes_beq (a b : List UInt8) : ((⟨a.toArray⟩ : ByteArray) == ⟨b.toArray⟩) = decide (a = b) := by
 show (a.toArray == b.toArray) = _
 rw [Bool.eq_iff_iff]
 simp
theorem findNow_in (k : List UInt8) : ∀ (es : List MapEntry) (i : Nat), (∀ e ∈ es, ∃ s : List UInt8, e.key = .string ⟨s.toArray⟩ ∧ e.val = .bool true) → (∃ e ∈ es, e.key = .string ⟨k.toArray⟩) →
  ∃ (j : Nat) (e : MapEntry), Instr.findNow .string (.string ⟨k.toArray⟩) es i = some (some (i + j, .bool true)) ∧ es[j]? = some e ∧ e.key = .string ⟨k.toArray⟩
 | [], _, _, h => by obtain ⟨e, he, _⟩ := h; cases he
 | e :: es, i, h, hk => by
  obtain ⟨s, h1, h2⟩ := h e List.mem_cons_self
  by_cases hs : k = s
  ·refine ⟨0, e, ?_, rfl, by rw [h1, hs]⟩
   have hb : ((⟨k.toArray⟩ : ByteArray) == ⟨s.toArray⟩) = true := by rw [bytes_beq, decide_eq_true hs]
   simp only [Instr.findNow, h1, Instr.sameNow, hb, h2, Nat.add_zero]
  ·have hb : ((⟨k.toArray⟩ : ByteArray) == ⟨s.toArray⟩) = false := by rw [bytes_beq, decide_eq_false hs]
   obtain ⟨e', he', hk'⟩ := hk
   have hin : e' ∈ es := by
    rcases List.mem_cons.1 he' with rfl | h3
    ·rw [h1] at hk'
     have : s = k := by simpa using hk'
     exact absurd this.symm hs
    ·exact h3
   obtain ⟨j, e2, g1, g2, g3⟩ := findNow_in k es (i + 1) (fun x hx => h x (List.mem_cons_of_mem _ hx)) ⟨e', hin, hk'⟩
   refine ⟨j + 1, e2, ?_, g2, g3⟩
   simp only [Instr.findNow, h1, Instr.sameNow, hb]
   rw [g1]
   congr 3
   omega
section
variable {C : Ctx} {e : Env} {H : Heap} {dst : Option Nat} {ty : TypeId} {pos : String} {aft : Array Edge} {g : Option (Nat × Bool)} {K : LV → Heap → Prop} {X : List PanicEntry → Heap → Prop} {x y : Operand}
theorem run_checkStr {w : World} {kt : TypeId} (hkt : C.P.underlying kt = some .string) (b : Bool) (k : ByteArray) : (Instr.checkKey b 10000 kt (.string k)).run C.P w = .ok () w := by
 have hck : Instr.checkKey b 10000 kt (.string k) = Instr.checkKey b (9999 + 1) kt (.string k) := rfl
 rw [hck, Instr.checkKey]
 simp only [Sem.run_bind, run_underlying' hkt, Result.andThen_ok, Sem.run_pure]
/-- A string joins the set. -/
theorem S.setAdd {t kt el : TypeId} (ht : C.P.underlying t = some (.map kt el)) (hkt : C.P.underlying kt = some .string) {b clock : Nat} {es : Array MapEntry} {p : List UInt8 → Bool} {F : Heap} {m z : Operand} {k : List UInt8} (hm : e.ev m = .atom (.map (some b))) (hx : e.ev x = str k) (hz : e.ev z = bool true)
  (hp : Pick (b, .obj (.map es clock)) H F) (hs : SetMap es p) (hk : ∀ es' clock', SetMap es' (fun s => p s || decide (s = k)) → K (.atom undef) ((b, .obj (.map es' clock')) :: F)) : LStep C ⟨dst, .insert t m x z, ty, pos, aft, g⟩ e H K X := by
 by_cases hin : p k = true
 ·refine LStep.at1 hp fun ρ w L h hH => ?_
  obtain ⟨hb0, hbs, hl, hx1, hx2⟩ := hH.objs _ (List.mem_singleton.2 rfl)
  simp only at hb0 hbs hl hx1 hx2
  have h3 : execOp ρ ⟨dst, .insert t m x z, ty, pos, aft, g⟩ = (do Instr.mapUpdate t (ρ m) (ρ x) (ρ z); Pure.pure .skip) := rfl
  obtain ⟨j, e2, g1, g2, g3⟩ := findNow_in k es.toList 0 (fun e he => by obtain ⟨s, h1, h2, _⟩ := hs.keys e he; exact ⟨s, h1, h2⟩) (hs.all k hin)
  have hf : (Instr.findKey kt (.string ⟨k.toArray⟩) es.toList).run C.P w = .ok (some (0 + j, .bool true)) w := by
   simp only [Instr.findKey, Sem.run_bind, run_underlying' hkt, Result.andThen_ok, g1, Sem.run_pure]
  have hg : (getObj b).run C.P w = .ok (.map es clock) w := by simp only [getObj, Sem.run, hx1]
  have hg2 : es[j]? = some e2 := by simpa using g2
  have hst : (Instr.keyThatStays (((es[0 + j]?).map (·.key)).getD (.string ⟨k.toArray⟩)) (.string ⟨k.toArray⟩)).run C.P w = .ok (.string ⟨k.toArray⟩) w := by
   rw [Nat.zero_add, hg2]
   simp only [Option.map_some, Option.getD_some, g3]
   unfold Instr.keyThatStays
   rw [if_pos (by simp only [Instr.sameBits]; rw [bytes_beq]; simp)]
   rfl
  rw [h3, atom_of h hm, atom_of h hx, atom_of h hz]
  simp only [Instr.mapUpdate, Sem.run_bind, run_underlying' ht, Result.andThen_ok, hg, run_checkStr hkt, hf, hst]
  have hset : ∀ o', (setObj b o').run C.P w = .ok () (setW w b o') := fun o' => run_setObj hx1 rfl
  rw [hset]
  refine left_obj (w' := setW w b _) hH rfl rfl rfl rfl (by simp [setW]) (fun c hc => setW_other hc) (setW_self hbs) (fun _ => rep_atom) (hk _ clock ⟨fun e' he' => ?_, fun s hs' => ?_⟩)
  ·rw [Nat.zero_add] at he'
   obtain ⟨i, hi, rfl⟩ := List.mem_iff_getElem.1 he'
   simp only [Array.length_toList, Array.size_modify] at hi
   rw [Array.getElem_toList, Array.getElem_modify]
   split
   ·exact ⟨k, rfl, rfl, by simp⟩
   ·obtain ⟨s, h1, h2, h4⟩ := hs.keys es[i] (by simp)
    exact ⟨s, h1, h2, by simp [h4]⟩
  ·have hps : p s = true := by
    rcases Bool.or_eq_true_iff.1 hs' with h4 | h4
    ·exact h4
    ·rw [of_decide_eq_true h4]; exact hin
   obtain ⟨e3, h5, h6⟩ := hs.all s hps
   obtain ⟨i, hi, rfl⟩ := List.mem_iff_getElem.1 h5
   simp only [Array.length_toList] at hi
   rw [Array.getElem_toList] at h6
   rw [Nat.zero_add]
   by_cases hij : j = i
   ·refine ⟨{ es[i] with key := .string ⟨k.toArray⟩, val := .bool true }, ?_, ?_⟩
    ·rw [List.mem_iff_getElem]
     refine ⟨i, by simpa using hi, ?_⟩
     rw [Array.getElem_toList, Array.getElem_modify, if_pos hij]
    ·subst hij
     rw [Array.getElem?_eq_getElem hi] at hg2
     obtain rfl := Option.some.inj hg2
     rw [g3] at h6
     exact h6
   ·refine ⟨es[i], ?_, h6⟩
    rw [List.mem_iff_getElem]
    refine ⟨i, by simpa using hi, ?_⟩
    rw [Array.getElem_toList, Array.getElem_modify, if_neg hij]
 ·refine S.insert ht hkt hm hx hz hp (fun e he => ?_) (hk _ _ ⟨fun e' he' => ?_, fun s hs' => ?_⟩)
  ·obtain ⟨s, h1, _, h2⟩ := hs.keys e he
   refine ⟨_, h1, ?_⟩
   rw [bytes_beq]
   intro h3
   rw [of_decide_eq_true h3] at hin
   exact hin h2
  ·rw [Array.toList_push] at he'
   rcases List.mem_append.1 he' with h1 | h1
   ·obtain ⟨s, h2, h3, h4⟩ := hs.keys e' h1
    exact ⟨s, h2, h3, by simp [h4]⟩
   ·obtain rfl := List.mem_singleton.1 h1
    exact ⟨k, rfl, rfl, by simp⟩
  ·rw [Array.toList_push]
   rcases Bool.or_eq_true_iff.1 hs' with h4 | h4
   ·obtain ⟨e, h5, h6⟩ := hs.all s h4
    exact ⟨e, List.mem_append_left _ h5, h6⟩
   ·exact ⟨_, List.mem_append_right _ (List.mem_singleton.2 rfl), by rw [of_decide_eq_true h4]⟩
/-- Whether a string is in the set. -/
theorem Pure.setGet {t kt el : TypeId} (ht : C.P.underlying t = some (.map kt el)) (hkt : C.P.underlying kt = some .string) (hz : ∀ w, (zeroValue el).run C.P w = .ok (.bool false) w) {b clock : Nat} {es : Array MapEntry} {p : List UInt8 → Bool} {k : List UInt8} (hm : e.ev x = .atom (.map (some b))) (hx : e.ev y = str k)
  (hb : (b, .obj (.map es clock)) ∈ H) (hs : SetMap es p) : Pure C ⟨dst, .lookup t x y false, ty, pos, aft, g⟩ e H (bool (p k)) := fun ρ w L h hH => by
 obtain ⟨_, _, _, hx1, _⟩ := hH.objs _ hb
 simp only at hx1
 refine ⟨.bool (p k), rep_atom, fun w' ha => ?_⟩
 have hw : w'.heap[b]? = some (.map es clock) := (ha.1 _ hb).trans hx1
 have h3 : execOp ρ ⟨dst, .lookup t x y false, ty, pos, aft, g⟩ = (do Pure.pure (.value (← Instr.lookup t (ρ x) (ρ y) false))) := rfl
 have hg : (getObj b).run C.P w' = .ok (.map es clock) w' := by simp only [getObj, Sem.run, hw]
 rw [h3, atom_of h hm, atom_of h hx]
 by_cases hin : p k = true
 ·obtain ⟨j, e2, g1, g2, g3⟩ := findNow_in k es.toList 0 (fun e he => by obtain ⟨s, h1, h2, _⟩ := hs.keys e he; exact ⟨s, h1, h2⟩) (hs.all k hin)
  have hf : (Instr.findKey kt (.string ⟨k.toArray⟩) es.toList).run C.P w' = .ok (some (0 + j, .bool true)) w' := by
   simp only [Instr.findKey, Sem.run_bind, run_underlying' hkt, Result.andThen_ok, g1, Sem.run_pure]
  simp only [Instr.lookup, Sem.run_bind, run_underlying' ht, Result.andThen_ok, hg, Sem.run_pure, run_checkStr hkt, hf, hin]
  rfl
 ·have hf : (Instr.findKey kt (.string ⟨k.toArray⟩) es.toList).run C.P w' = .ok none w' := by
   have hmiss := findNow_str ⟨k.toArray⟩ es.toList 0 fun e he => by
    obtain ⟨s, h1, _, h2⟩ := hs.keys e he
    refine ⟨_, h1, ?_⟩
    rw [bytes_beq]
    intro h3
    rw [of_decide_eq_true h3] at hin
    exact hin h2
   simp only [Instr.findKey, Sem.run_bind, run_underlying' hkt, Result.andThen_ok, hmiss, Sem.run_pure]
  have hin' : p k = false := Bool.eq_false_iff.2 hin
  simp only [Instr.lookup, Sem.run_bind, run_underlying' ht, Result.andThen_ok, hg, Sem.run_pure, run_checkStr hkt, hf, hz, hin']
  rfl
end
end Go.GL
namespace Go.GL
open Go.RowKit
section
variable {C : Ctx} {e : Env} {H : Heap} {dst : Option Nat} {ty : TypeId} {pos : String} {aft : Array Edge} {g : Option (Nat × Bool)} {K : LV → Heap → Prop} {X : List PanicEntry → Heap → Prop} {x y : Operand}
/-- A map that is nil holds nothing. -/
theorem Pure.nilGet {t kt el : TypeId} (ht : C.P.underlying t = some (.map kt el)) (hkt : C.P.underlying kt = some .string) (hz : ∀ w, (zeroValue el).run C.P w = .ok (.int .i64 0) w) {k : List UInt8} (hm : e.ev x = .atom (.map none)) (hx : e.ev y = str k) : Pure C ⟨dst, .lookup t x y false, ty, pos, aft, g⟩ e H (int .i64 0) := fun ρ w L h hH => by
 refine ⟨.int .i64 0, rep_atom, fun w' ha => ?_⟩
 have h3 : execOp ρ ⟨dst, .lookup t x y false, ty, pos, aft, g⟩ = (do Pure.pure (.value (← Instr.lookup t (ρ x) (ρ y) false))) := rfl
 rw [h3, atom_of h hm, atom_of h hx]
 have hf : (Instr.findKey kt (.string ⟨k.toArray⟩) []).run C.P w' = .ok none w' := by
  simp only [Instr.findKey, Sem.run_bind, run_underlying' hkt, Result.andThen_ok, Instr.findNow, Sem.run_pure]
 simp only [Instr.lookup, Sem.run_bind, run_underlying' ht, Result.andThen_ok, Sem.run_pure, run_checkStr hkt, hf, hz]
 rfl
end
end Go.GL
namespace Go.GL
open Go.RowKit
section
variable {C : Ctx} {e : Env} {H : Heap} {x y : Operand} {dst : Option Nat} {ty : TypeId} {pos : String} {aft : Array Edge} {g : Option (Nat × Bool)} {K : LV → Heap → Prop} {X : List PanicEntry → Heap → Prop}
theorem LStep.appBL {sT xT el bytes : Nat} [ht : TSlice C.P sT el 1] [hr : TRow C.P el 1 bytes] {e2 : Nat} [hx2 : TSlice C.P xT e2 1] {v : Value} {l m : List UInt8}
  (hx : e.ev x = .atom v) (ha : BRow el v l H) (hy : GL.elems (e.ev y) = some (byts m)) (hm0 : m ≠ []) (hroom : (l.length + m.length) * bytes ≤ 140737488355328)
  (hk : ∀ v' H', BRow el v' (l ++ m) H' → K (.atom v') H') : LStep C ⟨dst, .call { callee := .builtin .append, args := #[x, y], argTypes := #[sT, xT] }, ty, pos, aft, g⟩ e H K X := by
 have h0 : ∀ (cs : Array Bool) (args : Array Value), builtin .append #[sT, xT] ty cs args = (do Pure.pure (.value (← Builtin.append_ #[sT, xT] ty args))) := fun _ _ => rfl
 cases ha with
 | nil =>
  by_cases hne : m = []
  ·subst hne
   exact absurd rfl hm0
  ·intro ρ w L h hH
   have hpos : 0 < m.length := List.length_pos_iff.2 hne
   obtain ⟨ay, cy, xs0, hyv, hyc, hyr, hyl, hyf⟩ := slice_cells (s := 1) (h y) hy (byts_size m)
   rw [byts_flat] at hyr
   have hyx : xs0 = bytV m := repL_atoms_eq (zs := bytV m) (by rw [show (bytV m).map LV.atom = byts m from by simp [bytV, byts, List.map_map, Function.comp_def]]; exact hyr)
   subst hyx
   rw [byts_len] at hyv hyc hyf
   rw [hyv] at hyf
   have hlen : ∀ w' : World, (Builtin.lenOf (.slice ay m.length cy)).run C.P w' = .ok m.length w' := fun w' => by simp [Builtin.lenOf]
   obtain ⟨cap', rest, r1, r2, r3⟩ := run_append_new (ty := ty) (P := C.P) (w := w) (sT := sT) (xT := xT) (a := none) (len := 0) (cap := 0) (n := m.length) (xv := .slice ay m.length cy) (old := []) (new := bytV m) (.inr ⟨_, hx2.und⟩) hlen (fun w' hw => hyf C.P w' hw)
    (fun w' _ => by simp [Builtin.firstCells]) (by simpa using hroom) (by omega)
   rw [execOp_builtin', h0]
   simp only [List.map_toArray, List.map_cons, List.map_nil, Sem.run_bind, atom_of h hx, hyv, r3, Result.andThen_ok, Sem.run_pure, List.nil_append, Nat.zero_add]
   have hcl : (bytV m ++ rest).length = cap' := by rw [List.length_append, r2, bytV_len]; omega
   obtain ⟨lv, H', L', g1, g2, g3, g4⟩ := left_newB (K := K) (el := el) (l := m) (xs := bytV m ++ rest) hH.drew hne (by rw [hcl]; omega) (by rw [List.take_left' (bytV_len m)]) (fun v' H' h' => hk v' H' h')
   rw [hcl] at g3
   exact ⟨lv, H', L', g1.of_drew, g2, g3, g4⟩
 | row hne h1 h2 =>
  rename_i b xs
  intro ρ w L h hH
  obtain ⟨hb0, hbs, hl, zs, hz1, hz2⟩ := hH.objs _ (List.mem_singleton.2 rfl)
  have hz := repL_atoms_eq hz2
  subst hz
  simp only at hb0 hbs hl hz1
  obtain ⟨ay, cy, xs0, hyv, hyc, hyr, hyl, hyf⟩ := slice_cells (s := 1) (h y) hy (byts_size m)
  rw [byts_flat] at hyr
  have hyx : xs0 = bytV m := repL_atoms_eq (zs := bytV m) (by rw [show (bytV m).map LV.atom = byts m from by simp [bytV, byts, List.map_map, Function.comp_def]]; exact hyr)
  subst hyx
  rw [byts_len] at hyv hyc hyf
  rw [hyv] at hyf
  have hlen : ∀ w' : World, (Builtin.lenOf (.slice ay m.length cy)).run C.P w' = .ok m.length w' := fun w' => by simp [Builtin.lenOf]
  rw [execOp_builtin', h0]
  simp only [List.map_toArray, List.map_cons, List.map_nil, Sem.run_bind, atom_of h hx, hyv]
  by_cases hc : l.length + m.length ≤ zs.length
  ·have hrun := run_append_in (ty := ty) (P := C.P) (w := w) (sT := sT) (xT := xT) (s := 1) (a := some ⟨b, 0, none⟩) (len := l.length) (cap := zs.length) (n := m.length) (xv := .slice ay m.length cy) (new := bytV m) (.inr ⟨_, hx2.und⟩) hlen (fun w' hw => hyf C.P w' hw) hc
   obtain ⟨w', r1, r2, r3, r4, r5, r6, r7⟩ := storeCells_run (P := C.P) (b := b) (off := 0 + l.length * 1) (t := el) (fr := (0, 0)) (bytV m) 0 w zs hz1 (by rw [bytV_len]; omega) (fun j _ _ => by simp) (bytV_flat m)
   rw [hrun]
   simp only [add_mk, r1, Result.andThen_ok, Sem.run_pure]
   have hx' : (zs.take (0 + l.length * 1 + 0) ++ bytV m ++ zs.drop (0 + l.length * 1 + 0 + (bytV m).length)).length = zs.length := by
    simp only [List.length_append, List.length_take, List.length_drop, bytV_len]
    omega
   have hfin := left_write (v := .slice (some ⟨b, 0, none⟩) (l.length + m.length) zs.length) (lv := .atom (.slice (some ⟨b, 0, none⟩) (l.length + m.length) zs.length)) (K := K) (cs' := (zs.take (0 + l.length * 1 + 0) ++ bytV m ++ zs.drop (0 + l.length * 1 + 0 + (bytV m).length)).map .atom) hH r2 r3 r4 r5 r6 r7 (by rw [hx', List.length_map]) (repL_atoms _) rep_atom (by
    have hb : BRow el (.slice (some ⟨b, 0, none⟩) (l ++ m).length (zs.take (0 + l.length * 1 + 0) ++ bytV m ++ zs.drop (0 + l.length * 1 + 0 + (bytV m).length)).length) (l ++ m) _ := BRow.row (b := b) (el := el) (by simp [hne]) (by rw [hx', List.length_append]; exact hc) (by
     have he : 0 + l.length * 1 + 0 = l.length := by omega
     rw [he, h2, ← bytV_app, List.take_left' (bytV_len _)])
    rw [hx', List.length_append] at hb
    exact hk _ _ hb)
   exact hfin
  ·have hold : ∀ w' : World, w'.heap = w.heap → (Builtin.firstCells 1 l.length (.slice (some ⟨b, 0, none⟩) l.length zs.length)).run C.P w' = .ok (bytV l).toArray w' := fun w' hw => by
    have := loadCellsFrom_run (P := C.P) (w := w') (b := b) (off := 0) l.length 0 #[] (bytV l) (bytV_len l) (fun j x' hj => by
     have hj' : zs[j]? = some x' := by
      rw [← h2, List.getElem?_take] at hj
      split at hj
      ·exact hj
      ·cases hj
     simp [World.cell?, hw, hz1, hj'])
    simp only [Builtin.firstCells, loadCells, Nat.mul_one, this]
    simp
   obtain ⟨cap', rest, r1, r2, r3⟩ := run_append_new (ty := ty) (P := C.P) (w := w) (sT := sT) (xT := xT) (a := some ⟨b, 0, none⟩) (len := l.length) (cap := zs.length) (n := m.length) (xv := .slice ay m.length cy) (old := bytV l) (new := bytV m) (.inr ⟨_, hx2.und⟩) hlen (fun w' hw => hyf C.P w' hw) hold hroom (by omega)
   rw [r3]
   simp only [Result.andThen_ok, Sem.run_pure]
   have hcl : (bytV l ++ bytV m ++ rest).length = cap' := by rw [List.length_append, List.length_append, r2, bytV_len, bytV_len]; omega
   have hH0 : RelH C w L [] := hH.sub (List.nil_sublist _)
   obtain ⟨lv, H', L', g1, g2, g3, g4⟩ := left_newB (K := K) (el := el) (l := l ++ m) (xs := bytV l ++ bytV m ++ rest) hH0.drew (by simp [hne]) (by rw [hcl, List.length_append]; omega) (by rw [← bytV_app, List.take_left' (bytV_len _)]) (fun v' H' h' => hk v' H' h')
   rw [hcl, List.length_append] at g3
   exact ⟨lv, H', L', g1.of_drew.wide (by simp), g2, g3, g4⟩
theorem S.appBL1 {sT xT el bytes : Nat} [ht : TSlice C.P sT el 1] [hr : TRow C.P el 1 bytes] {e2 : Nat} [hx2 : TSlice C.P xT e2 1] {v : Value} {l m : List UInt8} {H1 : Heap} {q : Nat × LObj}
  (hx : e.ev x = .atom v) (ha : BRow el v l H1) (hy : GL.elems (e.ev y) = some (byts m)) (hm0 : m ≠ []) (hroom : (l.length + m.length) * bytes ≤ 140737488355328)
  (hk : ∀ v' H', BRow el v' (l ++ m) H' → K (.atom v') (q :: H')) : LStep C ⟨dst, .call { callee := .builtin .append, args := #[x, y], argTypes := #[sT, xT] }, ty, pos, aft, g⟩ e (q :: H1) K X := by
 refine LStep.conseq (K := fun lv H' => ∃ v' H2, lv = .atom v' ∧ H' = H2 ++ [q] ∧ BRow el v' (l ++ m) H2) (LStep.frame (List.perm_append_singleton _ _).symm (LStep.appBL hx ha hy hm0 hroom fun v' H' h => ⟨v', H', rfl, rfl, h⟩)) ?_
 rintro lv H' ⟨v', H2, rfl, rfl, h⟩
 exact ⟨_, [q] ++ H2, LV.Sub.refl _, ⟨[], by simp⟩, hk _ _ h⟩
/-- The length of a row of bytes. -/
theorem Pure.blen {t el el2 s : Nat} [TSlice C.P t el2 s] {v : Value} {l : List UInt8} {Hv : Heap} (hx : e.ev x = .atom v) (ha : BRow el v l Hv) : Pure C ⟨dst, .call { callee := .builtin .len, args := #[x], argTypes := #[t] }, ty, pos, aft, g⟩ e H (int .i64 l.length) :=
 .of_any fun ρ _ _ h => ⟨_, rep_atom, fun w' => by
  have hu := run_underlying' (P := C.P) (TSlice.und (t := t)) w'
  rw [execOp_builtin', builtin_len']
  cases ha <;> simp [Builtin.len_, hu, goInt, atom_of h hx]⟩
end
end Go.GL
namespace Go.GL
open Go.RowKit
/-- What a map holds, in the order in which its keys came. -/
abbrev KV := List (List UInt8 × LV)
@[reducible] def strV (k : List UInt8) : Value := .string ⟨k.toArray⟩
def kvs (m : KV) : List (Value × LV) := m.map fun p => (strV p.1, p.2)
def kvGet : KV → List UInt8 → Option LV
 | [], _ => none
 | p :: r, k => if p.1 = k then some p.2 else kvGet r k
def kvPut : KV → List UInt8 → LV → KV
 | [], k, v => [(k, v)]
 | p :: r, k, v => if p.1 = k then (k, v) :: r else p :: kvPut r k v
/-- Where a key is found. -/
theorem kv_find (k : List UInt8) : ∀ (m : KV) (es : List MapEntry) (i : Nat), es.map (·.key) = (kvs m).map (·.1) →
  (kvGet m k = none ∧ (∀ v, kvPut m k v = m ++ [(k, v)]) ∧ Instr.findNow .string (strV k) es i = some none) ∨
  ∃ (j : Nat) (e : MapEntry) (v : LV), Instr.findNow .string (strV k) es i = some (some (i + j, e.val)) ∧ es[j]? = some e ∧ m[j]? = some (k, v) ∧ kvGet m k = some v ∧ ∀ v', kvPut m k v' = m.set j (k, v')
 | [], [], i, _ => .inl ⟨rfl, fun _ => rfl, rfl⟩
 | [], _ :: _, _, h => by cases h
 | _ :: _, [], _, h => by cases h
 | p :: m, e :: es, i, h => by
  have h1 : e.key = strV p.1 := by
   have := (List.cons.inj h).1
   exact this
  have h2 : es.map (·.key) = (kvs m).map (·.1) := (List.cons.inj h).2
  by_cases hs : p.1 = k
  ·right
   have hb : ((⟨k.toArray⟩ : ByteArray) == ⟨p.1.toArray⟩) = true := by rw [bytes_beq, decide_eq_true hs.symm]
   refine ⟨0, e, p.2, ?_, rfl, by rw [← hs]; rfl, by simp only [kvGet, if_pos hs], fun v' => by simp only [kvPut, if_pos hs]; rfl⟩
   simp only [Instr.findNow, h1, Instr.sameNow, hb, Nat.add_zero]
  ·have hb : ((⟨k.toArray⟩ : ByteArray) == ⟨p.1.toArray⟩) = false := by rw [bytes_beq, decide_eq_false (fun h3 => hs h3.symm)]
   rcases kv_find k m es (i + 1) h2 with ⟨g1, g2, g3⟩ | ⟨j, e2, v, g1, g2, g3, g4, g5⟩
   ·left
    refine ⟨by simp only [kvGet, if_neg hs]; exact g1, fun v => by simp only [kvPut, if_neg hs, g2]; rfl, ?_⟩
    simp only [Instr.findNow, h1, Instr.sameNow, hb]
    exact g3
   ·right
    refine ⟨j + 1, e2, v, ?_, g2, g3, by simp only [kvGet, if_neg hs]; exact g4, fun v' => by simp only [kvPut, if_neg hs, g5]; rfl⟩
    simp only [Instr.findNow, h1, Instr.sameNow, hb]
    rw [g1]
    congr 3
    omega
theorem RepL.setAt {w : World} {L : Live} : ∀ {cs : List LV} {xs : List Value}, RepL w L cs xs → ∀ (j : Nat) {c : LV} {x : Value}, Rep w L c x → RepL w L (cs.set j c) (xs.set j x)
 | [], xs, h, j, c, x, hr => by
  simp only [RepL] at h
  subst h
  simp only [List.set_nil, RepL]
 | d :: cs, xs, h, j, c, x, hr => by
  simp only [RepL] at h
  obtain ⟨y, ys, rfl, h1, h2⟩ := h
  cases j with
  | zero =>
   simp only [List.set_cons_zero, RepL]
   exact ⟨x, ys, rfl, hr, h2⟩
  | succ j =>
   simp only [List.set_cons_succ, RepL]
   exact ⟨y, _, rfl, h1, h2.setAt j hr⟩
section
variable {C : Ctx} {e : Env} {H : Heap} {dst : Option Nat} {ty : TypeId} {pos : String} {aft : Array Edge} {g : Option (Nat × Bool)} {K : LV → Heap → Prop} {X : List PanicEntry → Heap → Prop} {x y : Operand}
/-- The block of a map that is kept turns. -/
theorem left_map {w w' : World} {L : Live} {b clock clock' : Nat} {es es' : List (Value × LV)} (hH : RelH C w L [(b, .map es clock)]) (h1 : w'.os = w.os) (h2 : w'.tape = w.tape) (h3 : w'.output = w.output)
  (h4 : w'.heap.size = w.heap.size) (h5 : ∀ c, c ≠ b → w'.heap[c]? = w.heap[c]?) (avs : List MapEntry) (h6 : w'.heap[b]? = some (.map avs.toArray clock')) (h7 : avs.map (·.key) = es'.map (·.1)) (h8 : RepL w L (es'.map (·.2)) (avs.map (·.val)))
  (h9 : ∀ e ∈ avs, e.born < clock') (h10 : (avs.map (·.born)).Nodup) {v : Value} {lv : LV} (hv : ∀ L, Rep w' L lv v) (hk : K lv [(b, .map es' clock')]) : Left C w L [(b, .map es clock)] w' v K := by
 obtain ⟨hb0, hbs, hl, xs, hx1, _⟩ := hH.objs _ (List.mem_singleton.2 rfl)
 simp only at hb0 hbs hl hx1
 have hx : Ext w L w' L := by
  refine ⟨by rw [h4]; exact Nat.le_refl _, fun c hc => ?_, fun c i hi => ?_, fun _ => Nat.le_refl _⟩
  ·by_cases he : c = b
   ·subst he
    rw [shape_none hx1 rfl]
    exact shape_none h6 rfl
   ·exact shape_of_heap (h5 c he)
  ·by_cases he : c = b
   ·subst he; rw [hl] at hi; omega
   ·exact cell_of_heap (h5 c he) i
 refine ⟨lv, [(b, .map es' clock')], L, ⟨h1, h2, h3, hx, fun c hc hn => h5 c (by simpa using hn), fun _ _ _ => rfl, fun p hp => .inl (by simp only [List.mem_singleton] at hp; subst hp; simp)⟩,
  ⟨?_, hH.lbase, by rw [h4]; exact hH.b0, by rw [h4]; exact hH.wf, by simp, fun p hp => ?_⟩, hv L, hk⟩
 ·exact hH.base.trans ⟨h1, h2, h3, by rw [h4]; exact Nat.le_refl _, fun c hc => h5 c (by omega)⟩
 ·simp only [List.mem_singleton] at hp
  subst hp
  exact ⟨hb0, by rw [h4]; exact hbs, hl, avs, h6, h7, RepL.mono hx _ _ h8, h9, h10⟩
/-- A new map. -/
theorem S.kvNew {t : TypeId} (hk : ∀ b, K (.atom (.map (some b))) ((b, .map (kvs []) 0) :: H)) : LStep C ⟨dst, .makeMap t none, ty, pos, aft, g⟩ e H K X := by
 refine LStep.at0 fun ρ w L _ hH => ?_
 have h3 : execOp ρ ⟨dst, .makeMap t none, ty, pos, aft, g⟩ = (do Pure.pure (.value (← Instr.makeMap t none))) := rfl
 have h4 : (Instr.makeMap t none).run C.P w = .ok (.map (some w.heap.size)) (World.push w (.map #[] 0)) := rfl
 rw [h3, Sem.run_bind, h4]
 have := fr_push hH (.map #[] 0) 0 [(w.heap.size, .map (kvs []) 0)] (fun p hp => by
  simp only [List.mem_singleton] at hp
  subst hp
  refine ⟨rfl, by simp [Live.upd], [], heap_push_self, rfl, ?_, (fun e he => by cases he), List.nodup_nil⟩
  show RepL _ _ [] []
  simp only [RepL]) (by simp)
 exact ⟨_, _, _, this.1, this.2, rep_atom, hk _⟩
/-- A key is given a value. -/
theorem S.kvPut {t kt el : TypeId} (ht : C.P.underlying t = some (.map kt el)) (hkt : C.P.underlying kt = some .string) {b clock : Nat} {m : KV} {F : Heap} {mo z : Operand} {k : List UInt8} {lv : LV} (hm : e.ev mo = .atom (.map (some b))) (hx : e.ev x = str k) (hz : e.ev z = lv)
  (hp : Pick (b, .map (kvs m) clock) H F) (hk : ∀ clock', K (.atom undef) ((b, .map (kvs (GL.kvPut m k lv)) clock') :: F)) : LStep C ⟨dst, .mapUpdate t mo x z, ty, pos, aft, g⟩ e H K X := by
 refine LStep.at1 hp fun ρ w L h hH => ?_
 obtain ⟨hb0, hbs, hl, avs, hx1, hx2, hx3, hx4, hx5⟩ := hH.objs _ (List.mem_singleton.2 rfl)
 simp only at hb0 hbs hl hx1 hx2 hx3
 have hrz : Rep w L lv (ρ z) := hz ▸ h z
 have h3 : execOp ρ ⟨dst, .mapUpdate t mo x z, ty, pos, aft, g⟩ = (do Instr.mapUpdate t (ρ mo) (ρ x) (ρ z); Pure.pure .skip) := rfl
 have hg : (getObj b).run C.P w = .ok (.map avs.toArray clock) w := by simp only [getObj, Sem.run, hx1]
 have hset : ∀ o', (setObj b o').run C.P w = .ok () (setW w b o') := fun o' => run_setObj hx1 rfl
 rw [h3, atom_of h hm, atom_of h hx]
 rcases kv_find k m avs 0 hx2 with ⟨g1, g2, g3⟩ | ⟨j, e2, v, g1, g2, g3, g4, g5⟩
 ·have hf : (Instr.findKey kt (strV k) avs.toArray.toList).run C.P w = .ok none w := by
   simp only [Instr.findKey, Sem.run_bind, run_underlying' hkt, Result.andThen_ok, g3, Sem.run_pure]
  simp only [Instr.mapUpdate, Sem.run_bind, run_underlying' ht, Result.andThen_ok, hg, run_checkStr hkt, hf]
  rw [hset]
  refine left_map (w' := setW w b _) hH rfl rfl rfl (by simp [setW]) (fun c hc => setW_other hc) (avs ++ [⟨strV k, ρ z, clock⟩]) (clock' := clock + 1) ((setW_self hbs).trans (by simp)) (es' := kvs (GL.kvPut m k lv)) ?_ ?_ ?_ ?_ (fun _ => rep_atom) (hk _)
  ·rw [g2, kvs, List.map_append, List.map_append, List.map_append, ← kvs, hx2]
   rfl
  ·rw [g2, kvs, List.map_append, List.map_append, List.map_append, ← kvs]
   refine RepL.append hx3 ?_
   simp only [List.map_cons, List.map_nil, RepL]
   exact ⟨_, _, rfl, hrz, rfl⟩
  ·intro e' he'
   rcases List.mem_append.1 he' with h1 | h1
   ·exact Nat.lt_succ_of_lt (hx4 e' h1)
   ·obtain rfl := List.mem_singleton.1 h1
    exact Nat.lt_succ_self _
  ·rw [List.map_append, List.nodup_append]
   refine ⟨hx5, by simp, fun a ha b' hb' he => ?_⟩
   obtain ⟨e', h1, rfl⟩ := List.mem_map.1 ha
   simp only [List.map_cons, List.map_nil, List.mem_singleton] at hb'
   have := hx4 e' h1
   omega
 ·have hf : (Instr.findKey kt (strV k) avs.toArray.toList).run C.P w = .ok (some (0 + j, e2.val)) w := by
   simp only [Instr.findKey, Sem.run_bind, run_underlying' hkt, Result.andThen_ok, g1, Sem.run_pure]
  have hkey : e2.key = strV k := by
   have h1 : (avs.map (·.key))[j]? = some e2.key := by rw [List.getElem?_map, g2]; rfl
   rw [hx2, kvs, List.map_map, List.getElem?_map, g3] at h1
   exact (Option.some.inj h1).symm
  have hst : (Instr.keyThatStays (((avs.toArray[0 + j]?).map (·.key)).getD (strV k)) (strV k)).run C.P w = .ok (strV k) w := by
   rw [Nat.zero_add, List.getElem?_toArray, g2]
   simp only [Option.map_some, Option.getD_some, hkey]
   unfold Instr.keyThatStays
   rw [if_pos (by simp only [Instr.sameBits]; rw [bytes_beq]; simp)]
   rfl
  simp only [Instr.mapUpdate, Sem.run_bind, run_underlying' ht, Result.andThen_ok, hg, run_checkStr hkt, hf, hst]
  rw [hset]
  have hmod : avs.toArray.modify (0 + j) (fun e => { e with key := strV k, val := ρ z }) = (avs.set j { e2 with key := strV k, val := ρ z }).toArray := by
   rw [Nat.zero_add]
   apply Array.ext'
   simp only [Array.toList_modify]
   refine List.ext_getElem? fun i => ?_
   rw [List.getElem?_modify, List.getElem?_set]
   by_cases hi : j = i
   ·subst hi
    have hlt : j < avs.length := (List.getElem?_eq_some_iff.1 g2).1
    rw [if_pos rfl, g2, if_pos hlt]
    show some _ = _
    simp
   ·rw [if_neg hi]
    cases avs[i]? with
    | none => rfl
    | some a =>
     show some _ = _
     simp [hi]
  refine left_map (w' := setW w b _) hH rfl rfl rfl (by simp [setW]) (fun c hc => setW_other hc) (avs.set j { e2 with key := strV k, val := ρ z }) ((setW_self hbs).trans (by rw [hmod])) (es' := kvs (GL.kvPut m k lv)) ?_ ?_ ?_ ?_ (fun _ => rep_atom) (hk _)
  ·rw [g5, kvs, List.map_set, List.map_set, List.map_set, hx2]
   rfl
  ·rw [g5, kvs, List.map_set, List.map_set, List.map_set]
   exact RepL.setAt hx3 j hrz
  ·intro e' he'
   rcases List.mem_or_eq_of_mem_set he' with h1 | h1
   ·exact hx4 e' h1
   ·rw [h1]
    exact hx4 e2 (List.mem_of_getElem? g2)
  ·rw [List.map_set]
   have : (avs.map (·.born)).set j e2.born = avs.map (·.born) := by
    refine List.ext_getElem? fun i => ?_
    rw [List.getElem?_set]
    split
    ·rename_i h1
     subst h1
     split
     ·rw [List.getElem?_map, g2]; rfl
     ·rename_i h2
      rw [List.getElem?_eq_none (by omega)]
    ·rfl
   rw [this]
   exact hx5
/-- What is read of a map. -/
theorem kv_look {t kt el : TypeId} (ht : C.P.underlying t = some (.map kt el)) (hkt : C.P.underlying kt = some .string) {zv : Value} {zl : LV} (hz : ∀ w, (zeroValue el).run C.P w = .ok zv w) (hzl : ∀ w L, Rep w L zl zv) {b clock : Nat} {m : KV} {k : List UInt8} {w : World} {L : Live}
  (hH : RelH C w L H) (hb : (b, .map (kvs m) clock) ∈ H) : ∃ v, Rep w L ((kvGet m k).getD zl) v ∧ ∀ w', Agree w L H w' → ∀ c, (Instr.lookup t (.map (some b)) (strV k) c).run C.P w' = .ok (if c = true then .tuple #[v, .bool (kvGet m k).isSome] else v) w' := by
 obtain ⟨_, _, _, avs, hx1, hx2, hx3, _⟩ := hH.objs _ hb
 simp only at hx1
 rcases kv_find k m avs 0 hx2 with ⟨g1, g2, g3⟩ | ⟨j, e2, v, g1, g2, g3, g4, g5⟩
 ·refine ⟨zv, by rw [g1]; exact hzl w L, fun w' ha c => ?_⟩
  have hw : w'.heap[b]? = some (.map avs.toArray clock) := (ha.1 _ hb).trans hx1
  have hg : (getObj b).run C.P w' = .ok (.map avs.toArray clock) w' := by simp only [getObj, Sem.run, hw]
  have hf : (Instr.findKey kt (strV k) avs.toArray.toList).run C.P w' = .ok none w' := by
   simp only [Instr.findKey, Sem.run_bind, run_underlying' hkt, Result.andThen_ok, g3, Sem.run_pure]
  simp only [Instr.lookup, Sem.run_bind, run_underlying' ht, Result.andThen_ok, hg, Sem.run_pure, run_checkStr hkt, hf, hz, g1]
  rfl
 ·refine ⟨e2.val, ?_, fun w' ha c => ?_⟩
  ·rw [g4]
   obtain ⟨x, h1, h2⟩ := hx3.get (i := j) (c := v) (by rw [kvs, List.map_map, List.getElem?_map, g3]; rfl)
   rw [List.getElem?_map, g2] at h1
   obtain rfl := Option.some.inj h1
   exact h2
  ·have hw : w'.heap[b]? = some (.map avs.toArray clock) := (ha.1 _ hb).trans hx1
   have hg : (getObj b).run C.P w' = .ok (.map avs.toArray clock) w' := by simp only [getObj, Sem.run, hw]
   have hf : (Instr.findKey kt (strV k) avs.toArray.toList).run C.P w' = .ok (some (0 + j, e2.val)) w' := by
    simp only [Instr.findKey, Sem.run_bind, run_underlying' hkt, Result.andThen_ok, g1, Sem.run_pure]
   simp only [Instr.lookup, Sem.run_bind, run_underlying' ht, Result.andThen_ok, hg, Sem.run_pure, run_checkStr hkt, hf, g4]
   rfl
/-- What stands under a key; the zero value where nothing does. -/
theorem Pure.kvGet {t kt el : TypeId} (ht : C.P.underlying t = some (.map kt el)) (hkt : C.P.underlying kt = some .string) {zv : Value} {zl : LV} (hz : ∀ w, (zeroValue el).run C.P w = .ok zv w) (hzl : ∀ w L, Rep w L zl zv) {b clock : Nat} {m : KV} {k : List UInt8} (hm : e.ev x = .atom (.map (some b))) (hx : e.ev y = str k)
  (hb : (b, .map (kvs m) clock) ∈ H) : Pure C ⟨dst, .lookup t x y false, ty, pos, aft, g⟩ e H ((GL.kvGet m k).getD zl) := fun ρ w L h hH => by
 obtain ⟨v, h1, h2⟩ := kv_look ht hkt hz hzl (k := k) hH hb
 refine ⟨v, h1, fun w' ha => ?_⟩
 have h3 : execOp ρ ⟨dst, .lookup t x y false, ty, pos, aft, g⟩ = (do Pure.pure (.value (← Instr.lookup t (ρ x) (ρ y) false))) := rfl
 rw [h3, atom_of h hm, atom_of h hx, Sem.run_bind, h2 w' ha false]
 rfl
end
/-! ### The same, by instances -/
section
variable {C : Ctx} {e : Env} {H : Heap} {dst : Option Nat} {ty : TypeId} {pos : String} {aft : Array Edge} {g : Option (Nat × Bool)} {K : LV → Heap → Prop} {X : List PanicEntry → Heap → Prop} {x y : Operand}
/-- A new key comes last. -/
theorem kv_new {k : List UInt8} {v : LV} : ∀ {m : KV}, k ∉ m.map (·.1) → GL.kvPut m k v = m ++ [(k, v)]
 | [], _ => rfl
 | p :: r, h => by
  rw [GL.kvPut, if_neg (fun he => h (by rw [List.map_cons]; exact List.mem_cons.2 (.inl he.symm))), kv_new (fun hm => h (by rw [List.map_cons]; exact List.mem_cons_of_mem _ hm))]
  rfl
end
end Go.GL
namespace Go.Stele
/-- A word. -/
abbrev Wd := List UInt8
def numW (w : Wd) : Option Nat := match Go.Lib.parseUintB 32 w with
 | .ok u => if Go.Lib.decDigits u = w then some u else none
 | _ => none
def nameW (s : Wd) : Bool := match s with
 | [] => false
 | c :: r => decide (s.length ≤ 40) && isLetter c && s.all isInner
def defW (w : Wd) : Option Wd := if w.getLast? = some 58 ∧ nameW w.dropLast = true then some w.dropLast else none
def refW (w : Wd) : Option Wd := match w with
 | [] => none
 | c :: r => if c = 38 ∧ nameW r = true then some r else none
def wdAt (l : List Wd) (i : Nat) : Wd := (l[i]?).getD []
def compW (a : Nat) (op : Wd) (b : Nat) : Option Nat :=
 if op = [43] then some ((a + b) % 4294967296)
 else if op = [45] then some ((a + 4294967296 - b) % 4294967296)
 else if op = [42] then some (a * b % 4294967296)
 else if op = [94] then some (a ^^^ b)
 else if op = [60] then some (if a < b then 1 else 0)
 else if op = [47] then (if b = 0 then none else some (a / b))
 else if op = [37] then (if b = 0 then none else some (a % b))
 else none
def joinedW (x op y : Wd) : Option Wd := match numW x, numW y with
 | some a, some b => match compW a op b with
  | some c => if (Go.Lib.decDigits c).length ≤ x.length + y.length + 1 then some (Go.Lib.decDigits c) else none
  | none => none
 | _, _ => none
/-- A reference to a label and ? from i on. -/
def jumpW (v : List Wd) (i : Nat) : Option Wd := match refW (wdAt v i) with
 | some l => if wdAt v (i + 1) = [63] then some l else none
 | none => none
/-- How many words a rule matches (0: none), and what replaces them. -/
abbrev RuleW := Nat × List Wd
def rFold (v : List Wd) : RuleW := match joinedW (wdAt v 0) (wdAt v 2) (wdAt v 1) with
 | some s => (3, [s])
 | none => (0, [])
def rNeutral (v : List Wd) : RuleW :=
 if wdAt v 0 = [48] ∧ (wdAt v 1 = [43] ∨ wdAt v 1 = [45] ∨ wdAt v 1 = [94]) ∨ wdAt v 0 = [49] ∧ (wdAt v 1 = [42] ∨ wdAt v 1 = [47]) then (2, []) else (0, [])
def rRegroup (v : List Wd) : RuleW :=
 if (wdAt v 1 = [43] ∨ wdAt v 1 = [42] ∨ wdAt v 1 = [94]) ∧ wdAt v 3 = wdAt v 1 then
  (match joinedW (wdAt v 0) (wdAt v 1) (wdAt v 2) with
  | some s => (4, [s, wdAt v 1])
  | none => (0, []))
 else (0, [])
def rSame (v : List Wd) : RuleW := if (numW (wdAt v 0)).isSome = true ∧ wdAt v 1 = [64] ∧ wdAt v 2 = wdAt v 0 ∧ wdAt v 3 = [33] then (4, []) else (0, [])
def rDouble (v : List Wd) : RuleW := if (jumpW v 4).isSome = true ∧ wdAt v 0 = [49] ∧ wdAt v 1 = [60] ∧ wdAt v 2 = [49] ∧ wdAt v 3 = [60] then (6, [wdAt v 4, wdAt v 5]) else (0, [])
def rNever (v : List Wd) : RuleW := match numW (wdAt v 0) with
 | some n => if n ≠ 0 ∧ (jumpW v 1).isSome = true then (3, []) else (0, [])
 | none => (0, [])
/-- Whether a row of definitions begins here that defines l. -/
def nextW (l : Wd) : List Wd → Bool
 | [] => false
 | w :: r => match defW w with
  | some d => decide (d = l) || nextW l r
  | none => false
def rNext (v : List Wd) : RuleW := match jumpW v 1 with
 | some l => if wdAt v 0 = [48] ∧ nextW l (v.drop 3) = true then (3, []) else (0, [])
 | none => (0, [])
/-- How many words an instruction has that ends what can be reached. -/
def stopW (v : List Wd) : Nat := if (jumpW v 1).isSome = true ∧ wdAt v 0 = [48] then 3 else if wdAt v 0 = [59] ∨ wdAt v 0 = [36] then 1 else 0
def deadLen (v : List Wd) : Nat := (v.takeWhile fun w => (defW w).isNone).length
def rDead (v : List Wd) : RuleW := if 0 < stopW v ∧ 0 < deadLen (v.drop (stopW v)) then (stopW v + deadLen (v.drop (stopW v)), v.take (stopW v)) else (0, [])
def rUnused (used : Wd → Bool) (v : List Wd) : RuleW := match defW (wdAt v 0) with
 | some l => if used l = true then (0, []) else (1, [])
 | none => (0, [])
/-- The first rule that matches. -/
def ruleW (used : Wd → Bool) (v : List Wd) : RuleW :=
 if (rFold v).1 ≠ 0 then rFold v else if (rNeutral v).1 ≠ 0 then rNeutral v else if (rRegroup v).1 ≠ 0 then rRegroup v else if (rSame v).1 ≠ 0 then rSame v else if (rDouble v).1 ≠ 0 then rDouble v else
 if (rNever v).1 ≠ 0 then rNever v else if (rNext v).1 ≠ 0 then rNext v else if (rDead v).1 ≠ 0 then rDead v else rUnused used v
def onceF (used : Wd → Bool) : Nat → List Wd → List Wd
 | 0, _ => []
 | _ + 1, [] => []
 | f + 1, w :: r => if (ruleW used (w :: r)).1 = 0 then w :: onceF used f r else (ruleW used (w :: r)).2 ++ onceF used f ((w :: r).drop (ruleW used (w :: r)).1)
def usedW (l : List Wd) (s : Wd) : Bool := l.any fun w => decide (refW w = some s)
/-- What a pass computes. -/
def onceP (l : List Wd) : List Wd := onceF (usedW l) l.length l
/-! ### A rule matches words that are there, and puts fewer in their place -/
theorem wdAt_lt {v : List Wd} {i : Nat} (h : wdAt v i ≠ []) : i < v.length := by
 rcases Nat.lt_or_ge i v.length with h1 | h1
 ·exact h1
 ·exact absurd (by simp [wdAt, List.getElem?_eq_none h1]) h
theorem numW_ne {w : Wd} {n : Nat} (h : numW w = some n) : w ≠ [] := by
 rintro rfl
 have : numW [] = none := by decide +kernel
 rw [this] at h
 cases h
theorem jumpW_lt {v : List Wd} {i : Nat} {l : Wd} (h : jumpW v i = some l) : i + 1 < v.length := by
 unfold jumpW at h
 split at h
 ·split at h
  ·rename_i h2
   exact wdAt_lt (by rw [h2]; decide)
  ·cases h
 ·cases h
theorem comp_op {a b : Nat} {op : Wd} {c : Nat} (h : compW a op b = some c) : op ≠ [] := by
 rintro rfl
 have : compW a [] b = none := rfl
 rw [this] at h
 cases h
theorem joined_ne {x op y s : Wd} (h : joinedW x op y = some s) : x ≠ [] ∧ op ≠ [] ∧ y ≠ [] := by
 unfold joinedW at h
 split at h
 ·rename_i a b ha hb
  split at h
  ·rename_i c hc
   exact ⟨numW_ne ha, comp_op hc, numW_ne hb⟩
  ·cases h
 ·cases h
/-- A rule's result: fewer words than it matches, which are all there. -/
def RuleOk (v : List Wd) (r : RuleW) : Prop := r.1 ≠ 0 → r.1 ≤ v.length ∧ r.2.length < r.1
theorem ruleOk_none (v : List Wd) : RuleOk v (0, []) := fun h => absurd rfl h
theorem fold_ok (v : List Wd) : RuleOk v (rFold v) := by
 unfold rFold
 split
 ·rename_i s h
  obtain ⟨_, h2, _⟩ := joined_ne h
  have := wdAt_lt h2
  exact fun _ => ⟨by simp only; omega, by simp⟩
 ·exact ruleOk_none v
theorem neutral_ok (v : List Wd) : RuleOk v (rNeutral v) := by
 unfold rNeutral
 split
 ·rename_i h
  have : wdAt v 1 ≠ [] := by
   intro h0
   rw [h0] at h
   rcases h with ⟨_, h | h | h⟩ | ⟨_, h | h⟩ <;> cases h
  have := wdAt_lt this
  exact fun _ => ⟨by simp only; omega, by simp⟩
 ·exact ruleOk_none v
theorem regroup_ok (v : List Wd) : RuleOk v (rRegroup v) := by
 unfold rRegroup
 split
 ·rename_i h
  split
  ·rename_i s hs
   have h3 : wdAt v 3 ≠ [] := by rw [h.2]; exact (joined_ne hs).2.1
   have := wdAt_lt h3
   exact fun _ => ⟨by simp only; omega, by simp⟩
  ·exact ruleOk_none v
 ·exact ruleOk_none v
theorem same_ok (v : List Wd) : RuleOk v (rSame v) := by
 unfold rSame
 split
 ·rename_i h
  have := wdAt_lt (v := v) (i := 3) (by rw [h.2.2.2]; decide)
  exact fun _ => ⟨by simp only; omega, by simp⟩
 ·exact ruleOk_none v
theorem double_ok (v : List Wd) : RuleOk v (rDouble v) := by
 unfold rDouble
 split
 ·rename_i h
  obtain ⟨l, hl⟩ := Option.isSome_iff_exists.1 h.1
  have := jumpW_lt hl
  exact fun _ => ⟨by simp only; omega, by simp⟩
 ·exact ruleOk_none v
theorem never_ok (v : List Wd) : RuleOk v (rNever v) := by
 unfold rNever
 split
 ·split
  ·rename_i h
   obtain ⟨l, hl⟩ := Option.isSome_iff_exists.1 h.2
   have := jumpW_lt hl
   exact fun _ => ⟨by simp only; omega, by simp⟩
  ·exact ruleOk_none v
 ·exact ruleOk_none v
theorem next_ok (v : List Wd) : RuleOk v (rNext v) := by
 unfold rNext
 split
 ·rename_i l hl
  split
  ·have := jumpW_lt hl
   exact fun _ => ⟨by simp only; omega, by simp⟩
  ·exact ruleOk_none v
 ·exact ruleOk_none v
theorem stop_le (v : List Wd) : stopW v ≤ v.length := by
 unfold stopW
 split
 ·rename_i h
  obtain ⟨l, hl⟩ := Option.isSome_iff_exists.1 h.1
  have := jumpW_lt hl
  omega
 ·split
  ·rename_i h
   have := wdAt_lt (v := v) (i := 0) (by rcases h with h | h <;> rw [h] <;> decide)
   omega
  ·omega
theorem dead_ok (v : List Wd) : RuleOk v (rDead v) := by
 unfold rDead
 split
 ·rename_i h
  intro _
  have h1 := stop_le v
  have h2 : deadLen (v.drop (stopW v)) ≤ (v.drop (stopW v)).length := (List.takeWhile_prefix _).length_le
  rw [List.length_drop] at h2
  simp only [List.length_take]
  omega
 ·exact ruleOk_none v
theorem unused_ok (used : Wd → Bool) (v : List Wd) : RuleOk v (rUnused used v) := by
 unfold rUnused
 split
 ·rename_i l hl
  split
  ·exact ruleOk_none v
  ·have : wdAt v 0 ≠ [] := by
    intro h0
    rw [h0] at hl
    cases hl
   have := wdAt_lt this
   exact fun _ => ⟨by simp only; omega, by simp⟩
 ·exact ruleOk_none v
theorem rule_ok (used : Wd → Bool) (v : List Wd) : RuleOk v (ruleW used v) := by
 unfold ruleW
 split
 ·exact fold_ok v
 split
 ·exact neutral_ok v
 split
 ·exact regroup_ok v
 split
 ·exact same_ok v
 split
 ·exact double_ok v
 split
 ·exact never_ok v
 split
 ·exact next_ok v
 split
 ·exact dead_ok v
 ·exact unused_ok used v
theorem onceF_len (used : Wd → Bool) : ∀ (f : Nat) (l : List Wd), (onceF used f l).length ≤ l.length
 | 0, l => Nat.zero_le _
 | f + 1, [] => Nat.le_refl _
 | f + 1, w :: r => by
  rw [onceF]
  split
  ·have := onceF_len used f r
   simp only [List.length_cons]
   omega
  ·rename_i h
   obtain ⟨h1, h2⟩ := rule_ok used (w :: r) h
   have := onceF_len used f ((w :: r).drop (ruleW used (w :: r)).1)
   rw [List.length_drop] at this
   rw [List.length_append]
   omega
end Go.Stele
namespace Go.Stele
open Go.Lib
theorem digit_of {d : Nat} (h : d < 10) : isDigit (UInt8.ofNat (48 + d)) = true := by
 have h1 : (UInt8.ofNat (48 + d)).toNat = 48 + d := digit_toNat h
 unfold isDigit cv
 rw [h1]
 simp
 omega
theorem dec_digits (u : Nat) : ∀ c ∈ decDigits u, isDigit c = true := by
 induction u using Nat.strongRecOn with
 | ind u ih =>
  intro c hc
  by_cases h : u < 10
  ·rw [decDigits_one h] at hc
   rw [List.mem_singleton.1 hc]
   exact digit_of h
  ·rw [decDigits, dif_neg h] at hc
   rcases List.mem_append.1 hc with hc | hc
   ·exact ih (u / 10) (by omega) c hc
   ·rw [List.mem_singleton.1 hc]
    exact digit_of (by omega)
end Go.Stele
namespace Go.Stele
open Go.Lib
theorem numW_iff (w : Wd) (n : Nat) : numW w = some n ↔ n < 4294967296 ∧ decDigits n = w := by
 unfold numW
 constructor
 ·intro h
  split at h
  ·rename_i u hu
   split at h
   ·rename_i he
    cases h
    exact ⟨pu32_lt hu, he⟩
   ·cases h
  ·cases h
 ·rintro ⟨h1, h2⟩
  subst h2
  rw [pu32_dec n h1]
  simp
theorem numW_lt {w : Wd} {n : Nat} (h : numW w = some n) : n < 4294967296 := ((numW_iff w n).1 h).1
theorem numW_dec {n : Nat} (h : n < 4294967296) : numW (decDigits n) = some n := (numW_iff _ n).2 ⟨h, rfl⟩
theorem comp_lt {a b c : Nat} {op : Wd} (ha : a < 4294967296) (hb : b < 4294967296) (h : compW a op b = some c) : c < 4294967296 := by
 unfold compW at h
 split at h
 ·cases h; omega
 split at h
 ·cases h; omega
 split at h
 ·cases h; exact Nat.mod_lt _ (by decide)
 split at h
 ·cases h; exact Nat.xor_lt_two_pow (n := 32) ha hb
 split at h
 ·cases h; split <;> decide
 split at h
 ·split at h
  ·cases h
  ·cases h
   exact Nat.lt_of_le_of_lt (Nat.div_le_self _ _) ha
 split at h
 ·split at h
  ·cases h
  ·cases h
   rename_i hb0
   have := Nat.mod_lt a (Nat.pos_of_ne_zero hb0)
   omega
 ·cases h
end Go.Stele
namespace Go.Stele
/-! ### The rules, one behind the other -/
def cNeutral (v : List Wd) : Prop := wdAt v 0 = [48] ∧ (wdAt v 1 = [43] ∨ wdAt v 1 = [45] ∨ wdAt v 1 = [94]) ∨ wdAt v 0 = [49] ∧ (wdAt v 1 = [42] ∨ wdAt v 1 = [47])
instance (v : List Wd) : Decidable (cNeutral v) := by unfold cNeutral; infer_instance
def cRegroup (v : List Wd) : Prop := (wdAt v 1 = [43] ∨ wdAt v 1 = [42] ∨ wdAt v 1 = [94]) ∧ wdAt v 3 = wdAt v 1
instance (v : List Wd) : Decidable (cRegroup v) := by unfold cRegroup; infer_instance
def cSame (v : List Wd) : Prop := (numW (wdAt v 0)).isSome = true ∧ wdAt v 1 = [64] ∧ wdAt v 2 = wdAt v 0 ∧ wdAt v 3 = [33]
instance (v : List Wd) : Decidable (cSame v) := by unfold cSame; infer_instance
def cDouble (v : List Wd) : Prop := (jumpW v 4).isSome = true ∧ wdAt v 0 = [49] ∧ wdAt v 1 = [60] ∧ wdAt v 2 = [49] ∧ wdAt v 3 = [60]
instance (v : List Wd) : Decidable (cDouble v) := by unfold cDouble; infer_instance
def cNever (v : List Wd) : Bool := match numW (wdAt v 0) with
 | some n => decide (n ≠ 0 ∧ (jumpW v 1).isSome = true)
 | none => false
def cNext (v : List Wd) : Bool := match jumpW v 1 with
 | some l => decide (wdAt v 0 = [48] ∧ nextW l (v.drop 3) = true)
 | none => false
def cDead (v : List Wd) : Prop := 0 < stopW v ∧ 0 < deadLen (v.drop (stopW v))
instance (v : List Wd) : Decidable (cDead v) := by unfold cDead; infer_instance
def dFold (v : List Wd) : Option Wd := joinedW (wdAt v 0) (wdAt v 2) (wdAt v 1)
def dRegroup (v : List Wd) : Option Wd := joinedW (wdAt v 0) (wdAt v 1) (wdAt v 2)
section
variable {v : List Wd} {used : Wd → Bool}
theorem rFold_s {s : Wd} (h : dFold v = some s) : rFold v = (3, [s]) := by unfold rFold; unfold dFold at h; rw [h]
theorem rFold_n (h : dFold v = none) : rFold v = (0, []) := by unfold rFold; unfold dFold at h; rw [h]
theorem rNeutral_t (h : cNeutral v) : rNeutral v = (2, []) := if_pos h
theorem rNeutral_f (h : ¬ cNeutral v) : rNeutral v = (0, []) := if_neg h
theorem rRegroup_s {s : Wd} (h : cRegroup v) (h2 : dRegroup v = some s) : rRegroup v = (4, [s, wdAt v 1]) := by
 unfold rRegroup
 unfold dRegroup at h2
 unfold cRegroup at h
 rw [if_pos h, h2]
theorem rRegroup_n (h : ¬ cRegroup v ∨ dRegroup v = none) : rRegroup v = (0, []) := by
 unfold rRegroup
 unfold dRegroup at h
 by_cases hc : cRegroup v
 ·rcases h with h | h
  ·exact absurd hc h
  ·unfold cRegroup at hc
   rw [if_pos hc, h]
 ·unfold cRegroup at hc
  rw [if_neg hc]
theorem rSame_t (h : cSame v) : rSame v = (4, []) := if_pos h
theorem rSame_f (h : ¬ cSame v) : rSame v = (0, []) := if_neg h
theorem rDouble_t (h : cDouble v) : rDouble v = (6, [wdAt v 4, wdAt v 5]) := if_pos h
theorem rDouble_f (h : ¬ cDouble v) : rDouble v = (0, []) := if_neg h
theorem rNever_t (h : cNever v = true) : rNever v = (3, []) := by
 unfold cNever at h
 unfold rNever
 split at h
 ·rename_i n hn
  try rw [hn]
  exact if_pos (of_decide_eq_true h)
 ·cases h
theorem rNever_f (h : cNever v = false) : rNever v = (0, []) := by
 unfold cNever at h
 unfold rNever
 split at h
 ·rename_i n hn
  try rw [hn]
  exact if_neg (of_decide_eq_false h)
 ·rename_i hn
  first | rw [hn] | rfl
theorem rNext_t (h : cNext v = true) : rNext v = (3, []) := by
 unfold cNext at h
 unfold rNext
 split at h
 ·rename_i n hn
  try rw [hn]
  exact if_pos (of_decide_eq_true h)
 ·cases h
theorem rNext_f (h : cNext v = false) : rNext v = (0, []) := by
 unfold cNext at h
 unfold rNext
 split at h
 ·rename_i n hn
  try rw [hn]
  exact if_neg (of_decide_eq_false h)
 ·rename_i hn
  first | rw [hn] | rfl
theorem rDead_t (h : cDead v) : rDead v = (stopW v + deadLen (v.drop (stopW v)), v.take (stopW v)) := if_pos h
theorem rDead_f (h : ¬ cDead v) : rDead v = (0, []) := if_neg h
/-- The first rule that matches, by its condition. -/
theorem rule1 {s : Wd} (h : dFold v = some s) : ruleW used v = (3, [s]) := by
 unfold ruleW
 rw [rFold_s h]
 rfl
theorem rule2 (h1 : dFold v = none) (h : cNeutral v) : ruleW used v = (2, []) := by
 unfold ruleW
 rw [rFold_n h1, rNeutral_t h]
 rfl
theorem rule3 {s : Wd} (h1 : dFold v = none) (h2 : ¬ cNeutral v) (h : cRegroup v) (h' : dRegroup v = some s) : ruleW used v = (4, [s, wdAt v 1]) := by
 unfold ruleW
 rw [rFold_n h1, rNeutral_f h2, rRegroup_s h h']
 rfl
theorem rule4 (h1 : dFold v = none) (h2 : ¬ cNeutral v) (h3 : ¬ cRegroup v ∨ dRegroup v = none) (h : cSame v) : ruleW used v = (4, []) := by
 unfold ruleW
 rw [rFold_n h1, rNeutral_f h2, rRegroup_n h3, rSame_t h]
 rfl
theorem rule5 (h1 : dFold v = none) (h2 : ¬ cNeutral v) (h3 : ¬ cRegroup v ∨ dRegroup v = none) (h4 : ¬ cSame v) (h : cDouble v) : ruleW used v = (6, [wdAt v 4, wdAt v 5]) := by
 unfold ruleW
 rw [rFold_n h1, rNeutral_f h2, rRegroup_n h3, rSame_f h4, rDouble_t h]
 rfl
theorem rule6 (h1 : dFold v = none) (h2 : ¬ cNeutral v) (h3 : ¬ cRegroup v ∨ dRegroup v = none) (h4 : ¬ cSame v) (h5 : ¬ cDouble v) (h : cNever v = true) : ruleW used v = (3, []) := by
 unfold ruleW
 rw [rFold_n h1, rNeutral_f h2, rRegroup_n h3, rSame_f h4, rDouble_f h5, rNever_t h]
 rfl
theorem rule7 (h1 : dFold v = none) (h2 : ¬ cNeutral v) (h3 : ¬ cRegroup v ∨ dRegroup v = none) (h4 : ¬ cSame v) (h5 : ¬ cDouble v) (h6 : cNever v = false) (h : cNext v = true) : ruleW used v = (3, []) := by
 unfold ruleW
 rw [rFold_n h1, rNeutral_f h2, rRegroup_n h3, rSame_f h4, rDouble_f h5, rNever_f h6, rNext_t h]
 rfl
theorem rule8 (h1 : dFold v = none) (h2 : ¬ cNeutral v) (h3 : ¬ cRegroup v ∨ dRegroup v = none) (h4 : ¬ cSame v) (h5 : ¬ cDouble v) (h6 : cNever v = false) (h7 : cNext v = false) (h : cDead v) : ruleW used v = (stopW v + deadLen (v.drop (stopW v)), v.take (stopW v)) := by
 unfold ruleW
 have h0 : stopW v + deadLen (v.drop (stopW v)) ≠ 0 := by have := h.1; omega
 rw [rFold_n h1, rNeutral_f h2, rRegroup_n h3, rSame_f h4, rDouble_f h5, rNever_f h6, rNext_f h7, rDead_t h]
 simp only [ne_eq, not_true_eq_false, if_false, h0, not_false_eq_true, if_true]
theorem rule9 (h1 : dFold v = none) (h2 : ¬ cNeutral v) (h3 : ¬ cRegroup v ∨ dRegroup v = none) (h4 : ¬ cSame v) (h5 : ¬ cDouble v) (h6 : cNever v = false) (h7 : cNext v = false) (h8 : ¬ cDead v) : ruleW used v = rUnused used v := by
 unfold ruleW
 rw [rFold_n h1, rNeutral_f h2, rRegroup_n h3, rSame_f h4, rDouble_f h5, rNever_f h6, rNext_f h7, rDead_f h8]
 rfl
end
end Go.Stele
namespace Go.Stele
open Go.Lib
/-- A text, cut at every c. -/
def pieces (c : UInt8) : List UInt8 → List (List UInt8)
 | [] => [[]]
 | d :: r => if d = c then [] :: pieces c r else match pieces c r with
  | p :: ps => (d :: p) :: ps
  | [] => [[d]]
theorem pieces_ne (c : UInt8) : ∀ s, ∃ p ps, pieces c s = p :: ps
 | [] => ⟨_, _, rfl⟩
 | d :: r => by
  obtain ⟨p, ps, h⟩ := pieces_ne c r
  rw [pieces, h]
  split
  ·exact ⟨_, _, rfl⟩
  ·exact ⟨_, _, rfl⟩
theorem pieces_hit (c : UInt8) (r : List UInt8) : pieces c (c :: r) = [] :: pieces c r := by rw [pieces, if_pos rfl]
theorem pieces_miss {c d : UInt8} (h : d ≠ c) (r : List UInt8) : ∃ p ps, pieces c r = p :: ps ∧ pieces c (d :: r) = (d :: p) :: ps := by
 obtain ⟨p, ps, hp⟩ := pieces_ne c r
 exact ⟨p, ps, hp, by rw [pieces, if_neg h, hp]⟩
theorem pieces_one {c : UInt8} : ∀ {s : List UInt8}, c ∉ s → pieces c s = [s]
 | [], _ => rfl
 | d :: r, h => by
  have hd : d ≠ c := fun e => h (by rw [e]; exact List.mem_cons_self ..)
  have hr : c ∉ r := fun e => h (List.mem_cons_of_mem _ e)
  rw [pieces, if_neg hd, pieces_one hr]
theorem pieces_cut {c : UInt8} : ∀ {a b : List UInt8}, c ∉ a → pieces c (a ++ c :: b) = a :: pieces c b
 | [], b, _ => pieces_hit c b
 | d :: a, b, h => by
  have hd : d ≠ c := fun e => h (by rw [e]; exact List.mem_cons_self ..)
  have ha : c ∉ a := fun e => h (List.mem_cons_of_mem _ e)
  rw [List.cons_append, pieces, if_neg hd, pieces_cut ha]
/-! ### The library's words for it -/
theorem index_miss {c : UInt8} : ∀ {s : List UInt8}, c ∉ s → index s [c] = -1
 | [], _ => rfl
 | d :: r, h => by
  have hd : ¬ c = d := fun e => h (by rw [e]; exact List.mem_cons_self ..)
  have hr : c ∉ r := fun e => h (List.mem_cons_of_mem _ e)
  have hp : ([c] : List UInt8).isPrefixOf (d :: r) = false := by simp [List.isPrefixOf, hd]
  rw [index, hp, index_miss hr]
  rfl
theorem index_hit {c : UInt8} : ∀ {a b : List UInt8}, c ∉ a → index (a ++ c :: b) [c] = (a.length : Int)
 | [], b, _ => by
  have hp : ([c] : List UInt8).isPrefixOf (c :: b) = true := by simp [List.isPrefixOf]
  rw [List.nil_append, index, hp]
  rfl
 | d :: a, b, h => by
  have hd : ¬ c = d := fun e => h (by rw [e]; exact List.mem_cons_self ..)
  have ha : c ∉ a := fun e => h (List.mem_cons_of_mem _ e)
  have hp : ([c] : List UInt8).isPrefixOf (d :: (a ++ c :: b)) = false := by simp [List.isPrefixOf, hd]
  rw [List.cons_append, index, hp, index_hit ha, if_neg (by decide), if_neg (by
   intro h
   have := eq_of_beq h
   omega)]
  simp
theorem first_cut {c : UInt8} {s : List UInt8} (h : c ∈ s) : ∃ a b, s = a ++ c :: b ∧ c ∉ a := List.eq_append_cons_of_mem h
theorem cut_one (c : UInt8) (s : List UInt8) : (cut s [c]).1 = s.takeWhile (fun d => decide (d ≠ c)) := by
 by_cases h : c ∈ s
 ·obtain ⟨a, b, rfl, ha⟩ := first_cut h
  have h1 : ∀ x ∈ a, decide (x ≠ c) = true := fun x hx => by
   simp only [decide_eq_true_eq]
   rintro rfl
   exact ha hx
  rw [cut, index_hit ha, if_pos (by omega), List.takeWhile_append_of_pos h1, List.takeWhile_cons_of_neg (by simp)]
  simp
 ·have h1 : ∀ x ∈ s, decide (x ≠ c) = true := fun x hx => by
   simp only [decide_eq_true_eq]
   rintro rfl
   exact h hx
  rw [cut, index_miss h, if_neg (by decide)]
  have := List.takeWhile_append_of_pos (l₂ := []) h1
  simpa using this.symm
theorem countFrom_one (c : UInt8) : ∀ (f : Nat) (s : List UInt8), s.length < f → countFrom [c] f s = s.count c
 | 0, s, h => by omega
 | f + 1, s, h => by
  rw [countFrom]
  by_cases hc : c ∈ s
  ·obtain ⟨a, b, rfl, ha⟩ := first_cut hc
   rw [index_hit ha, if_neg (by
    intro h
    have := eq_of_beq h
    omega)]
   have hd : (a ++ c :: b).drop ((a.length : Int).toNat + [c].length) = b := by
    rw [show (a.length : Int).toNat + [c].length = a.length + 1 by simp]
    rw [← List.drop_drop, List.drop_left]
    rfl
   rw [hd, countFrom_one c f b (by simp only [List.length_append, List.length_cons] at h; omega)]
   rw [List.count_append, List.count_cons_self, List.count_eq_zero.2 ha]
   omega
  ·rw [index_miss hc, if_pos (by decide), List.count_eq_zero.2 hc]
theorem splitK_one (c : UInt8) : ∀ (k : Nat) (s : List UInt8), s.count c ≤ k → splitK [c] 0 k s = pieces c s
 | 0, s, h => by
  have hc : c ∉ s := List.count_eq_zero.1 (by omega)
  rw [splitK, pieces_one hc]
 | k + 1, s, h => by
  rw [splitK]
  by_cases hc : c ∈ s
  ·obtain ⟨a, b, rfl, ha⟩ := first_cut hc
   rw [index_hit ha, if_neg (by
    intro h
    have := eq_of_beq h
    omega), pieces_cut ha]
   have hd : (a ++ c :: b).drop ((a.length : Int).toNat + [c].length) = b := by
    rw [show (a.length : Int).toNat + [c].length = a.length + 1 by simp]
    rw [← List.drop_drop, List.drop_left]
    rfl
   rw [hd, show (a.length : Int).toNat + 0 = a.length by simp, List.take_left, splitK_one c k b (by
    rw [List.count_append, List.count_cons_self] at h
    omega)]
  ·rw [index_miss hc, if_pos (by decide), pieces_one hc]
theorem split_one (c : UInt8) (s : List UInt8) : split s [c] = pieces c s := by
 rw [split, count, splitK_one c _ s (by rw [countFrom_one c _ s (by omega)]; exact Nat.le_refl _)]
/-! ### Words -/
def full (l : List (List UInt8)) : List Wd := l.filter fun w => decide (w ≠ [])
/-- The words of a line. -/
def lineW (s : List UInt8) : List Wd := full (pieces 32 (s.takeWhile fun d => decide (d ≠ 35)))
/-- The words of assembly. -/
def wordsP (s : List UInt8) : List Wd := (pieces 10 s).flatMap lineW
def flush (cur : List UInt8) : List Wd := if cur = [] then [] else [cur]
/-- Character by character: the word begun, and whether a comment goes on. -/
def scanW : List UInt8 → Bool → List UInt8 → List Wd
 | cur, _, [] => flush cur
 | cur, com, c :: r =>
  if c = 10 then flush cur ++ scanW [] false r
  else if com = true then scanW cur true r
  else if c = 35 then flush cur ++ scanW [] true r
  else if c = 32 then flush cur ++ scanW [] false r
  else scanW (cur ++ [c]) false r
/-- What is left of a line, a word having begun. -/
def restW (cur : List UInt8) (com : Bool) (l : List UInt8) : List Wd := if com = true then flush cur else lineW (cur ++ l)
theorem full_app (a b : List (List UInt8)) : full (a ++ b) = full a ++ full b := List.filter_append ..
theorem full_one (a : List UInt8) : full [a] = flush a := by
 unfold full flush
 by_cases h : a = [] <;> simp [h]
/-- No character that ends a word. -/
def Plain (cur : List UInt8) : Prop := ∀ c ∈ cur, c ≠ 10 ∧ c ≠ 32 ∧ c ≠ 35
theorem line_stop {cur : List UInt8} (h : Plain cur) (l : List UInt8) : lineW (cur ++ 35 :: l) = flush cur := by
 have h1 : ∀ x ∈ cur, decide (x ≠ 35) = true := fun x hx => by simp only [decide_eq_true_eq]; exact (h x hx).2.2
 have h2 : (32 : UInt8) ∉ cur := fun hx => (h 32 hx).2.1 rfl
 unfold lineW
 rw [List.takeWhile_append_of_pos h1, List.takeWhile_cons_of_neg (by simp), List.append_nil, pieces_one h2, full_one]
theorem line_end {cur : List UInt8} (h : Plain cur) : lineW cur = flush cur := by
 have h1 : ∀ x ∈ cur, decide (x ≠ 35) = true := fun x hx => by simp only [decide_eq_true_eq]; exact (h x hx).2.2
 have h2 : (32 : UInt8) ∉ cur := fun hx => (h 32 hx).2.1 rfl
 have h3 := List.takeWhile_append_of_pos (l₂ := []) h1
 rw [List.append_nil, List.takeWhile_nil, List.append_nil] at h3
 unfold lineW
 rw [h3, pieces_one h2, full_one]
theorem line_space {cur : List UInt8} (h : Plain cur) (l : List UInt8) : lineW (cur ++ 32 :: l) = flush cur ++ lineW l := by
 have h1 : ∀ x ∈ cur, decide (x ≠ 35) = true := fun x hx => by simp only [decide_eq_true_eq]; exact (h x hx).2.2
 have h2 : (32 : UInt8) ∉ cur := fun hx => (h 32 hx).2.1 rfl
 unfold lineW
 rw [List.takeWhile_append_of_pos h1, List.takeWhile_cons_of_pos (by decide), pieces_cut h2, ← List.singleton_append, full_app, full_one]
theorem scan_eq : ∀ (s cur : List UInt8) (com : Bool) (p : List UInt8) (ps : List (List UInt8)), Plain cur → (com = true → cur = []) → pieces 10 s = p :: ps → scanW cur com s = restW cur com p ++ ps.flatMap lineW
 | [], cur, com, p, ps, hc, hcom, hp => by
  cases hp
  rw [scanW, restW]
  cases com with
  | true => simp
  | false => simp [line_end hc]
 | c :: r, cur, com, p, ps, hc, hcom, hp => by
  obtain ⟨q, qs, hq⟩ := pieces_ne 10 r
  rw [scanW]
  by_cases h10 : c = 10
  ·subst h10
   rw [pieces_hit, hq] at hp
   cases hp
   rw [if_pos rfl, scan_eq r [] false q qs (fun x hx => by cases hx) (by simp) hq]
   have : restW cur com [] = flush cur := by
    unfold restW
    cases com with
    | true => rfl
    | false => rw [if_neg (by decide), List.append_nil, line_end hc]
   rw [this]
   simp [restW]
  ·clear hq
   obtain ⟨q, qs, hq, hp'⟩ := pieces_miss h10 r
   rw [hp'] at hp
   cases hp
   rw [if_neg h10]
   cases com with
   | true =>
    obtain rfl := hcom rfl
    rw [if_pos rfl, scan_eq r [] true q ps (fun x hx => by cases hx) (fun _ => rfl) hq]
    simp [restW]
   | false =>
    rw [if_neg (by decide)]
    by_cases h35 : c = 35
    ·subst h35
     rw [if_pos rfl, scan_eq r [] true q ps (fun x hx => by cases hx) (fun _ => rfl) hq]
     have : restW cur false (35 :: q) = flush cur := by unfold restW; rw [if_neg (by decide), line_stop hc]
     rw [this]
     simp [restW, flush]
    ·rw [if_neg h35]
     by_cases h32 : c = 32
     ·subst h32
      rw [if_pos rfl, scan_eq r [] false q ps (fun x hx => by cases hx) (by simp) hq]
      have : restW cur false (32 :: q) = flush cur ++ lineW q := by unfold restW; rw [if_neg (by decide), line_space hc]
      rw [this, List.append_assoc]
      simp [restW]
     ·rw [if_neg h32, scan_eq r (cur ++ [c]) false q ps (fun x hx => by
       rcases List.mem_append.1 hx with h | h
       ·exact hc x h
       ·obtain rfl := List.mem_singleton.1 h
        exact ⟨h10, h32, h35⟩) (by simp) hq]
      simp [restW]
/-- Character by character, the words are the same. -/
theorem scan_words (s : List UInt8) : scanW [] false s = wordsP s := by
 obtain ⟨p, ps, hp⟩ := pieces_ne 10 s
 rw [scan_eq s [] false p ps (fun x hx => by cases hx) (by simp) hp]
 unfold wordsP
 rw [hp]
 simp [restW]
end Go.Stele
namespace Go.Stele
open Go.Lib
theorem onceF_or (used : Wd → Bool) : ∀ (f : Nat) (l : List Wd), l.length ≤ f → onceF used f l = l ∨ (onceF used f l).length < l.length
 | 0, l, h => by
  have : l = [] := List.eq_nil_of_length_eq_zero (by omega)
  subst this
  exact .inl rfl
 | f + 1, [], _ => .inl rfl
 | f + 1, w :: r, h => by
  rw [onceF]
  split
  ·rcases onceF_or used f r (by simp only [List.length_cons] at h; omega) with h1 | h1
   ·rw [h1]; exact .inl rfl
   ·right
    simp only [List.length_cons]
    omega
  ·rename_i h0
   obtain ⟨h1, h2⟩ := rule_ok used (w :: r) h0
   have := onceF_len used f ((w :: r).drop (ruleW used (w :: r)).1)
   rw [List.length_drop] at this
   right
   rw [List.length_append]
   omega
theorem onceP_or (l : List Wd) : onceP l = l ∨ (onceP l).length < l.length := onceF_or _ _ l (Nat.le_refl _)
def optF : Nat → List Wd → List Wd
 | 0, l => l
 | f + 1, l => if onceP l = l then l else optF f (onceP l)
/-- Passes until nothing changes. -/
def optP (l : List Wd) : List Wd := optF l.length l
theorem optF_fuel : ∀ (f g : Nat) (l : List Wd), l.length ≤ f → l.length ≤ g → optF f l = optF g l
 | 0, 0, _, _, _ => rfl
 | 0, g + 1, l, h, _ => by
  have : l = [] := List.eq_nil_of_length_eq_zero (by omega)
  subst this
  rw [optF, optF, if_pos (by rfl)]
 | f + 1, 0, l, _, h => by
  have : l = [] := List.eq_nil_of_length_eq_zero (by omega)
  subst this
  rw [optF, optF, if_pos (by rfl)]
 | f + 1, g + 1, l, h1, h2 => by
  rw [optF, optF]
  split
  ·rfl
  ·rename_i h
   rcases onceP_or l with h3 | h3
   ·exact absurd h3 h
   ·exact optF_fuel f g (onceP l) (by omega) (by omega)
theorem optP_eq {l : List Wd} (h : onceP l = l) : optP l = l := by
 unfold optP
 cases l with
 | nil => rfl
 | cons w r => rw [List.length_cons, optF, if_pos h]
theorem optP_step {l : List Wd} (h : onceP l ≠ l) : optP l = optP (onceP l) := by
 rcases onceP_or l with h3 | h3
 ·exact absurd h3 h
 ·have h4 : ∃ k, l.length = k + 1 := ⟨l.length - 1, by omega⟩
  obtain ⟨k, hk⟩ := h4
  unfold optP
  rw [hk, optF, if_neg h]
  exact optF_fuel _ _ _ (by omega) (Nat.le_refl _)
/-! ### What holds of all words goes on holding -/
theorem wdAt_mem {v : List Wd} {i : Nat} (h : i < v.length) : wdAt v i ∈ v := by
 unfold wdAt
 rw [List.getElem?_eq_getElem h]
 exact List.getElem_mem h
theorem joined_dec {x op y s : Wd} (h : joinedW x op y = some s) : ∃ c, c < 4294967296 ∧ s = decDigits c := by
 unfold joinedW at h
 split at h
 ·rename_i a b ha hb
  split at h
  ·rename_i c hc
   split at h
   ·cases h
    exact ⟨c, comp_lt (numW_lt ha) (numW_lt hb) hc, rfl⟩
   ·cases h
  ·cases h
 ·cases h
theorem rule_all {P : Wd → Prop} (hd : ∀ n, n < 4294967296 → P (decDigits n)) (used : Wd → Bool) (v : List Wd) (hv : ∀ w ∈ v, P w) : ∀ w ∈ (ruleW used v).2, P w := by
 have none : ∀ n : Nat, ∀ w ∈ ((n, []) : RuleW).2, P w := fun _ w hw => by cases hw
 by_cases h1 : ∃ s, dFold v = some s
 ·obtain ⟨s, h1⟩ := h1
  rw [rule1 h1]
  obtain ⟨c, hc, rfl⟩ := joined_dec h1
  intro w hw
  rcases List.mem_singleton.1 hw with rfl
  exact hd c hc
 have h1 : dFold v = Option.none := by
  cases h : dFold v with
  | none => rfl
  | some s => exact absurd ⟨s, h⟩ h1
 by_cases h2 : cNeutral v
 ·rw [rule2 h1 h2]; exact none _
 by_cases h3 : cRegroup v ∧ ∃ s, dRegroup v = some s
 ·obtain ⟨h3, s, h4⟩ := h3
  rw [rule3 h1 h2 h3 h4]
  obtain ⟨c, hc, rfl⟩ := joined_dec h4
  have h5 := wdAt_lt (joined_ne h4).2.1
  intro w hw
  simp only [List.mem_cons, List.not_mem_nil, or_false] at hw
  rcases hw with rfl | rfl
  ·exact hd c hc
  ·exact hv _ (wdAt_mem h5)
 have h3 : ¬ cRegroup v ∨ dRegroup v = Option.none := by
  by_cases hc : cRegroup v
  ·right
   cases h : dRegroup v with
   | none => rfl
   | some s => exact absurd ⟨hc, s, h⟩ h3
  ·exact .inl hc
 by_cases h4 : cSame v
 ·rw [rule4 h1 h2 h3 h4]; exact none _
 by_cases h5 : cDouble v
 ·rw [rule5 h1 h2 h3 h4 h5]
  obtain ⟨l, hl⟩ := Option.isSome_iff_exists.1 h5.1
  have h6 := jumpW_lt hl
  intro w hw
  simp only [List.mem_cons, List.not_mem_nil, or_false] at hw
  rcases hw with rfl | rfl
  ·exact hv _ (wdAt_mem (by omega))
  ·exact hv _ (wdAt_mem (by omega))
 cases h6 : cNever v with
 | true => rw [rule6 h1 h2 h3 h4 h5 h6]; exact none _
 | false =>
  cases h7 : cNext v with
  | true => rw [rule7 h1 h2 h3 h4 h5 h6 h7]; exact none _
  | false =>
   by_cases h8 : cDead v
   ·rw [rule8 h1 h2 h3 h4 h5 h6 h7 h8]
    exact fun w hw => hv w (List.mem_of_mem_take hw)
   ·rw [rule9 h1 h2 h3 h4 h5 h6 h7 h8]
    unfold rUnused
    split
    ·split <;> exact none _
    ·exact none _
theorem onceF_all {P : Wd → Prop} (hd : ∀ n, n < 4294967296 → P (decDigits n)) (used : Wd → Bool) : ∀ (f : Nat) (l : List Wd), (∀ w ∈ l, P w) → ∀ w ∈ onceF used f l, P w
 | 0, _, _ => fun w hw => by cases hw
 | f + 1, [], _ => fun w hw => by cases hw
 | f + 1, a :: r, hl => by
  rw [onceF]
  split
  ·intro w hw
   rcases List.mem_cons.1 hw with rfl | hw
   ·exact hl _ (List.mem_cons_self ..)
   ·exact onceF_all hd used f r (fun x hx => hl x (List.mem_cons_of_mem _ hx)) w hw
  ·intro w hw
   rcases List.mem_append.1 hw with hw | hw
   ·exact rule_all hd used (a :: r) hl w hw
   ·exact onceF_all hd used f _ (fun x hx => hl x (List.mem_of_mem_drop hx)) w hw
/-! ### Words joined and cut again -/
def CleanW (w : Wd) : Prop := w ≠ [] ∧ Plain w
theorem dec_clean (n : Nat) : CleanW (decDigits n) := ⟨decDigits_ne n, fun c hc => by
 have := dec_digits n c hc
 refine ⟨?_, ?_, ?_⟩ <;> (rintro rfl; exact absurd this (by decide))⟩
theorem pieces_clean {c : UInt8} {l : List UInt8} : ∀ p ∈ pieces c l, c ∉ p ∧ ∀ x ∈ p, x ∈ l := by
 induction l with
 | nil =>
  intro p hp
  obtain rfl := List.mem_singleton.1 hp
  exact ⟨by simp, by simp⟩
 | cons d r ih =>
  intro p hp
  by_cases h : d = c
  ·subst h
   rw [pieces_hit] at hp
   rcases List.mem_cons.1 hp with rfl | hp
   ·exact ⟨by simp, by simp⟩
   ·exact ⟨(ih p hp).1, fun x hx => List.mem_cons_of_mem _ ((ih p hp).2 x hx)⟩
  ·obtain ⟨q, qs, h1, h2⟩ := pieces_miss h r
   rw [h2] at hp
   rw [h1] at ih
   rcases List.mem_cons.1 hp with rfl | hp
   ·have := ih q (List.mem_cons_self ..)
    refine ⟨fun hm => ?_, fun x hx => ?_⟩
    ·rcases List.mem_cons.1 hm with e | hm
     ·exact h e.symm
     ·exact this.1 hm
    ·rcases List.mem_cons.1 hx with rfl | hx
     ·exact List.mem_cons_self ..
     ·exact List.mem_cons_of_mem _ (this.2 x hx)
   ·have := ih p (List.mem_cons_of_mem _ hp)
    exact ⟨this.1, fun x hx => List.mem_cons_of_mem _ (this.2 x hx)⟩
theorem lineW_clean {l : List UInt8} (h : (10 : UInt8) ∉ l) : ∀ w ∈ lineW l, CleanW w := by
 intro w hw
 obtain ⟨h1, h2⟩ := List.mem_filter.1 hw
 obtain ⟨h3, h4⟩ := pieces_clean w h1
 refine ⟨of_decide_eq_true h2, fun c hc => ⟨?_, ?_, ?_⟩⟩
 ·rintro rfl
  exact h ((List.takeWhile_prefix _).subset (h4 _ hc))
 ·rintro rfl
  exact h3 hc
 ·rintro rfl
  have : ∀ (l : List UInt8), (35 : UInt8) ∉ l.takeWhile fun d => decide (d ≠ 35) := by
   intro l
   induction l with
   | nil => simp
   | cons d r ih =>
    rw [List.takeWhile_cons]
    split
    ·rename_i hd
     intro hm
     rcases List.mem_cons.1 hm with e | hm
     ·rw [← e] at hd; simp at hd
     ·exact ih hm
    ·simp
  exact this _ (h4 _ hc)
theorem wordsP_clean (s : List UInt8) : ∀ w ∈ wordsP s, CleanW w := by
 intro w hw
 obtain ⟨p, hp, hw⟩ := List.mem_flatMap.1 hw
 exact lineW_clean (pieces_clean p hp).1 w hw
theorem join_two' (x y : Wd) (r : List Wd) : join (x :: y :: r) [32] = x ++ 32 :: join (y :: r) [32] := by simp [join]
theorem join_noNl : ∀ (l : List Wd), (∀ w ∈ l, CleanW w) → (10 : UInt8) ∉ join l [32]
 | [], _ => by simp [join]
 | [a], h => by
  rw [join_one]
  exact fun hm => ((h a (List.mem_cons_self ..)).2 10 hm).1 rfl
 | a :: b :: r, h => by
  rw [join_two']
  intro hm
  rcases List.mem_append.1 hm with hm | hm
  ·exact ((h a (List.mem_cons_self ..)).2 10 hm).1 rfl
  ·rcases List.mem_cons.1 hm with e | hm
   ·exact absurd e (by decide)
   ·exact join_noNl (b :: r) (fun x hx => h x (List.mem_cons_of_mem _ hx)) hm
theorem line_join : ∀ (l : List Wd), (∀ w ∈ l, CleanW w) → lineW (join l [32]) = l
 | [], _ => rfl
 | [a], h => by
  obtain ⟨h1, h2⟩ := h a (List.mem_cons_self ..)
  rw [join_one, line_end h2]
  simp [flush, h1]
 | a :: b :: r, h => by
  obtain ⟨h1, h2⟩ := h a (List.mem_cons_self ..)
  rw [join_two', line_space h2, line_join (b :: r) fun x hx => h x (List.mem_cons_of_mem _ hx)]
  simp [flush, h1]
/-- Clean words, joined by spaces, are cut into the same words. -/
theorem words_join {l : List Wd} (h : ∀ w ∈ l, CleanW w) : wordsP (join l [32]) = l := by
 unfold wordsP
 rw [pieces_one (join_noNl l h)]
 simp [line_join l h]
theorem join_inj {a b : List Wd} (ha : ∀ w ∈ a, CleanW w) (hb : ∀ w ∈ b, CleanW w) (h : join a [32] = join b [32]) : a = b := by
 rw [← words_join ha, ← words_join hb, h]
theorem once_clean {l : List Wd} (h : ∀ w ∈ l, CleanW w) : ∀ w ∈ onceP l, CleanW w := onceF_all (fun n _ => dec_clean n) _ _ l h
/-- What Optimize returns. -/
def optimizeP (s : List UInt8) : List UInt8 × Int := if 400000 < s.length then ([], 6) else (join (optP (wordsP s)) [32], 0)
theorem join_size {m : Nat} : ∀ (l : List Wd), (∀ w ∈ l, w.length ≤ m) → (join l [32]).length ≤ l.length * (m + 1)
 | [], _ => Nat.zero_le _
 | [a], h => by
  rw [join_one]
  have := h a (List.mem_cons_self ..)
  simp only [List.length_cons, List.length_nil]
  omega
 | a :: b :: r, h => by
  rw [join_two']
  have h1 := h a (List.mem_cons_self ..)
  have h2 := join_size (b :: r) fun x hx => h x (List.mem_cons_of_mem _ hx)
  simp only [List.length_append, List.length_cons, Nat.add_mul, Nat.one_mul] at h2 ⊢
  omega
/-! ### The text does not grow -/
def tot (l : List Wd) : Nat := (l.map fun w => w.length + 1).sum
theorem tot_cons (w : Wd) (l : List Wd) : tot (w :: l) = w.length + 1 + tot l := by simp [tot]
theorem tot_nil : tot [] = 0 := rfl
theorem tot_app (a b : List Wd) : tot (a ++ b) = tot a + tot b := by simp [tot]
theorem tot_split (l : List Wd) (n : Nat) : tot l = tot (l.take n) + tot (l.drop n) := by rw [← tot_app, List.take_append_drop]
theorem join_tot : ∀ l : List Wd, (join l [32]).length ≤ tot l
 | [] => Nat.zero_le _
 | [a] => by
  rw [join_one, tot_cons]
  omega
 | a :: b :: r => by
  have := join_tot (b :: r)
  rw [join_two', tot_cons]
  simp only [List.length_append, List.length_cons]
  omega
theorem joined_len {x op y s : Wd} (h : joinedW x op y = some s) : s.length ≤ x.length + y.length + 1 := by
 unfold joinedW at h
 split at h
 ·split at h
  ·split at h
   ·rename_i hle
    cases h
    exact hle
   ·cases h
  ·cases h
 ·cases h
theorem rule_tot (used : Wd → Bool) (v : List Wd) : tot (ruleW used v).2 ≤ tot (v.take (ruleW used v).1) := by
 by_cases h1 : ∃ s, dFold v = some s
 ·obtain ⟨s, h1⟩ := h1
  rw [rule1 h1]
  have hl := joined_len h1
  have hlt := wdAt_lt (joined_ne h1).2.1
  match v, hlt, hl with
  | a :: b :: c :: r, _, hl =>
   simp only [wdAt, List.getElem?_cons_zero, List.getElem?_cons_succ, Option.getD_some] at hl
   simp only [List.take_succ_cons, List.take_zero, tot_cons, tot_nil]
   omega
 have h1 : dFold v = Option.none := by
  cases h : dFold v with
  | none => rfl
  | some s => exact absurd ⟨s, h⟩ h1
 by_cases h2 : cNeutral v
 ·rw [rule2 h1 h2]; exact Nat.zero_le _
 by_cases h3 : cRegroup v ∧ ∃ s, dRegroup v = some s
 ·obtain ⟨h3, s, h4⟩ := h3
  rw [rule3 h1 h2 h3 h4]
  have hl := joined_len h4
  have h5 : wdAt v 3 ≠ [] := by rw [h3.2]; exact (joined_ne h4).2.1
  have hlt := wdAt_lt h5
  match v, hlt, hl with
  | a :: b :: c :: d :: r, _, hl =>
   simp only [wdAt, List.getElem?_cons_zero, List.getElem?_cons_succ, Option.getD_some] at hl ⊢
   simp only [List.take_succ_cons, List.take_zero, tot_cons, tot_nil]
   omega
 have h3 : ¬ cRegroup v ∨ dRegroup v = Option.none := by
  by_cases hc : cRegroup v
  ·right
   cases h : dRegroup v with
   | none => rfl
   | some s => exact absurd ⟨hc, s, h⟩ h3
  ·exact .inl hc
 by_cases h4 : cSame v
 ·rw [rule4 h1 h2 h3 h4]; exact Nat.zero_le _
 by_cases h5 : cDouble v
 ·rw [rule5 h1 h2 h3 h4 h5]
  obtain ⟨l, hl⟩ := Option.isSome_iff_exists.1 h5.1
  have h6 := jumpW_lt hl
  match v, h6 with
  | a :: b :: c :: d :: e :: f :: r, _ =>
   simp only [wdAt, List.getElem?_cons_zero, List.getElem?_cons_succ, Option.getD_some]
   simp only [List.take_succ_cons, List.take_zero, tot_cons, tot_nil]
   omega
 cases h6 : cNever v with
 | true => rw [rule6 h1 h2 h3 h4 h5 h6]; exact Nat.zero_le _
 | false =>
  cases h7 : cNext v with
  | true => rw [rule7 h1 h2 h3 h4 h5 h6 h7]; exact Nat.zero_le _
  | false =>
   by_cases h8 : cDead v
   ·rw [rule8 h1 h2 h3 h4 h5 h6 h7 h8]
    simp only
    have := tot_split (v.take (stopW v + deadLen (v.drop (stopW v)))) (stopW v)
    rw [List.take_take, Nat.min_eq_left (by omega)] at this
    omega
   ·rw [rule9 h1 h2 h3 h4 h5 h6 h7 h8]
    unfold rUnused
    split
    ·split <;> exact Nat.zero_le _
    ·exact Nat.zero_le _
theorem onceF_tot (used : Wd → Bool) : ∀ (f : Nat) (l : List Wd), tot (onceF used f l) ≤ tot l
 | 0, _ => Nat.zero_le _
 | f + 1, [] => Nat.le_refl _
 | f + 1, a :: r => by
  rw [onceF]
  split
  ·rw [tot_cons, tot_cons]
   have := onceF_tot used f r
   omega
  ·have h1 := rule_tot used (a :: r)
   have h2 := onceF_tot used f ((a :: r).drop (ruleW used (a :: r)).1)
   have h3 := tot_split (a :: r) (ruleW used (a :: r)).1
   rw [tot_app]
   omega
theorem optF_tot : ∀ (f : Nat) (l : List Wd), tot (optF f l) ≤ tot l
 | 0, l => Nat.le_refl _
 | f + 1, l => by
  rw [optF]
  split
  ·exact Nat.le_refl _
  ·exact Nat.le_trans (optF_tot f _) (onceF_tot _ _ l)
theorem scan_tot : ∀ (s cur : List UInt8) (com : Bool), tot (scanW cur com s) ≤ cur.length + s.length + 1
 | [], cur, com => by
  rw [scanW]
  unfold flush
  split
  ·exact Nat.zero_le _
  ·simp [tot]
 | c :: r, cur, com => by
  have hf : tot (flush cur) ≤ cur.length + 1 := by
   unfold flush
   split
   ·exact Nat.zero_le _
   ·simp [tot]
  rw [scanW]
  simp only [List.length_cons]
  split
  ·have := scan_tot r [] false
   rw [tot_app]
   simp only [List.length_nil] at this
   omega
  split
  ·have := scan_tot r cur true
   omega
  split
  ·have := scan_tot r [] true
   rw [tot_app]
   simp only [List.length_nil] at this
   omega
  split
  ·have := scan_tot r [] false
   rw [tot_app]
   simp only [List.length_nil] at this
   omega
  ·have := scan_tot r (cur ++ [c]) false
   rw [List.length_append, List.length_singleton] at this
   omega
theorem words_tot (s : List UInt8) : tot (wordsP s) ≤ s.length + 1 := by
 rw [← scan_words]
 have := scan_tot s [] false
 simpa using this
/-- The optimized text is no longer. -/
theorem opt_size (s : List UInt8) : (join (optP (wordsP s)) [32]).length ≤ s.length + 1 :=
 Nat.le_trans (join_tot _) (Nat.le_trans (optF_tot _ _) (words_tot s))
end Go.Stele
namespace Go.Stele
open Go.Lib
/-! ### Numbers, digit by digit -/
/-! ### Labels -/
theorem nameW_eq (c : UInt8) (r : List UInt8) : nameW (c :: r) = (decide ((c :: r).length ≤ 40) && isLetter c && (c :: r).all isInner) := rfl
theorem nameW_ne {s : Wd} (h : nameW s = true) : s ≠ [] := by
 rintro rfl
 cases h
/-! ### The words of assembly, with their lines -/
/-- The tokens of lines, n lines having gone before. -/
def toksN : Nat → List (List UInt8) → List (Wd × Nat)
 | _, [] => []
 | n, l :: r => (lineW l).map (fun w => (w, n + 1)) ++ toksN (n + 1) r
def toksP (s : List UInt8) : List (Wd × Nat) := toksN 0 (pieces 10 s)
theorem toksN_fst : ∀ (l : List (List UInt8)) (n : Nat), (toksN n l).map (·.1) = l.flatMap lineW
 | [], _ => rfl
 | a :: r, n => by
  rw [toksN, List.map_append, List.map_map, toksN_fst r]
  simp [Function.comp_def]
theorem toksP_fst (s : List UInt8) : (toksP s).map (·.1) = wordsP s := toksN_fst _ 0
theorem toksN_drop {l : List (List UInt8)} {i : Nat} (h : i < l.length) (n : Nat) : toksN n (l.drop i) = (lineW l[i]).map (fun w => (w, n + 1)) ++ toksN (n + 1) (l.drop (i + 1)) := by
 rw [List.drop_eq_getElem_cons h, toksN]
theorem full_drop {l : List (List UInt8)} {i : Nat} (h : i < l.length) : full (l.drop i) = if l[i] = [] then full (l.drop (i + 1)) else l[i] :: full (l.drop (i + 1)) := by
 rw [List.drop_eq_getElem_cons h]
 unfold full
 rw [List.filter_cons]
 by_cases hc : l[i] = []
 ·simp [hc]
 ·simp [hc]
theorem pieces_len (c : UInt8) : ∀ s, (pieces c s).length ≤ s.length + 1
 | [] => by simp [pieces]
 | d :: r => by
  have := pieces_len c r
  by_cases h : d = c
  ·subst h
   rw [pieces_hit]
   simp only [List.length_cons]
   omega
  ·obtain ⟨p, ps, h1, h2⟩ := pieces_miss h r
   rw [h2]
   rw [h1] at this
   simp only [List.length_cons] at this ⊢
   omega
theorem pieces_mem_len {c : UInt8} : ∀ {s p : List UInt8}, p ∈ pieces c s → p.length ≤ s.length
 | [], p, h => by
  obtain rfl := List.mem_singleton.1 h
  exact Nat.le_refl _
 | d :: r, p, h => by
  by_cases hd : d = c
  ·subst hd
   rw [pieces_hit] at h
   rcases List.mem_cons.1 h with rfl | h
   ·exact Nat.zero_le _
   ·have := pieces_mem_len h
    simp only [List.length_cons]
    omega
  ·obtain ⟨q, qs, h1, h2⟩ := pieces_miss hd r
   rw [h2] at h
   rcases List.mem_cons.1 h with rfl | h
   ·have := pieces_mem_len (c := c) (s := r) (p := q) (by rw [h1]; exact List.mem_cons_self ..)
    simp only [List.length_cons]
    omega
   ·have := pieces_mem_len (c := c) (s := r) (p := p) (by rw [h1]; exact List.mem_cons_of_mem _ h)
    simp only [List.length_cons]
    omega
theorem wordsP_len (s : List UInt8) : (wordsP s).length ≤ s.length + 1 := by
 have h1 := words_tot s
 have h2 : (wordsP s).length ≤ tot (wordsP s) := by
  unfold tot
  generalize wordsP s = l
  induction l with
  | nil => exact Nat.le_refl _
  | cons a l ih =>
   simp only [List.length_cons, List.map_cons, List.sum_cons]
   omega
 omega
theorem tot_mem {l : List Wd} {w : Wd} (h : w ∈ l) : w.length + 1 ≤ tot l := by
 induction l with
 | nil => cases h
 | cons a l ih =>
  rw [tot_cons]
  rcases List.mem_cons.1 h with rfl | h
  ·omega
  ·have := ih h
   omega
theorem tot_len (l : List Wd) : l.length ≤ tot l := by
 induction l with
 | nil => exact Nat.zero_le _
 | cons a l ih =>
  rw [tot_cons, List.length_cons]
  omega
theorem onceP_tot (l : List Wd) : tot (onceP l) ≤ tot l := onceF_tot _ _ _
end Go.Stele
namespace Go.Stele
open Go.Lib
def codeSet : List UInt8 := [43, 45, 42, 47, 37, 94, 60, 64, 33, 63, 58, 59, 44, 46, 36, 48, 49, 50, 51, 52, 53, 54, 55, 56, 57]
/-- Signs and digits alone. -/
def codeW (w : Wd) : Bool := w.all fun c => codeSet.contains c
/-- The labels that are defined, in their order. -/
def defs (l : List Wd) : List Wd := l.filterMap defW
/-- A word that can be assembled where these labels are defined. -/
def OkW (ds : List Wd) (w : Wd) : Prop := match defW w with
 | some _ => True
 | none => match refW w with
  | some d => d ∈ ds
  | none => codeW w = true
/-- Words that can be assembled. -/
def AsmOk (l : List Wd) : Prop := (defs l).Nodup ∧ ∀ w ∈ l, OkW (defs l) w
def firstD (w : Wd) : Bool := match w with
 | [] => false
 | c :: _ => isDigit c
def lastD (w : Wd) : Bool := match w.getLast? with
 | some c => isDigit c
 | none => false
def one (d : Bool) : Nat := if d = true then 1 else 0
/-- How long the text of words is, a digit standing ahead of it or not. -/
def lenW : Bool → List Wd → Nat
 | _, [] => 0
 | d, w :: r => match defW w with
  | some _ => lenW d r
  | none => match refW w with
   | some _ => one d + 6 + lenW true r
   | none => one (d && firstD w) + w.length + lenW (lastD w) r
/-! ### Kinds of words -/
structure Num (w : Wd) : Prop where
 d : defW w = none
 r : refW w = none
 f : firstD w = true
 l : lastD w = true
 n : 1 ≤ w.length
 c : codeW w = true
theorem code_digit {c : UInt8} (h : isDigit c = true) : codeSet.contains c = true := by
 have : ∀ n : Nat, n < 256 → isDigit (UInt8.ofNat n) = true → codeSet.contains (UInt8.ofNat n) = true := by decide +kernel
 have h1 := this c.toNat c.toNat_lt
 rw [UInt8.ofNat_toNat] at h1
 exact h1 h
theorem dec_num (n : Nat) : Num (decDigits n) := by
 have hd := dec_digits n
 have hne := decDigits_ne n
 generalize decDigits n = w at hd hne
 cases w with
 | nil => exact absurd rfl hne
 | cons c r =>
  have hc := hd c (List.mem_cons_self ..)
  have hl : (c :: r).getLast? = some ((c :: r).getLast (by simp)) := List.getLast?_eq_some_getLast (by simp)
  have hlm := hd _ (List.getLast_mem (l := c :: r) (by simp))
  refine ⟨?_, ?_, hc, ?_, by simp, ?_⟩
  ·unfold defW
   rw [hl, if_neg]
   intro h
   rw [Option.some.inj h.1] at hlm
   exact absurd hlm (by decide)
  ·unfold refW
   simp only
   rw [if_neg]
   intro h
   rw [h.1] at hc
   exact absurd hc (by decide)
  ·unfold lastD
   rw [hl]
   exact hlm
  ·unfold codeW
   rw [List.all_eq_true]
   exact fun x hx => code_digit (hd x hx)
/-! ### Lengths -/
theorem one_le (d : Bool) : one d ≤ 1 := by cases d <;> simp [one]
theorem defs_cons (w : Wd) (l : List Wd) : defs (w :: l) = (match defW w with | some d => [d] | none => []) ++ defs l := by
 unfold defs
 rw [List.filterMap_cons]
 cases defW w <;> rfl
theorem defs_none {w : Wd} (h : defW w = none) (l : List Wd) : defs (w :: l) = defs l := by rw [defs_cons, h]; rfl
theorem defs_app (a b : List Wd) : defs (a ++ b) = defs a ++ defs b := List.filterMap_append
/-! ### A pass -/
end Go.Stele
