/- A small logic over the walk's 'Code.wp': interfaces compared with nil. -/
import Derived.Test.YtfodkbchknknjaaDoorGlCall
import Derived.Laws.IdiomStrings
namespace Go.GL
open Go.RowKit
class TIface (P : Program) (t : TypeId) : Prop where
  und : ∃ ms, P.underlying t = some (.interface ms)
def chkIface (P : Program) (t : Nat) : Bool := match P.underlying t with | some (.interface _) => true | _ => false
theorem TIface.of {P : Program} {t : Nat} (h : chkIface P t = true) : TIface P t := by
  unfold chkIface at h
  refine ⟨?_⟩
  cases hu : P.underlying t with
  | none => rw [hu] at h; simp at h
  | some d => rw [hu] at h; cases d <;> simp_all
section
variable {C : Ctx} {e : Env} {H : Heap} {dst : Option Nat} {ty : TypeId} {pos : String} {aft : Array Edge} {g : Option (Nat × Bool)} {xT yT : TypeId} {x : Operand}
theorem equal_step (t : TypeId) (x y : Value) : Op.equal t x y = Op.equalIn (9999 + 1) t x y := rfl
theorem run_equal_nil {P : Program} {t : TypeId} [h : TIface P t] (w : World) : (Op.equal t .nilIface .nilIface).run P w = .ok true w := by
  obtain ⟨ms, hu⟩ := h.und
  rw [equal_step, Op.equalIn]
  simp only [Sem.run_bind, run_underlying' hu, Result.andThen_ok, Sem.run_pure]
theorem run_equal_iface {P : Program} {t : TypeId} [h : TIface P t] (u : TypeId) (p : Value) (w : World) : (Op.equal t (.iface u p) .nilIface).run P w = .ok false w := by
  obtain ⟨ms, hu⟩ := h.und
  rw [equal_step, Op.equalIn]
  simp only [Sem.run_bind, run_underlying' hu, Result.andThen_ok, Sem.run_pure]
theorem Pure.nilNeqNil [TIface C.P xT] (hx : e.ev x = .atom .nilIface) : Pure C ⟨dst, .binOp .neq xT x (.const .nilIface) yT, ty, pos, aft, g⟩ e H (bool false) :=
  .of_any fun ρ _ _ h => ⟨_, rep_atom, fun w' => by
    have h1 := atom_of h hx
    have h2 := atom_of h (x := .const .nilIface) rfl
    have he : eqGuard .neq xT x (.const .nilIface) .nilIface .nilIface = Pure.pure () := by simp [eqGuard]
    have hb : binOp .neq xT .nilIface .nilIface = (do Pure.pure (.bool (!(← Op.equal xT .nilIface .nilIface)))) := rfl
    simp only [execOp, h1, h2, he, hb, Sem.run_bind, Sem.run_pure, Result.andThen_ok, run_equal_nil, Bool.not_true]⟩
theorem Pure.ifaceNeqNil [TIface C.P xT] {u : TypeId} {p : Value} (hx : e.ev x = .atom (.iface u p)) : Pure C ⟨dst, .binOp .neq xT x (.const .nilIface) yT, ty, pos, aft, g⟩ e H (bool true) :=
  .of_any fun ρ _ _ h => ⟨_, rep_atom, fun w' => by
    have h1 := atom_of h hx
    have h2 := atom_of h (x := .const .nilIface) rfl
    have he : eqGuard .neq xT x (.const .nilIface) (.iface u p) .nilIface = Pure.pure () := by simp [eqGuard]
    have hb : binOp .neq xT (.iface u p) .nilIface = (do Pure.pure (.bool (!(← Op.equal xT (.iface u p) .nilIface)))) := rfl
    simp only [execOp, h1, h2, he, hb, Sem.run_bind, Sem.run_pure, Result.andThen_ok, run_equal_iface, Bool.not_false]⟩
theorem str_eq {a b : List UInt8} (h : a = b) : str a = str b := by rw [h]
theorem Pure.cvt {k k0 k' : IntKind} {s d : TypeId} {n : Int} [hs : TKind C.P s k0] [hd : TKind C.P d k'] (hx : e.ev x = int k n) : Pure C ⟨dst, .convert s d x, ty, pos, aft, g⟩ e H (int k' (k'.wrap n)) := Pure.convInt ⟨_, hs.und⟩ hx
end
end Go.GL
/- A small logic over the walk's 'Code.wp': drawn regions in which more than one operation may come up; division; bytes to a string. -/
namespace Go.GL
open Go.RowKit
section any
variable {C : Ctx} {n : Nat} {ops : Array Oper} {Q : Post} {HF : Heap} {fuel : Nat} {listed : Array Bool} {e : Env} {H : Heap}
/-- Number i comes up. -/
def LLateOp (C : Ctx) (n : Nat) (ops : Array Oper) (Q : Post) (HF : Heap) (fuel : Nat) (listed : Array Bool) (e : Env) (H : Heap) (i : Nat) : Prop :=
  ∀ w0 L0 a w L, (∀ b, L0 b ≤ L b) → Agree w0 L0 HF w → (∀ p ∈ HF, p.1 < w.heap.size) → RelE n a e w L → RelH C w L H →
    wpOp C.P ops (lift C n w L (keys H) Q) i (fun a' w' => Agree w0 L0 HF w' ∧ wpAnyH C.P .any ops (lift C n w L (keys H) Q) (Agree w0 L0 HF) fuel (listed.setIfInBounds i true) a' w') a w
theorem LLate.all {is : List Nat} (hr : Region.ready .any ops listed = is) (hne : is ≠ []) (h : ∀ i ∈ is, LLateOp C n ops Q HF fuel listed e H i) : LLate C n ops Q HF (fuel + 1) listed e H := fun w0 L0 a w L hL hA hsz hE hH =>
  wpAnyH_all hr hne fun j hj => h j hj w0 L0 a w L hL hA hsz hE hH
theorem LLateOp.step {i : Nat} {dst : Option Nat} {op : Op} {ty : TypeId} {pos : String} {aft : Array Edge} {g : Option (Nat × Bool)} {H1 F : Heap} (hi : ops[i]? = some ⟨dst, op, ty, pos, aft, g⟩) (hg : g = none ∨ ∃ j b d, g = some (j, b) ∧ (ops[j]?).bind (·.dst) = some d ∧ e.s d = .atom (.bool b)) (hd : dstOk n dst)
    (p : H.Perm (H1 ++ F)) (hHF : HSub HF F)
    (h : LStep C ⟨dst, op, ty, pos, aft, g⟩ e H1 (fun lv H' => LLate C n ops Q HF fuel (listed.setIfInBounds i true) (e.put dst lv) (H' ++ F)) (fun ch H' => ∀ e', e'.ds = e.ds → Q (.panic ch) e' (H' ++ F))) :
    LLateOp C n ops Q HF fuel listed e H i := fun w0 L0 a w L hL hA hsz hE hH => by
  have hH' := hH.perm p
  have hn : (keys H1 ++ keys F).Nodup := by simpa [keys] using hH'.nodup
  have hdis : ∀ q ∈ HF, q.1 ∉ keys H1 := fun q hq hm => (List.nodup_append.1 hn).2.2 _ hm _ (List.mem_map_of_mem (hHF.mem q hq)) rfl
  have hw : Region.wanted ⟨dst, op, ty, pos, aft, g⟩ (yielded ops a.tmps) = true := by
    rcases hg with rfl | ⟨j, b, d, rfl, hj, hb⟩
    · simp [Region.wanted]
    · simp [Region.wanted, yielded_env hE hj hb]
  unfold wpOp
  rw [hi]
  simp only
  rw [if_pos hw]
  refine .inl (step_wp (H := H1) h hd hE hH'.left (fun lv H' L' w' a' h1 h2 h3 h4 => ?_) (fun ch H' L' w' h1 h2 h3 => ?_))
  · have hfr := hH'.frame h1 h2
    have hag : Agree w0 L0 HF w' := ⟨fun q hq => (h1.block q.1 (hsz q hq) (hdis q hq)).trans (hA.1 q hq), fun b i hi => (h1.ext.live b i (Nat.lt_of_lt_of_le hi (hL b))).trans (hA.2 b i hi)⟩
    exact ⟨hag, wpAnyH_mono (fun _ _ _ => lift_trans (hfr.2.perm p.symm)) _ _ _ _ (h4 w0 L0 a' w' L' (fun b => Nat.le_trans (hL b) (h1.ext.mono b)) hag (fun q hq => Nat.lt_of_lt_of_le (hsz q hq) h1.ext.size) h3 hfr.1)⟩
  · have hfr := hH'.frame h1 h2
    exact ⟨e, H' ++ F, L', hfr.2.perm p.symm, hfr.1, hE.ds, h3 e rfl⟩
theorem LLate.one {i : Nat} (hr : Region.ready .any ops listed = [i]) (h : LLateOp C n ops Q HF fuel listed e H i) : LLate C n ops Q HF (fuel + 1) listed e H :=
  LLate.all hr (by simp) fun j hj => by
    obtain rfl := List.mem_singleton.1 hj
    exact h
theorem LLate.two {i j : Nat} (hr : Region.ready .any ops listed = [i, j]) (h : LLateOp C n ops Q HF fuel listed e H i) (h' : LLateOp C n ops Q HF fuel listed e H j) : LLate C n ops Q HF (fuel + 1) listed e H :=
  LLate.all hr (by simp) fun k hk => by
    rcases List.mem_cons.1 hk with rfl | hk
    · exact h
    · obtain rfl := List.mem_singleton.1 hk
      exact h'
/-- The same, where nothing is held. -/
theorem LLateOp.whole {i : Nat} {dst : Option Nat} {op : Op} {ty : TypeId} {pos : String} {aft : Array Edge} {g : Option (Nat × Bool)} (hi : ops[i]? = some ⟨dst, op, ty, pos, aft, g⟩) (hg : g = none ∨ ∃ j b d, g = some (j, b) ∧ (ops[j]?).bind (·.dst) = some d ∧ e.s d = .atom (.bool b)) (hd : dstOk n dst)
    (h : LStep C ⟨dst, op, ty, pos, aft, g⟩ e H (fun lv H' => LLate C n ops Q [] fuel (listed.setIfInBounds i true) (e.put dst lv) H') (fun ch H' => ∀ e', e'.ds = e.ds → Q (.panic ch) e' H')) :
    LLateOp C n ops Q [] fuel listed e H i := LLateOp.step (H1 := H) (F := []) hi hg hd (by simp) (HSub.nil _) (by simpa using h)
/-- A step that leaves the heap as it is. -/
theorem LLateOp.pure {i : Nat} {dst : Option Nat} {op : Op} {ty : TypeId} {pos : String} {aft : Array Edge} {lv : LV} (hi : ops[i]? = some ⟨dst, op, ty, pos, aft, none⟩) (hd : dstOk n dst) (hHF : HSub HF H)
    (h : Pure C ⟨dst, op, ty, pos, aft, none⟩ e [] lv) (k : LLate C n ops Q HF fuel (listed.setIfInBounds i true) (e.put dst lv) H) : LLateOp C n ops Q HF fuel listed e H i :=
  LLateOp.step (H1 := []) (F := H) hi (.inl rfl) hd (List.Perm.refl _) hHF (Pure.step h k)
theorem LLate.pure {i : Nat} {dst : Option Nat} {op : Op} {ty : TypeId} {pos : String} {aft : Array Edge} {lv : LV} (hr : Region.ready .any ops listed = [i]) (hi : ops[i]? = some ⟨dst, op, ty, pos, aft, none⟩) (hd : dstOk n dst) (hHF : HSub HF H)
    (h : Pure C ⟨dst, op, ty, pos, aft, none⟩ e [] lv) (k : LLate C n ops Q HF fuel (listed.setIfInBounds i true) (e.put dst lv) H) : LLate C n ops Q HF (fuel + 1) listed e H :=
  LLate.step (H1 := []) (F := H) hr hi hd (List.Perm.refl _) hHF (Pure.step h k)
end any

theorem LQ.bcase {C : Ctx} {n : Nat} {ops : Array Oper} {K : Env → Prop} {e : Env} {H : Heap} {rest : List Oper} (d : Nat) {b : Bool} (hb : e.s d = bool b) (ht : b = true → LQ C n ops K rest (e.upd d (bool true)) H) (hf : b = false → LQ C n ops K rest (e.upd d (bool false)) H) : LQ C n ops K rest e H := by
  cases b
  · have := hf rfl; rwa [Env.upd_self hb] at this
  · have := ht rfl; rwa [Env.upd_self hb] at this
section pure
variable {C : Ctx} {e : Env} {H : Heap} {dst : Option Nat} {ty : TypeId} {pos : String} {aft : Array Edge} {g : Option (Nat × Bool)} {xT yT : TypeId} {x y : Operand} {k : IntKind} {a b : Int}
theorem Pure.quo (hx : e.ev x = int .i64 a) (hy : e.ev y = int .i64 b) (hb : 0 < b) (ha : 0 ≤ a) (h : a ≤ 9223372036854775807) : Pure C ⟨dst, .binOp .quo xT x y yT, ty, pos, aft, g⟩ e H (int .i64 (a / b)) :=
  .of_any fun _ _ _ h' => ⟨_, rep_atom, run_int (atom_of h' hx) (atom_of h' hy) (by simp) (by simp) (s := Op.intDiv .quo .i64 a b) (by simp only [binOp, ne_eq, not_true_eq_false, if_false]) (fun w => by
    have h1 : a.tdiv b = a / b := Int.tdiv_eq_ediv_of_nonneg ha
    have h2 : 0 ≤ a / b := Int.ediv_nonneg ha (by omega)
    have h3 : a / b ≤ a := Int.ediv_le_self _ ha
    rw [Op.intDiv, if_neg (by omega)]
    simp only [h1]
    rw [wrap_i64 (by omega)]
    rfl)⟩
theorem Pure.rem (hx : e.ev x = int .i64 a) (hy : e.ev y = int .i64 b) (hb : 0 < b) (ha : 0 ≤ a) : Pure C ⟨dst, .binOp .rem xT x y yT, ty, pos, aft, g⟩ e H (int .i64 (a % b)) :=
  .of_any fun _ _ _ h' => ⟨_, rep_atom, run_int (atom_of h' hx) (atom_of h' hy) (by simp) (by simp) (s := Op.intDiv .rem .i64 a b) (by simp only [binOp, ne_eq, not_true_eq_false, if_false]) (fun w => by
    have h1 : a.tmod b = a % b := Int.tmod_eq_emod_of_nonneg ha
    rw [Op.intDiv, if_neg (by omega)]
    simp only [h1]
    rfl)⟩
theorem Pure.bytesStr {s d el : TypeId} [hs : TSlice C.P s el 1] [he : TKind C.P el .u8] [hd : TStr C.P d] {l : List UInt8} (hx : elems (e.ev x) = some (l.map fun b => int .u8 b.toNat)) (hne : l ≠ []) :
    Pure C ⟨dst, .convert s d x, ty, pos, aft, g⟩ e H (str l) := fun ρ w L h _ => by
  obtain ⟨a, cap, hv, hcap, hr⟩ := (h x).elems hx
  obtain ⟨b, off, k', rfl, hrr⟩ := hr (by simpa using hne)
  refine ⟨_, rep_atom, fun w' ha => ?_⟩
  have h0 : execOp ρ ⟨dst, .convert s d x, ty, pos, aft, g⟩ = (do Pure.pure (.value (← convert s d (ρ x)))) := rfl
  have hlen : (l.map fun b => int .u8 b.toNat).length = l.length := by simp
  have := run_convert_bytes_back (P := C.P) w' s d el ⟨b, off, none⟩ cap l hs.und he.und hd.und (fun j hj => by
    obtain ⟨h1, h2⟩ := hrr.get (i := j) (e := int .u8 l[j].toNat) (by simp [hj])
    simp only [LV.cells, RepC, List.length_singleton] at h1 h2
    obtain ⟨h3, ⟨v, h4, h5⟩, _⟩ := h2
    simp only [Rep] at h5
    subst h5
    subst h1
    rw [Nat.mul_one] at h3 h4
    rw [add_mk]
    rw [ha.2 b _ h3]
    exact h4)
  rw [h0, hv, hlen]
  simp only [Sem.run_bind, this, Result.andThen_ok, Sem.run_pure]
end pure
end Go.GL
