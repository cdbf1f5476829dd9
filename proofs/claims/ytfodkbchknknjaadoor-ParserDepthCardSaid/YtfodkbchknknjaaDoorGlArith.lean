/- A small logic over the walk's 'Code.wp': division, shifts and bits of integers, elements of arrays; quiet operations behind an acting one. -/
import Derived.Test.YtfodkbchknknjaaDoorGlDraw2
import Derived.StillTail
namespace Go.GL
open Go.RowKit
section
variable {C : Ctx} {e : Env} {H : Heap} {dst : Option Nat} {ty : TypeId} {pos : String} {aft : Array Edge} {g : Option (Nat × Bool)} {xT yT : TypeId} {x y : Operand} {k k2 : IntKind} {a b : Int}
theorem run_int2 {P : Program} {op : BinOp} {xT yT : TypeId} {x y : Operand} {k k2 : IntKind} {a b : Int} {ρ : Operand → Value} (hx : ρ x = .int k a) (hy : ρ y = .int k2 b) {s : Sem Value}
    (h : (binOp op xT (.int k a) (.int k2 b)) = s) {v : Value} (hv : ∀ w, s.run P w = .ok v w) (w : World) : (execOp ρ ⟨dst, .binOp op xT x y yT, ty, pos, aft, g⟩).run P w = .ok (.value v) w := by
  subst h
  have he : eqGuard op xT x y (.int k a) (.int k2 b) = Pure.pure () := by
    unfold eqGuard
    cases op <;> rfl
  simp only [execOp, hx, hy, he, Sem.run_bind, Sem.run_pure, Result.andThen_ok, hv]
theorem Pure.quoW (hx : e.ev x = int k a) (hy : e.ev y = int k b) (hb : b ≠ 0) : Pure C ⟨dst, .binOp .quo xT x y yT, ty, pos, aft, g⟩ e H (int k (k.wrap (a.tdiv b))) :=
  .of_any fun _ _ _ h => ⟨_, rep_atom, run_int2 (atom_of h hx) (atom_of h hy) (s := Op.intDiv .quo k a b) (by simp only [binOp, ne_eq, not_true_eq_false, if_false]) (fun _ => by simp only [Op.intDiv, if_neg hb, Sem.run_pure])⟩
theorem Pure.shr (hx : e.ev x = int k a) (hy : e.ev y = int k2 b) (hb : 0 ≤ b) : Pure C ⟨dst, .binOp .shr xT x y yT, ty, pos, aft, g⟩ e H (int k (a.fdiv (2 ^ min b.toNat k.bits))) :=
  .of_any fun _ _ _ h => ⟨_, rep_atom, run_int2 (atom_of h hx) (atom_of h hy) (s := Op.shift .shr k a k2 b) (by simp only [binOp]) (fun _ => by simp only [Op.shift, if_neg (Int.not_lt.2 hb), Sem.run_pure])⟩
theorem Pure.shlW (hx : e.ev x = int k a) (hy : e.ev y = int k2 b) (hb : 0 ≤ b) : Pure C ⟨dst, .binOp .shl xT x y yT, ty, pos, aft, g⟩ e H (int k (k.wrap (a * 2 ^ min b.toNat k.bits))) :=
  .of_any fun _ _ _ h => ⟨_, rep_atom, run_int2 (atom_of h hx) (atom_of h hy) (s := Op.shift .shl k a k2 b) (by simp only [binOp]) (fun _ => by simp only [Op.shift, if_neg (Int.not_lt.2 hb), Sem.run_pure])⟩
theorem Pure.andW (hx : e.ev x = int k a) (hy : e.ev y = int k b) : Pure C ⟨dst, .binOp .and xT x y yT, ty, pos, aft, g⟩ e H (int k (k.wrap ((BitVec.ofInt k.bits a &&& BitVec.ofInt k.bits b).toNat : Nat))) :=
  .of_any fun _ _ _ h => ⟨_, rep_atom, run_int2 (atom_of h hx) (atom_of h hy) (s := Op.intBits .and k a b) (by simp only [binOp, ne_eq, not_true_eq_false, if_false]) (fun _ => rfl)⟩
theorem Pure.orW (hx : e.ev x = int k a) (hy : e.ev y = int k b) : Pure C ⟨dst, .binOp .or xT x y yT, ty, pos, aft, g⟩ e H (int k (k.wrap ((BitVec.ofInt k.bits a ||| BitVec.ofInt k.bits b).toNat : Nat))) :=
  .of_any fun _ _ _ h => ⟨_, rep_atom, run_int2 (atom_of h hx) (atom_of h hy) (s := Op.intBits .or k a b) (by simp only [binOp, ne_eq, not_true_eq_false, if_false]) (fun _ => rfl)⟩
theorem Pure.xorW (hx : e.ev x = int k a) (hy : e.ev y = int k b) : Pure C ⟨dst, .binOp .xor xT x y yT, ty, pos, aft, g⟩ e H (int k (k.wrap ((BitVec.ofInt k.bits a ^^^ BitVec.ofInt k.bits b).toNat : Nat))) :=
  .of_any fun _ _ _ h => ⟨_, rep_atom, run_int2 (atom_of h hx) (atom_of h hy) (s := Op.intBits .xor k a b) (by simp only [binOp, ne_eq, not_true_eq_false, if_false]) (fun _ => rfl)⟩
/-- The address of an element of an array. -/
theorem Pure.indexArr {t el len : Nat} {i : TypeInfo} (hu : C.P.underlying t = some (.array len el)) (hi : C.P.info? el = some i) {bl off : Nat} {n : Int} (hx : e.ev x = ptr bl off) (hy : e.ev y = int k n) (h0 : 0 ≤ n) (hn : n < len) :
    Pure C ⟨dst, .indexAddr t x y, ty, pos, aft, g⟩ e H (ptr bl (off + n.toNat * i.size)) := .of_any fun ρ w L h => ⟨_, rep_atom, fun w' => by
  have h3 : execOp ρ ⟨dst, .indexAddr t x y, ty, pos, aft, g⟩ = (do Pure.pure (.value (← Instr.indexAt t (ρ x) (ρ y)))) := rfl
  rw [h3, atom_of h hx, atom_of h hy]
  have hc : 0 ≤ n ∧ n < (len : Int) := ⟨h0, hn⟩
  simp [Instr.indexAt, asIntOf, run_underlying' hu, Instr.sureAddr, hc, run_sizeOf' hi, add_mk]⟩
end
theorem wpAnyH_weakS {P : Program} {md : Region.Mode} {ops : Array Oper} {Q : Exit → Act → World → Prop} {S S' : World → Prop} (hS : ∀ w, S' w → S w) : ∀ (fuel : Nat) (listed : Array Bool) (a : Act) (w : World),
    wpAnyH P md ops Q S' fuel listed a w → wpAnyH P md ops Q S fuel listed a w
  | 0, _, _, _, k => k
  | fuel + 1, _, _, _, k => ⟨k.1, fun i hi => wpOp_mono (fun a' w' h => ⟨hS _ h.1, wpAnyH_weakS hS fuel _ a' w' h.2⟩) (k.2 i hi)⟩
/-- Behind an acting operation what only computes or reads HF' may be taken first, again. -/
theorem LLate.any {C : Ctx} {n : Nat} {ops : Array Oper} {Q : Post} {fuel : Nat} {listed : Array Bool} {e : Env} {H : Heap} (HF' : Heap) (h : LAny C n ops Q HF' fuel listed e H) : LLate C n ops Q [] fuel listed e H := fun w0 L0 a w L hL hA _ hE hH =>
  wpAnyH_weakS (fun w' hw' => ⟨fun p hp => (by cases hp), fun b i hi => (hw'.2 b i (Nat.lt_of_lt_of_le hi (hL b))).trans (hA.2 b i hi)⟩) _ _ _ _ (h a w L hE hH)
/-! ### A drawn region whose last operations stand in a row: what is ahead of them only computes or reads. -/
def LS (C : Ctx) (n : Nat) (ops : Array Oper) (K : Env → Prop) (rest : List Oper) (e : Env) (H : Heap) : Prop :=
  ∀ a w L, RelE n a e w L → RelH C w L H → wpStill C.P ops w (fun a' => ∃ e', RelE n a' e' w L ∧ K e') rest a
section still
variable {C : Ctx} {n : Nat} {ops : Array Oper} {K : Env → Prop} {e : Env} {H : Heap} {dst : Option Nat} {op : Op} {ty : TypeId} {pos : String} {aft : Array Edge} {rest : List Oper}
theorem LS.nil (h : K e) : LS C n ops K [] e H := fun _ _ _ hE _ => ⟨e, hE, h⟩
theorem still_one {P : Program} {Q : Act → Prop} {a : Act} {w : World} {o : Oper} (hg : Region.wanted o (yielded ops a.tmps) = true) {v : Value} (h : (execOp a.eval o).run P w = .ok (.value v) w) (k : wpStill P ops w Q rest (a.put o.dst v)) : wpStill P ops w Q (o :: rest) a := by
  unfold wpStill
  rw [if_pos hg]
  unfold Oper.still
  rw [h]
  exact ⟨rfl, k⟩
theorem LS.pure {lv : LV} (h : Pure C ⟨dst, op, ty, pos, aft, none⟩ e H lv) (hd : dstOk n dst) (k : LS C n ops K rest (e.put dst lv) H) : LS C n ops K (⟨dst, op, ty, pos, aft, none⟩ :: rest) e H := fun a w L hE hH => by
  obtain ⟨v, hv, hr⟩ := h a.eval w L hE.ev hH
  exact still_one (by simp [Region.wanted]) (hr w (Agree.refl _ _ _)) (k _ w L (hE.put hd hv) hH)
theorem LS.want {j d : Nat} {b : Bool} (hj : (ops[j]?).bind (·.dst) = some d) (hb : e.s d = .atom (.bool b))
    (k : LS C n ops K (⟨dst, op, ty, pos, aft, none⟩ :: rest) e H) : LS C n ops K (⟨dst, op, ty, pos, aft, some (j, b)⟩ :: rest) e H := fun a w L hE hH => by
  have := k a w L hE hH
  unfold wpStill at this ⊢
  rw [if_pos (by simp [Region.wanted])] at this
  rw [if_pos (by simp [Region.wanted, yielded_env hE hj hb])]
  exact this
theorem LS.skip {j d : Nat} {b c : Bool} (hj : (ops[j]?).bind (·.dst) = some d) (hb : e.s d = .atom (.bool b)) (hne : b = !c) (hd : dstOk n dst)
    (k : LS C n ops K rest (e.put dst (.atom undef)) H) : LS C n ops K (⟨dst, op, ty, pos, aft, some (j, c)⟩ :: rest) e H := fun a w L hE hH => by
  unfold wpStill
  rw [if_neg (by subst hne; cases c <;> simp [Region.wanted, yielded_env hE hj hb])]
  exact k _ w L (hE.put hd rep_atom) hH
theorem LS.skipU {j d : Nat} {c : Bool} (hj : (ops[j]?).bind (·.dst) = some d) (hb : e.s d = .atom undef) (hd : dstOk n dst)
    (k : LS C n ops K rest (e.put dst (.atom undef)) H) : LS C n ops K (⟨dst, op, ty, pos, aft, some (j, c)⟩ :: rest) e H := fun a w L hE hH => by
  unfold wpStill
  rw [if_neg (by simp [Region.wanted, yielded_undef hE hj hb])]
  exact k _ w L (hE.put hd rep_atom) hH
theorem LS.bcase (d : Nat) {b : Bool} (hb : e.s d = bool b) (ht : b = true → LS C n ops K rest (e.upd d (bool true)) H) (hf : b = false → LS C n ops K rest (e.upd d (bool false)) H) : LS C n ops K rest e H := by
  cases b
  · have := hf rfl; rwa [Env.upd_self hb] at this
  · have := ht rfl; rwa [Env.upd_self hb] at this
theorem wpStill_mono {P : Program} {w : World} {Q Q' : Act → Prop} (h : ∀ a, Q a → Q' a) : ∀ (l : List Oper) (a : Act), wpStill P ops w Q l a → wpStill P ops w Q' l a
  | [], a, k => h a k
  | o :: l, a, k => by
    unfold wpStill at k ⊢
    split at k
    · rename_i hw
      rw [if_pos hw]
      exact Oper.still_mono (fun a => wpStill_mono h l a) k
    · rename_i hw
      rw [if_neg hw]
      exact wpStill_mono h l _ k
theorem LCode.tail [hm : TMixed C.P] {id : Nat} {l : List Oper} {Q : Post} (m : Nat) (hB : Region.lexTailB .any l.toArray m = true) (h : LS C n l.toArray (fun e' => LOps C n l.toArray Q (l.drop m) e' H) (l.take m) e H) : LCode C n (.region id l.toArray true) Q e H := fun a w L hE hH => by
  refine wp_region_still_tail m hm.out hB ?_
  refine wpStill_mono (fun a' h' => ?_) _ _ (h a w.drew L (hE.mono (ext_drew w L)) hH.drew)
  obtain ⟨e', hE', hk⟩ := h'
  refine wpList_mono (fun x a2 w' hq => ?_) _ _ _ (hk a' w.drew L hE' hH.drew)
  obtain ⟨e2, H', L', h1, h2, h3, h4⟩ := hq
  exact ⟨e2, H', L', h1.of_drew, h2, h3, h4⟩
end still
end Go.GL
