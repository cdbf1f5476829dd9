/- Texts joined: GlRows, InpY1, InpW1, InpW2, InpW7, GlDefer, ParS5, GlGrow, ChkW11, GlMut, GlClear, GlIntKey, MchOk, MchA, GlIntKey2, MchB. -/
import Derived.Deep.WholeRow
import Derived.KernelRfl
import Derived.Recover
import Derived.RangeFuncFrom
import Derived.RangeFuncLeaves
import Derived.TacticsIn
import Derived.Lib.Replace
import Derived.Lib.Join
import Derived.Test.YtdakelgkjdaijaaGreatDoorBRowP21
import Derived.Test.YtdakelgkjdaijaaGreatDoorBRowP22
import Derived.Test.YtdakelgkjdaijaaGreatDoorBRowP23
set_option linter.unusedVariables false
set_option linter.unusedSimpArgs false
namespace Go.GL
open Go.RowKit
/-- A slice over a block of its own. -/
@[reducible] def rowV (b n : Nat) : LV := .atom (.slice (some ⟨b, 0, none⟩) n n)
section
variable {C : Ctx} {e : Env} {H : Heap} {dst : Option Nat} {ty : TypeId} {pos : String} {aft : Array Edge} {g : Option (Nat × Bool)} {K : LV → Heap → Prop} {X : List PanicEntry → Heap → Prop} {x y : Operand}
theorem range_zero (n : Nat) (z : Value) : (Array.range n).map (fun i => (if n * 1 = 0 then #[] else #[z])[i % (if n * 1 = 0 then (#[] : Array Value) else #[z]).size]!) = (List.replicate n z).toArray := by
 rcases Nat.eq_zero_or_pos n with rfl | hn
 ·simp
 ·rw [if_neg (by omega)]
  apply Array.ext
  ·simp
  ·intro i h1 h2
   simp [Nat.mod_one]
/-- make of a row whose elements take one cell. -/
theorem S.makeRow {t el bytes : Nat} {zv : Value} [ht : TSlice C.P t el 1] [hr : TRow C.P el 1 bytes] [hz : TZero C.P el [zv]] {n : Nat} {k k2 : IntKind} (hx : e.ev x = int k n) (hy : e.ev y = int k2 n) (hb : bytes * n ≤ 100000000000) (hn : n ≤ 100000000000)
  (hk : ∀ b, K (rowV b n) ((b, .cells el (List.replicate n (.atom zv))) :: H)) : LStep C ⟨dst, .makeSlice t x y, ty, pos, aft, g⟩ e H K X := by
 refine LStep.at0 fun ρ w L h hH => ?_
 have h3 : execOp ρ ⟨dst, .makeSlice t x y, ty, pos, aft, g⟩ = (do Pure.pure (.value (← Instr.makeSlice t (ρ x) (ρ y)))) := rfl
 obtain ⟨i, z, hi, hs, hby, hb0, hzz, hzs⟩ := hr.out
 obtain ⟨i', z', hi', hz', hc', hs'⟩ := hz.out
 rw [hi] at hi'
 obtain rfl := Option.some.inj hi'
 rw [hzz] at hz'
 obtain rfl := Option.some.inj hz'
 have wn : IntKind.i64.wrap (n : Int) = n := wrap_i64 (by omega)
 have n1 : ¬ ((n : Int) < 0) := by omega
 have n2 : ¬ ((281474976710656 : Int) < (i.bytes : Int) * n) := by
  rw [hby]
  have : ((bytes * n : Nat) : Int) ≤ 100000000000 := by omega
  rw [Int.natCast_mul] at this
  omega
 have n3 : ¬ (n * i.bytes > roomBytes) := by
  rw [hby, Nat.mul_comm]
  unfold roomBytes
  omega
 have hrun : (Instr.makeSlice t (.int k n) (.int k2 n)).run C.P w = .ok (.slice (some ⟨w.heap.size, 0, none⟩) n n) (World.push w (.cells (List.replicate n zv).toArray el)) := by
  have hrz := range_zero n zv
  by_cases h0 : n = 0
  ·subst h0
   have wz : IntKind.i64.wrap 0 = 0 := wrap_i64 (by omega)
   simp [Instr.makeSlice, run_underlying' ht.und, asInt, asIntOf, run_typeInfo' hi, run_sizeOf' hi, hs, wz, newRow, askRoom, roomBytes, newObj, World.push, Sem.run_bind, Sem.run_pure]
   have e0 : (Array.range 0).map (fun _ => (default : Value)) = #[] := by simp
   rw [e0]
   rfl
  ·simp only [Nat.mul_one, h0, if_false] at hrz
   simp [Instr.makeSlice, run_underlying' ht.und, asInt, asIntOf, run_typeInfo' hi, run_sizeOf' hi, hs, wn, n1, n2, n3, h0, zeroValue, hzz, hc', newRow, askRoom, newObj, World.push, Sem.run_bind, Sem.run_pure, hrz]
   simp at hrz
   rw [hrz]
   rfl
 rw [h3, atom_of h hx, atom_of h hy, Sem.run_bind, hrun]
 have hrep : RepL w L (List.replicate n (.atom zv)) (List.replicate n zv) := by
  have := repL_atoms (w := w) (L := L) (List.replicate n zv)
  rwa [List.map_replicate] at this
 have hx' := ext_push hH.wf (.cells (List.replicate n zv).toArray el) 0
 have := fr_push hH (.cells (List.replicate n zv).toArray el) 0 [(w.heap.size, .cells el (List.replicate n (.atom zv)))] (fun p hp => by
  simp only [List.mem_singleton] at hp
  subst hp
  exact ⟨rfl, by simp [Live.upd], List.replicate n zv, heap_push_self, hrep.mono hx' _ _⟩) (by simp)
 exact ⟨_, _, _, this.1, this.2, rep_atom, hk _⟩
/-- The address of an element. -/
theorem Pure.indexRow {t el s : Nat} [ht : TSlice C.P t el s] {b off m cap : Nat} {n : Int} {k : IntKind} (hx : e.ev x = .atom (.slice (some ⟨b, off, none⟩) m cap)) (hy : e.ev y = int k n) (h0 : 0 ≤ n) (hn : n < m) :
  Pure C ⟨dst, .indexAddr t x y, ty, pos, aft, g⟩ e H (ptr b (off + n.toNat * s)) := .of_any fun ρ w L h => by
 obtain ⟨i, hi, hsz⟩ := ht.size
 refine ⟨_, rep_atom, fun w' => ?_⟩
 have h3 : execOp ρ ⟨dst, .indexAddr t x y, ty, pos, aft, g⟩ = (do Pure.pure (.value (← Instr.indexAt t (ρ x) (ρ y)))) := rfl
 rw [h3, atom_of h hx, atom_of h hy]
 have hc : 0 ≤ n ∧ n < (m : Int) := ⟨h0, hn⟩
 simp [Instr.indexAt, asIntOf, run_underlying' ht.und, hc, run_sizeOf' hi, add_mk, hsz]
theorem Pure.rowLen {t el s : Nat} [TSlice C.P t el s] {a : Option Addr} {m cap : Nat} (hx : e.ev x = .atom (.slice a m cap)) : Pure C ⟨dst, .call { callee := .builtin .len, args := #[x], argTypes := #[t] }, ty, pos, aft, g⟩ e H (int .i64 m) :=
 .of_any fun ρ _ _ h => ⟨_, rep_atom, fun w' => by
  have hu := run_underlying' (P := C.P) (TSlice.und (t := t)) w'
  rw [execOp_builtin', builtin_len']
  simp [Builtin.len_, hu, goInt, atom_of h hx]⟩
end
section shut
variable {C : Ctx} {n : Nat} {Q : Post} {e : Env} {H F : Heap}
end shut
end Go.GL
namespace Go.Proofs.YtdakelgkjdaijaaGreatDoor.Inp
open Go.GL Go.RowKit Go.Stele
set_option maxRecDepth 100000
set_option maxHeartbeats 4000000
@[reducible] def u32 (n : Nat) : LV := int .u32 (n : Int)
end Go.Proofs.YtdakelgkjdaijaaGreatDoor.Inp
namespace Go.Proofs.YtdakelgkjdaijaaGreatDoor.Inp
open Go.GL Go.RowKit Go.Stele
set_option maxRecDepth 100000
set_option maxHeartbeats 4000000
/-- A call that hands back this and leaves the heap as it was. -/
@[reducible] def Same (v : LV) (H : Heap) : LRes → Heap → Prop := fun r H' => r = .ret v ∧ H' = H
section steps
variable {C : Ctx} {n : Nat} {e : Env} {H : Heap} {dst : Option Nat} {ty : TypeId} {pos : String} {aft : Array Edge} {g : Option (Nat × Bool)} {K : LV → Heap → Prop} {X : List PanicEntry → Heap → Prop}
theorem retS {rs : List ResultVar} {vs : List LV} {lv : LV} {H0 : Heap} (hd : e.ds = []) (h : AllRes C n e H rs vs) (hv : resLV vs = lv) (hH : HSub H0 H) : RetPost C n rs (Same lv H0) .ret e H :=
 RetPost.ret hd h hH ⟨by rw [hv], rfl⟩
end steps
attribute [local irreducible] LOps LCode LStep LCalls Go.GL.Pure QThen QBlock RetPost LQ LAny LLate LLateOp
section
variable {B0 : Nat} {w0 : World} {H : Heap}
end
end Go.Proofs.YtdakelgkjdaijaaGreatDoor.Inp
namespace Go.Proofs.YtdakelgkjdaijaaGreatDoor.Inp
open Go.GL Go.RowKit Go.Stele
set_option maxRecDepth 100000
set_option maxHeartbeats 4000000
theorem wrapU (n : Int) : IntKind.u32.wrap n = n % 4294967296 := by
 simp only [IntKind.wrap, IntKind.bits, IntKind.signed, Bool.false_and]
 rfl
theorem u32_eq {a : Int} {b : Nat} (h : a = b) : int .u32 a = u32 b := by rw [h]
attribute [local irreducible] LOps LCode LStep LCalls Go.GL.Pure QThen QBlock RetPost LQ LAny LLate LLateOp
section
variable {B0 : Nat} {w0 : World} {H : Heap} {a b : Nat}
theorem xor_u32 (ha : a < 4294967296) (hb : b < 4294967296) : IntKind.u32.wrap ((BitVec.ofInt IntKind.u32.bits a ^^^ BitVec.ofInt IntKind.u32.bits b).toNat : Nat) = ((a ^^^ b : Nat) : Int) := by
 rw [wrapU, BitVec.toNat_xor]
 have h1 : ∀ n : Nat, n < 4294967296 → (BitVec.ofInt IntKind.u32.bits (n : Int)).toNat = n := fun n hn => by
  rw [BitVec.ofInt_natCast, BitVec.toNat_ofNat]
  exact Nat.mod_eq_of_lt hn
 rw [h1 a ha, h1 b hb]
 have : a ^^^ b < 4294967296 := Nat.xor_lt_two_pow (n := 32) ha hb
 omega
end
end Go.Proofs.YtdakelgkjdaijaaGreatDoor.Inp
namespace Go.Proofs.YtdakelgkjdaijaaGreatDoor.Inp
open Go.GL Go.RowKit Go.Stele
set_option maxRecDepth 100000
set_option maxHeartbeats 4000000
section
variable {C : Ctx} {e : Env} {H : Heap} {dst : Option Nat} {ty : TypeId} {pos : String} {aft : Array Edge} {g : Option (Nat × Bool)} {x : Operand}
end
theorem wrap_u8 (n : Nat) : IntKind.u8.wrap (n : Int) = ((UInt8.ofNat n).toNat : Int) := by
 have h : IntKind.u8.wrap (n : Int) = (n : Int) % 256 := by
  simp only [IntKind.wrap, IntKind.bits, IntKind.signed, Bool.false_and]
  rfl
 rw [h]
 have h2 : (UInt8.ofNat n).toNat = n % 256 := by simp
 rw [h2]
 omega
theorem acc_one {s : Nat} {v : LV} {es : List LV} {H F : Heap} (h : GL.Acc s v es H F) : v.cells? = some [v] ∧ ([v].all cellOk) = true := by
 cases h <;> exact ⟨rfl, rfl⟩
attribute [local irreducible] LOps LCode LStep LCalls Go.GL.Pure QThen QBlock RetPost LQ LAny LLate LLateOp LS
section
variable {B0 : Nat} {w0 : World}
end
end Go.Proofs.YtdakelgkjdaijaaGreatDoor.Inp
namespace Go.GL
open Go.RowKit
/-- A deferred call that returns, from a mode to a mode. -/
def LCallsD (C : Ctx) (f : FuncId) (args : List LV) (u : FrameMode) (H : Heap) (R : FrameMode → Heap → Prop) : Prop :=
 ∀ (vs : List Value) w L, RepL w L args vs → RelH C w L H → CallsD C.P f vs.toArray u w fun e u' w' => (∃ v, e = .returned v) ∧ LeftX C w L H w' (R u')
/-- What is asked of the deferred calls: they are run; at the end the results are read, or the panic goes on. -/
def LeavesL (C : Ctx) (n : Nat) (rs : List ResultVar) (R : LRes → Heap → Prop) : List Deferred → FrameMode → Env → Heap → Prop
 | [], .returning, e, H => ∃ vs H', AllRes C n e H rs vs ∧ HSub H' H ∧ R (.ret (resLV vs)) H'
 | [], .panicking ch, _, H => ∃ H', HSub H' H ∧ R (.panic ch) H'
 | [], .run, _, _ => False
 | d :: ds, u, e, H => u ≠ .run ∧ ∃ f cap H1 F, d = { target := .fn (.func f) cap, args := #[] } ∧ TEnter C.P f ∧ H.Perm (H1 ++ F) ∧
   LCallsD C f (cap.toList.map .atom) u H1 fun u' H' => LeavesL C n rs R ds (settle u') e (H' ++ F)
/-- Every way out bears what the slots hold. -/
def liftP (C : Ctx) (n : Nat) (w : World) (L : Live) (K : List Nat) (Q : Post) : Exit → Act → World → Prop :=
 fun x a' w' => ∃ e' H' L', Fr K w L w' L' H' ∧ RelH C w' L' H' ∧ RelE n a' e' w' L' ∧ Q x e' H'
theorem liftP_trans {C : Ctx} {n : Nat} {w w1 : World} {L L1 : Live} {K : List Nat} {H1 : Heap} {Q : Post} (f : Fr K w L w1 L1 H1) {x : Exit} {a : Act} {w' : World}
  (k : liftP C n w1 L1 (keys H1) Q x a w') : liftP C n w L K Q x a w' :=
 let ⟨e', H', L', h1, h2, h3, h4⟩ := k
 ⟨e', H', L', f.trans h1, h2, h3, h4⟩
def LOpsP (C : Ctx) (n : Nat) (ops : Array Oper) (Q : Post) (rest : List Oper) (e : Env) (H : Heap) : Prop :=
 ∀ a w L, RelE n a e w L → RelH C w L H → wpList C.P ops (liftP C n w L (keys H) Q) rest a w
def LCodeP (C : Ctx) (n : Nat) (c : Code) (Q : Post) (e : Env) (H : Heap) : Prop :=
 ∀ a w L, RelE n a e w L → RelH C w L H → c.wp C.P (liftP C n w L (keys H) Q) a w
section P
variable {C : Ctx} {n : Nat} {ops : Array Oper} {Q : Post} {e : Env} {H : Heap}
theorem LOpsP.nil (h : Q .normal e H) : LOpsP C n ops Q [] e H := fun _ _ L hE hH => ⟨e, H, L, Fr.refl _ _ _, hH, hE, h⟩
theorem LOpsP.step {dst : Option Nat} {op : Op} {ty : TypeId} {pos : String} {aft : Array Edge} {rest : List Oper}
  (h : LStep C ⟨dst, op, ty, pos, aft, none⟩ e H (fun lv H' => LOpsP C n ops Q rest (e.put dst lv) H') (fun ch H' => Q (.panic ch) e H'))
  (hd : dstOk n dst) : LOpsP C n ops Q (⟨dst, op, ty, pos, aft, none⟩ :: rest) e H := fun a w L hE hH => by
 unfold wpList
 rw [if_pos (by simp [Region.wanted])]
 have hs := h a.eval w L hE.ev hH
 refine .inl ?_
 unfold Oper.wp
 have left : ∀ {w' v}, Left C w L H w' v (fun lv H' => LOpsP C n ops Q rest (e.put dst lv) H') → wpList C.P ops (liftP C n w L (keys H) Q) rest (a.put dst v) w' := fun h => by
  obtain ⟨lv, H', L', h1, h2, h3, h4⟩ := h
  exact wpList_mono (fun _ _ _ => liftP_trans h1) _ _ _ (h4 _ _ L' ((hE.mono h1.ext).put hd h3) h2)
 have leftX : ∀ {w' ch}, LeftX C w L H w' (fun H' => Q (.panic ch) e H') → liftP C n w L (keys H) Q (.panic ch) a w' := fun h => by
  obtain ⟨H', L', h1, h2, h3⟩ := h
  exact ⟨e, H', L', h1, h2, hE.mono h1.ext, h3⟩
 generalize (execOp a.eval ⟨dst, op, ty, pos, aft, none⟩).run C.P w = r at hs ⊢
 unfold StepOut at hs
 split at hs
 ·exact left hs
 ·exact left hs
 ·obtain ⟨rfl, hs⟩ := hs
  refine Calls.mono hs fun e w' he => ?_
  cases e with
  | returned v => exact left he
  | panicked ch => exact leftX he
  | outgrown => exact he.elim
 ·exact leftX hs
 ·exact hs.elim
theorem LOpsP.pure {dst : Option Nat} {op : Op} {ty : TypeId} {pos : String} {aft : Array Edge} {rest : List Oper} {lv : LV}
  (h : Pure C ⟨dst, op, ty, pos, aft, none⟩ e H lv) (hd : dstOk n dst) (k : LOpsP C n ops Q rest (e.put dst lv) H) : LOpsP C n ops Q (⟨dst, op, ty, pos, aft, none⟩ :: rest) e H :=
 LOpsP.step (h.step k) hd
theorem LCodeP.region {id : Nat} {l : List Oper} (h : LOpsP C n l.toArray Q l e H) : LCodeP C n (.region id l.toArray false) Q e H := fun a w L hE hH => wp_region_lit (h a w L hE hH)
theorem LCodeP.seq {x y : Code} (h : LCodeP C n x (QThen (fun e H => LCodeP C n y Q e H) Q) e H) : LCodeP C n (.seq x y) Q e H := fun a w L hE hH => by
 refine wp_seq (Go.wp_mono (h a w L hE hH) fun ex a' w' hq => ?_)
 obtain ⟨e', H', L', h1, h2, h3, h4⟩ := hq
 cases ex with
 | normal => exact Go.wp_mono (h4 a' w' L' h3 h2) fun _ _ _ => liftP_trans h1
 | exit id => exact ⟨e', H', L', h1, h2, h3, h4⟩
 | goto id => exact ⟨e', H', L', h1, h2, h3, h4⟩
 | ret => exact ⟨e', H', L', h1, h2, h3, h4⟩
 | panic ch => exact ⟨e', H', L', h1, h2, h3, h4⟩
 | outgrown => exact ⟨e', H', L', h1, h2, h3, h4⟩
theorem LCodeP.block {id : Nat} {c : Code} (h : LCodeP C n c (QBlock id Q) e H) : LCodeP C n (.block id c) Q e H := fun a w L hE hH => by
 refine wp_block (Go.wp_mono (h a w L hE hH) fun ex a' w' hq => ?_)
 obtain ⟨e', H', L', h1, h2, h3, h4⟩ := hq
 cases ex with
 | exit id' =>
  simp only [Exit.inBlock, QBlock] at h4 ⊢
  split
  ·rename_i hid; rw [if_pos hid] at h4; exact ⟨e', H', L', h1, h2, h3, h4⟩
  ·rename_i hid; rw [if_neg hid] at h4; exact ⟨e', H', L', h1, h2, h3, h4⟩
 | normal => exact ⟨e', H', L', h1, h2, h3, h4⟩
 | goto id => exact ⟨e', H', L', h1, h2, h3, h4⟩
 | ret => exact ⟨e', H', L', h1, h2, h3, h4⟩
 | panic ch => exact ⟨e', H', L', h1, h2, h3, h4⟩
 | outgrown => exact ⟨e', H', L', h1, h2, h3, h4⟩
/-- Code that does not panic. -/
def QNo (Q : Post) : Post
 | .panic _, _, _ => False
 | x, e, H => Q x e H
theorem LCodeP.of {c : Code} (h : LCode C n c (QNo Q) e H) : LCodeP C n c Q e H := fun a w L hE hH => by
 refine Go.wp_mono (h a w L hE hH) fun ex a' w' hq => ?_
 obtain ⟨e', H', L', h1, h2, h3, h4⟩ := hq
 cases ex with
 | panic ch => exact h4.elim
 | normal => exact ⟨e', H', L', h1, h2, h3, h4⟩
 | exit id => exact ⟨e', H', L', h1, h2, h3, h4⟩
 | goto id => exact ⟨e', H', L', h1, h2, h3, h4⟩
 | ret => exact ⟨e', H', L', h1, h2, h3, h4⟩
 | outgrown => exact ⟨e', H', L', h1, h2, h3, h4⟩
theorem QNo.normal {k : Env → Heap → Prop} (h : k e H) : QNo (QThen k Q) .normal e H := h
theorem QNo.ret (h : Q .ret e H) : QNo Q .ret e H := h
end P
/-- What the body must achieve. -/
def RetPostD (C : Ctx) (n : Nat) (rs : List ResultVar) (R : LRes → Heap → Prop) : Post
 | .normal, e, H | .ret, e, H => LeavesL C n rs R e.ds .returning e H
 | .panic ch, e, H => LeavesL C n rs R e.ds (.panicking ch) e H
 | _, _, _ => False
theorem leavesL {C : Ctx} {n : Nat} {fn : Func} {R : LRes → Heap → Prop} {w0 : World} {L0 : Live} {H0 : Heap} (h3 : fn.results.size ≤ 3) (tmps : Array Value) : ∀ (ds : List Deferred) (u : FrameMode) (e : Env) (H : Heap) (w : World) (L : Live), tmps.size = n → (∀ i, Rep w L (e.s i) (tmps.getD i undef)) → RelH C w L H → Fr (keys H0) w0 L0 w L H →
  LeavesL C n fn.results.toList R ds u e H → Leaves C.P fn tmps (CallPost C w0 L0 H0 (fun v => R (.ret v)) (fun ch => R (.panic ch))) ds u w
 | [], .returning, e, H, w, L, hn, hv, hH, hF, h => by
  obtain ⟨vs, H', h1, h2, h5⟩ := h
  obtain ⟨v, r1, r2⟩ := results_of (a := { tmps, defers := e.ds }) ⟨hn, rfl, hv⟩ hH h1 h3
  exact ⟨v, r1, resLV vs, H', L, hF.weak h2, hH.weak h2, r2, h5⟩
 | [], .panicking ch, e, H, w, L, hn, hv, hH, hF, h => by
  obtain ⟨H', h2, h5⟩ := h
  exact ⟨H', L, hF.weak h2, hH.weak h2, h5⟩
 | [], .run, e, H, w, L, hn, hv, hH, hF, h => h.elim
 | d :: ds, u, e, H, w, L, hn, hv, hH, hF, h => by
  obtain ⟨hu, f, cap, H1, F, rfl, hen, hp, hc⟩ := h
  refine ⟨hu, .func f, cap, f, cap, rfl, by simp [invoke, run_callFunc], ?_⟩
  have hH' := hH.perm hp
  have := hc cap.toList w L (repL_atoms _) hH'.left
  simp only [Array.toArray_toList] at this
  refine CallsD.mono this ?_
  rintro ex u' w' ⟨⟨v, rfl⟩, hx⟩
  obtain ⟨H', L', g1, g2, g3⟩ := LeftX.frame hH' hx
  exact leavesL h3 tmps ds (settle u') e H' w' L' hn (fun i => (hv i).mono g1.ext _ _) g2 (hF.trans (g1.perm hp.symm)) g3
theorem LCallsD.mono {C : Ctx} {f : FuncId} {args : List LV} {u : FrameMode} {H : Heap} {R R' : FrameMode → Heap → Prop} (h : LCallsD C f args u H R) (hr : ∀ u H, R u H → R' u H) : LCallsD C f args u H R' := fun vs w L h1 h2 =>
 CallsD.mono (h vs w L h1 h2) fun _ _ _ ⟨h3, h4⟩ => ⟨h3, h4.mono (hr _)⟩
/-- Entering a function that defers. -/
theorem LCalls.introD {C : Ctx} {f : FuncId} {fn : Func} {c : Code} {n : Nat} {args : List LV} {H : Heap} {R : LRes → Heap → Prop} (hf : C.P.funcs[f]? = some fn) (hb : fn.body = some c) (hn : fn.ntmps = n) (h3 : Nat.ble fn.results.size 3 = true)
  (hl : Nat.ble args.length n = true) (h : LCodeP C n c (RetPostD C n fn.results.toList R) (argsEnv args) H) : LCalls C f args H R := fun vs w L hv hH => by
 subst hn
 have hl' : args.length ≤ fn.ntmps := by simpa using hl
 have h3' : fn.results.size ≤ 3 := by simpa using h3
 have hlen := hv.length
 refine calls_of_wp_defers hf hb (Go.wp_mono (h _ w L ⟨?_, rfl, fun i => ?_⟩ hH) fun ex a' w' hq => ?_)
 ·simp; omega
 ·simp only [argsEnv]
  rw [Array.getD_eq_getD_getElem?]
  rcases Nat.lt_or_ge i args.length with hi | hi
  ·rw [List.getElem?_eq_getElem hi]
   obtain ⟨x, hx, hr⟩ := hv.get (List.getElem?_eq_getElem hi)
   have hxi : (vs.toArray ++ Array.replicate (fn.ntmps - vs.toArray.size) undef)[i]? = some x := by
    rw [Array.getElem?_append_left (by simp; omega)]
    simpa using hx
   rw [hxi]
   exact hr
  ·rw [List.getElem?_eq_none hi]
   have hxi : ((vs.toArray ++ Array.replicate (fn.ntmps - vs.toArray.size) undef)[i]?).getD undef = undef := by
    rw [Array.getElem?_append_right (by simp; omega)]
    rw [Array.getElem?_replicate]
    split <;> rfl
   rw [hxi]
   simp only [Option.getD_none, Rep]
 ·obtain ⟨e', H', L', g1, g2, g3, g4⟩ := hq
  have ret : ∀ u, LeavesL C fn.ntmps fn.results.toList R e'.ds u e' H' → Leaves C.P fn a'.tmps (CallPost C w L H (fun v => R (.ret v)) (fun ch => R (.panic ch))) a'.defers u w' := fun u hu => by
   rw [g3.ds]
   exact leavesL h3' a'.tmps _ u e' H' w' L' g3.size g3.vals g2 g1 hu
  cases ex with
  | normal => exact ret _ g4
  | ret => exact ret _ g4
  | panic ch => exact ret _ g4
  | exit id => exact g4.elim
  | goto id => exact g4.elim
  | outgrown => exact g4.elim
abbrev PostS := Exit → FrameMode → Env → Heap → Prop
/-- Code of a deferred call, which may turn its caller's mode. -/
def LCodeS (C : Ctx) (n : Nat) (c : Code) (Q : PostS) (u : FrameMode) (e : Env) (H : Heap) : Prop :=
 ∀ a w L (c0 : Frame) cs, c0.mode = u → RelE n a e w L → RelH C w L H →
  c.wpS C.P (fun x a' cs' w' => ∃ u' e' H' L', cs' = { c0 with mode := u' } :: cs ∧ Fr (keys H) w L w' L' H' ∧ RelH C w' L' H' ∧ RelX n x a' e' w' L' ∧ Q x u' e' H') a (c0 :: cs) w
theorem wpS_mono {P : Program} {c : Code} {Q Q' : Exit → Act → List Frame → World → Prop} {a : Act} {cs : List Frame} {w : World} (h : c.wpS P Q a cs w) (hq : ∀ x a cs w, Q x a cs w → Q' x a cs w) : c.wpS P Q' a cs w := fun b k h1 h2 =>
 let ⟨e, a', cs', w', q, r⟩ := h b k h1 h2
 ⟨e, a', cs', w', hq _ _ _ _ q, r⟩
section S
variable {C : Ctx} {n : Nat} {Q : PostS} {u : FrameMode} {e : Env} {H : Heap}
theorem LCodeS.of {c : Code} (h : LCode C n c (fun x e H => Q x u e H) e H) : LCodeS C n c Q u e H := fun a w L c0 cs hu hE hH => by
 refine wpS_of_wp (Go.wp_mono (h a w L hE hH) fun x a' w' hq => ?_)
 obtain ⟨e', H', L', h1, h2, h3, h4⟩ := hq
 exact ⟨u, e', H', L', by subst hu; rfl, h1, h2, h3, h4⟩
theorem LCodeS.seq {x y : Code} (h : LCodeS C n x (fun ex u' e' H' => match ex with | .normal => LCodeS C n y Q u' e' H' | ex => Q ex u' e' H') u e H) : LCodeS C n (.seq x y) Q u e H := fun a w L c0 cs hu hE hH => by
 refine wpS_seq (wpS_mono (h a w L c0 cs hu hE hH) fun ex a' cs' w' hq => ?_)
 obtain ⟨u', e', H', L', rfl, h1, h2, h3, h4⟩ := hq
 cases ex with
 | normal =>
  refine wpS_mono (h4 a' w' L' { c0 with mode := u' } cs rfl h3 h2) ?_
  rintro ex a2 cs2 w2 ⟨u2, e2, H2, L2, rfl, g1, g2, g3, g4⟩
  exact ⟨u2, e2, H2, L2, rfl, h1.trans g1, g2, g3, g4⟩
 | exit id => exact ⟨u', e', H', L', rfl, h1, h2, h3, h4⟩
 | goto id => exact ⟨u', e', H', L', rfl, h1, h2, h3, h4⟩
 | ret => exact ⟨u', e', H', L', rfl, h1, h2, h3, h4⟩
 | panic ch => exact ⟨u', e', H', L', rfl, h1, h2, h3, h4⟩
 | outgrown => exact ⟨u', e', H', L', rfl, h1, h2, h3, h4⟩
/-- What recover hands back, and the caller's mode behind it. -/
def recMode : FrameMode → Value × FrameMode
 | .panicking ({ v, recovered := false, goexit := false } :: older) => (v, .panicking ({ v, recovered := true } :: older))
 | u => (.nilIface, u)
theorem recover_run {P : Program} {ρ : Operand → Value} {dst : Option Nat} {ty : TypeId} {pos : String} {aft : Array Edge} {g : Option (Nat × Bool)} (w : World) :
  (execOp ρ ⟨dst, .call { callee := .builtin .recover, args := #[], argTypes := #[] }, ty, pos, aft, g⟩).run P w = .ok .recover w := by
 rfl
theorem recoverD_eq (c0 : Frame) (cs : List Frame) : recoverD (c0 :: cs) = none ∧ recMode c0.mode = (.nilIface, c0.mode) ∨ recoverD (c0 :: cs) = some ((recMode c0.mode).1, { c0 with mode := (recMode c0.mode).2 } :: cs) := by
 obtain ⟨fn, tmps, todo, defers, mode, kind, ro⟩ := c0
 cases mode with
 | run => exact .inl ⟨rfl, rfl⟩
 | returning => exact .inl ⟨rfl, rfl⟩
 | panicking ch =>
  cases ch with
  | nil => exact .inl ⟨rfl, rfl⟩
  | cons p older =>
   obtain ⟨v, r, g⟩ := p
   cases r <;> cases g <;> first | exact .inl ⟨rfl, rfl⟩ | exact .inr rfl
theorem LCodeS.recover {id t s : Nat} {ty ty' : TypeId} {pos pos' : String} {aft aft' : Array Edge} (ht : Nat.blt t n = true) (hs : Nat.blt s n = true) (h : Q .normal (recMode u).2 ((e.upd t (.atom (recMode u).1)).upd s (.atom (recMode u).1)) H) :
  LCodeS C n (.region id #[⟨some t, .call { callee := .builtin .recover, args := #[], argTypes := #[] }, ty, pos, aft, none⟩, ⟨some s, .assign (.tmp t), ty', pos', aft', none⟩] false) Q u e H := fun a w L c0 cs hu hE hH => by
 refine wpS_region ?_
 have hE1 : ∀ v, RelE n (a.put (some t) v) (e.upd t (.atom v)) w L := fun v => hE.put (dst := some t) (by simp only [dstOk, dstB]; exact ht) rep_atom
 have hev : ∀ v, (a.put (some t) v).eval (.tmp t) = v := fun v => by
  have := (hE1 v).ev (.tmp t)
  simpa [Env.ev, Env.upd, Rep] using this
 have hE2 : ∀ v, RelE n ((a.put (some t) v).put (some s) v) ((e.upd t (.atom v)).upd s (.atom v)) w L := fun v => (hE1 v).put (dst := some s) (by simp only [dstOk, dstB]; exact hs) rep_atom
 have h1 : ∀ v cs1, wpOpsS C.P #[⟨some t, .call { callee := .builtin .recover, args := #[], argTypes := #[] }, ty, pos, aft, none⟩, ⟨some s, .assign (.tmp t), ty', pos', aft', none⟩] (fun x a' cs' w' => ∃ u' e' H' L', cs' = { c0 with mode := u' } :: cs ∧ Fr (keys H) w L w' L' H' ∧ RelH C w' L' H' ∧ RelX n x a' e' w' L' ∧ Q x u' e' H') [1] (a.put (some t) v) cs1 w
   ↔ (fun x a' cs' w' => ∃ u' e' H' L', cs' = { c0 with mode := u' } :: cs ∧ Fr (keys H) w L w' L' H' ∧ RelH C w' L' H' ∧ RelX n x a' e' w' L' ∧ Q x u' e' H') Exit.normal ((a.put (some t) v).put (some s) v) cs1 w := by
  intro v cs1
  have hr : (execOp (a.put (some t) v).eval ⟨some s, .assign (.tmp t), ty', pos', aft', none⟩).run C.P w = .ok (.value ((a.put (some t) v).eval (.tmp t))) w := rfl
  simp only [wpOpsS, List.getElem?_toArray, List.getElem?_cons_succ, List.getElem?_cons_zero, Region.wanted, if_true, hr, Oper.upon, hev]
 have h0 : (execOp a.eval ⟨some t, .call { callee := .builtin .recover, args := #[], argTypes := #[] }, ty, pos, aft, none⟩).run C.P w = .ok .recover w := recover_run w
 have hl : List.range (#[(⟨some t, .call { callee := .builtin .recover, args := #[], argTypes := #[] }, ty, pos, aft, none⟩ : Oper), ⟨some s, .assign (.tmp t), ty', pos', aft', none⟩] : Array Oper).size = [0, 1] := rfl
 rw [hl, wpOpsS]
 simp only [List.getElem?_toArray, List.getElem?_cons_zero, Region.wanted, if_true, h0]
 rcases recoverD_eq c0 cs with ⟨h2, h3⟩ | h2
 ·simp only [h2]
  rw [h1]
  subst hu
  rw [h3] at h
  exact ⟨c0.mode, _, H, L, rfl, Fr.refl _ _ _, hH, hE2 _, h⟩
 ·simp only [h2]
  rw [h1]
  subst hu
  exact ⟨_, _, H, L, rfl, Fr.refl _ _ _, hH, hE2 _, h⟩
/-- Entering a deferred function that hands back nothing. -/
def RetPostS (R : FrameMode → Heap → Prop) : PostS
 | .normal, u, e, H | .ret, u, e, H => e.ds = [] ∧ ∃ H', HSub H' H ∧ R u H'
 | _, _, _, _ => False
theorem LCallsD.intro {f : FuncId} {fn : Func} {c : Code} {args : List LV} {R : FrameMode → Heap → Prop} (hf : C.P.funcs[f]? = some fn) (hb : fn.body = some c) (hn : fn.ntmps = n) (h3 : fn.results = #[])
  (hl : Nat.ble args.length n = true) (h : LCodeS C n c (RetPostS R) u (argsEnv args) H) : LCallsD C f args u H R := fun vs w L hv hH => by
 subst hn
 have hl' : args.length ≤ fn.ntmps := by simpa using hl
 have hlen := hv.length
 have hE0 : RelE fn.ntmps { tmps := vs.toArray ++ Array.replicate (fn.ntmps - vs.toArray.size) undef, defers := [] } (argsEnv args) w L := by
  refine ⟨?_, rfl, fun i => ?_⟩
  ·simp; omega
  ·simp only [argsEnv]
   rw [Array.getD_eq_getD_getElem?]
   rcases Nat.lt_or_ge i args.length with hi | hi
   ·rw [List.getElem?_eq_getElem hi]
    obtain ⟨x, hx, hr⟩ := hv.get (List.getElem?_eq_getElem hi)
    have hxi : (vs.toArray ++ Array.replicate (fn.ntmps - vs.toArray.size) undef)[i]? = some x := by
     rw [Array.getElem?_append_left (by simp; omega)]
     simpa using hx
    rw [hxi]
    exact hr
   ·rw [List.getElem?_eq_none hi]
    have hxi : ((vs.toArray ++ Array.replicate (fn.ntmps - vs.toArray.size) undef)[i]?).getD undef = undef := by
     rw [Array.getElem?_append_right (by simp; omega)]
     rw [Array.getElem?_replicate]
     split <;> rfl
    rw [hxi]
    simp only [Option.getD_none, Rep]
 refine callsD_of_wpS hf hb fun c0 cs hu => wpS_mono (h _ w L c0 cs hu hE0 hH) fun ex a' cs' w' hq => ?_
 obtain ⟨u', e', H', L', rfl, g1, g2, g3, g4⟩ := hq
 have fin : RelE fn.ntmps a' e' w' L' → (e'.ds = [] ∧ ∃ H'', HSub H'' H' ∧ R u' H'') → a'.defers = [] ∧ ∃ u'', ({ c0 with mode := u' } :: cs : List Frame) = { c0 with mode := u'' } :: cs ∧ ∃ v, (results fn a'.tmps).run C.P w' = .ok v w' ∧ (∃ v', Ending.returned v = .returned v') ∧ LeftX C w L H w' (R u'') := fun hE ⟨h1, H'', h2, h4⟩ =>
  ⟨hE.ds.trans h1, u', rfl, _, results0 h3 _ _, ⟨_, rfl⟩, H'', L', g1.weak h2, g2.weak h2, h4⟩
 cases ex with
 | normal => exact fin g3 g4
 | ret => exact fin g3 g4
 | panic ch => exact g4.elim
 | exit id => exact g4.elim
 | goto id => exact g4.elim
 | outgrown => exact g4.elim
end S
section defer
variable {C : Ctx} {n : Nat} {ops : Array Oper} {Q : Post} {e : Env} {H : Heap}
theorem LOpsP.defer {dst : Option Nat} {fo : Operand} {f : FuncId} {caps : Array Value} {ty : TypeId} {pos : String} {aft : Array Edge} {rest : List Oper} (hf : e.ev fo = .atom (.func (.func f) #[] caps)) (hd : dst = none)
  (k : LOpsP C n ops Q rest ⟨e.s, { target := .fn (.func f) caps, args := #[] } :: e.ds⟩ H) : LOpsP C n ops Q (⟨dst, .defer { callee := .value fo, args := #[], argTypes := #[] }, ty, pos, aft, none⟩ :: rest) e H := fun a w L hE hH => by
 subst hd
 have hv := hE.ev fo
 rw [hf] at hv
 simp only [Rep] at hv
 have hr : (execOp a.eval ⟨none, .defer { callee := .value fo, args := #[], argTypes := #[] }, ty, pos, aft, none⟩).run C.P w = .ok (.defer { target := .fn (.func f) caps, args := #[] }) w := by
  have h3 : execOp a.eval ⟨none, .defer { callee := .value fo, args := #[], argTypes := #[] }, ty, pos, aft, none⟩ = (do let d ← Deferred.ofValue (a.eval fo) ((#[] : Array Operand).map a.eval); Pure.pure (.defer d)) := rfl
  rw [h3, hv]
  simp only [Deferred.ofValue, List.map_toArray, List.map_nil]
  rfl
 unfold wpList
 rw [if_pos (by simp [Region.wanted])]
 refine .inl ?_
 unfold Oper.wp
 rw [hr]
 simp only [Oper.upon, Act.put]
 exact k _ w L ⟨hE.size, by show _ :: a.defers = _; rw [hE.ds], hE.vals⟩ hH
end defer
end Go.GL
namespace Go.Proofs.YtdakelgkjdaijaaGreatDoor
open Go.GL Go.RowKit Go.Stele
set_option maxRecDepth 100000
set_option maxHeartbeats 4000000
instance : TIface Tryz.prog 20 := .of (by kernel_rfl)
theorem RetPostD.ret1 {C : Ctx} {n : Nat} {e : Env} {H H' H1 H2 F : Heap} {R : LRes → Heap → Prop} {rs : List ResultVar} {vs : List LV} {f : FuncId} {caps : Array Value} [hen : TEnter C.P f] (hd : e.ds = [{ target := .fn (.func f) caps, args := #[] }]) (hp : H.Perm (H1 ++ F))
  (hc : LCallsD C f (caps.toList.map .atom) .returning H1 (fun u H' => u = .returning ∧ H' = H2)) (h : AllRes C n e (H2 ++ F) rs vs) (hH : HSub H' (H2 ++ F)) (hR : R (.ret (resLV vs)) H') : RetPostD C n rs R .ret e H := by
 unfold RetPostD
 simp only [hd]
 refine ⟨by simp, f, caps, H1, F, rfl, hen, hp, LCallsD.mono hc ?_⟩
 rintro u H'' ⟨rfl, rfl⟩
 exact ⟨vs, H', h, hH, hR⟩
theorem RetPostD.panic1 {C : Ctx} {n : Nat} {e : Env} {H H' H1 H2 F : Heap} {R : LRes → Heap → Prop} {rs : List ResultVar} {vs : List LV} {f : FuncId} {caps : Array Value} {ch : List PanicEntry} [hen : TEnter C.P f] (hd : e.ds = [{ target := .fn (.func f) caps, args := #[] }]) (hp : H.Perm (H1 ++ F))
  (hc : LCallsD C f (caps.toList.map .atom) (.panicking ch) H1 (fun u H' => settle u = .returning ∧ H' = H2)) (h : AllRes C n e (H2 ++ F) rs vs) (hH : HSub H' (H2 ++ F)) (hR : R (.ret (resLV vs)) H') : RetPostD C n rs R (.panic ch) e H := by
 unfold RetPostD
 simp only [hd]
 refine ⟨by simp, f, caps, H1, F, rfl, hen, hp, LCallsD.mono hc ?_⟩
 rintro u H'' ⟨hu, rfl⟩
 rw [hu]
 exact ⟨vs, H', h, hH, hR⟩
attribute [local irreducible] LOps LCode LStep LCalls Go.GL.Pure QThen QBlock RetPost LQ LAny LLate LLateOp LOpsP LCodeP LCodeS LCallsD
section
variable {B0 : Nat} {w0 : World}
end
end Go.Proofs.YtdakelgkjdaijaaGreatDoor
namespace Go.GL
open Go.RowKit
section
variable {C : Ctx} {e : Env} {H : Heap} {dst : Option Nat} {ty : TypeId} {pos : String} {aft : Array Edge} {g : Option (Nat × Bool)} {K : LV → Heap → Prop} {X : List PanicEntry → Heap → Prop} {x y : Operand}
/-- A slice of a row from its beginning. -/
theorem Pure.rowSlice {t el s : Nat} [ht : TSlice C.P t el s] {a : Option Addr} {m cap n : Nat} {hi : Operand} {k : IntKind} (hx : e.ev x = .atom (.slice a m cap)) (hh : e.ev hi = int k n) (hn : n ≤ cap) :
  Pure C ⟨dst, .slice t x none (some hi) none, ty, pos, aft, g⟩ e H (.atom (.slice a n cap)) := .of_any fun ρ w L h => by
 obtain ⟨ti, hti, hsz⟩ := ht.size
 refine ⟨_, rep_atom, fun w' => ?_⟩
 have hb := run_sliceBounds (P := C.P) (w' := w') (len := m) (cap := cap) (lo := none) (hi := some hi) (i := 0) (j := n) h true rfl ⟨k, hh⟩ (by omega) (by omega) (by omega)
 have h3 : execOp ρ ⟨dst, .slice t x none (some hi) none, ty, pos, aft, g⟩ = (do Pure.pure (.value (← Instr.sliceAt t (ρ x) none (some (ρ hi)) none))) := rfl
 rw [h3, atom_of h hx]
 simp only [Option.map_none, Option.map_some] at hb
 simp only [Instr.sliceAt, Instr.slice, Sem.run_bind, run_underlying' (P := C.P) ht.und w', Result.andThen_ok, Sem.run_pure, hb, run_sizeOf' hti, hsz]
 have ha : ∀ a : Addr, a.add 0 = a := fun a => by
  obtain ⟨b, o, sp⟩ := a
  unfold Addr.add
  cases sp <;> simp
 simp [ha]
end
section opened
variable {C : Ctx} {n : Nat} {Q : Post} {e : Env} {H F : Heap}
end opened
end Go.GL
namespace Go.Proofs.YtdakelgkjdaijaaGreatDoor.Chk
open Go.GL Go.RowKit Go.Stele
set_option maxRecDepth 100000
set_option maxHeartbeats 4000000
section
variable {C : Ctx} {e : Env} {H : Heap} {dst : Option Nat} {ty : TypeId} {pos : String} {aft : Array Edge} {g : Option (Nat × Bool)} {x : Operand}
/-- A type assertion with two results of a nil interface. -/
theorem Pure.assertNil {t xT : TypeId} [ht : TConcrete C.P t] {zs : List Value} (hz : ∀ w, (zeroValue t).run C.P w = .ok (.agg zs.toArray) w) (hx : e.ev x = .atom .nilIface) : Go.GL.Pure C ⟨dst, .typeAssert x xT t true, ty, pos, aft, g⟩ e H (.tuple [.agg (zs.map .atom), bool false]) :=
 .of_any fun ρ w L h => ⟨.tuple #[.agg zs.toArray, .bool false], by
  simp only [Rep]
  exact ⟨[.agg zs.toArray, .bool false], rfl, by simp only [RepL, Rep]; exact ⟨_, _, rfl, ⟨zs, rfl, repL_atoms zs⟩, _, _, rfl, rfl, rfl⟩⟩, fun w' => by
  obtain ⟨d, hd, hm⟩ := ht.out
  have h3 : execOp ρ ⟨dst, .typeAssert x xT t true, ty, pos, aft, g⟩ = (do Pure.pure (.value (← Instr.typeAssert (ρ x) xT t true))) := rfl
  rw [h3, atom_of h hx]
  simp only [Instr.typeAssert, Sem.run_bind, run_underlying' hd, Result.andThen_ok]
  cases d <;> simp_all [Sem.run_bind]⟩
end
attribute [local irreducible] LOps LCode LStep LCalls Go.GL.Pure QThen QBlock RetPost LQ LAny LLate LLateOp LS LOpsP LCodeP LCodeS LCallsD
section
variable {B0 : Nat} {w0 : World}
end
end Go.Proofs.YtdakelgkjdaijaaGreatDoor.Chk
namespace Go.GL
open Go.RowKit
/-- A row of elements of s cells that nobody else holds, at the slice v. -/
inductive MRow (el : TypeId) (s : Nat) : Value → List LV → Heap → Prop
 | nil : MRow el s (.slice none 0 0) [] []
 | row {b cap : Nat} {es spare : List LV} (hs : ∀ v ∈ es, v.cells.length = s) (hc : es.length ≤ cap) (hl : es.length * s + spare.length = cap * s) :
   MRow el s (.slice (some ⟨b, 0, none⟩) es.length cap) es [(b, .cells el (es.flatMap LV.cells ++ spare))]
section
variable {C : Ctx} {e : Env} {H : Heap} {x y : Operand} {dst : Option Nat} {ty : TypeId} {pos : String} {aft : Array Edge} {g : Option (Nat × Bool)} {K : LV → Heap → Prop} {X : List PanicEntry → Heap → Prop}
theorem left_newM {w : World} {L : Live} (hH : RelH C w L []) {el s cap : Nat} {es : List LV} {xs rest : List Value} (hr : RepL w L (es.flatMap LV.cells) xs) (hs : ∀ v ∈ es, v.cells.length = s) (hc : es.length ≤ cap) (hl : es.length * s + rest.length = cap * s)
  (hk : ∀ v' H', MRow el s v' es H' → K (.atom v') H') :
  Left C w L [] (World.push w (.cells (xs ++ rest).toArray el)) (.slice (some ⟨w.heap.size, 0, none⟩) es.length cap) K := by
 have hx := ext_push hH.wf (.cells (xs ++ rest).toArray el) 0
 have := fr_push hH (.cells (xs ++ rest).toArray el) 0 [(w.heap.size, .cells el (es.flatMap LV.cells ++ rest.map .atom))] (fun p hp => by
  simp only [List.mem_singleton] at hp
  subst hp
  exact ⟨rfl, by simp [Live.upd], xs ++ rest, heap_push_self, RepL.append (hr.mono hx _ _) (repL_atoms rest)⟩) (by simp)
 exact ⟨.atom _, _, _, this.1, this.2, rep_atom, hk _ _ (MRow.row hs hc (by simpa using hl))⟩
theorem LStep.appM {sT xT el s bytes : Nat} [ht : TSlice C.P sT el s] [hr : TRow C.P el s bytes] {e2 s2 : Nat} [hx2 : TSlice C.P xT e2 s2] {v : Value} {es ms : List LV}
  (hx : e.ev x = .atom v) (ha : MRow el s v es H) (hy : GL.elems (e.ev y) = some ms) (hms : ∀ v ∈ ms, v.cells.length = s) (hok : (ms.flatMap LV.cells).all cellOk = true) (hroom : (es.length + ms.length) * bytes ≤ 140737488355328)
  (hk : ∀ v' H', MRow el s v' (es ++ ms) H' → K (.atom v') H') : LStep C ⟨dst, .call { callee := .builtin .append, args := #[x, y], argTypes := #[sT, xT] }, ty, pos, aft, g⟩ e H K X := by
 have h0 : ∀ (cs : Array Bool) (args : Array Value), builtin .append #[sT, xT] ty cs args = (do Pure.pure (.value (← Builtin.append_ #[sT, xT] ty args))) := fun _ _ => rfl
 cases ha with
 | nil =>
  by_cases hne : ms = []
  ·subst hne
   exact LStep.appendNilNil rfl ⟨e2, hx2.und⟩ hx hy (hk _ _ MRow.nil)
  ·intro ρ w L h hH
   have hpos : 0 < ms.length := List.length_pos_iff.2 hne
   obtain ⟨ay, cy, new, hyv, hyc, hyr, hyl, hyf⟩ := slice_cells (s := s) (h y) hy hms
   rw [hyv] at hyf
   have hlen : ∀ w' : World, (Builtin.lenOf (.slice ay ms.length cy)).run C.P w' = .ok ms.length w' := fun w' => by simp [Builtin.lenOf]
   obtain ⟨cap', rest, r1, r2, r3⟩ := run_append_new (ty := ty) (P := C.P) (w := w) (sT := sT) (xT := xT) (a := none) (len := 0) (cap := 0) (n := ms.length) (xv := .slice ay ms.length cy) (old := []) (new := new) (.inr ⟨_, hx2.und⟩) hlen (fun w' hw => hyf C.P w' hw)
    (fun w' _ => by simp [Builtin.firstCells]) (by simpa using hroom) (by omega)
   rw [execOp_builtin', h0]
   simp only [List.map_toArray, List.map_cons, List.map_nil, Sem.run_bind, atom_of h hx, hyv, r3, Result.andThen_ok, Sem.run_pure, List.nil_append, Nat.zero_add]
   obtain ⟨lv, H', L', g1, g2, g3, g4⟩ := left_newM (K := K) (el := el) (es := ms) (cap := cap') (xs := new) (rest := rest) hH.drew (hyr.mono (ext_drew w L) _ _) hms (by omega) (by
    rw [r2, ← Nat.add_mul]; congr 1; omega) (fun v' H' h' => hk v' H' h')
   exact ⟨lv, H', L', g1.of_drew, g2, g3, g4⟩
 | row hs hc hl =>
  rename_i b cap spare
  intro ρ w L h hH
  obtain ⟨hb0, hbs, hlb, zs, hz1, hz2⟩ := hH.objs _ (List.mem_singleton.2 rfl)
  simp only at hb0 hbs hlb hz1
  obtain ⟨ay, cy, new, hyv, hyc, hyr, hyl, hyf⟩ := slice_cells (s := s) (h y) hy hms
  rw [hyv] at hyf
  have hlen : ∀ w' : World, (Builtin.lenOf (.slice ay ms.length cy)).run C.P w' = .ok ms.length w' := fun w' => by simp [Builtin.lenOf]
  have hfl : (es.flatMap LV.cells).length = es.length * s := flat_length hs
  have hzl : zs.length = es.length * s + spare.length := by rw [hz2.length, List.length_append, hfl]
  have hzt : RepL w L (es.flatMap LV.cells) (zs.take (es.length * s)) := by
   have := hz2.take (es.length * s)
   rwa [List.take_left' hfl] at this
  rw [execOp_builtin', h0]
  simp only [List.map_toArray, List.map_cons, List.map_nil, Sem.run_bind, atom_of h hx, hyv]
  by_cases hcc : es.length + ms.length ≤ cap
  ·have hrun := run_append_in (ty := ty) (P := C.P) (w := w) (sT := sT) (xT := xT) (s := s) (a := some ⟨b, 0, none⟩) (len := es.length) (cap := cap) (n := ms.length) (xv := .slice ay ms.length cy) (new := new) (.inr ⟨_, hx2.und⟩) hlen (fun w' hw => hyf C.P w' hw) hcc
   have hmul : (es.length + ms.length) * s ≤ cap * s := Nat.mul_le_mul_right _ hcc
   rw [Nat.add_mul] at hmul
   obtain ⟨w', r1, r2, r3, r4, r5, r6, r7⟩ := storeCells_run (P := C.P) (b := b) (off := 0 + es.length * s) (t := el) (fr := (0, 0)) new 0 w zs hz1 (by omega) (fun j _ _ => by simp) (repL_all hyr hok)
   rw [hrun]
   simp only [add_mk, r1, Result.andThen_ok, Sem.run_pure]
   have he : 0 + es.length * s + 0 = es.length * s := by omega
   rw [he] at r7
   have hnl : new.length = ms.length * s := hyl
   have hdr : RepL w L (spare.drop (ms.length * s)) (zs.drop (es.length * s + new.length)) := by
    have := hz2.drop (es.length * s + new.length)
    rwa [List.drop_append, List.drop_eq_nil_of_le (by omega), List.nil_append, hfl, show es.length * s + new.length - es.length * s = ms.length * s by omega] at this
   refine left_write (v := .slice (some ⟨b, 0, none⟩) (es.length + ms.length) cap) (lv := .atom (.slice (some ⟨b, 0, none⟩) (es.length + ms.length) cap)) (K := K) (cs' := es.flatMap LV.cells ++ ms.flatMap LV.cells ++ spare.drop (ms.length * s)) hH r2 r3 r4 r5 r6 r7 ?_ (RepL.append (RepL.append hzt hyr) hdr) rep_atom ?_
   ·simp only [List.length_append, List.length_take, List.length_drop, hfl]
    omega
   ·have hb : MRow el s (.slice (some ⟨b, 0, none⟩) (es ++ ms).length cap) (es ++ ms) [(b, .cells el ((es ++ ms).flatMap LV.cells ++ spare.drop (ms.length * s)))] := MRow.row (fun v hv => by
      rcases List.mem_append.1 hv with hv | hv
      ·exact hs v hv
      ·exact hms v hv) (by rw [List.length_append]; exact hcc) (by
      rw [List.length_append, List.length_drop, Nat.add_mul]
      omega)
    rw [List.length_append, List.flatMap_append] at hb
    exact hk _ _ hb
  ·have hold : ∀ w' : World, w'.heap = w.heap → (Builtin.firstCells s es.length (.slice (some ⟨b, 0, none⟩) es.length cap)).run C.P w' = .ok (zs.take (es.length * s)).toArray w' := fun w' hw => by
    have := loadCellsFrom_run (P := C.P) (w := w') (b := b) (off := 0) (es.length * s) 0 #[] (zs.take (es.length * s)) (by rw [List.length_take]; omega) (fun j x' hj => by
     have hj' : zs[j]? = some x' := by
      rw [List.getElem?_take] at hj
      split at hj
      ·exact hj
      ·cases hj
     simp [World.cell?, hw, hz1, hj'])
    simp only [Builtin.firstCells, loadCells, this]
    simp
   obtain ⟨cap', rest, r1, r2, r3⟩ := run_append_new (ty := ty) (P := C.P) (w := w) (sT := sT) (xT := xT) (a := some ⟨b, 0, none⟩) (len := es.length) (cap := cap) (n := ms.length) (xv := .slice ay ms.length cy) (old := zs.take (es.length * s)) (new := new) (.inr ⟨_, hx2.und⟩) hlen (fun w' hw => hyf C.P w' hw) hold hroom (by omega)
   rw [r3]
   simp only [Result.andThen_ok, Sem.run_pure]
   have hH0 : RelH C w L [] := hH.sub (List.nil_sublist _)
   obtain ⟨lv, H', L', g1, g2, g3, g4⟩ := left_newM (K := K) (el := el) (s := s) (es := es ++ ms) (cap := cap') (xs := zs.take (es.length * s) ++ new) (rest := rest) hH0.drew (by
     rw [List.flatMap_append]
     exact (RepL.append hzt hyr).mono (ext_drew w L) _ _) (fun v hv => by
     rcases List.mem_append.1 hv with hv | hv
     ·exact hs v hv
     ·exact hms v hv) (by rw [List.length_append]; omega) (by
     rw [r2, List.length_append, ← Nat.add_mul]; congr 1; omega) (fun v' H' h' => hk v' H' h')
   rw [List.length_append] at g3
   exact ⟨lv, H', L', g1.of_drew.wide (by simp), g2, g3, g4⟩
/-- Append beside other blocks. -/
theorem S.appM {sT xT el s bytes : Nat} [ht : TSlice C.P sT el s] [hr : TRow C.P el s bytes] {e2 s2 : Nat} [hx2 : TSlice C.P xT e2 s2] {v : Value} {es ms : List LV} {HM F : Heap}
  (hx : e.ev x = .atom v) (hp : H.Perm (HM ++ F)) (ha : MRow el s v es HM) (hy : GL.elems (e.ev y) = some ms) (hms : ∀ v ∈ ms, v.cells.length = s) (hok : (ms.flatMap LV.cells).all cellOk = true) (hroom : (es.length + ms.length) * bytes ≤ 140737488355328)
  (hk : ∀ v' H', MRow el s v' (es ++ ms) H' → K (.atom v') (F ++ H')) : LStep C ⟨dst, .call { callee := .builtin .append, args := #[x, y], argTypes := #[sT, xT] }, ty, pos, aft, g⟩ e H K X := by
 refine LStep.conseq (K := fun lv H' => ∃ v' H2, lv = .atom v' ∧ H' = H2 ++ F ∧ MRow el s v' (es ++ ms) H2) (LStep.frame hp (LStep.appM hx ha hy hms hok hroom fun v' H' h => ⟨v', H', rfl, rfl, h⟩)) ?_
 rintro lv H' ⟨v', H2, rfl, rfl, h⟩
 exact ⟨_, F ++ H2, LV.Sub.refl _, ⟨[], by simpa using List.perm_append_comm⟩, hk _ _ h⟩
theorem Pure.mlen {t el el2 s s2 : Nat} [TSlice C.P t el2 s2] {v : Value} {es : List LV} {Hv : Heap} (hx : e.ev x = .atom v) (ha : MRow el s v es Hv) : Pure C ⟨dst, .call { callee := .builtin .len, args := #[x], argTypes := #[t] }, ty, pos, aft, g⟩ e H (int .i64 es.length) := by
 cases ha with
 | nil => exact Pure.rowLen (m := 0) hx
 | row => exact Pure.rowLen hx
end
/-! ### Cells of such a row -/
theorem setL_app (P : List LV) : ∀ (Q : List LV) (f : Nat) (vs : List LV), setL (P ++ Q) (P.length + f) vs = P ++ setL Q f vs := by
 induction P with
 | nil => intro Q f vs; simp
 | cons p P ih =>
  intro Q f vs
  have : (p :: P).length + f = (P.length + f) + 1 := by simp only [List.length_cons]; omega
  rw [this]
  show setL (p :: (P ++ Q)) (P.length + f + 1) vs = _
  rw [setL, ih]
  rfl
section
variable {C : Ctx} {e : Env} {H : Heap} {x y : Operand} {dst : Option Nat} {ty : TypeId} {pos : String} {aft : Array Edge} {g : Option (Nat × Bool)} {K : LV → Heap → Prop} {X : List PanicEntry → Heap → Prop}
/-- The address of an element's cell. -/
theorem MRow.addr {el s : Nat} {v : Value} {es : List LV} {HM : Heap} (h : MRow el s v es HM) (hne : es ≠ []) : ∃ b cap spare, v = .slice (some ⟨b, 0, none⟩) es.length cap ∧ HM = [(b, .cells el (es.flatMap LV.cells ++ spare))] ∧ es.length ≤ cap ∧ es.length * s + spare.length = cap * s := by
 cases h with
 | nil => exact absurd rfl hne
 | row hs hc hl => exact ⟨_, _, _, rfl, rfl, hc, hl⟩
end
/-! ### Settling -/
section settle
variable {C : Ctx} {n : Nat} {Q : Post} {e : Env} {H F : Heap}
end settle
end Go.GL
namespace Go.GL
open Go.RowKit
section
variable {C : Ctx} {e : Env} {H : Heap} {x y : Operand} {dst : Option Nat} {ty : TypeId} {pos : String} {aft : Array Edge} {g : Option (Nat × Bool)} {K : LV → Heap → Prop} {X : List PanicEntry → Heap → Prop}
theorem Pure.indexRowE {t el s : Nat} [ht : TSlice C.P t el s] {b off m cap o : Nat} {n : Int} {k : IntKind} (hx : e.ev x = .atom (.slice (some ⟨b, off, none⟩) m cap)) (hy : e.ev y = int k n) (h0 : 0 ≤ n) (hn : n < m) (ho : off + n.toNat * s = o) :
  Pure C ⟨dst, .indexAddr t x y, ty, pos, aft, g⟩ e H (ptr b o) := ho ▸ Pure.indexRow hx hy h0 hn
theorem Pure.lsliceE {t el s : Nat} {lo hi : Option Operand} {es ms : List LV} {i j : Int} [ht : TSlice C.P t el s] (hx : elems (e.ev x) = some es)
  (hlo : BoundIs e lo 0 i) (hhi : BoundIs e hi es.length j) (h0 : 0 ≤ i) (h1 : i ≤ j) (h2 : j ≤ es.length) (hs : ∀ v ∈ es, v.cells.length = s) (he : (es.take j.toNat).drop i.toNat = ms) :
  Pure C ⟨dst, .slice t x lo hi none, ty, pos, aft, g⟩ e H (.list ms) := he ▸ Pure.lslice hx hlo hhi h0 h1 h2 hs
end
/-- A row of one cell an element, told by its cells. -/
theorem MRow.of_cells {el b m cap : Nat} {es spare : List LV} (hs : ∀ v ∈ es, v.cells.length = 1) (hf : es.flatMap LV.cells = es) (hm : es.length = m) (hc : m ≤ cap) (hl : m + spare.length = cap) :
  MRow el 1 (.slice (some ⟨b, 0, none⟩) m cap) es [(b, .cells el (es ++ spare))] := by
 subst hm
 have := MRow.row (el := el) (s := 1) (b := b) (cap := cap) (es := es) (spare := spare) hs hc (by omega)
 rwa [hf] at this
section
variable {C : Ctx} {n : Nat} {Q : Post} {e : Env} {H F : Heap}
end
end Go.GL
namespace Go.GL
open Go.RowKit
section
variable {C : Ctx} {e : Env} {H : Heap} {dst : Option Nat} {ty : TypeId} {pos : String} {aft : Array Edge} {g : Option (Nat × Bool)} {K : LV → Heap → Prop} {X : List PanicEntry → Heap → Prop} {x y : Operand}
theorem run_checkInt {P : Program} {kt : TypeId} {kd k : IntKind} {n : Int} (hkt : P.underlying kt = some (.int kd)) (b : Bool) (w : World) : (Instr.checkKey b 10000 kt (.int k n)).run P w = .ok () w := by
 have hck : Instr.checkKey b 10000 kt (.int k n) = Instr.checkKey b (9999 + 1) kt (.int k n) := rfl
 rw [hck, Instr.checkKey]
 simp only [Sem.run_bind, run_underlying' hkt, Result.andThen_ok, Sem.run_pure]
theorem S.insertK {t kt el : TypeId} {kd k : IntKind} (ht : C.P.underlying t = some (.map kt el)) (hkt : C.P.underlying kt = some (.int kd)) {b clock : Nat} {es es' : Array MapEntry} {F : Heap} {m z : Operand} {n : Int} {v : Value} (hm : e.ev m = .atom (.map (some b))) (hx : e.ev x = int k n) (hz : e.ev z = .atom v)
  (hp : Pick (b, .obj (.map es clock)) H F) (hnew : Instr.findNow (.int kd) (.int k n) es.toList 0 = some none) (he : es.push { key := .int k n, val := v, born := clock } = es') (hk : K (.atom undef) ((b, .obj (.map es' (clock + 1))) :: F)) : LStep C ⟨dst, .insert t m x z, ty, pos, aft, g⟩ e H K X := by
 subst he
 refine LStep.at1 hp fun ρ w L h hH => ?_
 obtain ⟨hb0, hbs, hl, hx1, hx2⟩ := hH.objs _ (List.mem_singleton.2 rfl)
 simp only at hb0 hbs hl hx1 hx2
 have h3 : execOp ρ ⟨dst, .insert t m x z, ty, pos, aft, g⟩ = (do Instr.mapUpdate t (ρ m) (ρ x) (ρ z); Pure.pure .skip) := rfl
 have hf : (Instr.findKey kt (.int k n) es.toList).run C.P w = .ok none w := by
  simp only [Instr.findKey, Sem.run_bind, run_underlying' hkt, Result.andThen_ok, hnew, Sem.run_pure]
 have hc := run_checkInt (P := C.P) (n := n) (k := k) hkt false w
 have hg : (getObj b).run C.P w = .ok (.map es clock) w := by simp only [getObj, Sem.run, hx1]
 rw [h3, atom_of h hm, atom_of h hx, atom_of h hz]
 simp only [Instr.mapUpdate, Sem.run_bind, run_underlying' ht, Result.andThen_ok, hg, hc, hf]
 have hs : (setObj b (.map (es.push { key := .int k n, val := v, born := clock }) (clock + 1))).run C.P w = .ok () (setW w b (.map (es.push { key := .int k n, val := v, born := clock }) (clock + 1))) := run_setObj hx1 rfl
 rw [hs]
 exact left_obj (w' := setW w b (.map (es.push { key := .int k n, val := v, born := clock }) (clock + 1))) hH rfl rfl rfl rfl (by simp [setW]) (fun c hc => setW_other hc) (setW_self hbs) (fun _ => rep_atom) hk
end
end Go.GL
namespace Go.Stele
structure MsOk (s : MS) : Prop where
 mem : ∀ i, s.mem i < 4294967296
 pc : s.pc < 4294967296
 data : ∀ v ∈ s.data, v < 4294967296
 calls : ∀ v ∈ s.calls, v < 4294967296
 inp : ∀ v ∈ s.inp, v < 4294967296
 few : s.data.length ≤ 256
 deep : s.calls.length ≤ 64
theorem MsOk.push {s s' : MS} {v : Nat} (h : MsOk s) (hv : v < 4294967296) (hs : pushM v s = .run s') : MsOk s' := by
 unfold pushM at hs
 split at hs
 ·rename_i hl
  injection hs with hs
  subst hs
  exact ⟨h.mem, h.pc, fun x hx => (List.mem_cons.1 hx).elim (fun e => e ▸ hv) (h.data x), h.calls, h.inp, by simp only [List.length_cons]; omega, h.deep⟩
 ·cases hs
theorem MsOk.pop {s : MS} {a : Nat} {r : List Nat} (h : MsOk s) (hd : s.data = a :: r) : a < 4294967296 ∧ MsOk { s with data := r } := by
 have h1 := h.data
 have h2 := h.few
 rw [hd] at h1 h2
 exact ⟨h1 a (List.mem_cons_self ..), h.mem, h.pc, fun x hx => h1 x (List.mem_cons_of_mem _ hx), h.calls, h.inp, by simp only [List.length_cons] at h2; show r.length ≤ 256; omega, h.deep⟩
theorem xor_lt {a b : Nat} (ha : a < 4294967296) (hb : b < 4294967296) : a ^^^ b < 4294967296 := Nat.xor_lt_two_pow (n := 32) ha hb
theorem bin_lt {c a b v : Nat} (ha : a < 4294967296) (hb : b < 4294967296) (h : binM c a b = some v) : v < 4294967296 := by
 unfold binM at h
 split at h
 ·injection h with h; rw [← h]; exact Nat.mod_lt _ (by decide)
 split at h
 ·injection h with h; rw [← h]; exact Nat.mod_lt _ (by decide)
 split at h
 ·injection h with h; rw [← h]; exact Nat.mod_lt _ (by decide)
 split at h
 ·split at h
  ·cases h
  ·injection h with h; rw [← h]; exact Nat.lt_of_le_of_lt (Nat.div_le_self _ _) ha
 split at h
 ·split at h
  ·cases h
  ·rename_i hb0
   injection h with h
   rw [← h]
   exact Nat.lt_trans (Nat.mod_lt _ (by omega)) hb
 split at h
 ·injection h with h; rw [← h]; exact xor_lt ha hb
 ·injection h with h
  rw [← h]
  split <;> decide
theorem exe_ok {c : Nat} {s s' : MS} (h : MsOk s) (hc : c < 4294967296) (hs : exeM c s = .run s') : MsOk s' := by
 unfold exeM at hs
 split at hs
 ·rename_i hd
  unfold isDigN at hd
  rw [Bool.and_eq_true, decide_eq_true_eq, decide_eq_true_eq] at hd
  unfold digM' at hs
  split at hs
  ·split at hs
   ·rename_i d r hdr
    injection hs with hs
    subst hs
    obtain ⟨_, h2⟩ := h.pop hdr
    exact ⟨h2.mem, h2.pc, fun x hx => (List.mem_cons.1 hx).elim (fun e => by rw [e]; exact Nat.mod_lt _ (by decide)) (h2.data x), h2.calls, h2.inp, by have := h.few; rw [hdr] at this; exact this, h2.deep⟩
   ·cases hs
  ·exact h.push (by omega) hs
 split at hs
 ·injection hs with hs; subst hs; exact h
 split at hs
 ·unfold ldM at hs
  split at hs
  ·rename_i a r hd
   split at hs
   ·exact (h.pop hd).2.push (h.mem a) hs
   ·cases hs
  ·cases hs
 split at hs
 ·unfold stoM at hs
  split at hs
  ·rename_i a v r hd
   split at hs
   ·injection hs with hs
    subst hs
    obtain ⟨h1, h2⟩ := h.pop hd
    obtain ⟨h3, h4⟩ := h2.pop (a := v) (r := r) rfl
    refine ⟨fun i => ?_, h4.pc, h4.data, h4.calls, h4.inp, h4.few, h4.deep⟩
    simp only
    split
    ·exact h3
    ·exact h.mem i
   ·cases hs
  ·cases hs
 split at hs
 ·unfold jmpM at hs
  split at hs
  ·rename_i t v r hd
   injection hs with hs
   subst hs
   obtain ⟨h1, h2⟩ := h.pop hd
   obtain ⟨h3, h4⟩ := h2.pop (a := v) (r := r) rfl
   refine ⟨h4.mem, ?_, h4.data, h4.calls, h4.inp, h4.few, h4.deep⟩
   simp only
   split
   ·exact h1
   ·exact h.pc
  ·cases hs
 split at hs
 ·unfold callM at hs
  split at hs
  ·rename_i t r hd
   split at hs
   ·rename_i hl
    injection hs with hs
    subst hs
    obtain ⟨h1, h2⟩ := h.pop hd
    exact ⟨h2.mem, h1, h2.data, fun x hx => (List.mem_cons.1 hx).elim (fun e => e ▸ h.pc) (h.calls x), h2.inp, h2.few, by simp only [List.length_cons]; omega⟩
   ·cases hs
  ·cases hs
 split at hs
 ·unfold bakM at hs
  split at hs
  ·rename_i t r hd
   injection hs with hs
   subst hs
   have h1 := h.calls
   have h2 := h.deep
   rw [hd] at h1 h2
   exact ⟨h.mem, h1 t (List.mem_cons_self ..), h.data, fun x hx => h1 x (List.mem_cons_of_mem _ hx), h.inp, h.few, by simp only [List.length_cons] at h2; show r.length ≤ 64; omega⟩
  ·cases hs
 split at hs
 ·unfold rdM at hs
  split at hs
  ·rename_i v r hi
   have h1 := h.inp
   rw [hi] at h1
   have h2 : MsOk { s with inp := r } := ⟨h.mem, h.pc, h.data, h.calls, fun x hx => h1 x (List.mem_cons_of_mem _ hx), h.few, h.deep⟩
   exact h2.push (h1 v (List.mem_cons_self ..)) hs
  ·exact h.push (by decide) hs
 split at hs
 ·unfold wrM at hs
  split at hs
  ·rename_i v r hd
   injection hs with hs
   subst hs
   obtain ⟨h1, h2⟩ := h.pop hd
   exact ⟨h2.mem, h2.pc, h2.data, h2.calls, h2.inp, h2.few, h2.deep⟩
  ·cases hs
 split at hs
 ·cases hs
 split at hs
 ·unfold opM at hs
  split at hs
  ·rename_i b a r hd
   obtain ⟨h1, h2⟩ := h.pop hd
   obtain ⟨h3, h4⟩ := h2.pop (a := a) (r := r) rfl
   split at hs
   ·rename_i v hv
    exact h4.push (bin_lt h3 h1 hv) hs
   ·cases hs
  ·cases hs
 ·cases hs
theorem load_lt (code : Wd) (og i : Nat) : loadM code og i < 4294967296 := by
 unfold loadM
 split
 ·split
  ·rename_i c _
   have := c.toNat_lt
   omega
  ·decide
 ·decide
end Go.Stele
namespace Go.Proofs.YtdakelgkjdaijaaGreatDoor.Mch
open Go.GL Go.RowKit Go.Stele
open Go.Proofs.YtdakelgkjdaijaaGreatDoor.Inp (u32)
set_option maxRecDepth 100000
set_option maxHeartbeats 4000000
def us (l : List Nat) : List LV := l.map u32
theorem us_len (l : List Nat) : (us l).length = l.length := List.length_map _
theorem us_cell (l : List Nat) : ∀ v ∈ us l, v.cells.length = 1 := fun v hv => by
 obtain ⟨a, _, rfl⟩ := List.mem_map.1 hv
 rfl
theorem us_flat : ∀ l : List Nat, (us l).flatMap LV.cells = us l
 | [] => rfl
 | a :: l => by
  show (u32 a :: us l).flatMap LV.cells = u32 a :: us l
  rw [List.flatMap_cons, us_flat l]
  rfl
theorem us_app (l m : List Nat) : us (l ++ m) = us l ++ us m := List.map_append
theorem mrow_us {el b m cap : Nat} {l : List Nat} {spare : List LV} (hm : l.length = m) (hc : m ≤ cap) (hl : m + spare.length = cap) : MRow el 1 (.slice (some ⟨b, 0, none⟩) m cap) (us l) [(b, .cells el (us l ++ spare))] :=
 MRow.of_cells (us_cell l) (us_flat l) (by rw [us_len]; exact hm) hc hl
theorem mrow_ok {el s : Nat} {v : Value} {es : List LV} {H : Heap} (h : MRow el s v es H) : (LV.atom v).cells? = some [LV.atom v] ∧ ([LV.atom v].all cellOk) = true := by
 cases h <;> exact ⟨rfl, rfl⟩
theorem mrow_usOf {el : Nat} {v : Value} {l : List Nat} {H : Heap} (h : MRow el 1 v (us l) H) (hne : l ≠ []) : ∃ b cap spare, v = .slice (some ⟨b, 0, none⟩) l.length cap ∧ H = [(b, .cells el (us l ++ spare))] ∧ l.length ≤ cap ∧ l.length + spare.length = cap := by
 obtain ⟨b, cap, spare, h1, h2, h3, h4⟩ := h.addr (by intro e; exact hne (List.map_eq_nil_iff.1 e))
 rw [us_len] at h1 h3 h4
 rw [us_flat] at h2
 exact ⟨b, cap, spare, h1, h2, h3, by omega⟩
/-- What of a machine's struct does not change while values are pushed and popped. -/
structure MF where
 mb : Nat
 vm : Value
 pc : Nat
 vc : Value
 inp : List Nat
 vo : LV
 digit : Bool
 st : Nat
 stop : Bool
 bm : Nat
def MF.cells (f : MF) (vd : Value) : List LV := [.atom f.vm, u32 f.pc, .atom vd, .atom f.vc, .list (us f.inp), f.vo, bool f.digit, int .i64 (f.st : Nat), bool f.stop, .atom (.map (some f.bm))]
/-- The struct and the data stack; of the stack the top stands first. -/
def DH (f : MF) (data : List Nat) (H : Heap) : Prop := ∃ vd HD, MRow 56 1 vd (us data.reverse) HD ∧ H = (f.mb, .cells 164 (f.cells vd)) :: HD
def trapV : List PanicEntry := [{ v := .iface 217 (.agg #[]), recovered := false }]
def PostPop (f : MF) (data : List Nat) : LRes → Heap → Prop := fun r H => match data with
 | [] => r = .panic trapV ∧ DH f [] H
 | v :: d => r = .ret (u32 v) ∧ DH f d H
def PostPush (f : MF) (data : List Nat) (v : Nat) : LRes → Heap → Prop := fun r H => if data.length < 256 then r = .ret (.tuple []) ∧ DH f (v :: data) H else r = .panic trapV ∧ DH f data H
def PostAddr (f : MF) (data : List Nat) : LRes → Heap → Prop := fun r H => match data with
 | [] => r = .panic trapV ∧ DH f [] H
 | v :: d => if v < 262144 then r = .ret (u32 v) ∧ DH f d H else r = .panic trapV ∧ DH f d H
attribute [local irreducible] LOps LCode LStep LCalls Go.GL.Pure QThen QBlock RetPost LQ LAny LLate LLateOp LS
section
variable {B0 : Nat} {w0 : World}
theorem check_spec (b : Bool) : LCalls (KC B0 w0) 155 [bool b] [] (fun r H' => H' = [] ∧ r = if b = true then .ret (.tuple []) else .panic trapV) := by
 refine LCalls.intro Tryz.func155 rfl (n := 6) rfl rfl rfl ?_
 repeat first | refine LOps.nil ?_ | refine LCode.seq ?_ | refine LCode.region ?_ | refine QThen.normal ?_ | refine LOps.pure (Pure.mv (lv := .atom _) rfl) rfl ?_ | refine LOps.pure (Pure.not rfl) rfl ?_
 refine LCode.cond rfl (fun hc => ?_) (fun hc => ?_)
 ·have hb : b = false := by simpa using hc
  subst hb
  repeat first | refine LCode.region ?_ | refine LOps.pure (Pure.bld _ (cs := []) rfl) rfl ?_ | refine LOps.pure (Pure.makeInterfaceAgg (vs := []) rfl) rfl ?_
  refine LOps.step (LStep.panic rfl fun e' he' => ?_) rfl
  exact RetPost.panic (he'.trans rfl) (HSub.refl _) ⟨rfl, rfl⟩
 ·have hb : b = true := by simpa using hc
  subst hb
  repeat first | refine LCode.skip ?_
  exact RetPost.normal rfl AllRes.nil (HSub.refl _) ⟨rfl, rfl⟩
end
section
variable {B0 : Nat} {w0 : World} {e : Env} {H : Heap} {dst : Option Nat} {ty : TypeId} {pos : String} {aft : Array Edge} {g : Option (Nat × Bool)} {K : LV → Heap → Prop} {X : List PanicEntry → Heap → Prop}
theorem S.check {b : Bool} {o : Operand} {ats : Array TypeId} (hx : e.ev o = bool b) (hk : b = true → K (.tuple []) H) (hn : b = false → X trapV H) : LStep (KC B0 w0) ⟨dst, .call { callee := .value (.func 155), args := #[o], argTypes := ats }, ty, pos, aft, g⟩ e H K X := by
 refine S.callH (H1 := []) (F := H) [o] (by simp only [List.map_cons, List.map_nil, hx]) (List.Perm.refl _) (check_spec b) ?_ ?_
 ·rintro v H' ⟨rfl, h⟩
  cases b with
  | true => cases h; exact hk rfl
  | false => cases h
 ·rintro ch H' ⟨rfl, h⟩
  cases b with
  | true => cases h
  | false => cases h; exact hn rfl
end
section
variable {B0 : Nat} {w0 : World} {f : MF} {data : List Nat} {H : Heap}
theorem push_spec (h : DH f data H) (hf : data.length ≤ 256) (v : Nat) : LCalls (KC B0 w0) 195 [ptr f.mb 0, u32 v] H (PostPush f data v) := by
 obtain ⟨vd, HD, hm, rfl⟩ := h
 have hl : (us data.reverse).length = data.length := by rw [us_len, List.length_reverse]
 unfold PostPush
 refine LCalls.intro Tryz.func195 rfl (n := 21) rfl rfl rfl ?_
 repeat first | refine LCode.seq ?_ | refine LCode.region ?_ | refine LOps.pure (Pure.mv (lv := .atom _) rfl) rfl ?_ | refine LOps.pure (Pure.nilCheckH rfl) rfl ?_ | refine LOps.pure (Pure.fieldH rfl) rfl ?_ | refine LOps.pure (Pure.loadH (c := .atom _) rfl (List.Mem.head _) rfl) rfl ?_
 refine LOps.pure (Pure.mlen rfl hm) rfl ?_
 repeat first | refine LOps.pure (Pure.lss rfl rfl) rfl ?_
 refine LOps.step (S.check rfl (fun hb => ?_) (fun hb e' he' => ?_)) rfl
 ·have hlt : data.length < 256 := by have := of_decide_eq_true hb; omega
  simp only [if_pos hlt]
  repeat first | refine LOps.nil ?_ | refine LCode.region ?_ | refine QThen.normal ?_ | refine LOps.pure (Pure.mv (lv := .atom _) rfl) rfl ?_ | refine LOps.pure (Pure.nilCheckH rfl) rfl ?_ | refine LOps.pure (Pure.fieldH rfl) rfl ?_ | refine LOps.pure (Pure.loadH (c := .atom _) rfl (List.Mem.head _) rfl) rfl ?_
  refine LOps.step (S.lit [_] rfl (elemsOk.cons rfl rfl elemsOk.nil) rfl rfl rfl ?_) rfl
  refine LOps.step (S.appM (HM := HD) (F := [_]) rfl (List.perm_append_singleton _ _).symm hm rfl (by simp; rfl) rfl (by simp; omega) fun v' H' hm' => ?_) rfl
  repeat first | refine LOps.pure (Pure.nilCheckH rfl) rfl ?_ | refine LOps.pure (Pure.fieldH rfl) rfl ?_
  refine LOps.step (S.store (n := 1) (vs := [LV.atom v']) (cs' := [_, _, _, _, _, _, _, _, _, _]) rfl Pick.here (mrow_ok hm').1 rfl rfl (mrow_ok hm').2 rfl ?_) rfl
  repeat first | refine LOps.nil ?_
  exact RetPost.normal rfl AllRes.nil (HSub.refl _) ⟨rfl, v', H', by
   rw [List.reverse_cons, us_app]
   exact hm', rfl⟩
 ·have hlt : ¬ data.length < 256 := by have := of_decide_eq_false hb; omega
  simp only [if_neg hlt]
  repeat first | refine QThen.panic ?_
  exact RetPost.panic (he'.trans rfl) (HSub.refl _) ⟨rfl, vd, HD, hm, rfl⟩
theorem pop_spec (h : DH f data H) (hf : data.length ≤ 256) : LCalls (KC B0 w0) 197 [ptr f.mb 0] H (PostPop f data) := by
 obtain ⟨vd, HD, hm, rfl⟩ := h
 have hl : (us data.reverse).length = data.length := by rw [us_len, List.length_reverse]
 unfold PostPop
 refine LCalls.intro Tryz.func197 rfl (n := 32) rfl rfl rfl ?_
 repeat first | refine LOps.nil ?_ | refine LCode.seq ?_ | refine LCode.region ?_ | refine QThen.normal ?_ | refine LOps.pure (Pure.as (lv := .atom _) rfl) rfl ?_ | refine LOps.pure (Pure.mv (lv := .atom _) rfl) rfl ?_ | refine LOps.pure (Pure.nilCheckH rfl) rfl ?_ | refine LOps.pure (Pure.fieldH rfl) rfl ?_ | refine LOps.pure (Pure.loadH (c := .atom _) rfl (List.Mem.head _) rfl) rfl ?_
 refine LOps.pure (Pure.mlen rfl hm) rfl ?_
 repeat first | refine LOps.nil ?_ | refine LCode.seq ?_ | refine LCode.region ?_ | refine QThen.normal ?_ | refine LOps.pure (Pure.as (lv := .atom _) rfl) rfl ?_ | refine LOps.pure (Pure.mv (lv := .atom _) rfl) rfl ?_ | refine LOps.pure (Pure.gtr rfl rfl) rfl ?_
 cases data with
 | nil =>
  refine LOps.step (S.check rfl (fun hb => ?_) (fun hb e' he' => ?_)) rfl
  ·cases hb
  ·repeat first | refine QThen.panic ?_
   exact RetPost.panic (he'.trans rfl) (HSub.refl _) ⟨rfl, vd, HD, hm, rfl⟩
 | cons a r =>
  refine LOps.step (S.check rfl (fun hb => ?_) (fun hb => ?_)) rfl
  rotate_left
  ·have := of_decide_eq_false hb
   rw [hl, List.length_cons] at this
   omega
  obtain ⟨b, cap, spare, rfl, rfl, hc, hcap⟩ := mrow_usOf hm (by rw [List.reverse_cons]; simp)
  rw [List.reverse_cons, us_app, List.append_assoc] at *
  rw [List.length_append, List.length_reverse, List.length_singleton] at hc hcap
  have hsz : (us r.reverse).length = r.length := by rw [us_len, List.length_reverse]
  have hel : (r.reverse ++ [a]).length = r.length + 1 := by simp
  rw [List.length_cons] at hl hf
  repeat first | refine LOps.nil ?_ | refine LCode.seq ?_ | refine LCode.region ?_ | refine QThen.normal ?_ | refine LOps.pure (Pure.mv (lv := .atom _) rfl) rfl ?_ | refine LOps.pure (Pure.nilCheckH rfl) rfl ?_ | refine LOps.pure (Pure.fieldH rfl) rfl ?_ | refine LOps.pure (Pure.loadH (c := .atom _) rfl (List.Mem.head _) rfl) rfl ?_ | refine LOps.pure (Pure.sub rfl rfl (by omega)) rfl ?_
  refine LOps.pure (Pure.indexRowE (o := r.length) rfl rfl (by omega) (by omega) (by omega)) rfl ?_
  refine LOps.pure (Pure.loadH (c := u32 a) rfl (List.Mem.tail _ (List.Mem.head _)) (by rw [List.getElem?_append_right (by omega), hsz, Nat.sub_self]; rfl)) rfl ?_
  repeat first | refine LOps.nil ?_ | refine LCode.seq ?_ | refine LCode.region ?_ | refine QThen.normal ?_ | refine LOps.pure (Pure.as (lv := .atom _) rfl) rfl ?_ | refine LOps.pure (Pure.mv (lv := .atom _) rfl) rfl ?_ | refine LOps.pure (Pure.nilCheckH rfl) rfl ?_ | refine LOps.pure (Pure.fieldH rfl) rfl ?_ | refine LOps.pure (Pure.loadH (c := .atom _) rfl (List.Mem.head _) rfl) rfl ?_ | refine LOps.pure (Pure.sub rfl rfl (by omega)) rfl ?_
  refine LOps.pure (Pure.rowSlice (n := r.length) rfl (by exact int_eq (by omega)) (by omega)) rfl ?_
  repeat first | refine LOps.nil ?_ | refine LCode.seq ?_ | refine LCode.region ?_ | refine LCode.ret ?_ | refine QThen.normal ?_ | refine LOps.pure (Pure.as (lv := .atom _) rfl) rfl ?_ | refine LOps.pure (Pure.mv (lv := .atom _) rfl) rfl ?_ | refine LOps.pure (Pure.nilCheckH rfl) rfl ?_ | refine LOps.pure (Pure.fieldH rfl) rfl ?_ | refine LOps.step (S.store (cs' := [_, _, _, _, _, _, _, _, _, _]) rfl Pick.here rfl rfl rfl rfl rfl ?_) rfl
  exact RetPost.ret rfl (AllRes.cons (ResIs.tmp (v := .atom _) rfl (LV.Sub.refl _)) AllRes.nil) (HSub.refl _) ⟨rfl, _, _, mrow_us (l := r.reverse) (spare := us [a] ++ spare) (by rw [List.length_reverse]) (by omega) (by rw [List.length_append, us_len]; simp only [List.length_singleton]; omega), rfl⟩
theorem address_spec (h : DH f data H) (hf : data.length ≤ 256) : LCalls (KC B0 w0) 196 [ptr f.mb 0] H (PostAddr f data) := by
 have hp := pop_spec (B0 := B0) (w0 := w0) h hf
 unfold PostPop at hp
 unfold PostAddr
 refine LCalls.intro Tryz.func196 rfl (n := 10) rfl rfl rfl ?_
 repeat first | refine LOps.nil ?_ | refine LCode.seq ?_ | refine LCode.region ?_ | refine QThen.normal ?_ | refine LOps.pure (Pure.as (lv := .atom _) rfl) rfl ?_ | refine LOps.pure (Pure.mv (lv := .atom _) rfl) rfl ?_
 cases data with
 | nil =>
  refine LOps.step (S.callH (H1 := H) (F := []) [_] rfl (by rw [List.append_nil]) hp ?_ ?_) rfl
  ·rintro v H' ⟨h1, _⟩
   cases h1
  ·rintro ch H' ⟨h1, h2⟩ e' he'
   cases h1
   repeat first | refine QThen.panic ?_
   exact RetPost.panic (he'.trans rfl) (HSub.refl _) ⟨rfl, by rw [List.append_nil]; exact h2⟩
 | cons a r =>
  refine LOps.step (S.callH (H1 := H) (F := []) [_] rfl (by rw [List.append_nil]) hp ?_ ?_) rfl
  rotate_left
  ·rintro ch H' ⟨h1, _⟩
   cases h1
  ·rintro v H' ⟨h1, h2⟩
   cases h1
   rw [List.append_nil]
   repeat first | refine LOps.nil ?_ | refine LCode.seq ?_ | refine LCode.region ?_ | refine QThen.normal ?_ | refine LOps.pure (Pure.as (lv := .atom _) rfl) rfl ?_ | refine LOps.pure (Pure.mv (lv := .atom _) rfl) rfl ?_ | refine LOps.pure (Pure.lss rfl rfl) rfl ?_
   refine LOps.step (S.check rfl (fun hb => ?_) (fun hb e' he' => ?_)) rfl
   ·have hlt : a < 262144 := by have : (a : Int) < 262144 := of_decide_eq_true hb; omega
    simp only [if_pos hlt]
    repeat first | refine LOps.nil ?_ | refine LCode.seq ?_ | refine LCode.region ?_ | refine LCode.ret ?_ | refine QThen.normal ?_ | refine LOps.pure (Pure.as (lv := .atom _) rfl) rfl ?_ | refine LOps.pure (Pure.mv (lv := .atom _) rfl) rfl ?_
    exact RetPost.ret rfl (AllRes.cons (ResIs.tmp (v := .atom _) rfl (LV.Sub.refl _)) AllRes.nil) (HSub.refl _) ⟨rfl, h2⟩
   ·have hlt : ¬ a < 262144 := by have : ¬ (a : Int) < 262144 := of_decide_eq_false hb; omega
    simp only [if_neg hlt]
    repeat first | refine QThen.panic ?_
    exact RetPost.panic (he'.trans rfl) (HSub.refl _) ⟨rfl, h2⟩
end
end Go.Proofs.YtdakelgkjdaijaaGreatDoor.Mch
namespace Go.GL
open Go.RowKit
section
variable {C : Ctx} {e : Env} {H : Heap} {dst : Option Nat} {ty : TypeId} {pos : String} {aft : Array Edge} {g : Option (Nat × Bool)} {x y : Operand}
theorem Pure.lookupHit2 {t kt el : TypeId} {kd k : IntKind} (ht : C.P.underlying t = some (.map kt el)) (hkt : C.P.underlying kt = some (.int kd)) {b clock j : Nat} {es : Array MapEntry} {n : Int} {v : Value} (hm : e.ev x = .atom (.map (some b))) (hx : e.ev y = int k n)
  (hb : (b, LObj.obj (.map es clock)) ∈ H) (hf : Instr.findNow (.int kd) (.int k n) es.toList 0 = some (some (j, v))) : Pure C ⟨dst, .lookup t x y true, ty, pos, aft, g⟩ e H (.tuple [.atom v, bool true]) := fun ρ w L h hH => by
 obtain ⟨_, _, _, hx1, _⟩ := hH.objs _ hb
 simp only at hx1
 refine ⟨.tuple #[v, .bool true], ?_, fun w' ha => ?_⟩
 ·simp only [Rep]
  refine ⟨[v, .bool true], rfl, ?_⟩
  simp only [RepL]
  exact ⟨_, _, rfl, rep_atom, _, _, rfl, rfl, rfl⟩
 have hw : w'.heap[b]? = some (.map es clock) := (ha.1 _ hb).trans hx1
 have h3 : execOp ρ ⟨dst, .lookup t x y true, ty, pos, aft, g⟩ = (do Pure.pure (.value (← Instr.lookup t (ρ x) (ρ y) true))) := rfl
 have hg : (getObj b).run C.P w' = .ok (.map es clock) w' := by simp only [getObj, Sem.run, hw]
 rw [h3, atom_of h hm, atom_of h hx]
 have hf2 : (Instr.findKey kt (.int k n) es.toList).run C.P w' = .ok (some (j, v)) w' := by
  simp only [Instr.findKey, Sem.run_bind, run_underlying' hkt, Result.andThen_ok, hf, Sem.run_pure]
 have hc := run_checkInt (P := C.P) (n := n) (k := k) hkt
 simp only [Instr.lookup, Sem.run_bind, run_underlying' ht, Result.andThen_ok, hg, Sem.run_pure, hc, hf2]
 rfl
theorem Pure.lookupMiss2 {t kt el : TypeId} {kd k : IntKind} (ht : C.P.underlying t = some (.map kt el)) (hkt : C.P.underlying kt = some (.int kd)) {b clock : Nat} {es : Array MapEntry} {n : Int} {zv : Value} (hz : ∀ w, (zeroValue el).run C.P w = .ok zv w) (hm : e.ev x = .atom (.map (some b))) (hx : e.ev y = int k n)
  (hb : (b, LObj.obj (.map es clock)) ∈ H) (hf : Instr.findNow (.int kd) (.int k n) es.toList 0 = some none) : Pure C ⟨dst, .lookup t x y true, ty, pos, aft, g⟩ e H (.tuple [.atom zv, bool false]) := fun ρ w L h hH => by
 obtain ⟨_, _, _, hx1, _⟩ := hH.objs _ hb
 simp only at hx1
 refine ⟨.tuple #[zv, .bool false], ?_, fun w' ha => ?_⟩
 ·simp only [Rep]
  refine ⟨[zv, .bool false], rfl, ?_⟩
  simp only [RepL]
  exact ⟨_, _, rfl, rep_atom, _, _, rfl, rfl, rfl⟩
 have hw : w'.heap[b]? = some (.map es clock) := (ha.1 _ hb).trans hx1
 have h3 : execOp ρ ⟨dst, .lookup t x y true, ty, pos, aft, g⟩ = (do Pure.pure (.value (← Instr.lookup t (ρ x) (ρ y) true))) := rfl
 have hg : (getObj b).run C.P w' = .ok (.map es clock) w' := by simp only [getObj, Sem.run, hw]
 rw [h3, atom_of h hm, atom_of h hx]
 have hf2 : (Instr.findKey kt (.int k n) es.toList).run C.P w' = .ok none w' := by
  simp only [Instr.findKey, Sem.run_bind, run_underlying' hkt, Result.andThen_ok, hf, Sem.run_pure]
 have hc := run_checkInt (P := C.P) (n := n) (k := k) hkt
 simp only [Instr.lookup, Sem.run_bind, run_underlying' ht, Result.andThen_ok, hg, Sem.run_pure, hc, hf2, hz]
 rfl
end
end Go.GL
namespace Go.Proofs.YtdakelgkjdaijaaGreatDoor.Mch
open Go.GL Go.RowKit Go.Stele
open Go.Proofs.YtdakelgkjdaijaaGreatDoor.Inp (u32 Same retS wrapU u32_eq xor_u32)
set_option maxRecDepth 100000
set_option maxHeartbeats 4000000
/-- The memory's cells. -/
def memL (f : Nat → Nat) : List LV := (List.range 262144).map fun i => u32 (f i)
theorem memL_len (f : Nat → Nat) : (memL f).length = 262144 := by
 unfold memL
 rw [List.length_map, List.length_range]
theorem memL_get (f : Nat → Nat) {a : Nat} (h : a < 262144) : (memL f)[a]? = some (u32 (f a)) := by
 unfold memL
 rw [List.getElem?_map, List.getElem?_range h]
 rfl
theorem setL_none (l : List LV) : setL l 0 [] = l := by cases l <;> rfl
theorem setL_one : ∀ (l : List LV) (a : Nat) (v : LV), setL l a [v] = l.set a v
 | [], a, v => by cases a <;> rfl
 | x :: xs, 0, v => by
  show v :: setL xs 0 [] = _
  rw [setL_none]
  rfl
 | x :: xs, a + 1, v => by
  show x :: setL xs a [v] = _
  rw [setL_one xs a v]
  rfl
theorem memL_set (f : Nat → Nat) (a v : Nat) : setL (memL f) a [u32 v] = memL (fun i => if i = a then v else f i) := by
 rw [setL_one]
 refine List.ext_getElem? fun i => ?_
 rw [List.getElem?_set, memL_len]
 by_cases h2 : i < 262144
 ·rw [memL_get (fun i => if i = a then v else f i) h2, memL_get f h2]
  by_cases h : a = i
  ·subst h
   simp [h2]
  ·have h3 : ¬ i = a := fun e => h e.symm
   simp [h, h3]
 ·have n1 : ∀ f, (memL f)[i]? = none := fun f => List.getElem?_eq_none (by rw [memL_len]; omega)
  rw [n1 f, n1 (fun i => if i = a then v else f i)]
  by_cases h : a = i
  ·subst h
   simp [h2]
  ·simp [h]
theorem memL_zero : List.replicate 262144 (LV.atom (.int .u32 0)) = memL (fun _ => 0) := by
 unfold memL
 rw [List.map_const', List.length_range]
 rfl
attribute [irreducible] memL
/-- A digit leaves something on the stack. -/
theorem exe_dig {c : Nat} {s s' : MS} (h : exeM c s = .run s') (hc : isDigN c = true) : s'.data ≠ [] := by
 unfold exeM at h
 rw [if_pos hc] at h
 unfold digM' at h
 split at h
 ·split at h
  ·injection h with h
   subst h
   simp
  ·cases h
 ·unfold pushM at h
  split at h
  ·injection h with h
   subst h
   simp
  ·cases h
def fnE (k : Int) (f : FuncId) (n : Nat) : MapEntry := { key := .int .u32 k, val := .func (.func f) #[] #[], born := n }
/-- The map of the binary operations. -/
def binsE : Array MapEntry := #[fnE 43 151 0, fnE 45 152 1, fnE 42 153 2, fnE 47 154 3, fnE 37 156 4, fnE 94 157 5, fnE 60 158 6]
theorem bins_miss {c : Nat} (h : ¬ (c = 43 ∨ c = 45 ∨ c = 42 ∨ c = 47 ∨ c = 37 ∨ c = 94 ∨ c = 60)) : Instr.findNow (.int .u32) (.int .u32 (c : Int)) binsE.toList 0 = some none := by
 have key : ∀ k : Nat, c ≠ k → ((c : Int) == (k : Int)) = false := fun k hk => by
  rw [beq_eq_false_iff_ne]
  omega
 have k1 := key 43 (by omega)
 have k2 := key 45 (by omega)
 have k3 := key 42 (by omega)
 have k4 := key 47 (by omega)
 have k5 := key 37 (by omega)
 have k6 := key 94 (by omega)
 have k7 := key 60 (by omega)
 simp only [binsE, fnE, Instr.findNow, Instr.sameNow, if_true]
 simp only [Int.cast_ofNat_Int] at k1 k2 k3 k4 k5 k6 k7
 simp only [k1, k2, k3, k4, k5, k6, k7]
def resM (o : Option Nat) : LRes := match o with
 | some v => .ret (u32 v)
 | none => .panic trapV
attribute [local irreducible] LOps LCode LStep LCalls Go.GL.Pure QThen QBlock RetPost LQ LAny LLate LLateOp LS
section
variable {B0 : Nat} {w0 : World} {H : Heap} {a b : Nat}
theorem binaries_spec : LCalls (KC B0 w0) 77 [] [] (fun r H => ∃ om, r = .ret (.atom (.map (some om))) ∧ H = [(om, .obj (.map binsE 7))]) := by
 refine LCalls.intro Tryz.func77 rfl (n := 3) rfl rfl rfl ?_
 repeat first | refine LOps.nil ?_ | refine LCode.seq ?_ | refine LCode.region ?_ | refine QThen.normal ?_ | refine LOps.pure (Pure.as (lv := .atom _) rfl) rfl ?_
 refine LOps.step (S.makeMap fun om => ?_) rfl
 refine LOps.step (S.insertK (kt := 56) (el := 202) (kd := .u32) (by kernel_rfl) (by kernel_rfl) rfl rfl rfl Pick.here rfl rfl ?_) rfl
 refine LOps.step (S.insertK (kt := 56) (el := 202) (kd := .u32) (by kernel_rfl) (by kernel_rfl) rfl rfl rfl Pick.here rfl rfl ?_) rfl
 refine LOps.step (S.insertK (kt := 56) (el := 202) (kd := .u32) (by kernel_rfl) (by kernel_rfl) rfl rfl rfl Pick.here rfl rfl ?_) rfl
 refine LOps.step (S.insertK (kt := 56) (el := 202) (kd := .u32) (by kernel_rfl) (by kernel_rfl) rfl rfl rfl Pick.here rfl rfl ?_) rfl
 refine LOps.step (S.insertK (kt := 56) (el := 202) (kd := .u32) (by kernel_rfl) (by kernel_rfl) rfl rfl rfl Pick.here rfl rfl ?_) rfl
 refine LOps.step (S.insertK (kt := 56) (el := 202) (kd := .u32) (by kernel_rfl) (by kernel_rfl) rfl rfl rfl Pick.here rfl rfl ?_) rfl
 refine LOps.step (S.insertK (kt := 56) (el := 202) (kd := .u32) (by kernel_rfl) (by kernel_rfl) rfl rfl rfl Pick.here rfl rfl ?_) rfl
 repeat first | refine LOps.nil ?_ | refine LCode.ret ?_ | refine QThen.normal ?_ | refine LOps.pure (Pure.as (lv := .atom _) rfl) rfl ?_ | refine LOps.pure (Pure.mv (lv := .atom _) rfl) rfl ?_
 exact RetPost.ret rfl (AllRes.cons (ResIs.tmp (v := .atom _) rfl (LV.Sub.refl _)) AllRes.nil) (HSub.refl _) ⟨om, rfl, rfl⟩
theorem b1_spec (ha : a < 4294967296) (hb : b < 4294967296) : LCalls (KC B0 w0) 151 [u32 a, u32 b] H (Same (u32 ((a + b) % 4294967296)) H) := by
 refine LCalls.intro Tryz.func151 rfl (n := 8) rfl rfl rfl ?_
 repeat first | refine LOps.nil ?_ | refine LCode.seq ?_ | refine LCode.region ?_ | refine QThen.normal ?_ | refine LOps.pure (Pure.as (lv := .atom _) rfl) rfl ?_ | refine LOps.pure (Pure.mv (lv := .atom _) rfl) rfl ?_
 refine LOps.pure (Pure.addW rfl rfl) rfl ?_
 repeat first | refine LOps.nil ?_ | refine LCode.ret ?_ | refine QThen.normal ?_ | refine LOps.pure (Pure.as (lv := .atom _) rfl) rfl ?_
 exact retS rfl (AllRes.cons (ResIs.tmp (v := .atom _) rfl (LV.Sub.refl _)) AllRes.nil) (u32_eq (by rw [wrapU]; omega)) (HSub.refl _)
theorem b2_spec (ha : a < 4294967296) (hb : b < 4294967296) : LCalls (KC B0 w0) 152 [u32 a, u32 b] H (Same (u32 ((a + 4294967296 - b) % 4294967296)) H) := by
 refine LCalls.intro Tryz.func152 rfl (n := 8) rfl rfl rfl ?_
 repeat first | refine LOps.nil ?_ | refine LCode.seq ?_ | refine LCode.region ?_ | refine QThen.normal ?_ | refine LOps.pure (Pure.as (lv := .atom _) rfl) rfl ?_ | refine LOps.pure (Pure.mv (lv := .atom _) rfl) rfl ?_
 refine LOps.pure (Pure.subW rfl rfl) rfl ?_
 repeat first | refine LOps.nil ?_ | refine LCode.ret ?_ | refine QThen.normal ?_ | refine LOps.pure (Pure.as (lv := .atom _) rfl) rfl ?_
 exact retS rfl (AllRes.cons (ResIs.tmp (v := .atom _) rfl (LV.Sub.refl _)) AllRes.nil) (u32_eq (by rw [wrapU]; omega)) (HSub.refl _)
theorem b3_spec (ha : a < 4294967296) (hb : b < 4294967296) : LCalls (KC B0 w0) 153 [u32 a, u32 b] H (Same (u32 (a * b % 4294967296)) H) := by
 refine LCalls.intro Tryz.func153 rfl (n := 8) rfl rfl rfl ?_
 repeat first | refine LOps.nil ?_ | refine LCode.seq ?_ | refine LCode.region ?_ | refine QThen.normal ?_ | refine LOps.pure (Pure.as (lv := .atom _) rfl) rfl ?_ | refine LOps.pure (Pure.mv (lv := .atom _) rfl) rfl ?_
 refine LOps.pure (Pure.mulW rfl rfl) rfl ?_
 repeat first | refine LOps.nil ?_ | refine LCode.ret ?_ | refine QThen.normal ?_ | refine LOps.pure (Pure.as (lv := .atom _) rfl) rfl ?_
 exact retS rfl (AllRes.cons (ResIs.tmp (v := .atom _) rfl (LV.Sub.refl _)) AllRes.nil) (u32_eq (by rw [wrapU, ← Int.natCast_mul]; generalize a * b = q; omega)) (HSub.refl _)
theorem b6_spec (ha : a < 4294967296) (hb : b < 4294967296) : LCalls (KC B0 w0) 157 [u32 a, u32 b] H (Same (u32 (a ^^^ b)) H) := by
 refine LCalls.intro Tryz.func157 rfl (n := 8) rfl rfl rfl ?_
 repeat first | refine LOps.nil ?_ | refine LCode.seq ?_ | refine LCode.region ?_ | refine QThen.normal ?_ | refine LOps.pure (Pure.as (lv := .atom _) rfl) rfl ?_ | refine LOps.pure (Pure.mv (lv := .atom _) rfl) rfl ?_
 refine LOps.pure (Pure.xorW rfl rfl) rfl ?_
 repeat first | refine LOps.nil ?_ | refine LCode.ret ?_ | refine QThen.normal ?_ | refine LOps.pure (Pure.as (lv := .atom _) rfl) rfl ?_
 exact retS rfl (AllRes.cons (ResIs.tmp (v := .atom _) rfl (LV.Sub.refl _)) AllRes.nil) (u32_eq (xor_u32 ha hb)) (HSub.refl _)
theorem b7_spec : LCalls (KC B0 w0) 158 [u32 a, u32 b] H (Same (u32 (if a < b then 1 else 0)) H) := by
 refine LCalls.intro Tryz.func158 rfl (n := 8) rfl rfl rfl ?_
 repeat first | refine LOps.nil ?_ | refine LCode.seq ?_ | refine LCode.region ?_ | refine QThen.normal ?_ | refine LOps.pure (Pure.as (lv := .atom _) rfl) rfl ?_ | refine LOps.pure (Pure.mv (lv := .atom _) rfl) rfl ?_ | refine LOps.pure (Pure.lss rfl rfl) rfl ?_
 refine LCode.cond rfl (fun hc => ?_) (fun hc => ?_)
 ·have h1 : a < b := by have := of_decide_eq_true hc; omega
  repeat first | refine LOps.nil ?_ | refine LCode.seq ?_ | refine LCode.region ?_ | refine LCode.ret ?_ | refine QThen.normal ?_ | refine QThen.ret ?_ | refine LOps.pure (Pure.as (lv := .atom _) rfl) rfl ?_
  exact retS rfl (AllRes.cons (ResIs.tmp (v := .atom _) rfl (LV.Sub.refl _)) AllRes.nil) (by rw [if_pos h1]; rfl) (HSub.refl _)
 ·have h1 : ¬ a < b := by have := of_decide_eq_false hc; omega
  repeat first | refine LOps.nil ?_ | refine LCode.seq ?_ | refine LCode.region ?_ | refine LCode.skip ?_ | refine LCode.ret ?_ | refine QThen.normal ?_ | refine LOps.pure (Pure.as (lv := .atom _) rfl) rfl ?_
  exact retS rfl (AllRes.cons (ResIs.tmp (v := .atom _) rfl (LV.Sub.refl _)) AllRes.nil) (by rw [if_neg h1]; rfl) (HSub.refl _)
theorem b4_spec (ha : a < 4294967296) : LCalls (KC B0 w0) 154 [u32 a, u32 b] H (fun r H' => H' = H ∧ r = resM (if b = 0 then none else some (a / b))) := by
 refine LCalls.intro Tryz.func154 rfl (n := 11) rfl rfl rfl ?_
 repeat first | refine LOps.nil ?_ | refine LCode.seq ?_ | refine LCode.region ?_ | refine QThen.normal ?_ | refine LOps.pure (Pure.as (lv := .atom _) rfl) rfl ?_ | refine LOps.pure (Pure.mv (lv := .atom _) rfl) rfl ?_ | refine LOps.pure (Pure.neq rfl rfl) rfl ?_
 by_cases h0 : b = 0
 ·refine LOps.step (S.check rfl (fun hb => ?_) (fun hb e' he' => ?_)) rfl
  ·simp [h0] at hb
  ·repeat first | refine QThen.panic ?_
   exact RetPost.panic (he'.trans rfl) (HSub.refl _) ⟨rfl, by rw [if_pos h0]; rfl⟩
 ·refine LOps.step (S.check rfl (fun hb => ?_) (fun hb e' he' => ?_)) rfl
  rotate_left
  ·simp [h0] at hb
  ·repeat first | refine LOps.nil ?_ | refine LCode.seq ?_ | refine LCode.region ?_ | refine QThen.normal ?_ | refine LOps.pure (Pure.mv (lv := .atom _) rfl) rfl ?_
   refine LOps.pure (Pure.quoW rfl rfl (by omega)) rfl ?_
   repeat first | refine LOps.nil ?_ | refine LCode.ret ?_ | refine QThen.normal ?_ | refine LOps.pure (Pure.as (lv := .atom _) rfl) rfl ?_
   refine RetPost.ret rfl (AllRes.cons (ResIs.tmp (v := .atom _) rfl (LV.Sub.refl _)) AllRes.nil) (HSub.refl _) ⟨rfl, ?_⟩
   rw [if_neg h0]
   exact congrArg LRes.ret (u32_eq (by rw [wrapU, Int.tdiv_eq_ediv_of_nonneg (by omega), ← Int.natCast_ediv]; have hq : a / b < 4294967296 := Nat.lt_of_le_of_lt (Nat.div_le_self a b) ha; generalize a / b = q at hq ⊢; omega))
theorem b5_spec (ha : a < 4294967296) : LCalls (KC B0 w0) 156 [u32 a, u32 b] H (fun r H' => H' = H ∧ r = resM (if b = 0 then none else some (a % b))) := by
 refine LCalls.intro Tryz.func156 rfl (n := 11) rfl rfl rfl ?_
 repeat first | refine LOps.nil ?_ | refine LCode.seq ?_ | refine LCode.region ?_ | refine QThen.normal ?_ | refine LOps.pure (Pure.as (lv := .atom _) rfl) rfl ?_ | refine LOps.pure (Pure.mv (lv := .atom _) rfl) rfl ?_ | refine LOps.pure (Pure.neq rfl rfl) rfl ?_
 by_cases h0 : b = 0
 ·refine LOps.step (S.check rfl (fun hb => ?_) (fun hb e' he' => ?_)) rfl
  ·simp [h0] at hb
  ·repeat first | refine QThen.panic ?_
   exact RetPost.panic (he'.trans rfl) (HSub.refl _) ⟨rfl, by rw [if_pos h0]; rfl⟩
 ·refine LOps.step (S.check rfl (fun hb => ?_) (fun hb e' he' => ?_)) rfl
  rotate_left
  ·simp [h0] at hb
  ·repeat first | refine LOps.nil ?_ | refine LCode.seq ?_ | refine LCode.region ?_ | refine QThen.normal ?_ | refine LOps.pure (Pure.mv (lv := .atom _) rfl) rfl ?_
   refine LOps.pure (Pure.remW rfl rfl (by omega)) rfl ?_
   repeat first | refine LOps.nil ?_ | refine LCode.ret ?_ | refine QThen.normal ?_ | refine LOps.pure (Pure.as (lv := .atom _) rfl) rfl ?_
   refine RetPost.ret rfl (AllRes.cons (ResIs.tmp (v := .atom _) rfl (LV.Sub.refl _)) AllRes.nil) (HSub.refl _) ⟨rfl, ?_⟩
   rw [if_neg h0]
   exact congrArg LRes.ret (u32_eq (by rw [Int.tmod_eq_emod_of_nonneg (by omega), ← Int.natCast_emod]))
/-- A binary operation: its function, and what that computes. -/
theorem mbin_spec {c : Nat} (hc : c = 43 ∨ c = 45 ∨ c = 42 ∨ c = 47 ∨ c = 37 ∨ c = 94 ∨ c = 60) (ha : a < 4294967296) (hb : b < 4294967296) : ∃ (j : Nat) (f : FuncId), Instr.findNow (.int .u32) (.int .u32 (c : Int)) binsE.toList 0 = some (some (j, .func (.func f) #[] #[])) ∧ TEnter Tryz.prog f ∧
  ∀ H, LCalls (KC B0 w0) f [u32 a, u32 b] H (fun r H' => H' = H ∧ r = resM (binM c a b)) := by
 rcases hc with rfl | rfl | rfl | rfl | rfl | rfl | rfl
 ·exact ⟨0, 151, rfl, inferInstance, fun H => LCalls.mono (b1_spec ha hb) fun r H' ⟨h1, h2⟩ => ⟨h2, h1⟩⟩
 ·exact ⟨1, 152, rfl, inferInstance, fun H => LCalls.mono (b2_spec ha hb) fun r H' ⟨h1, h2⟩ => ⟨h2, h1⟩⟩
 ·exact ⟨2, 153, rfl, inferInstance, fun H => LCalls.mono (b3_spec ha hb) fun r H' ⟨h1, h2⟩ => ⟨h2, h1⟩⟩
 ·exact ⟨3, 154, rfl, inferInstance, fun H => b4_spec ha⟩
 ·exact ⟨4, 156, rfl, inferInstance, fun H => b5_spec ha⟩
 ·exact ⟨5, 157, rfl, inferInstance, fun H => LCalls.mono (b6_spec ha hb) fun r H' ⟨h1, h2⟩ => ⟨h2, h1⟩⟩
 ·exact ⟨6, 158, rfl, inferInstance, fun H => LCalls.mono (b7_spec) fun r H' ⟨h1, h2⟩ => ⟨h2, h1⟩⟩
end
end Go.Proofs.YtdakelgkjdaijaaGreatDoor.Mch
