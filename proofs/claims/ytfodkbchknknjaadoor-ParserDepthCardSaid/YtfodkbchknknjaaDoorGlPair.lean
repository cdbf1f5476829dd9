/- A small logic over the walk's 'Code.wp': places that more than one way comes to, with what differs from way to way; cells read more weakly. -/
import Derived.Test.YtfodkbchknknjaaDoorGlMap
import Derived.DeepKeys
set_option linter.unusedVariables false
set_option linter.unusedSimpArgs false
namespace Go.GL
open Go.RowKit
section
variable {C : Ctx} {n : Nat} {Q : Post} {e : Env} {H : Heap} {k : Env → Heap → Prop}
theorem LCode.mid {A : Type} {c : Code} (l : A → List (Nat × LV)) (H1 : A → Heap) (F : A → Prop) (hx : LCode C n c (QThen (fun e' H' => ∃ a, F a ∧ At (l a) (H1 a) e.ds e' H') Q) e H) (hy : ∀ a, F a → ∀ j : Env, j.ds = e.ds → k (Env.slots j (l a)) (H1 a)) : LCode C n c (QThen k Q) e H := by
  refine LCode.conseq hx ?_
  rintro ex e' H' hq
  cases ex with
  | normal =>
    obtain ⟨a, hF, h1, rfl, h3⟩ := hq
    have := hy a hF e' h3
    rw [Env.slots_self h1.mem] at this
    exact this
  | exit id => exact hq
  | goto id => exact hq
  | ret => exact hq
  | panic ch => exact hq
  | outgrown => exact hq
/-- The same, where the heap is met in whatever order, and code follows. -/
theorem LCode.midC {A : Type} {c c2 : Code} {Q2 : Post} (l : A → List (Nat × LV)) (H1 : A → Heap) (F : A → Prop) (hx : LCode C n c (QThen (fun e' H' => ∃ a, F a ∧ AllSlots e' (l a) ∧ HSub (H1 a) H' ∧ e'.ds = e.ds) Q) e H) (hy : ∀ a, F a → ∀ j : Env, j.ds = e.ds → LCode C n c2 Q2 (Env.slots j (l a)) (H1 a)) : LCode C n c (QThen (fun e H => LCode C n c2 Q2 e H) Q) e H := by
  refine LCode.conseq hx ?_
  rintro ex e' H' hq
  cases ex with
  | normal =>
    obtain ⟨a, hF, h1, h2, h3⟩ := hq
    have := hy a hF e' h3
    rw [Env.slots_self h1.mem] at this
    exact LCode.weak h2 this
  | exit id => exact hq
  | goto id => exact hq
  | ret => exact hq
  | panic ch => exact hq
  | outgrown => exact hq
theorem cells_sub {w : World} {L : Live} {b ty : Nat} {cs cs' : List LV} {F : Heap} (hp : Pick (b, .cells ty cs) H F) (hs : SubL cs cs') (hH : RelH C w L H) : RelH C w L ((b, .cells ty cs') :: F) := by
  have h1 := hH.perm hp
  refine ⟨h1.base, h1.lbase, h1.b0, h1.wf, h1.nodup, fun p hp => ?_⟩
  rcases List.mem_cons.1 hp with rfl | hp
  · obtain ⟨r1, r2, r3, xs, r4, r5⟩ := h1.objs _ List.mem_cons_self
    exact ⟨r1, r2, r3, xs, r4, hs.repL r5⟩
  · exact h1.objs p (List.mem_cons_of_mem _ hp)
theorem pick_keys {b ty : Nat} {cs cs' : List LV} {F : Heap} (hp : Pick (b, .cells ty cs) H F) : ∀ x, x ∈ keys ((b, LObj.cells ty cs') :: F) → x ∈ keys H := fun x hx => by
  have : keys ((b, LObj.cells ty cs') :: F) = keys ((b, LObj.cells ty cs) :: F) := rfl
  rw [this] at hx
  exact ((hp.map (·.1)).mem_iff).2 hx
/-- A cell's content is read more weakly. -/
theorem LCode.cellSub {c : Code} {b ty : Nat} {cs cs' : List LV} {F : Heap} (hp : Pick (b, .cells ty cs) H F) (hs : SubL cs cs') (h : LCode C n c Q e ((b, .cells ty cs') :: F)) : LCode C n c Q e H := fun a w L hE hH =>
  Go.wp_mono (h a w L hE (cells_sub hp hs hH)) fun _ _ _ => lift_weak (pick_keys hp)
theorem LOps.cellSub {ops : Array Oper} {rest : List Oper} {b ty : Nat} {cs cs' : List LV} {F : Heap} (hp : Pick (b, .cells ty cs) H F) (hs : SubL cs cs') (h : LOps C n ops Q rest e ((b, .cells ty cs') :: F)) : LOps C n ops Q rest e H := fun a w L hE hH =>
  wpList_mono (fun _ _ _ => lift_weak (pick_keys hp)) _ _ _ (h a w L hE (cells_sub hp hs hH))
theorem LOps.perm {ops : Array Oper} {rest : List Oper} {H' : Heap} (s : H.Perm H') (h : LOps C n ops Q rest e H') : LOps C n ops Q rest e H := LOps.weak ⟨[], by simpa using s⟩ h
end
section
variable {C : Ctx} {e : Env} {H : Heap} {dst : Option Nat} {ty : TypeId} {pos : String} {aft : Array Edge} {g : Option (Nat × Bool)} {x : Operand}
/-- A type assertion with two results that holds. -/
theorem Pure.assertOk {t xT : TypeId} [ht : TConcrete C.P t] {vs : List Value} (hx : e.ev x = .atom (.iface t (.agg vs.toArray))) : Pure C ⟨dst, .typeAssert x xT t true, ty, pos, aft, g⟩ e H (.tuple [.agg (vs.map .atom), bool true]) :=
  .of_any fun ρ w L h => ⟨.tuple #[.agg vs.toArray, .bool true], by
    simp only [Rep]
    exact ⟨[.agg vs.toArray, .bool true], rfl, by simp only [RepL, Rep]; exact ⟨_, _, rfl, ⟨vs, rfl, repL_atoms vs⟩, _, _, rfl, rfl, rfl⟩⟩, fun w' => by
    obtain ⟨d, hd, hm⟩ := ht.out
    have h3 : execOp ρ ⟨dst, .typeAssert x xT t true, ty, pos, aft, g⟩ = (do Pure.pure (.value (← Instr.typeAssert (ρ x) xT t true))) := rfl
    rw [h3, atom_of h hx]
    simp only [Instr.typeAssert, Sem.run_bind, run_underlying' hd, Result.andThen_ok]
    cases d <;> simp_all⟩
end
theorem LLate.three {C : Ctx} {n : Nat} {ops : Array Oper} {Q : Post} {HF : Heap} {fuel : Nat} {listed : Array Bool} {e : Env} {H : Heap} {i j k : Nat} (hr : Region.ready .any ops listed = [i, j, k]) (h1 : LLateOp C n ops Q HF fuel listed e H i) (h2 : LLateOp C n ops Q HF fuel listed e H j) (h3 : LLateOp C n ops Q HF fuel listed e H k) : LLate C n ops Q HF (fuel + 1) listed e H :=
  LLate.all hr (by simp) fun q hq => by
    simp only [List.mem_cons, List.not_mem_nil, or_false] at hq
    rcases hq with rfl | rfl | rfl
    · exact h1
    · exact h2
    · exact h3
theorem LLate.four {C : Ctx} {n : Nat} {ops : Array Oper} {Q : Post} {HF : Heap} {fuel : Nat} {listed : Array Bool} {e : Env} {H : Heap} {i j k l : Nat} (hr : Region.ready .any ops listed = [i, j, k, l]) (h1 : LLateOp C n ops Q HF fuel listed e H i) (h2 : LLateOp C n ops Q HF fuel listed e H j) (h3 : LLateOp C n ops Q HF fuel listed e H k) (h4 : LLateOp C n ops Q HF fuel listed e H l) : LLate C n ops Q HF (fuel + 1) listed e H :=
  LLate.all hr (by simp) fun q hq => by
    simp only [List.mem_cons, List.not_mem_nil, or_false] at hq
    rcases hq with rfl | rfl | rfl | rfl
    · exact h1
    · exact h2
    · exact h3
    · exact h4
theorem not_t {b : Bool} (h : (!b) = true) : b = false := by cases b <;> simp_all
theorem not_f {b : Bool} (h : (!b) = false) : b = true := by cases b <;> simp_all
theorem strs_len (l : List (List UInt8)) : ∀ v ∈ l.map str, v.cells.length = 1 := fun v hv => by
  obtain ⟨x, _, rfl⟩ := List.mem_map.1 hv
  rfl
theorem strs_ok : ∀ l : List (List UInt8), ((l.map str).flatMap LV.cells).all cellOk = true
  | [] => rfl
  | x :: l => by
    rw [List.map_cons, List.flatMap_cons, List.all_append, strs_ok l]
    rfl
end Go.GL
/- A small logic over the walk's 'Code.wp': structs of a string and an int, compared. -/
namespace Go.GL
open Go.RowKit
/-- The type is a struct of a string and an int. -/
class TPair (P : Program) (t : TypeId) : Prop where
  out : ∃ (fs : Array Field) (f0 f1 : Field), P.underlying t = some (.struct fs) ∧ fs.toList = [f0, f1] ∧ f0.offset = 0 ∧ f1.offset = 1 ∧ (f0.name != "_") = true ∧ (f1.name != "_") = true ∧ P.underlying f0.type = some .string ∧ P.underlying f1.type = some (.int .i64) ∧
    P.cellsOf t = 2 ∧ P.cellsOf f0.type = 1 ∧ P.cellsOf f1.type = 1
  key : P.keyTypeAt 2 t = true
  guard : P.eqGuardType P.depth t = false
def chkStrT (P : Program) (t : TypeId) : Bool := match P.underlying t with | some .string => true | _ => false
def chkI64T (P : Program) (t : TypeId) : Bool := match P.underlying t with | some (.int .i64) => true | _ => false
def chkPair (P : Program) (t : Nat) : Bool := match P.underlying t with
  | some (.struct fs) => (match fs.toList with
    | [f0, f1] => Nat.beq f0.offset 0 && Nat.beq f1.offset 1 && (f0.name != "_") && (f1.name != "_") && chkStrT P f0.type && chkI64T P f1.type && Nat.beq (P.cellsOf t) 2 && Nat.beq (P.cellsOf f0.type) 1 && Nat.beq (P.cellsOf f1.type) 1
    | _ => false)
  | _ => false
theorem TPair.of {P : Program} {t : Nat} (h : chkPair P t = true) (hk : P.keyTypeAt 2 t = true) (hg : P.eqGuardType P.depth t = false) : TPair P t := by
  refine ⟨?_, hk, hg⟩
  unfold chkPair at h
  split at h
  · rename_i fs hu
    split at h
    · rename_i f0 f1 hf
      simp only [Bool.and_eq_true] at h
      obtain ⟨⟨⟨⟨⟨⟨⟨⟨h1, h2⟩, h3⟩, h4⟩, h5⟩, h6⟩, h7⟩, h8⟩, h9⟩ := h
      refine ⟨fs, f0, f1, hu, hf, Nat.eq_of_beq_eq_true h1, Nat.eq_of_beq_eq_true h2, h3, h4, ?_, ?_, Nat.eq_of_beq_eq_true h7, Nat.eq_of_beq_eq_true h8, Nat.eq_of_beq_eq_true h9⟩
      · unfold chkStrT at h5
        split at h5
        · assumption
        · cases h5
      · unfold chkI64T at h6
        split at h6
        · assumption
        · cases h6
    · cases h
  · cases h
theorem pair_lits {P : Program} {t : TypeId} [ht : TPair P t] (a : List UInt8) (n : Int) (ha : a.length ≤ 1000000000) (hn : -9223372036854775808 ≤ n ∧ n ≤ 9223372036854775807) :
    P.keyLits 2 t [.string ⟨a.toArray⟩, .int .i64 n] = some [.string a, .int .i64 n] := by
  obtain ⟨fs, f0, f1, hu, hf, h1, h2, h3, h4, h5, h6, h7, h8, h9⟩ := ht.out
  have hall : fs.all (·.name != "_") = true := by
    rw [← Array.all_toList, hf]
    simp only [List.all_cons, List.all_nil, h3, h4, Bool.and_true]
  have hsz : (ByteArray.mk a.toArray).size ≤ maxLen := by
    rw [size_mk]
    unfold maxLen
    omega
  have hwf : (Lit.int .i64 n).wf = true := by
    simp only [Lit.wf, IntKind.min, IntKind.max, IntKind.signed, IntKind.bits]
    simp
    omega
  simp only [Program.keyLits, hu, h7, hall, hf, List.mapM_cons, List.mapM_nil, h1, h2, h8, h9, h5, h6]
  simp [hsz, hwf]
theorem equal_step2 (t : TypeId) (x y : Value) : Op.equal t x y = Op.equalIn (9998 + 2) t x y := rfl
theorem pair_equal {P : Program} {t : TypeId} [ht : TPair P t] {a b : List UInt8} {n m : Int} (ha : a.length ≤ 1000000000) (hb : b.length ≤ 1000000000) (hn : -9223372036854775808 ≤ n ∧ n ≤ 9223372036854775807) (hm : -9223372036854775808 ≤ m ∧ m ≤ 9223372036854775807) (w : World) :
    (Op.equal t (.agg #[.string ⟨a.toArray⟩, .int .i64 n]) (.agg #[.string ⟨b.toArray⟩, .int .i64 m])).run P w = .ok (decide (a = b) && decide (n = m)) w := by
  have hout := ht.out
  obtain ⟨fs, f0, f1, hu, hf, h1, h2, h3, h4, h5, h6, h7, h8, h9⟩ := hout
  have hfm : ∀ x y : Value, (Value.agg #[x, y]).formed P t = true := fun x y => by
    simp only [Value.formed, hu, h7]
    rfl
  obtain ⟨r, hr, hiff⟩ := run_equalIn_deep (P := P) 9998 2 t ht.key w 2 2 (.agg #[.string ⟨a.toArray⟩, .int .i64 n]) (.agg #[.string ⟨b.toArray⟩, .int .i64 m]) _ _ (hfm _ _) (hfm _ _) (pair_lits a n ha hn) (pair_lits b m hb hm)
  rw [equal_step2, hr]
  congr 1
  rw [Bool.eq_iff_iff, hiff]
  simp
theorem binOp_neq_agg (t : TypeId) (xs ys : Array Value) : binOp .neq t (.agg xs) (.agg ys) = (do Pure.pure (.bool (!(← Op.equal t (.agg xs) (.agg ys))))) := rfl
theorem guard_abs {P : Program} (bf : Program → Program → Bool) (rest : Sem Unit) (w : World) (h : bf P P = false) : (do let a ← program; let b ← program; if (!bf a b) = true then Pure.pure () else rest : Sem Unit).run P w = .ok () w := by
  have h0 : (program).run P w = .ok P w := rfl
  simp only [Sem.run_bind, h0, Result.andThen_ok, h, Bool.not_false, if_true, Sem.run_pure]
theorem eqGuard_agg {P : Program} {t : TypeId} (hg : P.eqGuardType P.depth t = false) (x y : Operand) (xs ys : Array Value) (w : World) : (eqGuard .neq t x y (.agg xs) (.agg ys)).run P w = .ok () w := by
  unfold eqGuard
  generalize Op.eqGuardIn Op.maxDepth t (.agg xs) (.agg ys) = q
  exact guard_abs (fun a b => a.eqGuardType b.depth t) _ w hg
theorem exec_neq_agg {P : Program} {t : TypeId} (hg : P.eqGuardType P.depth t = false) {ρ : Operand → Value} {x y : Operand} {dst : Option Nat} {ty yT : TypeId} {pos : String} {aft : Array Edge} {g : Option (Nat × Bool)} {xs ys : Array Value} (hx : ρ x = .agg xs) (hy : ρ y = .agg ys) {r : Bool} {w : World}
    (h : (Op.equal t (.agg xs) (.agg ys)).run P w = .ok r w) : (execOp ρ ⟨dst, .binOp .neq t x y yT, ty, pos, aft, g⟩).run P w = .ok (.value (.bool (!r))) w := by
  have h3 : execOp ρ ⟨dst, .binOp .neq t x y yT, ty, pos, aft, g⟩ = (do Pure.pure (.value (← (do eqGuard .neq t x y (ρ x) (ρ y); binOp .neq t (ρ x) (ρ y))))) := rfl
  rw [h3, hx, hy, binOp_neq_agg]
  simp only [Sem.run_bind, eqGuard_agg hg, Result.andThen_ok, h, Sem.run_pure]
section
variable {C : Ctx} {e : Env} {H : Heap} {dst : Option Nat} {ty : TypeId} {pos : String} {aft : Array Edge} {g : Option (Nat × Bool)} {xT yT : TypeId} {x y : Operand}
theorem Pure.pairNeq [ht : TPair C.P xT] {a b : List UInt8} {n m : Int} (hx : e.ev x = .agg [str a, int .i64 n]) (hy : e.ev y = .agg [str b, int .i64 m]) (ha : a.length ≤ 1000000000) (hb : b.length ≤ 1000000000) (hn : -9223372036854775808 ≤ n ∧ n ≤ 9223372036854775807) (hm : -9223372036854775808 ≤ m ∧ m ≤ 9223372036854775807) :
    Pure C ⟨dst, .binOp .neq xT x y yT, ty, pos, aft, g⟩ e H (bool (!(decide (a = b) && decide (n = m)))) :=
  .of_any fun ρ w L h => ⟨_, rep_atom, fun w' => by
    have h1 := h x
    have h2 := h y
    rw [hx] at h1
    rw [hy] at h2
    simp only [Rep] at h1 h2
    obtain ⟨xs, h1, r1⟩ := h1
    obtain ⟨ys, h2, r2⟩ := h2
    have e1 := RepL.atoms (vs := [.string ⟨a.toArray⟩, .int .i64 n]) r1
    have e2 := RepL.atoms (vs := [.string ⟨b.toArray⟩, .int .i64 m]) r2
    rw [e1] at h1
    rw [e2] at h2
    exact exec_neq_agg ht.guard h1 h2 (pair_equal (P := C.P) (t := xT) ha hb hn hm w')⟩
end
end Go.GL
