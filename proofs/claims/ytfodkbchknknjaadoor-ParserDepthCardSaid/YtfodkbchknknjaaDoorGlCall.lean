/- A small logic over the walk's 'Code.wp': calls that hand back a value and own nothing, and calls whose law is known elsewhere. -/
import Derived.Test.YtfodkbchknknjaaDoorGlRules
namespace Go.GL
open Go.RowKit

/-- The call hands back this value, and no block. -/
@[reducible] def Ret (v : LV) : LRes → Heap → Prop := fun r H => r = .ret v ∧ H = []
/-- The call hands back a value of this kind, and no block. -/
@[reducible] def RetIf (p : LV → Prop) : LRes → Heap → Prop := fun r H => ∃ v, r = .ret v ∧ p v ∧ H = []

section
variable {C : Ctx} {e : Env} {H : Heap} {dst : Option Nat} {ty : TypeId} {pos : String} {aft : Array Edge} {g : Option (Nat × Bool)} {K : LV → Heap → Prop} {X : List PanicEntry → Heap → Prop}
theorem S.fn {f : FuncId} [TEnter C.P f] (args : List Operand) {ats : Array TypeId} {as : List LV} {lv : LV} (has : args.map e.ev = as) (hc : LCalls C f as [] (Ret lv)) (hk : K lv H) :
    LStep C ⟨dst, .call { callee := .value (.func f), args := args.toArray, argTypes := ats }, ty, pos, aft, g⟩ e H K X :=
  S.call0 args has hc (by rintro v H' ⟨h, rfl⟩; cases h; exact hk) (by rintro ch H' ⟨h, _⟩; cases h)
theorem S.fnIf {f : FuncId} [TEnter C.P f] (args : List Operand) {ats : Array TypeId} {as : List LV} {p : LV → Prop} (has : args.map e.ev = as) (hc : LCalls C f as [] (RetIf p)) (hk : ∀ lv, p lv → K lv H) :
    LStep C ⟨dst, .call { callee := .value (.func f), args := args.toArray, argTypes := ats }, ty, pos, aft, g⟩ e H K X :=
  S.call0 args has hc (by rintro v H' ⟨u, h, hp, rfl⟩; cases h; exact hk _ hp) (by rintro ch H' ⟨u, h, _⟩; cases h)
theorem S.fnV {fo : Operand} {f : FuncId} [TEnter C.P f] {first caps : Array Value} (args : List Operand) {ats : Array TypeId} {as : List LV} {lv : LV} (hf : e.ev fo = .atom (.func (.func f) first caps))
    (has : first.toList.map .atom ++ args.map e.ev ++ caps.toList.map .atom = as) (hc : LCalls C f as [] (Ret lv)) (hk : K lv H) :
    LStep C ⟨dst, .call { callee := .value fo, args := args.toArray, argTypes := ats }, ty, pos, aft, g⟩ e H K X :=
  S.callV (H1 := []) (F := H) args hf has (List.Perm.refl _) hc (by rintro v H' ⟨h, rfl⟩; cases h; exact hk) (by rintro ch H' ⟨h, _⟩; cases h)
theorem retRet {n : Nat} {rs : List ResultVar} {vs : List LV} {lv : LV} (hd : e.ds = []) (h : AllRes C n e H rs vs) (hv : resLV vs = lv) : RetPost C n rs (Ret lv) .ret e H :=
  RetPost.ret hd h (HSub.nil _) ⟨by rw [hv], rfl⟩
theorem retRetIf {n : Nat} {rs : List ResultVar} {vs : List LV} {p : LV → Prop} (hd : e.ds = []) (h : AllRes C n e H rs vs) (hv : p (resLV vs)) : RetPost C n rs (RetIf p) .ret e H :=
  RetPost.ret hd h (HSub.nil _) ⟨_, rfl, hv, rfl⟩
end

/-- What a world becomes that only grew. -/
theorem fr_below {C : Ctx} {w w' : World} {L : Live} (hH : RelH C w L []) (h : Below w.heap.size w w') : Fr (keys []) w L w' L [] ∧ RelH C w' L [] := by
  refine ⟨⟨h.os, h.tape, h.output, ⟨h.size, fun b hb => shape_of_heap (h.block b hb), fun b i hi => ?_, fun _ => Nat.le_refl _⟩, fun b hb _ => h.block b hb, fun _ _ _ => rfl, by simp⟩,
    ⟨hH.base.trans (h.mono hH.b0), hH.lbase, Nat.le_trans hH.b0 h.size, fun b hb => hH.wf b (Nat.le_trans h.size hb), List.nodup_nil, by simp⟩⟩
  have hb : b < w.heap.size := by
    rcases Nat.lt_or_ge b w.heap.size with h1 | h1
    · exact h1
    · have := hH.wf b h1; omega
  exact cell_of_heap (h.block b hb) i

/-- A call of flat values, whose law is known elsewhere: it hands back a flat value, and nothing old turns. -/
theorem LCalls.of_below {C : Ctx} {f : FuncId} {vs : List Value} {p : Value → Prop}
    (h : ∀ w, Below C.B0 C.w0 w → Calls C.P f vs.toArray w (fun e w' => ∃ v, e = .returned v ∧ p v ∧ Below w.heap.size w w')) : LCalls C f (vs.map .atom) [] (fun r H => ∃ v, r = .ret (.atom v) ∧ p v ∧ H = []) := fun xs w L hv hH => by
  have hx : xs = vs := by
    clear h hH
    induction vs generalizing xs with
    | nil => simpa [RepL] using hv
    | cons v vs ih =>
      simp only [List.map_cons, RepL, Rep] at hv
      obtain ⟨y, ys, rfl, rfl, hv⟩ := hv
      rw [ih _ hv]
  subst hx
  refine (h w hH.base).mono fun e w' he => ?_
  obtain ⟨v, rfl, hp, hb⟩ := he
  obtain ⟨h1, h2⟩ := fr_below hH hb
  exact ⟨.atom v, [], L, h1, h2, rep_atom, v, rfl, hp, rfl⟩

/-- The same, for a tuple of flat values. -/
theorem LCalls.of_belowT {C : Ctx} {f : FuncId} {vs : List Value} {p : List Value → Prop}
    (h : ∀ w, Below C.B0 C.w0 w → Calls C.P f vs.toArray w (fun e w' => ∃ us : List Value, e = .returned (.tuple us.toArray) ∧ p us ∧ Below w.heap.size w w')) : LCalls C f (vs.map .atom) [] (RetIf fun lv => ∃ us, p us ∧ lv = .tuple (us.map .atom)) := fun xs w L hv hH => by
  have hx : xs = vs := by
    clear h hH
    induction vs generalizing xs with
    | nil => simpa [RepL] using hv
    | cons v vs ih =>
      simp only [List.map_cons, RepL, Rep] at hv
      obtain ⟨y, ys, rfl, rfl, hv⟩ := hv
      rw [ih _ hv]
  subst hx
  refine (h w hH.base).mono fun e w' he => ?_
  obtain ⟨us, rfl, hp, hb⟩ := he
  obtain ⟨h1, h2⟩ := fr_below hH hb
  exact ⟨.tuple (us.map .atom), [], L, h1, h2, by simp only [Rep]; exact ⟨us, rfl, repL_atoms _⟩, _, rfl, ⟨us, hp, rfl⟩, rfl⟩
theorem LCalls.ret_of {C : Ctx} {f : FuncId} {vs : List Value} {u : Value}
    (h : ∀ w, Below C.B0 C.w0 w → Calls C.P f vs.toArray w (fun e w' => e = .returned u ∧ Below w.heap.size w w')) : LCalls C f (vs.map .atom) [] (Ret (.atom u)) :=
  LCalls.mono (LCalls.of_below (p := fun v => v = u) fun w hw => (h w hw).mono fun e w' he => ⟨u, he.1, rfl, he.2⟩) fun r H' ⟨v, h1, h2, h3⟩ => ⟨by rw [h1, h2], h3⟩

/-- The slots hold these. -/
def AllSlots (e : Env) : List (Nat × LV) → Prop
  | [] => True
  | (d, v) :: r => e.s d = v ∧ AllSlots e r
theorem AllSlots.mem {e : Env} : ∀ {l : List (Nat × LV)}, AllSlots e l → ∀ p ∈ l, e.s p.1 = p.2
  | [], _, p, hp => by cases hp
  | (d, v) :: r, h, p, hp => by
    rcases List.mem_cons.1 hp with rfl | hp
    · exact h.1
    · exact AllSlots.mem h.2 p hp
/-- The loop goes on. -/
def Again (I : Nat → List (Nat × LV) → Heap → Prop) (k : Nat) (ds : List Deferred) (e' : Env) (H' : Heap) : Prop :=
  ∃ m l' H'', m < k ∧ I m l' H'' ∧ AllSlots e' l' ∧ HSub H'' H' ∧ e'.ds = ds
/-- A loop, by what its slots hold. -/
theorem LCode.loopI {C : Ctx} {n : Nat} {c : Code} {Q : Post} {e : Env} {H : Heap} (I : Nat → List (Nat × LV) → Heap → Prop) (h0 : ∃ k l H0, I k l H0 ∧ AllSlots e l ∧ HSub H0 H)
    (round : ∀ k l H, I k l H → ∀ j : Env, j.ds = e.ds → LCode C n c (QThen (Again I k e.ds) Q) (Env.slots j l) H) : LCode C n (.loop c) Q e H := by
  obtain ⟨k, l, H0, h0, h1, h2⟩ := h0
  refine LCode.weak h2 (LCode.loop (fun k e' H' => ∃ l H0, I k l H0 ∧ AllSlots e' l ∧ HSub H0 H' ∧ e'.ds = e.ds) k ⟨l, H0, h0, h1, HSub.refl _, rfl⟩ ?_)
  rintro k e' H' ⟨l, H0, g0, g1, g2, g3⟩
  have := round k l H0 g0 e' g3
  rw [Env.slots_self g1.mem] at this
  refine LCode.weak g2 (LCode.conseq this ?_)
  rintro ex e2 H2 hq
  cases ex with
  | normal =>
    obtain ⟨m, l', H3, r1, r2, r3, r4, r5⟩ := hq
    exact ⟨m, r1, l', H3, r2, r3, r4, r5⟩
  | exit id => exact hq
  | goto id => exact hq
  | ret => exact hq
  | panic ch => exact hq
  | outgrown => exact hq
theorem bool_eq {a b : Bool} (h : a = b) : bool a = bool b := by rw [h]
/-- A place that more than one way comes to: what is known there. -/
def At (l : List (Nat × LV)) (H1 : Heap) (ds : List Deferred) (e' : Env) (H' : Heap) : Prop := AllSlots e' l ∧ H' = H1 ∧ e'.ds = ds
theorem LOps.cutTo {C : Ctx} {n : Nat} {ops : Array Oper} {rest : List Oper} {Q : Post} {e : Env} {H : Heap} {k : Env → Heap → Prop} (l : List (Nat × LV)) (H1 : Heap)
    (hx : LOps C n ops (QThen (At l H1 e.ds) Q) rest e H) (hy : ∀ j : Env, j.ds = e.ds → k (Env.slots j l) H1) : LOps C n ops (QThen k Q) rest e H := by
  refine LOps.conseq hx ?_
  rintro ex e' H' hq
  cases ex with
  | normal =>
    obtain ⟨h1, rfl, h3⟩ := hq
    have := hy e' h3
    rw [Env.slots_self h1.mem] at this
    exact this
  | exit id => exact hq
  | goto id => exact hq
  | ret => exact hq
  | panic ch => exact hq
  | outgrown => exact hq
theorem LCode.cutTo {C : Ctx} {n : Nat} {c : Code} {Q : Post} {e : Env} {H : Heap} {k : Env → Heap → Prop} (l : List (Nat × LV)) (H1 : Heap)
    (hx : LCode C n c (QThen (At l H1 e.ds) Q) e H) (hy : ∀ j : Env, j.ds = e.ds → k (Env.slots j l) H1) : LCode C n c (QThen k Q) e H := by
  refine LCode.conseq hx ?_
  rintro ex e' H' hq
  cases ex with
  | normal =>
    obtain ⟨h1, rfl, h3⟩ := hq
    have := hy e' h3
    rw [Env.slots_self h1.mem] at this
    exact this
  | exit id => exact hq
  | goto id => exact hq
  | ret => exact hq
  | panic ch => exact hq
  | outgrown => exact hq
theorem LOps.cut {C : Ctx} {n : Nat} {ops : Array Oper} {rest : List Oper} {Q : Post} {e : Env} {H : Heap} {k : Env → Heap → Prop} (l : List (Nat × LV))
    (hx : LOps C n ops (QThen (At l H e.ds) Q) rest e H) (hy : ∀ j : Env, j.ds = e.ds → k (Env.slots j l) H) : LOps C n ops (QThen k Q) rest e H := LOps.cutTo l H hx hy
theorem LCode.cut {C : Ctx} {n : Nat} {c : Code} {Q : Post} {e : Env} {H : Heap} {k : Env → Heap → Prop} (l : List (Nat × LV))
    (hx : LCode C n c (QThen (At l H e.ds) Q) e H) (hy : ∀ j : Env, j.ds = e.ds → k (Env.slots j l) H) : LCode C n c (QThen k Q) e H := LCode.cutTo l H hx hy
theorem yielded_undef {ops : Array Oper} {n : Nat} {a : Act} {e : Env} {w : World} {L : Live} (hE : RelE n a e w L) {j d : Nat} (hj : (ops[j]?).bind (·.dst) = some d) (hb : e.s d = .atom undef) : yielded ops a.tmps j = none := by
  have h := hE.vals d
  rw [hb] at h
  simp only [Rep] at h
  unfold yielded
  rw [hj]
  simp only [Option.bind_some]
  rw [Array.getD_eq_getD_getElem?] at h
  cases hx : a.tmps[d]? with
  | none => rfl
  | some x => rw [hx] at h; simp only [Option.getD_some] at h; subst h; rfl
/-- An operation whose guard was itself passed over. -/
theorem LOps.skipU {C : Ctx} {n : Nat} {ops : Array Oper} {Q : Post} {e : Env} {H : Heap} {dst : Option Nat} {op : Op} {ty : TypeId} {pos : String} {aft : Array Edge} {rest : List Oper} {j d : Nat} {c : Bool}
    (hj : (ops[j]?).bind (·.dst) = some d) (hb : e.s d = .atom undef) (hd : dstOk n dst)
    (k : LOps C n ops Q rest (e.put dst (.atom undef)) H) : LOps C n ops Q (⟨dst, op, ty, pos, aft, some (j, c)⟩ :: rest) e H := fun a w L hE hH => by
  unfold wpList
  rw [if_neg (by simp [Region.wanted, yielded_undef hE hj hb])]
  exact k _ w L (hE.put hd (by simp only [Rep])) hH
theorem LQ.skipU {C : Ctx} {n : Nat} {ops : Array Oper} {K : Env → Prop} {e : Env} {H : Heap} {dst : Option Nat} {op : Op} {ty : TypeId} {pos : String} {aft : Array Edge} {rest : List Oper} {j d : Nat} {c : Bool} (hj : (ops[j]?).bind (·.dst) = some d) (hb : e.s d = .atom undef) (hd : dstOk n dst)
    (k : LQ C n ops K rest (e.put dst (.atom undef)) H) : LQ C n ops K (⟨dst, op, ty, pos, aft, some (j, c)⟩ :: rest) e H := fun a w L hE hH => by
  unfold wpQuiet
  rw [if_neg (by simp [Region.wanted, yielded_undef hE hj hb])]
  exact k _ w L (hE.put hd rep_atom) hH
theorem int_eq {k : IntKind} {a b : Int} (h : a = b) : int k a = int k b := by rw [h]
end Go.GL
