/- A small logic over the walk's 'Code.wp': judgements on operations, code and calls, and the rules of control. -/
import Derived.Test.YtfodkbchknknjaaDoorGlBase
namespace Go.GL
open Go.RowKit

structure Env where
  s : Nat → LV
  ds : List Deferred

def Env.upd (e : Env) (d : Nat) (v : LV) : Env := ⟨fun i => bif Nat.beq i d then v else e.s i, e.ds⟩
def Env.put (e : Env) : Option Nat → LV → Env
  | some d, v => e.upd d v
  | none, _ => e
def Env.ev (e : Env) : Operand → LV
  | .tmp t => e.s t
  | .const v => .atom v
  | .global g => .atom (.pointer (some ⟨g, 0, none⟩))
  | .func f => .atom (.func (.func f) #[] #[])

structure RelE (n : Nat) (a : Act) (e : Env) (w : World) (L : Live) : Prop where
  size : a.tmps.size = n
  ds : a.defers = e.ds
  vals : ∀ i, Rep w L (e.s i) (a.tmps.getD i undef)

theorem RelE.ev {n : Nat} {a : Act} {e : Env} {w : World} {L : Live} (h : RelE n a e w L) : ∀ x, Rep w L (e.ev x) (a.eval x) := fun x => by
  cases x with
  | tmp t => exact h.vals t
  | const v => simp only [Env.ev, Rep, Act.eval]
  | global g => simp only [Env.ev, Rep, Act.eval]
  | func f => simp only [Env.ev, Rep, Act.eval]

theorem RelE.mono {n : Nat} {a : Act} {e : Env} {w w' : World} {L L' : Live} (h : RelE n a e w L) (x : Ext w L w' L') : RelE n a e w' L' :=
  ⟨h.size, h.ds, fun i => (h.vals i).mono x _ _⟩

def dstB (n : Nat) : Option Nat → Bool
  | some d => Nat.blt d n
  | none => true
@[reducible] def dstOk (n : Nat) (d : Option Nat) : Prop := dstB n d = true

theorem RelE.put {n : Nat} {a : Act} {e : Env} {w : World} {L : Live} (h : RelE n a e w L) {dst : Option Nat} {lv : LV} {v : Value} (hd : dstOk n dst) (hv : Rep w L lv v) :
    RelE n (a.put dst v) (e.put dst lv) w L := by
  cases dst with
  | none => exact h
  | some d =>
    refine ⟨by simp [Act.put, h.size], h.ds, fun i => ?_⟩
    simp only [Env.put, Env.upd, Act.put]
    have hs := h.size
    have hd : d < n := by simpa [dstOk, dstB] using hd
    by_cases hi : i = d
    · subst hi
      simp [Array.getD, hs, hd]
      exact hv
    · have hb : Nat.beq i d = false := by
        cases hb : Nat.beq i d with
        | true => exact absurd (Nat.eq_of_beq_eq_true hb) hi
        | false => rfl
      rw [hb]
      have hv' := h.vals i
      rw [Array.getD_eq_getD_getElem?] at hv' ⊢
      rw [Array.getElem?_setIfInBounds, if_neg (Ne.symm hi)]
      exact hv'

abbrev Post := Exit → Env → Heap → Prop

def RelX (n : Nat) : Exit → Act → Env → World → Live → Prop
  | .panic _, a, e, _, _ => a.defers = e.ds
  | _, a, e, w, L => RelE n a e w L

def lift (C : Ctx) (n : Nat) (w : World) (L : Live) (K : List Nat) (Q : Post) : Exit → Act → World → Prop :=
  fun x a' w' => ∃ e' H' L', Fr K w L w' L' H' ∧ RelH C w' L' H' ∧ RelX n x a' e' w' L' ∧ Q x e' H'

theorem lift_mono {C : Ctx} {n : Nat} {w : World} {L : Live} {K : List Nat} {Q Q' : Post} (h : ∀ x e H, Q x e H → Q' x e H) {x : Exit} {a : Act} {w' : World}
    (k : lift C n w L K Q x a w') : lift C n w L K Q' x a w' :=
  let ⟨e', H', L', h1, h2, h3, h4⟩ := k
  ⟨e', H', L', h1, h2, h3, h _ _ _ h4⟩

theorem lift_trans {C : Ctx} {n : Nat} {w w1 : World} {L L1 : Live} {K : List Nat} {H1 : Heap} {Q : Post} (f : Fr K w L w1 L1 H1) {x : Exit} {a : Act} {w' : World}
    (k : lift C n w1 L1 (keys H1) Q x a w') : lift C n w L K Q x a w' :=
  let ⟨e', H', L', h1, h2, h3, h4⟩ := k
  ⟨e', H', L', f.trans h1, h2, h3, h4⟩

/-! ### Judgements -/
def Agree (w : World) (L : Live) (H : Heap) (w' : World) : Prop :=
  (∀ p ∈ H, w'.heap[p.1]? = w.heap[p.1]?) ∧ (∀ b i, i < L b → w'.cell? ⟨b, i, none⟩ = w.cell? ⟨b, i, none⟩)

/-- The operation yields this value, and does nothing else, in every world that agrees with the one at hand. -/
def Pure (C : Ctx) (o : Oper) (e : Env) (H : Heap) (lv : LV) : Prop :=
  ∀ (ρ : Operand → Value) w L, (∀ x, Rep w L (e.ev x) (ρ x)) → RelH C w L H →
    ∃ v, Rep w L lv v ∧ ∀ w', Agree w L H w' → (execOp ρ o).run C.P w' = .ok (.value v) w'

/-- What is left by a step: a value, a heap. -/
def Left (C : Ctx) (w : World) (L : Live) (H : Heap) (w' : World) (v : Value) (K : LV → Heap → Prop) : Prop :=
  ∃ lv H' L', Fr (keys H) w L w' L' H' ∧ RelH C w' L' H' ∧ Rep w' L' lv v ∧ K lv H'
def LeftX (C : Ctx) (w : World) (L : Live) (H : Heap) (w' : World) (X : Heap → Prop) : Prop :=
  ∃ H' L', Fr (keys H) w L w' L' H' ∧ RelH C w' L' H' ∧ X H'

def CallPost (C : Ctx) (w : World) (L : Live) (H : Heap) (K : LV → Heap → Prop) (X : List PanicEntry → Heap → Prop) : Ending → World → Prop
  | .returned v, w' => Left C w L H w' v K
  | .panicked ch, w' => LeftX C w L H w' (X ch)
  | .outgrown, _ => False

def StepOut (C : Ctx) (w : World) (L : Live) (H : Heap) (K : LV → Heap → Prop) (X : List PanicEntry → Heap → Prop) : Result Next → Prop
  | .ok (.value v) w' => Left C w L H w' v K
  | .ok .skip w' => Left C w L H w' undef K
  | .ok (.enter f args) w' => w' = w ∧ Calls C.P f args w (CallPost C w L H K X)
  | .halt (.panic v) w' => LeftX C w L H w' (X [{ v, recovered := false }])
  | _ => False

/-- One operation that may do something to the heap H. -/
def LStep (C : Ctx) (o : Oper) (e : Env) (H : Heap) (K : LV → Heap → Prop) (X : List PanicEntry → Heap → Prop) : Prop :=
  ∀ (ρ : Operand → Value) w L, (∀ x, Rep w L (e.ev x) (ρ x)) → RelH C w L H → StepOut C w L H K X ((execOp ρ o).run C.P w)

def LOps (C : Ctx) (n : Nat) (ops : Array Oper) (Q : Post) (rest : List Oper) (e : Env) (H : Heap) : Prop :=
  ∀ a w L, RelE n a e w L → RelH C w L H → wpList C.P ops (lift C n w L (keys H) Q) rest a w

def LCode (C : Ctx) (n : Nat) (c : Code) (Q : Post) (e : Env) (H : Heap) : Prop :=
  ∀ a w L, RelE n a e w L → RelH C w L H → c.wp C.P (lift C n w L (keys H) Q) a w

inductive LRes where
  | ret (v : LV)
  | panic (ch : List PanicEntry)

def LCalls (C : Ctx) (f : FuncId) (args : List LV) (H : Heap) (R : LRes → Heap → Prop) : Prop :=
  ∀ (vs : List Value) w L, RepL w L args vs → RelH C w L H →
    Calls C.P f vs.toArray w (CallPost C w L H (fun v => R (.ret v)) (fun ch => R (.panic ch)))

/-! ### Monotonicity -/
theorem Left.mono {C : Ctx} {w : World} {L : Live} {H : Heap} {w' : World} {v : Value} {K K' : LV → Heap → Prop} (h : Left C w L H w' v K) (hk : ∀ lv H, K lv H → K' lv H) : Left C w L H w' v K' :=
  let ⟨lv, H', L', h1, h2, h3, h4⟩ := h
  ⟨lv, H', L', h1, h2, h3, hk _ _ h4⟩
theorem LeftX.mono {C : Ctx} {w : World} {L : Live} {H : Heap} {w' : World} {X X' : Heap → Prop} (h : LeftX C w L H w' X) (hk : ∀ H, X H → X' H) : LeftX C w L H w' X' :=
  let ⟨H', L', h1, h2, h3⟩ := h
  ⟨H', L', h1, h2, hk _ h3⟩
theorem CallPost.mono {C : Ctx} {w : World} {L : Live} {H : Heap} {K K' : LV → Heap → Prop} {X X' : List PanicEntry → Heap → Prop} (hk : ∀ lv H, K lv H → K' lv H) (hx : ∀ ch H, X ch H → X' ch H)
    (e : Ending) (w' : World) (h : CallPost C w L H K X e w') : CallPost C w L H K' X' e w' := by
  cases e with
  | returned v => exact Left.mono h hk
  | panicked ch => exact LeftX.mono h (hx ch)
  | outgrown => exact h
theorem LCalls.mono {C : Ctx} {f : FuncId} {args : List LV} {H : Heap} {R R' : LRes → Heap → Prop} (h : LCalls C f args H R) (hr : ∀ r H, R r H → R' r H) : LCalls C f args H R' :=
  fun vs w L h1 h2 => (h vs w L h1 h2).mono (CallPost.mono (fun _ _ => hr _ _) (fun _ _ => hr _ _))

/-- The frame around a step's outcome. -/
theorem Left.frame {C : Ctx} {w : World} {L : Live} {H F : Heap} {w' : World} {v : Value} {K : LV → Heap → Prop} (hH : RelH C w L (H ++ F)) (h : Left C w L H w' v (fun lv H' => K lv (H' ++ F))) :
    Left C w L (H ++ F) w' v K :=
  let ⟨lv, H', L', h1, h2, h3, h4⟩ := h
  let f := hH.frame h1 h2
  ⟨lv, H' ++ F, L', f.2, f.1, h3, h4⟩
theorem LeftX.frame {C : Ctx} {w : World} {L : Live} {H F : Heap} {w' : World} {X : Heap → Prop} (hH : RelH C w L (H ++ F)) (h : LeftX C w L H w' (fun H' => X (H' ++ F))) :
    LeftX C w L (H ++ F) w' X :=
  let ⟨H', L', h1, h2, h3⟩ := h
  let f := hH.frame h1 h2
  ⟨H' ++ F, L', f.2, f.1, h3⟩
theorem Fr.perm {H1 H2 : Heap} (p : H1.Perm H2) {w w' : World} {L L' : Live} {H' : Heap} (h : Fr (keys H1) w L w' L' H') : Fr (keys H2) w L w' L' H' := by
  have hm : ∀ b, b ∈ keys H1 ↔ b ∈ keys H2 := fun b => (p.map _).mem_iff
  exact ⟨h.os, h.tape, h.output, h.ext, fun b hb hn => h.block b hb (fun k => hn ((hm b).1 k)), fun b hb hn => h.lsame b hb (fun k => hn ((hm b).1 k)), fun q hq => (h.kin q hq).imp (hm _).1 id⟩
theorem StepOut.frame {C : Ctx} {w : World} {L : Live} {H F G : Heap} {K : LV → Heap → Prop} {X : List PanicEntry → Heap → Prop} (p : G.Perm (H ++ F)) (hH : RelH C w L G) {r : Result Next}
    (h : StepOut C w L H (fun lv H' => K lv (H' ++ F)) (fun ch H' => X ch (H' ++ F)) r) : StepOut C w L G K X r := by
  have hH' := hH.perm p
  have lf : ∀ {w' v}, Left C w L H w' v (fun lv H' => K lv (H' ++ F)) → Left C w L G w' v K := fun h => by
    obtain ⟨lv, H', L', h1, h2, h3, h4⟩ := Left.frame hH' h
    exact ⟨lv, H', L', h1.perm p.symm, h2, h3, h4⟩
  have lx : ∀ {w' ch}, LeftX C w L H w' (fun H' => X ch (H' ++ F)) → LeftX C w L G w' (X ch) := fun h => by
    obtain ⟨H', L', h1, h2, h3⟩ := LeftX.frame hH' h
    exact ⟨H', L', h1.perm p.symm, h2, h3⟩
  unfold StepOut at h ⊢
  split at h
  · exact lf h
  · exact lf h
  · refine ⟨h.1, h.2.mono fun e w' he => ?_⟩
    cases e with
    | returned v => exact lf he
    | panicked ch => exact lx he
    | outgrown => exact he
  · exact lx h
  · exact h.elim
theorem LStep.frame {C : Ctx} {o : Oper} {e : Env} {G H F : Heap} {K : LV → Heap → Prop} {X : List PanicEntry → Heap → Prop} (p : G.Perm (H ++ F))
    (h : LStep C o e H (fun lv H' => K lv (H' ++ F)) (fun ch H' => X ch (H' ++ F))) : LStep C o e G K X :=
  fun ρ w L h1 h2 => StepOut.frame p h2 (h ρ w L h1 (h2.perm p).left)

theorem Pure.step {C : Ctx} {o : Oper} {e : Env} {H : Heap} {lv : LV} {K : LV → Heap → Prop} {X : List PanicEntry → Heap → Prop} (h : Pure C o e H lv) (k : K lv H) : LStep C o e H K X := fun ρ w L h1 h2 => by
  obtain ⟨v, hv, hr⟩ := h ρ w L h1 h2
  rw [hr w ⟨fun _ _ => rfl, fun _ _ _ => rfl⟩]
  exact ⟨lv, H, L, Fr.refl _ _ _, h2, hv, k⟩

/-! ### From a step to the walk's own words -/
theorem wpList_mono {P : Program} {ops : Array Oper} {Q Q' : Exit → Act → World → Prop} (h : ∀ e a w, Q e a w → Q' e a w) : ∀ (l : List Oper) (a : Act) (w : World), wpList P ops Q l a w → wpList P ops Q' l a w
  | [], _, _, k => h _ _ _ k
  | o :: l, a, w, k => by
    unfold wpList at k ⊢
    split at k
    · rename_i hw
      rw [if_pos hw]
      rcases k with k | ⟨k1, a0, w0, k2⟩
      · refine .inl ?_
        unfold Oper.wp at k ⊢
        generalize (execOp a.eval o).run P w = r at k ⊢
        cases r with
        | ok x w' =>
          cases x <;> simp only [Oper.upon] at k ⊢ <;> first
            | exact wpList_mono h l _ _ k
            | (refine Calls.mono k fun e w'' he => ?_; cases e with
                | returned v => exact wpList_mono h l _ _ he
                | panicked ch => exact h _ _ _ he
                | outgrown => obtain ⟨a0, w0, he⟩ := he; exact ⟨a0, w0, h _ _ _ he⟩)
            | exact Rows.mono k fun _ _ he => wpList_mono h l _ _ he
        | halt x w' => cases x <;> simp only [Oper.upon] at k ⊢ <;> exact h _ _ _ k
      · exact .inr ⟨k1, a0, w0, h _ _ _ k2⟩
    · rename_i hw
      rw [if_neg hw]
      exact wpList_mono h l _ _ k

theorem step_wp {C : Ctx} {n : Nat} {o : Oper} {e : Env} {H : Heap} {K : LV → Heap → Prop} {X : List PanicEntry → Heap → Prop} (h : LStep C o e H K X) (hd : dstOk n o.dst)
    {a : Act} {w : World} {L : Live} (hE : RelE n a e w L) (hH : RelH C w L H) {K' : Act → World → Prop} {Q' : Exit → Act → World → Prop}
    (hK : ∀ lv H' L' w' a', Fr (keys H) w L w' L' H' → RelH C w' L' H' → RelE n a' (e.put o.dst lv) w' L' → K lv H' → K' a' w')
    (hX : ∀ ch H' L' w', Fr (keys H) w L w' L' H' → RelH C w' L' H' → X ch H' → Q' (.panic ch) a w') : o.wp C.P a w K' Q' := by
  have hs := h a.eval w L hE.ev hH
  unfold Oper.wp
  have left : ∀ {w' v}, Left C w L H w' v K → K' (a.put o.dst v) w' := fun h => by
    obtain ⟨lv, H', L', h1, h2, h3, h4⟩ := h
    exact hK lv H' L' _ _ h1 h2 ((hE.mono h1.ext).put hd h3) h4
  have leftX : ∀ {w' ch}, LeftX C w L H w' (X ch) → Q' (.panic ch) a w' := fun h => by
    obtain ⟨H', L', h1, h2, h3⟩ := h
    exact hX _ H' L' _ h1 h2 h3
  generalize (execOp a.eval o).run C.P w = r at hs ⊢
  unfold StepOut at hs
  split at hs
  · exact left hs
  · exact left hs
  · obtain ⟨rfl, hs⟩ := hs
    refine Calls.mono hs fun e w' he => ?_
    cases e with
    | returned v => exact left he
    | panicked ch => exact leftX he
    | outgrown => exact he.elim
  · exact leftX hs
  · exact hs.elim

section ops
variable {C : Ctx} {n : Nat} {ops : Array Oper} {Q : Post} {e : Env} {H : Heap}

theorem LOps.nil (h : Q .normal e H) : LOps C n ops Q [] e H := fun _ _ L hE hH => ⟨e, H, L, Fr.refl _ _ _, hH, hE, h⟩

theorem LOps.step {dst : Option Nat} {op : Op} {ty : TypeId} {pos : String} {aft : Array Edge} {rest : List Oper}
    (h : LStep C ⟨dst, op, ty, pos, aft, none⟩ e H (fun lv H' => LOps C n ops Q rest (e.put dst lv) H') (fun ch H' => ∀ e', e'.ds = e.ds → Q (.panic ch) e' H'))
    (hd : dstOk n dst) : LOps C n ops Q (⟨dst, op, ty, pos, aft, none⟩ :: rest) e H := fun a w L hE hH => by
  unfold wpList
  rw [if_pos (by simp [Region.wanted])]
  refine .inl (step_wp h hd hE hH (fun lv H' L' w' a' h1 h2 h3 h4 => ?_) (fun ch H' L' w' h1 h2 h3 => ?_))
  · exact wpList_mono (fun _ _ _ => lift_trans h1) _ _ _ (h4 a' w' L' h3 h2)
  · exact ⟨e, H', L', h1, h2, hE.ds, h3 e rfl⟩

theorem LOps.pure {dst : Option Nat} {op : Op} {ty : TypeId} {pos : String} {aft : Array Edge} {rest : List Oper} {lv : LV}
    (h : Pure C ⟨dst, op, ty, pos, aft, none⟩ e H lv) (hd : dstOk n dst) (k : LOps C n ops Q rest (e.put dst lv) H) : LOps C n ops Q (⟨dst, op, ty, pos, aft, none⟩ :: rest) e H :=
  LOps.step (h.step k) hd

/-- The operation at the part H1 of the heap. -/
theorem LOps.stepAt {dst : Option Nat} {op : Op} {ty : TypeId} {pos : String} {aft : Array Edge} {rest : List Oper} {H1 F : Heap} (p : H.Perm (H1 ++ F))
    (h : LStep C ⟨dst, op, ty, pos, aft, none⟩ e H1 (fun lv H' => LOps C n ops Q rest (e.put dst lv) (H' ++ F)) (fun ch H' => ∀ e', e'.ds = e.ds → Q (.panic ch) e' (H' ++ F)))
    (hd : dstOk n dst) : LOps C n ops Q (⟨dst, op, ty, pos, aft, none⟩ :: rest) e H :=
  LOps.step (LStep.frame p h) hd

theorem yielded_env {a : Act} {w : World} {L : Live} (hE : RelE n a e w L) {j d : Nat} {b : Bool} (hj : (ops[j]?).bind (·.dst) = some d) (hb : e.s d = .atom (.bool b)) : yielded ops a.tmps j = some b := by
  have h := hE.vals d
  rw [hb] at h
  simp only [Rep] at h
  unfold yielded
  rw [hj]
  simp only [Option.bind_some]
  rw [Array.getD_eq_getD_getElem?] at h
  cases hx : a.tmps[d]? with
  | none => rw [hx] at h; simp [undef] at h
  | some x => rw [hx] at h; simp only [Option.getD_some] at h; subst h; rfl

/-- An operation whose guard says yes. -/
theorem LOps.want {dst : Option Nat} {op : Op} {ty : TypeId} {pos : String} {aft : Array Edge} {rest : List Oper} {j d : Nat} {b : Bool}
    (hj : (ops[j]?).bind (·.dst) = some d) (hb : e.s d = .atom (.bool b))
    (k : LOps C n ops Q (⟨dst, op, ty, pos, aft, none⟩ :: rest) e H) : LOps C n ops Q (⟨dst, op, ty, pos, aft, some (j, b)⟩ :: rest) e H := fun a w L hE hH => by
  have := k a w L hE hH
  unfold wpList at this ⊢
  rw [if_pos (by simp [Region.wanted])] at this
  rw [if_pos (by simp [Region.wanted, yielded_env hE hj hb])]
  exact this

/-- An operation whose guard says no. -/
theorem LOps.skip {dst : Option Nat} {op : Op} {ty : TypeId} {pos : String} {aft : Array Edge} {rest : List Oper} {j d : Nat} {b c : Bool}
    (hj : (ops[j]?).bind (·.dst) = some d) (hb : e.s d = .atom (.bool b)) (hne : b = !c) (hd : dstOk n dst)
    (k : LOps C n ops Q rest (e.put dst (.atom undef)) H) : LOps C n ops Q (⟨dst, op, ty, pos, aft, some (j, c)⟩ :: rest) e H := fun a w L hE hH => by
  unfold wpList
  rw [if_neg (by subst hne; cases c <;> simp [Region.wanted, yielded_env hE hj hb])]
  exact k _ w L (hE.put hd (by simp only [Rep])) hH

theorem LOps.conseq {Q' : Post} {rest : List Oper} (h : LOps C n ops Q rest e H) (hq : ∀ x e H, Q x e H → Q' x e H) : LOps C n ops Q' rest e H :=
  fun a w L hE hH => wpList_mono (fun _ _ _ => lift_mono hq) _ _ _ (h a w L hE hH)
end ops

section code
variable {C : Ctx} {n : Nat} {Q : Post} {e : Env} {H : Heap}

def QThen (k : Env → Heap → Prop) (Q : Post) : Post
  | .normal, e, H => k e H
  | x, e, H => Q x e H
def QBlock (id : Nat) (Q : Post) : Post
  | .exit id', e, H => if id' = id then Q .normal e H else Q (.exit id') e H
  | x, e, H => Q x e H

theorem LCode.conseq {c : Code} {Q' : Post} (h : LCode C n c Q e H) (hq : ∀ x e H, Q x e H → Q' x e H) : LCode C n c Q' e H :=
  fun a w L hE hH => Go.wp_mono (h a w L hE hH) (fun _ _ _ => lift_mono hq)

theorem LCode.seq {x y : Code} (h : LCode C n x (QThen (fun e H => LCode C n y Q e H) Q) e H) : LCode C n (.seq x y) Q e H := fun a w L hE hH => by
  refine wp_seq (Go.wp_mono (h a w L hE hH) fun ex a' w' hq => ?_)
  obtain ⟨e', H', L', h1, h2, h3, h4⟩ := hq
  cases ex with
  | normal => exact Go.wp_mono (h4 a' w' L' h3 h2) fun _ _ _ => lift_trans h1
  | exit id => exact ⟨e', H', L', h1, h2, h3, h4⟩
  | goto id => exact ⟨e', H', L', h1, h2, h3, h4⟩
  | ret => exact ⟨e', H', L', h1, h2, h3, h4⟩
  | panic ch => exact ⟨e', H', L', h1, h2, h3, h4⟩
  | outgrown => exact ⟨e', H', L', h1, h2, h3, h4⟩

theorem LCode.block {id : Nat} {c : Code} (h : LCode C n c (QBlock id Q) e H) : LCode C n (.block id c) Q e H := fun a w L hE hH => by
  refine wp_block (Go.wp_mono (h a w L hE hH) fun ex a' w' hq => ?_)
  obtain ⟨e', H', L', h1, h2, h3, h4⟩ := hq
  cases ex with
  | exit id' =>
    simp only [Exit.inBlock, QBlock] at h4 ⊢
    split
    · rename_i hid; rw [if_pos hid] at h4; exact ⟨e', H', L', h1, h2, h3, h4⟩
    · rename_i hid; rw [if_neg hid] at h4; exact ⟨e', H', L', h1, h2, h3, h4⟩
  | normal => exact ⟨e', H', L', h1, h2, h3, h4⟩
  | goto id => exact ⟨e', H', L', h1, h2, h3, h4⟩
  | ret => exact ⟨e', H', L', h1, h2, h3, h4⟩
  | panic ch => exact ⟨e', H', L', h1, h2, h3, h4⟩
  | outgrown => exact ⟨e', H', L', h1, h2, h3, h4⟩

theorem LCode.skip (h : Q .normal e H) : LCode C n .skip Q e H := fun _ _ L hE hH => wp_skip ⟨e, H, L, Fr.refl _ _ _, hH, hE, h⟩
theorem LCode.exit {id : Nat} (h : Q (.exit id) e H) : LCode C n (.exit id) Q e H := fun _ _ L hE hH => wp_exit ⟨e, H, L, Fr.refl _ _ _, hH, hE, h⟩
theorem LCode.ret (h : Q .ret e H) : LCode C n .ret Q e H := fun _ _ L hE hH => wp_ret ⟨e, H, L, Fr.refl _ _ _, hH, hE, h⟩

theorem LCode.cond {c : Operand} {x y : Code} {t : Bool} (hc : e.ev c = .atom (.bool t)) (ht : t = true → LCode C n x Q e H) (hf : t = false → LCode C n y Q e H) : LCode C n (.cond c x y) Q e H :=
  fun a w L hE hH => by
    have hv := hE.ev c
    rw [hc] at hv
    simp only [Rep] at hv
    exact wp_cond_split hv (fun h => ht h a w L hE hH) (fun h => hf h a w L hE hH)

theorem LCode.region {id : Nat} {l : List Oper} (h : LOps C n l.toArray Q l e H) : LCode C n (.region id l.toArray false) Q e H := fun a w L hE hH => wp_region_lit (h a w L hE hH)

theorem wp_loop_idx {P : Program} {c : Code} {Q : Exit → Act → World → Prop} (I : Nat → Act → World → Prop)
    (round : ∀ n a w, I n a w → c.wp P (Exit.then (fun a' w' => ∃ m, m < n ∧ I m a' w') Q) a w) {n : Nat} {a : Act} {w : World} (h₀ : I n a w) : (Code.loop c).wp P Q a w := by
  intro b k cs
  have key : ∀ n a w, I n a w →
      ∃ e a' w', Q e a' w' ∧ Arrives P (lone (b.at a (.code c :: .inLoop c :: k)) cs w) b k cs e a' w' := by
    intro n
    induction n using Nat.strongRecOn with
    | _ n ih =>
      intro a w hI
      obtain ⟨e, a₁, w₁, hq, harr⟩ := round n a w hI b (.inLoop c :: k) cs
      cases e with
      | normal =>
        obtain ⟨m, hlt, hI₁⟩ := hq
        obtain ⟨e₂, a₂, w₂, hq₂, harr₂⟩ := ih m hlt a₁ w₁ hI₁
        exact ⟨e₂, a₂, w₂, hq₂, .of_steps (Steps.trans harr (.one step_inLoop)) harr₂⟩
      | exit id => exact ⟨_, a₁, w₁, hq, .pass (x := .inLoop c) rfl (fun _ _ => .inl (by simp)) harr⟩
      | goto l => exact ⟨_, a₁, w₁, hq, .pass (x := .inLoop c) rfl (fun _ _ => .inl (by simp)) harr⟩
      | ret => exact ⟨_, a₁, w₁, hq, .pass (x := .inLoop c) rfl (fun _ _ => .inl (by simp)) harr⟩
      | panic ch => exact ⟨_, a₁, w₁, hq, .pass (x := .inLoop c) rfl (fun _ _ => .inl (by simp)) harr⟩
      | outgrown => exact ⟨_, a₁, w₁, hq, .pass (x := .inLoop c) rfl (fun _ _ => .inl (by simp)) harr⟩
  obtain ⟨e, a', w', hq, harr⟩ := key n a w h₀
  exact ⟨e, a', w', hq, .of_steps (.one step_loop) harr⟩

/-- A loop, by a relation that bears the rounds that are left at most. -/
theorem LCode.loop {c : Code} (I : Nat → Env → Heap → Prop) (k : Nat) (h0 : I k e H)
    (round : ∀ k e H, I k e H → LCode C n c (QThen (fun e' H' => ∃ m, m < k ∧ I m e' H') Q) e H) : LCode C n (.loop c) Q e H := fun a w L hE hH => by
  refine wp_loop_idx (I := fun k a' w' => ∃ e' H' L', Fr (keys H) w L w' L' H' ∧ RelH C w' L' H' ∧ RelE n a' e' w' L' ∧ I k e' H') (n := k) ?_ ⟨e, H, L, Fr.refl _ _ _, hH, hE, h0⟩
  rintro k a1 w1 ⟨e1, H1, L1, h1, h2, h3, h4⟩
  refine Go.wp_mono (round k e1 H1 h4 a1 w1 L1 h3 h2) fun ex a' w' hq => ?_
  obtain ⟨e', H', L', g1, g2, g3, g4⟩ := hq
  cases ex with
  | normal =>
    obtain ⟨m, hm, g4⟩ := g4
    exact ⟨m, hm, e', H', L', h1.trans g1, g2, g3, g4⟩
  | exit id => exact ⟨e', H', L', h1.trans g1, g2, g3, g4⟩
  | goto id => exact ⟨e', H', L', h1.trans g1, g2, g3, g4⟩
  | ret => exact ⟨e', H', L', h1.trans g1, g2, g3, g4⟩
  | panic ch => exact ⟨e', H', L', h1.trans g1, g2, g3, g4⟩
  | outgrown => exact ⟨e', H', L', h1.trans g1, g2, g3, g4⟩

/-- The slots that are named hold this; of the others nothing is known. -/
def Env.slots (j : Env) : List (Nat × LV) → Env
  | [] => j
  | (d, v) :: r => (Env.slots j r).upd d v
theorem Env.upd_self {e : Env} {d : Nat} {v : LV} (h : e.s d = v) : e.upd d v = e := by
  obtain ⟨s, ds⟩ := e
  simp only [Env.upd, Env.mk.injEq, and_true]
  funext i
  cases hb : Nat.beq i d with
  | false => rfl
  | true =>
    have := Nat.eq_of_beq_eq_true hb
    subst this
    exact h.symm
theorem Env.slots_self {e : Env} : ∀ {l : List (Nat × LV)}, (∀ p ∈ l, e.s p.1 = p.2) → Env.slots e l = e
  | [], _ => rfl
  | (d, v) :: r, h => by
    simp only [Env.slots]
    rw [Env.slots_self (l := r) (fun p hp => h p (List.mem_cons_of_mem _ hp))]
    exact Env.upd_self (h (d, v) List.mem_cons_self)
end code

section exits
variable {C : Ctx} {n : Nat} {Q : Post} {e : Env} {H : Heap} {k : Env → Heap → Prop} {id id' : Nat}
theorem LOps.nilThen {ops : Array Oper} (h : k e H) : LOps C n ops (QThen k Q) [] e H := LOps.nil h
theorem QThen.normal (h : k e H) : QThen k Q .normal e H := h
theorem QThen.exit (h : Q (.exit id) e H) : QThen k Q (.exit id) e H := h
theorem QThen.ret (h : Q .ret e H) : QThen k Q .ret e H := h
theorem QThen.panic {ch : List PanicEntry} (h : Q (.panic ch) e H) : QThen k Q (.panic ch) e H := h
theorem QBlock.hit (h : Q .normal e H) : QBlock id Q (.exit id) e H := by simp only [QBlock, if_true]; exact h
theorem QBlock.miss (hn : id' ≠ id) (h : Q (.exit id') e H) : QBlock id Q (.exit id') e H := by simp only [QBlock, if_neg hn]; exact h
theorem QBlock.normal (h : Q .normal e H) : QBlock id Q .normal e H := h
theorem QBlock.ret (h : Q .ret e H) : QBlock id Q .ret e H := h
theorem QBlock.panic {ch : List PanicEntry} (h : Q (.panic ch) e H) : QBlock id Q (.panic ch) e H := h
/-- The two cases of a Bool that lies in a slot. -/
theorem LOps.bcase {ops : Array Oper} {rest : List Oper} (d : Nat) {b : Bool} (hb : e.s d = bool b) (ht : b = true → LOps C n ops Q rest (e.upd d (bool true)) H) (hf : b = false → LOps C n ops Q rest (e.upd d (bool false)) H) : LOps C n ops Q rest e H := by
  cases b
  · have := hf rfl; rwa [Env.upd_self hb] at this
  · have := ht rfl; rwa [Env.upd_self hb] at this
/-- What is known of a slot, written out. -/
theorem LCode.slots {c : Code} (l : List (Nat × LV)) (h : ∀ p ∈ l, e.s p.1 = p.2) (k : ∀ j : Env, j.ds = e.ds → LCode C n c Q (Env.slots j l) H) : LCode C n c Q e H := by
  have := k e rfl
  rwa [Env.slots_self h] at this
theorem LCode.sub {c : Code} {d : Nat} {v v' : LV} (hv : e.s d = v) (hs : v.Sub v') (h : LCode C n c Q (e.upd d v') H) : LCode C n c Q e H := fun a w L hE hH => by
  refine h a w L ⟨hE.size, hE.ds, fun i => ?_⟩ hH
  simp only [Env.upd]
  cases hb : Nat.beq i d with
  | false => exact hE.vals i
  | true =>
    have hi := Nat.eq_of_beq_eq_true hb
    subst hi
    have := hE.vals i
    rw [hv] at this
    exact hs _ _ _ this
theorem LOps.sub {ops : Array Oper} {rest : List Oper} (d : Nat) {v v' : LV} (hv : e.s d = v) (hs : v.Sub v') (h : LOps C n ops Q rest (e.upd d v') H) : LOps C n ops Q rest e H := fun a w L hE hH => by
  refine h a w L ⟨hE.size, hE.ds, fun i => ?_⟩ hH
  simp only [Env.upd]
  cases hb : Nat.beq i d with
  | false => exact hE.vals i
  | true =>
    have hi := Nat.eq_of_beq_eq_true hb
    subst hi
    have := hE.vals i
    rw [hv] at this
    exact hs _ _ _ this
theorem lift_weak {w w' : World} {L : Live} {K : List Nat} {H1 : Heap} (hK : ∀ b ∈ K, b ∈ keys H1) {x : Exit} {a : Act} (h : lift C n w L K Q x a w') : lift C n w L (keys H1) Q x a w' :=
  let ⟨e', H', L', h1, h2, h3, h4⟩ := h
  ⟨e', H', L', ⟨h1.os, h1.tape, h1.output, h1.ext, fun b hb hn => h1.block b hb (fun k => hn (hK b k)), fun b hb hn => h1.lsame b hb (fun k => hn (hK b k)), fun p hp => (h1.kin p hp).imp (hK _) id⟩, h2, h3, h4⟩
theorem HSub.keys {H' H : Heap} (s : HSub H' H) : ∀ b ∈ keys H', b ∈ GL.keys H := fun b hb => by
  obtain ⟨p, hp, rfl⟩ := List.mem_map.1 hb
  obtain ⟨G, hG⟩ := s
  exact List.mem_map_of_mem (hG.mem_iff.2 (List.mem_append_left _ hp))
/-- Part of the heap is let go. -/
theorem LCode.weak {c : Code} {H' : Heap} (s : HSub H' H) (h : LCode C n c Q e H') : LCode C n c Q e H := fun a w L hE hH => Go.wp_mono (h a w L hE (hH.weak s)) fun _ _ _ => lift_weak s.keys
theorem LOps.weak {ops : Array Oper} {rest : List Oper} {H' : Heap} (s : HSub H' H) (h : LOps C n ops Q rest e H') : LOps C n ops Q rest e H := fun a w L hE hH => wpList_mono (fun _ _ _ => lift_weak s.keys) _ _ _ (h a w L hE (hH.weak s))
theorem LCode.perm {c : Code} {H' : Heap} (s : H.Perm H') (h : LCode C n c Q e H') : LCode C n c Q e H := LCode.weak ⟨[], by simpa using s⟩ h
end exits

/-! ### Calls -/
def readRes (tmps : Array Value) : ResultVar → Sem Value
  | .tmp t => Pure.pure (tmps.getD t undef)
  | .cell a t => do loadVar t (← asAddr (tmps.getD a undef))

/-- What a result variable holds. -/
def ResIs (C : Ctx) (n : Nat) (e : Env) (H : Heap) (r : ResultVar) (lv : LV) : Prop :=
  ∀ a w L, RelE n a e w L → RelH C w L H → ∃ v, (readRes a.tmps r).run C.P w = .ok v w ∧ Rep w L lv v

def AllRes (C : Ctx) (n : Nat) (e : Env) (H : Heap) : List ResultVar → List LV → Prop
  | [], [] => True
  | r :: rs, v :: vs => ResIs C n e H r v ∧ AllRes C n e H rs vs
  | _, _ => False

def resLV : List LV → LV
  | [v] => v
  | vs => .tuple vs

def RetPost (C : Ctx) (n : Nat) (rs : List ResultVar) (R : LRes → Heap → Prop) : Post
  | .normal, e, H | .ret, e, H => e.ds = [] ∧ ∃ vs H', AllRes C n e H rs vs ∧ HSub H' H ∧ R (.ret (resLV vs)) H'
  | .panic ch, e, H => e.ds = [] ∧ ∃ H', HSub H' H ∧ R (.panic ch) H'
  | _, _, _ => False

def argsEnv (args : List LV) : Env := ⟨fun i => (args[i]?).getD (.atom undef), []⟩

theorem RepL.length {w : World} {L : Live} : ∀ {cs : List LV} {xs : List Value}, RepL w L cs xs → xs.length = cs.length
  | [], xs, h => by simp only [RepL] at h; subst h; rfl
  | c :: cs, xs, h => by
    simp only [RepL] at h
    obtain ⟨y, ys, rfl, _, h⟩ := h
    simp [RepL.length h]
theorem RepL.get {w : World} {L : Live} : ∀ {cs : List LV} {xs : List Value}, RepL w L cs xs → ∀ {i : Nat} {c : LV}, cs[i]? = some c → ∃ x, xs[i]? = some x ∧ Rep w L c x
  | [], _, _, i, c, hc => by simp at hc
  | c :: cs, xs, h, i, c', hc => by
    simp only [RepL] at h
    obtain ⟨y, ys, rfl, h1, h⟩ := h
    cases i with
    | zero => simp at hc; subst hc; exact ⟨y, rfl, h1⟩
    | succ i => simpa using RepL.get h (i := i) (by simpa using hc)

theorem bind_run {P : Program} {α β : Type} {s : Sem α} {f : α → Sem β} {w w' : World} {v : α} (h : s.run P w = .ok v w') : (s >>= f).run P w = (f v).run P w' := by
  rw [Sem.run_bind, h]; rfl

theorem results0 {P : Program} {fn : Func} (h : fn.results = #[]) (tmps : Array Value) (w : World) : (results fn tmps).run P w = .ok (.tuple #[]) w := by simp [results, h]
theorem results1 {P : Program} {fn : Func} {r : ResultVar} (h : fn.results = #[r]) {tmps : Array Value} {w : World} {v : Value} (h1 : (readRes tmps r).run P w = .ok v w) : (results fn tmps).run P w = .ok v w := by
  have : results fn tmps = readRes tmps r := by
    cases r <;> simp [results, h, readRes]
  rw [this, h1]
theorem results2 {P : Program} {fn : Func} {r s : ResultVar} (h : fn.results = #[r, s]) {tmps : Array Value} {w : World} {v u : Value} (h1 : (readRes tmps r).run P w = .ok v w) (h2 : (readRes tmps s).run P w = .ok u w) :
    (results fn tmps).run P w = .ok (.tuple #[v, u]) w := by
  have : results fn tmps = (do let v ← readRes tmps r; let u ← readRes tmps s; Pure.pure (.tuple #[v, u])) := by
    cases r <;> cases s <;> simp [results, h, readRes]
  rw [this, bind_run h1, bind_run h2]
  rfl
theorem results3 {P : Program} {fn : Func} {r s t : ResultVar} (h : fn.results = #[r, s, t]) {tmps : Array Value} {w : World} {v u x : Value} (h1 : (readRes tmps r).run P w = .ok v w) (h2 : (readRes tmps s).run P w = .ok u w) (h3 : (readRes tmps t).run P w = .ok x w) :
    (results fn tmps).run P w = .ok (.tuple #[v, u, x]) w := by
  have : results fn tmps = (do let v ← readRes tmps r; let u ← readRes tmps s; let x ← readRes tmps t; Pure.pure (.tuple #[v, u, x])) := by
    cases r <;> cases s <;> cases t <;> simp [results, h, readRes]
  rw [this, bind_run h1, bind_run h2, bind_run h3]
  rfl

/-- How many results a function may have here. -/
theorem results_of {C : Ctx} {n : Nat} {fn : Func} {e : Env} {H : Heap} {a : Act} {w : World} {L : Live} (hE : RelE n a e w L) (hH : RelH C w L H) {vs : List LV}
    (h : AllRes C n e H fn.results.toList vs) (h3 : fn.results.size ≤ 3) : ∃ v, (results fn a.tmps).run C.P w = .ok v w ∧ Rep w L (resLV vs) v := by
  obtain ⟨rs, hrs⟩ : ∃ rs, fn.results = List.toArray rs := ⟨fn.results.toList, by simp⟩
  rw [hrs] at h h3
  simp only [List.size_toArray] at h h3
  match rs, vs, h, h3, hrs with
  | [], [], _, _, hrs => exact ⟨_, results0 hrs _ _, by simp only [resLV, Rep]; exact ⟨[], rfl, by simp only [RepL]⟩⟩
  | [r], [x], h, _, hrs =>
    obtain ⟨v, hv, hr⟩ := h.1 a w L hE hH
    exact ⟨v, results1 hrs hv, hr⟩
  | [r, s], [x, y], h, _, hrs =>
    obtain ⟨v, hv, hr⟩ := h.1 a w L hE hH
    obtain ⟨u, hu, hs⟩ := h.2.1 a w L hE hH
    exact ⟨_, results2 hrs hv hu, by simp only [resLV, Rep]; exact ⟨[v, u], rfl, by simp only [RepL]; exact ⟨v, _, rfl, hr, u, _, rfl, hs, rfl⟩⟩⟩
  | [r, s, t], [x, y, z], h, _, hrs =>
    obtain ⟨v, hv, hr⟩ := h.1 a w L hE hH
    obtain ⟨u, hu, hs⟩ := h.2.1 a w L hE hH
    obtain ⟨q, hq, ht⟩ := h.2.2.1 a w L hE hH
    exact ⟨_, results3 hrs hv hu hq, by simp only [resLV, Rep]; exact ⟨[v, u, q], rfl, by simp only [RepL]; exact ⟨v, _, rfl, hr, u, _, rfl, hs, q, _, rfl, ht, rfl⟩⟩⟩
  | _ :: _ :: _ :: _ :: _, _, _, h3, _ => simp at h3
  | [], _ :: _, h, _, _ => exact h.elim
  | [_], [], h, _, _ => exact h.elim
  | [_], _ :: _ :: _, h, _, _ => exact h.2.elim
  | [_, _], [], h, _, _ => exact h.elim
  | [_, _], [_], h, _, _ => exact h.2.elim
  | [_, _], _ :: _ :: _ :: _, h, _, _ => exact h.2.2.elim
  | [_, _, _], [], h, _, _ => exact h.elim
  | [_, _, _], [_], h, _, _ => exact h.2.elim
  | [_, _, _], [_, _], h, _, _ => exact h.2.2.elim
  | [_, _, _], _ :: _ :: _ :: _ :: _, h, _, _ => exact h.2.2.2.elim

/-- Entering a function. -/
theorem LCalls.intro {C : Ctx} {f : FuncId} {fn : Func} {c : Code} {n : Nat} {args : List LV} {H : Heap} {R : LRes → Heap → Prop} (hf : C.P.funcs[f]? = some fn) (hb : fn.body = some c) (hn : fn.ntmps = n) (h3 : Nat.ble fn.results.size 3 = true)
    (hl : Nat.ble args.length n = true) (h : LCode C n c (RetPost C n fn.results.toList R) (argsEnv args) H) : LCalls C f args H R := fun vs w L hv hH => by
  subst hn
  have hl' : args.length ≤ fn.ntmps := by simpa using hl
  have h3' : fn.results.size ≤ 3 := by simpa using h3
  have hlen := hv.length
  refine calls_of_wp hf hb (Go.wp_mono (h _ w L ⟨?_, rfl, fun i => ?_⟩ hH) fun ex a' w' hq => ?_)
  · simp; omega
  · simp only [argsEnv]
    rw [Array.getD_eq_getD_getElem?]
    rcases Nat.lt_or_ge i args.length with hi | hi
    · rw [List.getElem?_eq_getElem hi]
      obtain ⟨x, hx, hr⟩ := hv.get (List.getElem?_eq_getElem hi)
      have hxi : (vs.toArray ++ Array.replicate (fn.ntmps - vs.toArray.size) undef)[i]? = some x := by
        rw [Array.getElem?_append_left (by simp; omega)]
        simpa using hx
      rw [hxi]
      exact hr
    · rw [List.getElem?_eq_none hi]
      have hxi : ((vs.toArray ++ Array.replicate (fn.ntmps - vs.toArray.size) undef)[i]?).getD undef = undef := by
        rw [Array.getElem?_append_right (by simp; omega)]
        rw [Array.getElem?_replicate]
        split <;> rfl
      rw [hxi]
      simp only [Option.getD_none, Rep]
  · obtain ⟨e', H', L', g1, g2, g3, g4⟩ := hq
    have ret : RelE fn.ntmps a' e' w' L' → (e'.ds = [] ∧ ∃ vs H'', AllRes C fn.ntmps e' H' fn.results.toList vs ∧ HSub H'' H' ∧ R (.ret (resLV vs)) H'') →
        a'.defers = [] ∧ ∃ v, (results fn a'.tmps).run C.P w' = .ok v w' ∧ CallPost C w L H (fun v => R (.ret v)) (fun ch => R (.panic ch)) (.returned v) w' := fun hE hr => by
      obtain ⟨h1, vs', H'', h2, h4, h5⟩ := hr
      obtain ⟨v, r1, r2⟩ := results_of hE g2 h2 h3'
      exact ⟨hE.ds.trans h1, v, r1, resLV vs', H'', L', g1.weak h4, g2.weak h4, r2, h5⟩
    cases ex with
    | normal => exact ret g3 g4
    | ret => exact ret g3 g4
    | panic ch =>
      obtain ⟨h1, H'', h4, h5⟩ := g4
      exact ⟨g3.trans h1, H'', L', g1.weak h4, g2.weak h4, h5⟩
    | exit id => exact g4.elim
    | goto id => exact g4.elim
    | outgrown => exact g4.elim

/-- The results, one by one. -/
theorem ResIs.tmp {C : Ctx} {n : Nat} {e : Env} {H : Heap} {t : Nat} {v lv : LV} (hv : e.s t = v) (h : v.Sub lv) : ResIs C n e H (.tmp t) lv := fun a w L hE _ => by
  have := hE.vals t
  rw [hv] at this
  exact ⟨_, rfl, h _ _ _ this⟩
end Go.GL
