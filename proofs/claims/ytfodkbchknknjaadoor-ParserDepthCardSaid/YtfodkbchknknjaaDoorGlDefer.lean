/- A small logic over the walk's 'Code.wp': deferred calls and recover. -/
import Derived.Test.YtfodkbchknknjaaDoorGlRange
import Derived.Recover
set_option linter.unusedVariables false
set_option linter.unusedSimpArgs false
namespace Go.GL
open Go.RowKit
/-- A deferred call that returns, from a mode to a mode. -/
def LCallsD (C : Ctx) (f : FuncId) (args : List LV) (u : FrameMode) (H : Heap) (R : FrameMode → Heap → Prop) : Prop :=
  ∀ (vs : List Value) w L, RepL w L args vs → RelH C w L H → CallsD C.P f vs.toArray u w fun e u' w' => (∃ v, e = .returned v) ∧ LeftX C w L H w' (R u')
/-- What is asked of the deferred calls: they are run; at the end the results are read, or the panic goes on. -/
def LeavesL (C : Ctx) (n : Nat) (rs : List ResultVar) (R : LRes → Heap → Prop) : List Deferred → FrameMode → Env → Heap → Prop
  | [], .returning, e, H => ∃ vs H', AllRes C n e H rs vs ∧ HSub H' H ∧ R (.ret (resLV vs)) H'
  | [], .panicking ch, _, H => ∃ H', HSub H' H ∧ R (.panic ch) H'
  | [], .run, _, _ => False
  | d :: ds, u, e, H => u ≠ .run ∧ ∃ f cap H1 F, d = { target := .fn (.func f) cap, args := #[] } ∧ TEnter C.P f ∧ H.Perm (H1 ++ F) ∧
      LCallsD C f (cap.toList.map .atom) u H1 fun u' H' => LeavesL C n rs R ds (settle u') e (H' ++ F)
/-- Every way out bears what the slots hold. -/
def liftP (C : Ctx) (n : Nat) (w : World) (L : Live) (K : List Nat) (Q : Post) : Exit → Act → World → Prop :=
  fun x a' w' => ∃ e' H' L', Fr K w L w' L' H' ∧ RelH C w' L' H' ∧ RelE n a' e' w' L' ∧ Q x e' H'
theorem liftP_trans {C : Ctx} {n : Nat} {w w1 : World} {L L1 : Live} {K : List Nat} {H1 : Heap} {Q : Post} (f : Fr K w L w1 L1 H1) {x : Exit} {a : Act} {w' : World}
    (k : liftP C n w1 L1 (keys H1) Q x a w') : liftP C n w L K Q x a w' :=
  let ⟨e', H', L', h1, h2, h3, h4⟩ := k
  ⟨e', H', L', f.trans h1, h2, h3, h4⟩
def LOpsP (C : Ctx) (n : Nat) (ops : Array Oper) (Q : Post) (rest : List Oper) (e : Env) (H : Heap) : Prop :=
  ∀ a w L, RelE n a e w L → RelH C w L H → wpList C.P ops (liftP C n w L (keys H) Q) rest a w
def LCodeP (C : Ctx) (n : Nat) (c : Code) (Q : Post) (e : Env) (H : Heap) : Prop :=
  ∀ a w L, RelE n a e w L → RelH C w L H → c.wp C.P (liftP C n w L (keys H) Q) a w
section P
variable {C : Ctx} {n : Nat} {ops : Array Oper} {Q : Post} {e : Env} {H : Heap}
theorem LOpsP.nil (h : Q .normal e H) : LOpsP C n ops Q [] e H := fun _ _ L hE hH => ⟨e, H, L, Fr.refl _ _ _, hH, hE, h⟩
theorem LOpsP.step {dst : Option Nat} {op : Op} {ty : TypeId} {pos : String} {aft : Array Edge} {rest : List Oper}
    (h : LStep C ⟨dst, op, ty, pos, aft, none⟩ e H (fun lv H' => LOpsP C n ops Q rest (e.put dst lv) H') (fun ch H' => Q (.panic ch) e H'))
    (hd : dstOk n dst) : LOpsP C n ops Q (⟨dst, op, ty, pos, aft, none⟩ :: rest) e H := fun a w L hE hH => by
  unfold wpList
  rw [if_pos (by simp [Region.wanted])]
  have hs := h a.eval w L hE.ev hH
  refine .inl ?_
  unfold Oper.wp
  have left : ∀ {w' v}, Left C w L H w' v (fun lv H' => LOpsP C n ops Q rest (e.put dst lv) H') → wpList C.P ops (liftP C n w L (keys H) Q) rest (a.put dst v) w' := fun h => by
    obtain ⟨lv, H', L', h1, h2, h3, h4⟩ := h
    exact wpList_mono (fun _ _ _ => liftP_trans h1) _ _ _ (h4 _ _ L' ((hE.mono h1.ext).put hd h3) h2)
  have leftX : ∀ {w' ch}, LeftX C w L H w' (fun H' => Q (.panic ch) e H') → liftP C n w L (keys H) Q (.panic ch) a w' := fun h => by
    obtain ⟨H', L', h1, h2, h3⟩ := h
    exact ⟨e, H', L', h1, h2, hE.mono h1.ext, h3⟩
  generalize (execOp a.eval ⟨dst, op, ty, pos, aft, none⟩).run C.P w = r at hs ⊢
  unfold StepOut at hs
  split at hs
  · exact left hs
  · exact left hs
  · obtain ⟨rfl, hs⟩ := hs
    refine Calls.mono hs fun e w' he => ?_
    cases e with
    | returned v => exact left he
    | panicked ch => exact leftX he
    | outgrown => exact he.elim
  · exact leftX hs
  · exact hs.elim
theorem LOpsP.pure {dst : Option Nat} {op : Op} {ty : TypeId} {pos : String} {aft : Array Edge} {rest : List Oper} {lv : LV}
    (h : Pure C ⟨dst, op, ty, pos, aft, none⟩ e H lv) (hd : dstOk n dst) (k : LOpsP C n ops Q rest (e.put dst lv) H) : LOpsP C n ops Q (⟨dst, op, ty, pos, aft, none⟩ :: rest) e H :=
  LOpsP.step (h.step k) hd
theorem LCodeP.region {id : Nat} {l : List Oper} (h : LOpsP C n l.toArray Q l e H) : LCodeP C n (.region id l.toArray false) Q e H := fun a w L hE hH => wp_region_lit (h a w L hE hH)
theorem LCodeP.ret (h : Q .ret e H) : LCodeP C n .ret Q e H := fun _ _ L hE hH => wp_ret ⟨e, H, L, Fr.refl _ _ _, hH, hE, h⟩
theorem LCodeP.skip (h : Q .normal e H) : LCodeP C n .skip Q e H := fun _ _ L hE hH => wp_skip ⟨e, H, L, Fr.refl _ _ _, hH, hE, h⟩
theorem LCodeP.seq {x y : Code} (h : LCodeP C n x (QThen (fun e H => LCodeP C n y Q e H) Q) e H) : LCodeP C n (.seq x y) Q e H := fun a w L hE hH => by
  refine wp_seq (Go.wp_mono (h a w L hE hH) fun ex a' w' hq => ?_)
  obtain ⟨e', H', L', h1, h2, h3, h4⟩ := hq
  cases ex with
  | normal => exact Go.wp_mono (h4 a' w' L' h3 h2) fun _ _ _ => liftP_trans h1
  | exit id => exact ⟨e', H', L', h1, h2, h3, h4⟩
  | goto id => exact ⟨e', H', L', h1, h2, h3, h4⟩
  | ret => exact ⟨e', H', L', h1, h2, h3, h4⟩
  | panic ch => exact ⟨e', H', L', h1, h2, h3, h4⟩
  | outgrown => exact ⟨e', H', L', h1, h2, h3, h4⟩
theorem LCodeP.block {id : Nat} {c : Code} (h : LCodeP C n c (QBlock id Q) e H) : LCodeP C n (.block id c) Q e H := fun a w L hE hH => by
  refine wp_block (Go.wp_mono (h a w L hE hH) fun ex a' w' hq => ?_)
  obtain ⟨e', H', L', h1, h2, h3, h4⟩ := hq
  cases ex with
  | exit id' =>
    simp only [Exit.inBlock, QBlock] at h4 ⊢
    split
    · rename_i hid; rw [if_pos hid] at h4; exact ⟨e', H', L', h1, h2, h3, h4⟩
    · rename_i hid; rw [if_neg hid] at h4; exact ⟨e', H', L', h1, h2, h3, h4⟩
  | normal => exact ⟨e', H', L', h1, h2, h3, h4⟩
  | goto id => exact ⟨e', H', L', h1, h2, h3, h4⟩
  | ret => exact ⟨e', H', L', h1, h2, h3, h4⟩
  | panic ch => exact ⟨e', H', L', h1, h2, h3, h4⟩
  | outgrown => exact ⟨e', H', L', h1, h2, h3, h4⟩
theorem LCodeP.cond {c : Operand} {x y : Code} {t : Bool} (hc : e.ev c = .atom (.bool t)) (ht : t = true → LCodeP C n x Q e H) (hf : t = false → LCodeP C n y Q e H) : LCodeP C n (.cond c x y) Q e H :=
  fun a w L hE hH => by
    have hv := hE.ev c
    rw [hc] at hv
    simp only [Rep] at hv
    exact wp_cond_split hv (fun h => ht h a w L hE hH) (fun h => hf h a w L hE hH)
/-- Code that does not panic. -/
def QNo (Q : Post) : Post
  | .panic _, _, _ => False
  | x, e, H => Q x e H
theorem LCodeP.of {c : Code} (h : LCode C n c (QNo Q) e H) : LCodeP C n c Q e H := fun a w L hE hH => by
  refine Go.wp_mono (h a w L hE hH) fun ex a' w' hq => ?_
  obtain ⟨e', H', L', h1, h2, h3, h4⟩ := hq
  cases ex with
  | panic ch => exact h4.elim
  | normal => exact ⟨e', H', L', h1, h2, h3, h4⟩
  | exit id => exact ⟨e', H', L', h1, h2, h3, h4⟩
  | goto id => exact ⟨e', H', L', h1, h2, h3, h4⟩
  | ret => exact ⟨e', H', L', h1, h2, h3, h4⟩
  | outgrown => exact ⟨e', H', L', h1, h2, h3, h4⟩
theorem QNo.normal {k : Env → Heap → Prop} (h : k e H) : QNo (QThen k Q) .normal e H := h
theorem QNo.norm (h : Q .normal e H) : QNo Q .normal e H := h
theorem QNo.ret (h : Q .ret e H) : QNo Q .ret e H := h
end P
/-- What the body must achieve. -/
def RetPostD (C : Ctx) (n : Nat) (rs : List ResultVar) (R : LRes → Heap → Prop) : Post
  | .normal, e, H | .ret, e, H => LeavesL C n rs R e.ds .returning e H
  | .panic ch, e, H => LeavesL C n rs R e.ds (.panicking ch) e H
  | _, _, _ => False
theorem leavesL {C : Ctx} {n : Nat} {fn : Func} {R : LRes → Heap → Prop} {w0 : World} {L0 : Live} {H0 : Heap} (h3 : fn.results.size ≤ 3) (tmps : Array Value) : ∀ (ds : List Deferred) (u : FrameMode) (e : Env) (H : Heap) (w : World) (L : Live), tmps.size = n → (∀ i, Rep w L (e.s i) (tmps.getD i undef)) → RelH C w L H → Fr (keys H0) w0 L0 w L H →
    LeavesL C n fn.results.toList R ds u e H → Leaves C.P fn tmps (CallPost C w0 L0 H0 (fun v => R (.ret v)) (fun ch => R (.panic ch))) ds u w
  | [], .returning, e, H, w, L, hn, hv, hH, hF, h => by
    obtain ⟨vs, H', h1, h2, h5⟩ := h
    obtain ⟨v, r1, r2⟩ := results_of (a := { tmps, defers := e.ds }) ⟨hn, rfl, hv⟩ hH h1 h3
    exact ⟨v, r1, resLV vs, H', L, hF.weak h2, hH.weak h2, r2, h5⟩
  | [], .panicking ch, e, H, w, L, hn, hv, hH, hF, h => by
    obtain ⟨H', h2, h5⟩ := h
    exact ⟨H', L, hF.weak h2, hH.weak h2, h5⟩
  | [], .run, e, H, w, L, hn, hv, hH, hF, h => h.elim
  | d :: ds, u, e, H, w, L, hn, hv, hH, hF, h => by
    obtain ⟨hu, f, cap, H1, F, rfl, hen, hp, hc⟩ := h
    refine ⟨hu, .func f, cap, f, cap, rfl, by simp [invoke, run_callFunc], ?_⟩
    have hH' := hH.perm hp
    have := hc cap.toList w L (repL_atoms _) hH'.left
    simp only [Array.toArray_toList] at this
    refine CallsD.mono this ?_
    rintro ex u' w' ⟨⟨v, rfl⟩, hx⟩
    obtain ⟨H', L', g1, g2, g3⟩ := LeftX.frame hH' hx
    exact leavesL h3 tmps ds (settle u') e H' w' L' hn (fun i => (hv i).mono g1.ext _ _) g2 (hF.trans (g1.perm hp.symm)) g3
theorem LCallsD.mono {C : Ctx} {f : FuncId} {args : List LV} {u : FrameMode} {H : Heap} {R R' : FrameMode → Heap → Prop} (h : LCallsD C f args u H R) (hr : ∀ u H, R u H → R' u H) : LCallsD C f args u H R' := fun vs w L h1 h2 =>
  CallsD.mono (h vs w L h1 h2) fun _ _ _ ⟨h3, h4⟩ => ⟨h3, h4.mono (hr _)⟩
/-- Entering a function that defers. -/
theorem LCalls.introD {C : Ctx} {f : FuncId} {fn : Func} {c : Code} {n : Nat} {args : List LV} {H : Heap} {R : LRes → Heap → Prop} (hf : C.P.funcs[f]? = some fn) (hb : fn.body = some c) (hn : fn.ntmps = n) (h3 : Nat.ble fn.results.size 3 = true)
    (hl : Nat.ble args.length n = true) (h : LCodeP C n c (RetPostD C n fn.results.toList R) (argsEnv args) H) : LCalls C f args H R := fun vs w L hv hH => by
  subst hn
  have hl' : args.length ≤ fn.ntmps := by simpa using hl
  have h3' : fn.results.size ≤ 3 := by simpa using h3
  have hlen := hv.length
  refine calls_of_wp_defers hf hb (Go.wp_mono (h _ w L ⟨?_, rfl, fun i => ?_⟩ hH) fun ex a' w' hq => ?_)
  · simp; omega
  · simp only [argsEnv]
    rw [Array.getD_eq_getD_getElem?]
    rcases Nat.lt_or_ge i args.length with hi | hi
    · rw [List.getElem?_eq_getElem hi]
      obtain ⟨x, hx, hr⟩ := hv.get (List.getElem?_eq_getElem hi)
      have hxi : (vs.toArray ++ Array.replicate (fn.ntmps - vs.toArray.size) undef)[i]? = some x := by
        rw [Array.getElem?_append_left (by simp; omega)]
        simpa using hx
      rw [hxi]
      exact hr
    · rw [List.getElem?_eq_none hi]
      have hxi : ((vs.toArray ++ Array.replicate (fn.ntmps - vs.toArray.size) undef)[i]?).getD undef = undef := by
        rw [Array.getElem?_append_right (by simp; omega)]
        rw [Array.getElem?_replicate]
        split <;> rfl
      rw [hxi]
      simp only [Option.getD_none, Rep]
  · obtain ⟨e', H', L', g1, g2, g3, g4⟩ := hq
    have ret : ∀ u, LeavesL C fn.ntmps fn.results.toList R e'.ds u e' H' → Leaves C.P fn a'.tmps (CallPost C w L H (fun v => R (.ret v)) (fun ch => R (.panic ch))) a'.defers u w' := fun u hu => by
      rw [g3.ds]
      exact leavesL h3' a'.tmps _ u e' H' w' L' g3.size g3.vals g2 g1 hu
    cases ex with
    | normal => exact ret _ g4
    | ret => exact ret _ g4
    | panic ch => exact ret _ g4
    | exit id => exact g4.elim
    | goto id => exact g4.elim
    | outgrown => exact g4.elim
abbrev PostS := Exit → FrameMode → Env → Heap → Prop
/-- Code of a deferred call, which may turn its caller's mode. -/
def LCodeS (C : Ctx) (n : Nat) (c : Code) (Q : PostS) (u : FrameMode) (e : Env) (H : Heap) : Prop :=
  ∀ a w L (c0 : Frame) cs, c0.mode = u → RelE n a e w L → RelH C w L H →
    c.wpS C.P (fun x a' cs' w' => ∃ u' e' H' L', cs' = { c0 with mode := u' } :: cs ∧ Fr (keys H) w L w' L' H' ∧ RelH C w' L' H' ∧ RelX n x a' e' w' L' ∧ Q x u' e' H') a (c0 :: cs) w
theorem wpS_mono {P : Program} {c : Code} {Q Q' : Exit → Act → List Frame → World → Prop} {a : Act} {cs : List Frame} {w : World} (h : c.wpS P Q a cs w) (hq : ∀ x a cs w, Q x a cs w → Q' x a cs w) : c.wpS P Q' a cs w := fun b k h1 h2 =>
  let ⟨e, a', cs', w', q, r⟩ := h b k h1 h2
  ⟨e, a', cs', w', hq _ _ _ _ q, r⟩
section S
variable {C : Ctx} {n : Nat} {Q : PostS} {u : FrameMode} {e : Env} {H : Heap}
theorem LCodeS.of {c : Code} (h : LCode C n c (fun x e H => Q x u e H) e H) : LCodeS C n c Q u e H := fun a w L c0 cs hu hE hH => by
  refine wpS_of_wp (Go.wp_mono (h a w L hE hH) fun x a' w' hq => ?_)
  obtain ⟨e', H', L', h1, h2, h3, h4⟩ := hq
  exact ⟨u, e', H', L', by subst hu; rfl, h1, h2, h3, h4⟩
theorem LCodeS.seq {x y : Code} (h : LCodeS C n x (fun ex u' e' H' => match ex with | .normal => LCodeS C n y Q u' e' H' | ex => Q ex u' e' H') u e H) : LCodeS C n (.seq x y) Q u e H := fun a w L c0 cs hu hE hH => by
  refine wpS_seq (wpS_mono (h a w L c0 cs hu hE hH) fun ex a' cs' w' hq => ?_)
  obtain ⟨u', e', H', L', rfl, h1, h2, h3, h4⟩ := hq
  cases ex with
  | normal =>
    refine wpS_mono (h4 a' w' L' { c0 with mode := u' } cs rfl h3 h2) ?_
    rintro ex a2 cs2 w2 ⟨u2, e2, H2, L2, rfl, g1, g2, g3, g4⟩
    exact ⟨u2, e2, H2, L2, rfl, h1.trans g1, g2, g3, g4⟩
  | exit id => exact ⟨u', e', H', L', rfl, h1, h2, h3, h4⟩
  | goto id => exact ⟨u', e', H', L', rfl, h1, h2, h3, h4⟩
  | ret => exact ⟨u', e', H', L', rfl, h1, h2, h3, h4⟩
  | panic ch => exact ⟨u', e', H', L', rfl, h1, h2, h3, h4⟩
  | outgrown => exact ⟨u', e', H', L', rfl, h1, h2, h3, h4⟩
/-- What recover hands back, and the caller's mode behind it. -/
def recMode : FrameMode → Value × FrameMode
  | .panicking ({ v, recovered := false, goexit := false } :: older) => (v, .panicking ({ v, recovered := true } :: older))
  | u => (.nilIface, u)
theorem recover_run {P : Program} {ρ : Operand → Value} {dst : Option Nat} {ty : TypeId} {pos : String} {aft : Array Edge} {g : Option (Nat × Bool)} (w : World) :
    (execOp ρ ⟨dst, .call { callee := .builtin .recover, args := #[], argTypes := #[] }, ty, pos, aft, g⟩).run P w = .ok .recover w := by
  rfl
theorem recoverD_eq (c0 : Frame) (cs : List Frame) : recoverD (c0 :: cs) = none ∧ recMode c0.mode = (.nilIface, c0.mode) ∨ recoverD (c0 :: cs) = some ((recMode c0.mode).1, { c0 with mode := (recMode c0.mode).2 } :: cs) := by
  obtain ⟨fn, tmps, todo, defers, mode, kind, ro⟩ := c0
  cases mode with
  | run => exact .inl ⟨rfl, rfl⟩
  | returning => exact .inl ⟨rfl, rfl⟩
  | panicking ch =>
    cases ch with
    | nil => exact .inl ⟨rfl, rfl⟩
    | cons p older =>
      obtain ⟨v, r, g⟩ := p
      cases r <;> cases g <;> first | exact .inl ⟨rfl, rfl⟩ | exact .inr rfl
theorem LCodeS.recover {id t s : Nat} {ty ty' : TypeId} {pos pos' : String} {aft aft' : Array Edge} (ht : Nat.blt t n = true) (hs : Nat.blt s n = true) (h : Q .normal (recMode u).2 ((e.upd t (.atom (recMode u).1)).upd s (.atom (recMode u).1)) H) :
    LCodeS C n (.region id #[⟨some t, .call { callee := .builtin .recover, args := #[], argTypes := #[] }, ty, pos, aft, none⟩, ⟨some s, .assign (.tmp t), ty', pos', aft', none⟩] false) Q u e H := fun a w L c0 cs hu hE hH => by
  refine wpS_region ?_
  have hE1 : ∀ v, RelE n (a.put (some t) v) (e.upd t (.atom v)) w L := fun v => hE.put (dst := some t) (by simp only [dstOk, dstB]; exact ht) rep_atom
  have hev : ∀ v, (a.put (some t) v).eval (.tmp t) = v := fun v => by
    have := (hE1 v).ev (.tmp t)
    simpa [Env.ev, Env.upd, Rep] using this
  have hE2 : ∀ v, RelE n ((a.put (some t) v).put (some s) v) ((e.upd t (.atom v)).upd s (.atom v)) w L := fun v => (hE1 v).put (dst := some s) (by simp only [dstOk, dstB]; exact hs) rep_atom
  have h1 : ∀ v cs1, wpOpsS C.P #[⟨some t, .call { callee := .builtin .recover, args := #[], argTypes := #[] }, ty, pos, aft, none⟩, ⟨some s, .assign (.tmp t), ty', pos', aft', none⟩] (fun x a' cs' w' => ∃ u' e' H' L', cs' = { c0 with mode := u' } :: cs ∧ Fr (keys H) w L w' L' H' ∧ RelH C w' L' H' ∧ RelX n x a' e' w' L' ∧ Q x u' e' H') [1] (a.put (some t) v) cs1 w
      ↔ (fun x a' cs' w' => ∃ u' e' H' L', cs' = { c0 with mode := u' } :: cs ∧ Fr (keys H) w L w' L' H' ∧ RelH C w' L' H' ∧ RelX n x a' e' w' L' ∧ Q x u' e' H') Exit.normal ((a.put (some t) v).put (some s) v) cs1 w := by
    intro v cs1
    have hr : (execOp (a.put (some t) v).eval ⟨some s, .assign (.tmp t), ty', pos', aft', none⟩).run C.P w = .ok (.value ((a.put (some t) v).eval (.tmp t))) w := rfl
    simp only [wpOpsS, List.getElem?_toArray, List.getElem?_cons_succ, List.getElem?_cons_zero, Region.wanted, if_true, hr, Oper.upon, hev]
  have h0 : (execOp a.eval ⟨some t, .call { callee := .builtin .recover, args := #[], argTypes := #[] }, ty, pos, aft, none⟩).run C.P w = .ok .recover w := recover_run w
  have hl : List.range (#[(⟨some t, .call { callee := .builtin .recover, args := #[], argTypes := #[] }, ty, pos, aft, none⟩ : Oper), ⟨some s, .assign (.tmp t), ty', pos', aft', none⟩] : Array Oper).size = [0, 1] := rfl
  rw [hl, wpOpsS]
  simp only [List.getElem?_toArray, List.getElem?_cons_zero, Region.wanted, if_true, h0]
  rcases recoverD_eq c0 cs with ⟨h2, h3⟩ | h2
  · simp only [h2]
    rw [h1]
    subst hu
    rw [h3] at h
    exact ⟨c0.mode, _, H, L, rfl, Fr.refl _ _ _, hH, hE2 _, h⟩
  · simp only [h2]
    rw [h1]
    subst hu
    exact ⟨_, _, H, L, rfl, Fr.refl _ _ _, hH, hE2 _, h⟩
/-- Entering a deferred function that hands back nothing. -/
def RetPostS (R : FrameMode → Heap → Prop) : PostS
  | .normal, u, e, H | .ret, u, e, H => e.ds = [] ∧ ∃ H', HSub H' H ∧ R u H'
  | _, _, _, _ => False
theorem LCallsD.intro {f : FuncId} {fn : Func} {c : Code} {args : List LV} {R : FrameMode → Heap → Prop} (hf : C.P.funcs[f]? = some fn) (hb : fn.body = some c) (hn : fn.ntmps = n) (h3 : fn.results = #[])
    (hl : Nat.ble args.length n = true) (h : LCodeS C n c (RetPostS R) u (argsEnv args) H) : LCallsD C f args u H R := fun vs w L hv hH => by
  subst hn
  have hl' : args.length ≤ fn.ntmps := by simpa using hl
  have hlen := hv.length
  have hE0 : RelE fn.ntmps { tmps := vs.toArray ++ Array.replicate (fn.ntmps - vs.toArray.size) undef, defers := [] } (argsEnv args) w L := by
    refine ⟨?_, rfl, fun i => ?_⟩
    · simp; omega
    · simp only [argsEnv]
      rw [Array.getD_eq_getD_getElem?]
      rcases Nat.lt_or_ge i args.length with hi | hi
      · rw [List.getElem?_eq_getElem hi]
        obtain ⟨x, hx, hr⟩ := hv.get (List.getElem?_eq_getElem hi)
        have hxi : (vs.toArray ++ Array.replicate (fn.ntmps - vs.toArray.size) undef)[i]? = some x := by
          rw [Array.getElem?_append_left (by simp; omega)]
          simpa using hx
        rw [hxi]
        exact hr
      · rw [List.getElem?_eq_none hi]
        have hxi : ((vs.toArray ++ Array.replicate (fn.ntmps - vs.toArray.size) undef)[i]?).getD undef = undef := by
          rw [Array.getElem?_append_right (by simp; omega)]
          rw [Array.getElem?_replicate]
          split <;> rfl
        rw [hxi]
        simp only [Option.getD_none, Rep]
  refine callsD_of_wpS hf hb fun c0 cs hu => wpS_mono (h _ w L c0 cs hu hE0 hH) fun ex a' cs' w' hq => ?_
  obtain ⟨u', e', H', L', rfl, g1, g2, g3, g4⟩ := hq
  have fin : RelE fn.ntmps a' e' w' L' → (e'.ds = [] ∧ ∃ H'', HSub H'' H' ∧ R u' H'') → a'.defers = [] ∧ ∃ u'', ({ c0 with mode := u' } :: cs : List Frame) = { c0 with mode := u'' } :: cs ∧ ∃ v, (results fn a'.tmps).run C.P w' = .ok v w' ∧ (∃ v', Ending.returned v = .returned v') ∧ LeftX C w L H w' (R u'') := fun hE ⟨h1, H'', h2, h4⟩ =>
    ⟨hE.ds.trans h1, u', rfl, _, results0 h3 _ _, ⟨_, rfl⟩, H'', L', g1.weak h2, g2.weak h2, h4⟩
  cases ex with
  | normal => exact fin g3 g4
  | ret => exact fin g3 g4
  | panic ch => exact g4.elim
  | exit id => exact g4.elim
  | goto id => exact g4.elim
  | outgrown => exact g4.elim
end S
section defer
variable {C : Ctx} {n : Nat} {ops : Array Oper} {Q : Post} {e : Env} {H : Heap}
theorem LOpsP.defer {dst : Option Nat} {fo : Operand} {f : FuncId} {caps : Array Value} {ty : TypeId} {pos : String} {aft : Array Edge} {rest : List Oper} (hf : e.ev fo = .atom (.func (.func f) #[] caps)) (hd : dst = none)
    (k : LOpsP C n ops Q rest ⟨e.s, { target := .fn (.func f) caps, args := #[] } :: e.ds⟩ H) : LOpsP C n ops Q (⟨dst, .defer { callee := .value fo, args := #[], argTypes := #[] }, ty, pos, aft, none⟩ :: rest) e H := fun a w L hE hH => by
  subst hd
  have hv := hE.ev fo
  rw [hf] at hv
  simp only [Rep] at hv
  have hr : (execOp a.eval ⟨none, .defer { callee := .value fo, args := #[], argTypes := #[] }, ty, pos, aft, none⟩).run C.P w = .ok (.defer { target := .fn (.func f) caps, args := #[] }) w := by
    have h3 : execOp a.eval ⟨none, .defer { callee := .value fo, args := #[], argTypes := #[] }, ty, pos, aft, none⟩ = (do let d ← Deferred.ofValue (a.eval fo) ((#[] : Array Operand).map a.eval); Pure.pure (.defer d)) := rfl
    rw [h3, hv]
    simp only [Deferred.ofValue, List.map_toArray, List.map_nil]
    rfl
  unfold wpList
  rw [if_pos (by simp [Region.wanted])]
  refine .inl ?_
  unfold Oper.wp
  rw [hr]
  simp only [Oper.upon, Act.put]
  exact k _ w L ⟨hE.size, by show _ :: a.defers = _; rw [hE.ds], hE.vals⟩ hH
end defer
end Go.GL
