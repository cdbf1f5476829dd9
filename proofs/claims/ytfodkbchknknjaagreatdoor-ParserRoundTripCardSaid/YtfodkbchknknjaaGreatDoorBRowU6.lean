/- Texts joined: ParTok, GlDefer, ParS5, ParNodes, REq, REq2, REq3. -/
import Derived.Recover
import Derived.Test.YtfodkbchknknjaaGreatDoorBRowU2
import Derived.Test.YtfodkbchknknjaaGreatDoorBRowU3
import Derived.Test.YtfodkbchknknjaaGreatDoorBRowU4
import Derived.Test.YtfodkbchknknjaaGreatDoorBRowU5
set_option linter.unusedVariables false
set_option linter.unusedSimpArgs false
namespace Go.Stele
open Go.Lib
theorem pu_append (M : Nat) : ∀ (l r : List UInt8) (acc u : Nat), parseUintM M acc l = .ok u → parseUintM M acc (l ++ r) = parseUintM M u r
  | [], r, acc, u, h => by
    rw [parseUintM] at h
    cases h
    rfl
  | c :: l, r, acc, u, h => by
    rw [parseUintM] at h
    rw [List.cons_append, parseUintM]
    split at h
    · rename_i hc
      rw [if_pos hc]
      split at h
      · cases h
      · rename_i h1
        rw [if_neg h1]
        split at h
        · cases h
        · rename_i h2
          rw [if_neg h2]
          exact pu_append M l r _ u h
    · cases h
theorem digit_toNat {d : Nat} (h : d < 10) : (UInt8.ofNat (48 + d)).toNat = 48 + d := by
  rw [UInt8.toNat_ofNat']
  omega
theorem pu_dec (M : Nat) (hM : M ≤ 4294967295) (u : Nat) (hu : u ≤ M) : parseUintM M 0 (decDigits u) = .ok u := by
  induction u using Nat.strongRecOn with
  | _ u ih =>
    have one : ∀ a d, d < 10 → a * 10 + d ≤ M → parseUintM M a [UInt8.ofNat (48 + d)] = .ok (a * 10 + d) := fun a d hd ha => by
      rw [parseUintM, digit_toNat hd, if_pos (by omega), if_neg (by omega), if_neg (by omega), parseUintM]
      congr 1
      omega
    rw [decDigits]
    split
    · have := one 0 u (by assumption) (by omega)
      simpa using this
    · rw [pu_append M _ _ 0 (u / 10) (ih (u / 10) (by omega) (by omega)), one _ _ (by omega) (by omega)]
      congr 1
      omega
theorem decDigits_ne (u : Nat) : decDigits u ≠ [] := by
  rw [decDigits]
  split <;> simp
theorem pu32_dec (u : Nat) (hu : u < 4294967296) : parseUintB 32 (decDigits u) = .ok u := by
  rw [parseUintB, if_neg (decDigits_ne u)]
  exact pu_dec _ (by decide) u (by omega)
theorem nDigits_le : ∀ (k u : Nat), u < 10 ^ (k + 1) → nDigits u ≤ k + 1
  | 0, u, h => by rw [nDigits_small (by simpa using h)]; omega
  | k + 1, u, h => by
    by_cases hu : u < 10
    · rw [nDigits_small hu]; omega
    · rw [nDigits_big hu]
      have := nDigits_le k (u / 10) (by rw [Nat.pow_succ] at h; omega)
      omega
theorem dec_len {u : Nat} (hu : u < 4294967296) : (decDigits u).length ≤ 10 := by
  rw [decDigits_length]
  exact nDigits_le 9 u (by omega)
theorem pu32_lt {l : List UInt8} {u : Nat} (h : parseUintB 32 l = .ok u) : u < 4294967296 := by
  have key : ∀ (l : List UInt8) (acc u : Nat), acc ≤ 4294967295 → parseUintM 4294967295 acc l = .ok u → u ≤ 4294967295 := by
    intro l
    induction l with
    | nil => intro acc u ha h; rw [parseUintM] at h; cases h; exact ha
    | cons c l ih =>
      intro acc u ha h
      rw [parseUintM] at h
      split at h
      · split at h
        · cases h
        · split at h
          · cases h
          · exact ih _ _ (by omega) h
      · cases h
  rw [parseUintB] at h
  split at h
  · cases h
  · have := key _ _ _ (by omega) h
    omega
/-- What a token is. -/
def TokOk (t : Tok) : Prop := t.text.length ≤ 100 ∧ (t.kind = 1 → ∃ u, u < 4294967296 ∧ parseUintB 32 t.text = .ok u ∧ t.text = decDigits u)
theorem lexToken_ok (s : List UInt8) (h : (lexToken s).2.2 = 0) : TokOk (lexToken s).1 := by
  match s with
  | [] => simp [lexToken, tokErr] at h
  | c :: r =>
    simp only [lexToken] at h ⊢
    split at h <;> rename_i hc
    · rw [if_pos hc]
      unfold lexNumber at h ⊢
      split at h
      · simp [tokErr] at h
      · rename_i hw
        rw [if_neg hw]
        split at h
        · rename_i u hu
          have hlt := pu32_lt hu
          exact ⟨by have := dec_len hlt; simp only; omega, fun _ => ⟨u, hlt, pu32_dec u hlt, rfl⟩⟩
        · simp [tokErr] at h
    · rw [if_neg hc]
      split at h <;> rename_i hl
      · rw [if_pos hl]
        unfold lexName at h ⊢
        split at h
        · simp [tokErr] at h
        · rename_i hw
          rw [if_neg hw]
          refine ⟨by simp only; omega, fun hk => ?_⟩
          simp only at hk
          split at hk <;> cases hk
      · rw [if_neg hl]
        split at h <;> rename_i hq
        · rw [if_pos hq]
          unfold lexLiteral at h ⊢
          split at h
          · split at h
            · simp [tokErr] at h
            · rename_i hx
              rename_i heq
              rename_i b _ _
              rw [if_neg hx]
              have hb : b.toNat < 4294967296 := Nat.lt_trans (UInt8.toNat_lt b) (by decide)
              exact ⟨by have := dec_len hb; simp only; omega, fun _ => ⟨b.toNat, hb, pu32_dec _ hb, rfl⟩⟩
          · simp [tokErr] at h
        · rw [if_neg hq]
          unfold lexSign at h ⊢
          split at h
          · rename_i x hx
            have h2 := List.mem_of_find?_eq_some hx
            have : ∀ x ∈ signs, x.length ≤ 100 := by decide
            exact ⟨this x h2, fun hk => by cases hk⟩
          · simp [tokErr] at h
theorem map_ok {A B : Type} {f : A → B} {r : Except (Int × Int) A} {b : B} (h : r.map f = .ok b) : ∃ a, r = .ok a ∧ f a = b := by
  cases r with
  | ok a => exact ⟨a, rfl, by injection h⟩
  | error e => cases h
theorem lexP_ok : ∀ (f : Nat) (s : List UInt8) (line : Int) (T : List Tok), lexP f s line = .ok T → T.length ≤ f ∧ ∀ t ∈ T, TokOk t
  | 0, s, line, T, h => by
    rw [lexP] at h
    cases h
    exact ⟨Nat.le_refl _, by simp⟩
  | f + 1, s, line, T, h => by
    rw [lexP] at h
    split at h
    · cases h
      exact ⟨Nat.zero_le _, by simp⟩
    · split at h
      · split at h
        · cases h
        · rename_i he
          obtain ⟨T', h1, rfl⟩ := map_ok h
          obtain ⟨k1, k2⟩ := lexP_ok f _ _ _ h1
          refine ⟨by rw [List.length_cons]; omega, fun t ht => ?_⟩
          rcases List.mem_cons.1 ht with rfl | ht
          · exact lexToken_ok s (by omega)
          · exact k2 t ht
      · obtain ⟨k1, k2⟩ := lexP_ok f _ _ _ h
        exact ⟨by omega, k2⟩
end Go.Stele
namespace Go.GL
open Go.RowKit
/-- A deferred call that returns, from a mode to a mode. -/
def LCallsD (C : Ctx) (f : FuncId) (args : List LV) (u : FrameMode) (H : Heap) (R : FrameMode → Heap → Prop) : Prop :=
  ∀ (vs : List Value) w L, RepL w L args vs → RelH C w L H → CallsD C.P f vs.toArray u w fun e u' w' => (∃ v, e = .returned v) ∧ LeftX C w L H w' (R u')
/-- What is asked of the deferred calls: they are run; at the end the results are read, or the panic goes on. -/
def LeavesL (C : Ctx) (n : Nat) (rs : List ResultVar) (R : LRes → Heap → Prop) : List Deferred → FrameMode → Env → Heap → Prop
  | [], .returning, e, H => ∃ vs H', AllRes C n e H rs vs ∧ HSub H' H ∧ R (.ret (resLV vs)) H'
  | [], .panicking ch, _, H => ∃ H', HSub H' H ∧ R (.panic ch) H'
  | [], .run, _, _ => False
  | d :: ds, u, e, H => u ≠ .run ∧ ∃ f cap H1 F, d = { target := .fn (.func f) cap, args := #[] } ∧ TEnter C.P f ∧ H.Perm (H1 ++ F) ∧
      LCallsD C f (cap.toList.map .atom) u H1 fun u' H' => LeavesL C n rs R ds (settle u') e (H' ++ F)
/-- Every way out bears what the slots hold. -/
def liftP (C : Ctx) (n : Nat) (w : World) (L : Live) (K : List Nat) (Q : Post) : Exit → Act → World → Prop :=
  fun x a' w' => ∃ e' H' L', Fr K w L w' L' H' ∧ RelH C w' L' H' ∧ RelE n a' e' w' L' ∧ Q x e' H'
theorem liftP_trans {C : Ctx} {n : Nat} {w w1 : World} {L L1 : Live} {K : List Nat} {H1 : Heap} {Q : Post} (f : Fr K w L w1 L1 H1) {x : Exit} {a : Act} {w' : World}
    (k : liftP C n w1 L1 (keys H1) Q x a w') : liftP C n w L K Q x a w' :=
  let ⟨e', H', L', h1, h2, h3, h4⟩ := k
  ⟨e', H', L', f.trans h1, h2, h3, h4⟩
def LOpsP (C : Ctx) (n : Nat) (ops : Array Oper) (Q : Post) (rest : List Oper) (e : Env) (H : Heap) : Prop :=
  ∀ a w L, RelE n a e w L → RelH C w L H → wpList C.P ops (liftP C n w L (keys H) Q) rest a w
def LCodeP (C : Ctx) (n : Nat) (c : Code) (Q : Post) (e : Env) (H : Heap) : Prop :=
  ∀ a w L, RelE n a e w L → RelH C w L H → c.wp C.P (liftP C n w L (keys H) Q) a w
section P
variable {C : Ctx} {n : Nat} {ops : Array Oper} {Q : Post} {e : Env} {H : Heap}
theorem LOpsP.nil (h : Q .normal e H) : LOpsP C n ops Q [] e H := fun _ _ L hE hH => ⟨e, H, L, Fr.refl _ _ _, hH, hE, h⟩
theorem LOpsP.step {dst : Option Nat} {op : Op} {ty : TypeId} {pos : String} {aft : Array Edge} {rest : List Oper}
    (h : LStep C ⟨dst, op, ty, pos, aft, none⟩ e H (fun lv H' => LOpsP C n ops Q rest (e.put dst lv) H') (fun ch H' => Q (.panic ch) e H'))
    (hd : dstOk n dst) : LOpsP C n ops Q (⟨dst, op, ty, pos, aft, none⟩ :: rest) e H := fun a w L hE hH => by
  unfold wpList
  rw [if_pos (by simp [Region.wanted])]
  have hs := h a.eval w L hE.ev hH
  refine .inl ?_
  unfold Oper.wp
  have left : ∀ {w' v}, Left C w L H w' v (fun lv H' => LOpsP C n ops Q rest (e.put dst lv) H') → wpList C.P ops (liftP C n w L (keys H) Q) rest (a.put dst v) w' := fun h => by
    obtain ⟨lv, H', L', h1, h2, h3, h4⟩ := h
    exact wpList_mono (fun _ _ _ => liftP_trans h1) _ _ _ (h4 _ _ L' ((hE.mono h1.ext).put hd h3) h2)
  have leftX : ∀ {w' ch}, LeftX C w L H w' (fun H' => Q (.panic ch) e H') → liftP C n w L (keys H) Q (.panic ch) a w' := fun h => by
    obtain ⟨H', L', h1, h2, h3⟩ := h
    exact ⟨e, H', L', h1, h2, hE.mono h1.ext, h3⟩
  generalize (execOp a.eval ⟨dst, op, ty, pos, aft, none⟩).run C.P w = r at hs ⊢
  unfold StepOut at hs
  split at hs
  · exact left hs
  · exact left hs
  · obtain ⟨rfl, hs⟩ := hs
    refine Calls.mono hs fun e w' he => ?_
    cases e with
    | returned v => exact left he
    | panicked ch => exact leftX he
    | outgrown => exact he.elim
  · exact leftX hs
  · exact hs.elim
theorem LOpsP.pure {dst : Option Nat} {op : Op} {ty : TypeId} {pos : String} {aft : Array Edge} {rest : List Oper} {lv : LV}
    (h : Pure C ⟨dst, op, ty, pos, aft, none⟩ e H lv) (hd : dstOk n dst) (k : LOpsP C n ops Q rest (e.put dst lv) H) : LOpsP C n ops Q (⟨dst, op, ty, pos, aft, none⟩ :: rest) e H :=
  LOpsP.step (h.step k) hd
theorem LCodeP.region {id : Nat} {l : List Oper} (h : LOpsP C n l.toArray Q l e H) : LCodeP C n (.region id l.toArray false) Q e H := fun a w L hE hH => wp_region_lit (h a w L hE hH)
theorem LCodeP.ret (h : Q .ret e H) : LCodeP C n .ret Q e H := fun _ _ L hE hH => wp_ret ⟨e, H, L, Fr.refl _ _ _, hH, hE, h⟩
theorem LCodeP.skip (h : Q .normal e H) : LCodeP C n .skip Q e H := fun _ _ L hE hH => wp_skip ⟨e, H, L, Fr.refl _ _ _, hH, hE, h⟩
theorem LCodeP.seq {x y : Code} (h : LCodeP C n x (QThen (fun e H => LCodeP C n y Q e H) Q) e H) : LCodeP C n (.seq x y) Q e H := fun a w L hE hH => by
  refine wp_seq (Go.wp_mono (h a w L hE hH) fun ex a' w' hq => ?_)
  obtain ⟨e', H', L', h1, h2, h3, h4⟩ := hq
  cases ex with
  | normal => exact Go.wp_mono (h4 a' w' L' h3 h2) fun _ _ _ => liftP_trans h1
  | exit id => exact ⟨e', H', L', h1, h2, h3, h4⟩
  | goto id => exact ⟨e', H', L', h1, h2, h3, h4⟩
  | ret => exact ⟨e', H', L', h1, h2, h3, h4⟩
  | panic ch => exact ⟨e', H', L', h1, h2, h3, h4⟩
  | outgrown => exact ⟨e', H', L', h1, h2, h3, h4⟩
theorem LCodeP.block {id : Nat} {c : Code} (h : LCodeP C n c (QBlock id Q) e H) : LCodeP C n (.block id c) Q e H := fun a w L hE hH => by
  refine wp_block (Go.wp_mono (h a w L hE hH) fun ex a' w' hq => ?_)
  obtain ⟨e', H', L', h1, h2, h3, h4⟩ := hq
  cases ex with
  | exit id' =>
    simp only [Exit.inBlock, QBlock] at h4 ⊢
    split
    · rename_i hid; rw [if_pos hid] at h4; exact ⟨e', H', L', h1, h2, h3, h4⟩
    · rename_i hid; rw [if_neg hid] at h4; exact ⟨e', H', L', h1, h2, h3, h4⟩
  | normal => exact ⟨e', H', L', h1, h2, h3, h4⟩
  | goto id => exact ⟨e', H', L', h1, h2, h3, h4⟩
  | ret => exact ⟨e', H', L', h1, h2, h3, h4⟩
  | panic ch => exact ⟨e', H', L', h1, h2, h3, h4⟩
  | outgrown => exact ⟨e', H', L', h1, h2, h3, h4⟩
theorem LCodeP.cond {c : Operand} {x y : Code} {t : Bool} (hc : e.ev c = .atom (.bool t)) (ht : t = true → LCodeP C n x Q e H) (hf : t = false → LCodeP C n y Q e H) : LCodeP C n (.cond c x y) Q e H :=
  fun a w L hE hH => by
    have hv := hE.ev c
    rw [hc] at hv
    simp only [Rep] at hv
    exact wp_cond_split hv (fun h => ht h a w L hE hH) (fun h => hf h a w L hE hH)
/-- Code that does not panic. -/
def QNo (Q : Post) : Post
  | .panic _, _, _ => False
  | x, e, H => Q x e H
theorem LCodeP.of {c : Code} (h : LCode C n c (QNo Q) e H) : LCodeP C n c Q e H := fun a w L hE hH => by
  refine Go.wp_mono (h a w L hE hH) fun ex a' w' hq => ?_
  obtain ⟨e', H', L', h1, h2, h3, h4⟩ := hq
  cases ex with
  | panic ch => exact h4.elim
  | normal => exact ⟨e', H', L', h1, h2, h3, h4⟩
  | exit id => exact ⟨e', H', L', h1, h2, h3, h4⟩
  | goto id => exact ⟨e', H', L', h1, h2, h3, h4⟩
  | ret => exact ⟨e', H', L', h1, h2, h3, h4⟩
  | outgrown => exact ⟨e', H', L', h1, h2, h3, h4⟩
theorem QNo.normal {k : Env → Heap → Prop} (h : k e H) : QNo (QThen k Q) .normal e H := h
theorem QNo.norm (h : Q .normal e H) : QNo Q .normal e H := h
theorem QNo.ret (h : Q .ret e H) : QNo Q .ret e H := h
end P
/-- What the body must achieve. -/
def RetPostD (C : Ctx) (n : Nat) (rs : List ResultVar) (R : LRes → Heap → Prop) : Post
  | .normal, e, H | .ret, e, H => LeavesL C n rs R e.ds .returning e H
  | .panic ch, e, H => LeavesL C n rs R e.ds (.panicking ch) e H
  | _, _, _ => False
theorem leavesL {C : Ctx} {n : Nat} {fn : Func} {R : LRes → Heap → Prop} {w0 : World} {L0 : Live} {H0 : Heap} (h3 : fn.results.size ≤ 3) (tmps : Array Value) : ∀ (ds : List Deferred) (u : FrameMode) (e : Env) (H : Heap) (w : World) (L : Live), tmps.size = n → (∀ i, Rep w L (e.s i) (tmps.getD i undef)) → RelH C w L H → Fr (keys H0) w0 L0 w L H →
    LeavesL C n fn.results.toList R ds u e H → Leaves C.P fn tmps (CallPost C w0 L0 H0 (fun v => R (.ret v)) (fun ch => R (.panic ch))) ds u w
  | [], .returning, e, H, w, L, hn, hv, hH, hF, h => by
    obtain ⟨vs, H', h1, h2, h5⟩ := h
    obtain ⟨v, r1, r2⟩ := results_of (a := { tmps, defers := e.ds }) ⟨hn, rfl, hv⟩ hH h1 h3
    exact ⟨v, r1, resLV vs, H', L, hF.weak h2, hH.weak h2, r2, h5⟩
  | [], .panicking ch, e, H, w, L, hn, hv, hH, hF, h => by
    obtain ⟨H', h2, h5⟩ := h
    exact ⟨H', L, hF.weak h2, hH.weak h2, h5⟩
  | [], .run, e, H, w, L, hn, hv, hH, hF, h => h.elim
  | d :: ds, u, e, H, w, L, hn, hv, hH, hF, h => by
    obtain ⟨hu, f, cap, H1, F, rfl, hen, hp, hc⟩ := h
    refine ⟨hu, .func f, cap, f, cap, rfl, by simp [invoke, run_callFunc], ?_⟩
    have hH' := hH.perm hp
    have := hc cap.toList w L (repL_atoms _) hH'.left
    simp only [Array.toArray_toList] at this
    refine CallsD.mono this ?_
    rintro ex u' w' ⟨⟨v, rfl⟩, hx⟩
    obtain ⟨H', L', g1, g2, g3⟩ := LeftX.frame hH' hx
    exact leavesL h3 tmps ds (settle u') e H' w' L' hn (fun i => (hv i).mono g1.ext _ _) g2 (hF.trans (g1.perm hp.symm)) g3
theorem LCallsD.mono {C : Ctx} {f : FuncId} {args : List LV} {u : FrameMode} {H : Heap} {R R' : FrameMode → Heap → Prop} (h : LCallsD C f args u H R) (hr : ∀ u H, R u H → R' u H) : LCallsD C f args u H R' := fun vs w L h1 h2 =>
  CallsD.mono (h vs w L h1 h2) fun _ _ _ ⟨h3, h4⟩ => ⟨h3, h4.mono (hr _)⟩
/-- Entering a function that defers. -/
theorem LCalls.introD {C : Ctx} {f : FuncId} {fn : Func} {c : Code} {n : Nat} {args : List LV} {H : Heap} {R : LRes → Heap → Prop} (hf : C.P.funcs[f]? = some fn) (hb : fn.body = some c) (hn : fn.ntmps = n) (h3 : Nat.ble fn.results.size 3 = true)
    (hl : Nat.ble args.length n = true) (h : LCodeP C n c (RetPostD C n fn.results.toList R) (argsEnv args) H) : LCalls C f args H R := fun vs w L hv hH => by
  subst hn
  have hl' : args.length ≤ fn.ntmps := by simpa using hl
  have h3' : fn.results.size ≤ 3 := by simpa using h3
  have hlen := hv.length
  refine calls_of_wp_defers hf hb (Go.wp_mono (h _ w L ⟨?_, rfl, fun i => ?_⟩ hH) fun ex a' w' hq => ?_)
  · simp; omega
  · simp only [argsEnv]
    rw [Array.getD_eq_getD_getElem?]
    rcases Nat.lt_or_ge i args.length with hi | hi
    · rw [List.getElem?_eq_getElem hi]
      obtain ⟨x, hx, hr⟩ := hv.get (List.getElem?_eq_getElem hi)
      have hxi : (vs.toArray ++ Array.replicate (fn.ntmps - vs.toArray.size) undef)[i]? = some x := by
        rw [Array.getElem?_append_left (by simp; omega)]
        simpa using hx
      rw [hxi]
      exact hr
    · rw [List.getElem?_eq_none hi]
      have hxi : ((vs.toArray ++ Array.replicate (fn.ntmps - vs.toArray.size) undef)[i]?).getD undef = undef := by
        rw [Array.getElem?_append_right (by simp; omega)]
        rw [Array.getElem?_replicate]
        split <;> rfl
      rw [hxi]
      simp only [Option.getD_none, Rep]
  · obtain ⟨e', H', L', g1, g2, g3, g4⟩ := hq
    have ret : ∀ u, LeavesL C fn.ntmps fn.results.toList R e'.ds u e' H' → Leaves C.P fn a'.tmps (CallPost C w L H (fun v => R (.ret v)) (fun ch => R (.panic ch))) a'.defers u w' := fun u hu => by
      rw [g3.ds]
      exact leavesL h3' a'.tmps _ u e' H' w' L' g3.size g3.vals g2 g1 hu
    cases ex with
    | normal => exact ret _ g4
    | ret => exact ret _ g4
    | panic ch => exact ret _ g4
    | exit id => exact g4.elim
    | goto id => exact g4.elim
    | outgrown => exact g4.elim
abbrev PostS := Exit → FrameMode → Env → Heap → Prop
/-- Code of a deferred call, which may turn its caller's mode. -/
def LCodeS (C : Ctx) (n : Nat) (c : Code) (Q : PostS) (u : FrameMode) (e : Env) (H : Heap) : Prop :=
  ∀ a w L (c0 : Frame) cs, c0.mode = u → RelE n a e w L → RelH C w L H →
    c.wpS C.P (fun x a' cs' w' => ∃ u' e' H' L', cs' = { c0 with mode := u' } :: cs ∧ Fr (keys H) w L w' L' H' ∧ RelH C w' L' H' ∧ RelX n x a' e' w' L' ∧ Q x u' e' H') a (c0 :: cs) w
theorem wpS_mono {P : Program} {c : Code} {Q Q' : Exit → Act → List Frame → World → Prop} {a : Act} {cs : List Frame} {w : World} (h : c.wpS P Q a cs w) (hq : ∀ x a cs w, Q x a cs w → Q' x a cs w) : c.wpS P Q' a cs w := fun b k h1 h2 =>
  let ⟨e, a', cs', w', q, r⟩ := h b k h1 h2
  ⟨e, a', cs', w', hq _ _ _ _ q, r⟩
section S
variable {C : Ctx} {n : Nat} {Q : PostS} {u : FrameMode} {e : Env} {H : Heap}
theorem LCodeS.of {c : Code} (h : LCode C n c (fun x e H => Q x u e H) e H) : LCodeS C n c Q u e H := fun a w L c0 cs hu hE hH => by
  refine wpS_of_wp (Go.wp_mono (h a w L hE hH) fun x a' w' hq => ?_)
  obtain ⟨e', H', L', h1, h2, h3, h4⟩ := hq
  exact ⟨u, e', H', L', by subst hu; rfl, h1, h2, h3, h4⟩
theorem LCodeS.seq {x y : Code} (h : LCodeS C n x (fun ex u' e' H' => match ex with | .normal => LCodeS C n y Q u' e' H' | ex => Q ex u' e' H') u e H) : LCodeS C n (.seq x y) Q u e H := fun a w L c0 cs hu hE hH => by
  refine wpS_seq (wpS_mono (h a w L c0 cs hu hE hH) fun ex a' cs' w' hq => ?_)
  obtain ⟨u', e', H', L', rfl, h1, h2, h3, h4⟩ := hq
  cases ex with
  | normal =>
    refine wpS_mono (h4 a' w' L' { c0 with mode := u' } cs rfl h3 h2) ?_
    rintro ex a2 cs2 w2 ⟨u2, e2, H2, L2, rfl, g1, g2, g3, g4⟩
    exact ⟨u2, e2, H2, L2, rfl, h1.trans g1, g2, g3, g4⟩
  | exit id => exact ⟨u', e', H', L', rfl, h1, h2, h3, h4⟩
  | goto id => exact ⟨u', e', H', L', rfl, h1, h2, h3, h4⟩
  | ret => exact ⟨u', e', H', L', rfl, h1, h2, h3, h4⟩
  | panic ch => exact ⟨u', e', H', L', rfl, h1, h2, h3, h4⟩
  | outgrown => exact ⟨u', e', H', L', rfl, h1, h2, h3, h4⟩
/-- What recover hands back, and the caller's mode behind it. -/
def recMode : FrameMode → Value × FrameMode
  | .panicking ({ v, recovered := false, goexit := false } :: older) => (v, .panicking ({ v, recovered := true } :: older))
  | u => (.nilIface, u)
theorem recover_run {P : Program} {ρ : Operand → Value} {dst : Option Nat} {ty : TypeId} {pos : String} {aft : Array Edge} {g : Option (Nat × Bool)} (w : World) :
    (execOp ρ ⟨dst, .call { callee := .builtin .recover, args := #[], argTypes := #[] }, ty, pos, aft, g⟩).run P w = .ok .recover w := by
  rfl
theorem recoverD_eq (c0 : Frame) (cs : List Frame) : recoverD (c0 :: cs) = none ∧ recMode c0.mode = (.nilIface, c0.mode) ∨ recoverD (c0 :: cs) = some ((recMode c0.mode).1, { c0 with mode := (recMode c0.mode).2 } :: cs) := by
  obtain ⟨fn, tmps, todo, defers, mode, kind, ro⟩ := c0
  cases mode with
  | run => exact .inl ⟨rfl, rfl⟩
  | returning => exact .inl ⟨rfl, rfl⟩
  | panicking ch =>
    cases ch with
    | nil => exact .inl ⟨rfl, rfl⟩
    | cons p older =>
      obtain ⟨v, r, g⟩ := p
      cases r <;> cases g <;> first | exact .inl ⟨rfl, rfl⟩ | exact .inr rfl
theorem LCodeS.recover {id t s : Nat} {ty ty' : TypeId} {pos pos' : String} {aft aft' : Array Edge} (ht : Nat.blt t n = true) (hs : Nat.blt s n = true) (h : Q .normal (recMode u).2 ((e.upd t (.atom (recMode u).1)).upd s (.atom (recMode u).1)) H) :
    LCodeS C n (.region id #[⟨some t, .call { callee := .builtin .recover, args := #[], argTypes := #[] }, ty, pos, aft, none⟩, ⟨some s, .assign (.tmp t), ty', pos', aft', none⟩] false) Q u e H := fun a w L c0 cs hu hE hH => by
  refine wpS_region ?_
  have hE1 : ∀ v, RelE n (a.put (some t) v) (e.upd t (.atom v)) w L := fun v => hE.put (dst := some t) (by simp only [dstOk, dstB]; exact ht) rep_atom
  have hev : ∀ v, (a.put (some t) v).eval (.tmp t) = v := fun v => by
    have := (hE1 v).ev (.tmp t)
    simpa [Env.ev, Env.upd, Rep] using this
  have hE2 : ∀ v, RelE n ((a.put (some t) v).put (some s) v) ((e.upd t (.atom v)).upd s (.atom v)) w L := fun v => (hE1 v).put (dst := some s) (by simp only [dstOk, dstB]; exact hs) rep_atom
  have h1 : ∀ v cs1, wpOpsS C.P #[⟨some t, .call { callee := .builtin .recover, args := #[], argTypes := #[] }, ty, pos, aft, none⟩, ⟨some s, .assign (.tmp t), ty', pos', aft', none⟩] (fun x a' cs' w' => ∃ u' e' H' L', cs' = { c0 with mode := u' } :: cs ∧ Fr (keys H) w L w' L' H' ∧ RelH C w' L' H' ∧ RelX n x a' e' w' L' ∧ Q x u' e' H') [1] (a.put (some t) v) cs1 w
      ↔ (fun x a' cs' w' => ∃ u' e' H' L', cs' = { c0 with mode := u' } :: cs ∧ Fr (keys H) w L w' L' H' ∧ RelH C w' L' H' ∧ RelX n x a' e' w' L' ∧ Q x u' e' H') Exit.normal ((a.put (some t) v).put (some s) v) cs1 w := by
    intro v cs1
    have hr : (execOp (a.put (some t) v).eval ⟨some s, .assign (.tmp t), ty', pos', aft', none⟩).run C.P w = .ok (.value ((a.put (some t) v).eval (.tmp t))) w := rfl
    simp only [wpOpsS, List.getElem?_toArray, List.getElem?_cons_succ, List.getElem?_cons_zero, Region.wanted, if_true, hr, Oper.upon, hev]
  have h0 : (execOp a.eval ⟨some t, .call { callee := .builtin .recover, args := #[], argTypes := #[] }, ty, pos, aft, none⟩).run C.P w = .ok .recover w := recover_run w
  have hl : List.range (#[(⟨some t, .call { callee := .builtin .recover, args := #[], argTypes := #[] }, ty, pos, aft, none⟩ : Oper), ⟨some s, .assign (.tmp t), ty', pos', aft', none⟩] : Array Oper).size = [0, 1] := rfl
  rw [hl, wpOpsS]
  simp only [List.getElem?_toArray, List.getElem?_cons_zero, Region.wanted, if_true, h0]
  rcases recoverD_eq c0 cs with ⟨h2, h3⟩ | h2
  · simp only [h2]
    rw [h1]
    subst hu
    rw [h3] at h
    exact ⟨c0.mode, _, H, L, rfl, Fr.refl _ _ _, hH, hE2 _, h⟩
  · simp only [h2]
    rw [h1]
    subst hu
    exact ⟨_, _, H, L, rfl, Fr.refl _ _ _, hH, hE2 _, h⟩
/-- Entering a deferred function that hands back nothing. -/
def RetPostS (R : FrameMode → Heap → Prop) : PostS
  | .normal, u, e, H | .ret, u, e, H => e.ds = [] ∧ ∃ H', HSub H' H ∧ R u H'
  | _, _, _, _ => False
theorem LCallsD.intro {f : FuncId} {fn : Func} {c : Code} {args : List LV} {R : FrameMode → Heap → Prop} (hf : C.P.funcs[f]? = some fn) (hb : fn.body = some c) (hn : fn.ntmps = n) (h3 : fn.results = #[])
    (hl : Nat.ble args.length n = true) (h : LCodeS C n c (RetPostS R) u (argsEnv args) H) : LCallsD C f args u H R := fun vs w L hv hH => by
  subst hn
  have hl' : args.length ≤ fn.ntmps := by simpa using hl
  have hlen := hv.length
  have hE0 : RelE fn.ntmps { tmps := vs.toArray ++ Array.replicate (fn.ntmps - vs.toArray.size) undef, defers := [] } (argsEnv args) w L := by
    refine ⟨?_, rfl, fun i => ?_⟩
    · simp; omega
    · simp only [argsEnv]
      rw [Array.getD_eq_getD_getElem?]
      rcases Nat.lt_or_ge i args.length with hi | hi
      · rw [List.getElem?_eq_getElem hi]
        obtain ⟨x, hx, hr⟩ := hv.get (List.getElem?_eq_getElem hi)
        have hxi : (vs.toArray ++ Array.replicate (fn.ntmps - vs.toArray.size) undef)[i]? = some x := by
          rw [Array.getElem?_append_left (by simp; omega)]
          simpa using hx
        rw [hxi]
        exact hr
      · rw [List.getElem?_eq_none hi]
        have hxi : ((vs.toArray ++ Array.replicate (fn.ntmps - vs.toArray.size) undef)[i]?).getD undef = undef := by
          rw [Array.getElem?_append_right (by simp; omega)]
          rw [Array.getElem?_replicate]
          split <;> rfl
        rw [hxi]
        simp only [Option.getD_none, Rep]
  refine callsD_of_wpS hf hb fun c0 cs hu => wpS_mono (h _ w L c0 cs hu hE0 hH) fun ex a' cs' w' hq => ?_
  obtain ⟨u', e', H', L', rfl, g1, g2, g3, g4⟩ := hq
  have fin : RelE fn.ntmps a' e' w' L' → (e'.ds = [] ∧ ∃ H'', HSub H'' H' ∧ R u' H'') → a'.defers = [] ∧ ∃ u'', ({ c0 with mode := u' } :: cs : List Frame) = { c0 with mode := u'' } :: cs ∧ ∃ v, (results fn a'.tmps).run C.P w' = .ok v w' ∧ (∃ v', Ending.returned v = .returned v') ∧ LeftX C w L H w' (R u'') := fun hE ⟨h1, H'', h2, h4⟩ =>
    ⟨hE.ds.trans h1, u', rfl, _, results0 h3 _ _, ⟨_, rfl⟩, H'', L', g1.weak h2, g2.weak h2, h4⟩
  cases ex with
  | normal => exact fin g3 g4
  | ret => exact fin g3 g4
  | panic ch => exact g4.elim
  | exit id => exact g4.elim
  | goto id => exact g4.elim
  | outgrown => exact g4.elim
end S
section defer
variable {C : Ctx} {n : Nat} {ops : Array Oper} {Q : Post} {e : Env} {H : Heap}
theorem LOpsP.defer {dst : Option Nat} {fo : Operand} {f : FuncId} {caps : Array Value} {ty : TypeId} {pos : String} {aft : Array Edge} {rest : List Oper} (hf : e.ev fo = .atom (.func (.func f) #[] caps)) (hd : dst = none)
    (k : LOpsP C n ops Q rest ⟨e.s, { target := .fn (.func f) caps, args := #[] } :: e.ds⟩ H) : LOpsP C n ops Q (⟨dst, .defer { callee := .value fo, args := #[], argTypes := #[] }, ty, pos, aft, none⟩ :: rest) e H := fun a w L hE hH => by
  subst hd
  have hv := hE.ev fo
  rw [hf] at hv
  simp only [Rep] at hv
  have hr : (execOp a.eval ⟨none, .defer { callee := .value fo, args := #[], argTypes := #[] }, ty, pos, aft, none⟩).run C.P w = .ok (.defer { target := .fn (.func f) caps, args := #[] }) w := by
    have h3 : execOp a.eval ⟨none, .defer { callee := .value fo, args := #[], argTypes := #[] }, ty, pos, aft, none⟩ = (do let d ← Deferred.ofValue (a.eval fo) ((#[] : Array Operand).map a.eval); Pure.pure (.defer d)) := rfl
    rw [h3, hv]
    simp only [Deferred.ofValue, List.map_toArray, List.map_nil]
    rfl
  unfold wpList
  rw [if_pos (by simp [Region.wanted])]
  refine .inl ?_
  unfold Oper.wp
  rw [hr]
  simp only [Oper.upon, Act.put]
  exact k _ w L ⟨hE.size, by show _ :: a.defers = _; rw [hE.ds], hE.vals⟩ hH
end defer
end Go.GL
namespace Go.Proofs.YtfodkbchknknjaaGreatDoor
open Go.GL Go.RowKit Go.Stele
set_option maxRecDepth 100000
set_option maxHeartbeats 4000000
theorem tok_lex {s : List UInt8} {T : List Tok} (h : lexAllP s = .ok T) : TOK T := by
  unfold lexAllP at h
  split at h
  · cases h
  · obtain ⟨h1, h2⟩ := lexP_ok _ _ _ _ h
    exact ⟨by omega, fun t ht => by have := (h2 t ht).1; omega, fun t ht hk => by
      obtain ⟨u, h3, h4, _⟩ := (h2 t ht).2 hk
      exact ⟨u, h3, h4⟩⟩
instance : TIface Tryz.prog 20 := .of (by kernel_rfl)
def noPr : Pr := ⟨[], [], []⟩
/-- What Parse returns. -/
def parseP (s : List UInt8) : Pr × Int × Int := match lexAllP s with
  | .error (l, e) => (noPr, l, e)
  | .ok T => match sProg T (10 * T.length + 20) noPr 0 0 with
    | some (.ok p _ _) => (p, 0, 0)
    | some (.err l e) => (noPr, l, e)
    | none => (noPr, 0, 0)
def encParse (r : Pr × Int × Int) : LV := .tuple [encPr r.1, int .i64 r.2.1, int .i64 r.2.2]
theorem RetPostD.ret1 {C : Ctx} {n : Nat} {e : Env} {H H' H1 H2 F : Heap} {R : LRes → Heap → Prop} {rs : List ResultVar} {vs : List LV} {f : FuncId} {caps : Array Value} [hen : TEnter C.P f] (hd : e.ds = [{ target := .fn (.func f) caps, args := #[] }]) (hp : H.Perm (H1 ++ F))
    (hc : LCallsD C f (caps.toList.map .atom) .returning H1 (fun u H' => u = .returning ∧ H' = H2)) (h : AllRes C n e (H2 ++ F) rs vs) (hH : HSub H' (H2 ++ F)) (hR : R (.ret (resLV vs)) H') : RetPostD C n rs R .ret e H := by
  unfold RetPostD
  simp only [hd]
  refine ⟨by simp, f, caps, H1, F, rfl, hen, hp, LCallsD.mono hc ?_⟩
  rintro u H'' ⟨rfl, rfl⟩
  exact ⟨vs, H', h, hH, hR⟩
theorem RetPostD.panic1 {C : Ctx} {n : Nat} {e : Env} {H H' H1 H2 F : Heap} {R : LRes → Heap → Prop} {rs : List ResultVar} {vs : List LV} {f : FuncId} {caps : Array Value} {ch : List PanicEntry} [hen : TEnter C.P f] (hd : e.ds = [{ target := .fn (.func f) caps, args := #[] }]) (hp : H.Perm (H1 ++ F))
    (hc : LCallsD C f (caps.toList.map .atom) (.panicking ch) H1 (fun u H' => settle u = .returning ∧ H' = H2)) (h : AllRes C n e (H2 ++ F) rs vs) (hH : HSub H' (H2 ++ F)) (hR : R (.ret (resLV vs)) H') : RetPostD C n rs R (.panic ch) e H := by
  unfold RetPostD
  simp only [hd]
  refine ⟨by simp, f, caps, H1, F, rfl, hen, hp, LCallsD.mono hc ?_⟩
  rintro u H'' ⟨hu, rfl⟩
  rw [hu]
  exact ⟨vs, H', h, hH, hR⟩
def resP : Res Pr → Pr × Int × Int
  | .ok p _ _ => (p, 0, 0)
  | .err l e => (noPr, l, e)
theorem lexP_err : ∀ (f : Nat) (s : List UInt8) (line l e : Int), lexP f s line = .error (l, e) → ¬ e = 0
  | 0, s, line, l, e, h => by
    rw [lexP] at h
    cases h
  | f + 1, s, line, l, e, h => by
    rw [lexP] at h
    split at h
    · cases h
    · split at h
      · split at h
        · rename_i he
          cases h
          exact he
        · cases hx : lexP f (s.drop (lexToken s).2.1) (line + ((s.take (lexToken s).2.1).count 10 : Nat)) with
          | ok T => rw [hx] at h; cases h
          | error p =>
            rw [hx] at h
            cases h
            exact lexP_err f _ _ _ _ hx
      · exact lexP_err f _ _ _ _ h
theorem lexAllP_err {s : List UInt8} {l e : Int} (h : lexAllP s = .error (l, e)) : ¬ e = 0 := by
  unfold lexAllP at h
  split at h
  · cases h
    decide
  · exact lexP_err _ _ _ _ _ h
attribute [local irreducible] LOps LCode LStep LCalls Go.GL.Pure QThen QBlock RetPost LQ LAny LLate LLateOp LOpsP LCodeP LCodeS LCallsD
section
variable {B0 : Nat} {w0 : World}
theorem rec_ret (b2 b3 b4 : Nat) (cs : List LV) (c d : LV) : LCallsD (KC B0 w0) 27 [ptr b2 0, ptr b3 0, ptr b4 0] .returning [(b2, .cells 27 cs), (b3, .cells 3 [c]), (b4, .cells 28 [d])]
    (fun u H => u = .returning ∧ H = [(b2, .cells 27 cs), (b3, .cells 3 [c]), (b4, .cells 28 [d])]) := by
  refine LCallsD.intro Tryz.func27 rfl (n := 22) rfl rfl rfl ?_
  refine LCodeS.seq (LCodeS.recover rfl rfl ?_)
  refine LCodeS.of ?_
  repeat first
    | refine LOps.nil ?_
    | refine LCode.seq ?_
    | refine LCode.region ?_
    | refine QThen.normal ?_
    | refine LOps.pure (Pure.mv (lv := .atom _) rfl) rfl ?_
    | refine LOps.pure (Pure.nilNeqNil rfl) rfl ?_
  refine LCode.cond rfl (fun hc => ?_) (fun hc => ?_)
  · cases hc
  · repeat first
      | refine LCode.skip ?_
    exact ⟨rfl, _, HSub.refl _, rfl, rfl⟩
theorem rec_pan (b2 b3 b4 : Nat) (c1 c2 c3 c d : LV) (l er : Int) : LCallsD (KC B0 w0) 27 [ptr b2 0, ptr b3 0, ptr b4 0] (.panicking (pan l er)) [(b2, .cells 27 [c1, c2, c3]), (b3, .cells 3 [c]), (b4, .cells 28 [d])]
    (fun u H => settle u = .returning ∧ H = [(b2, .cells 27 [nilSlice, nilSlice, nilSlice]), (b3, .cells 3 [int .i64 l]), (b4, .cells 28 [int .i64 er])]) := by
  refine LCallsD.intro Tryz.func27 rfl (n := 22) rfl rfl rfl ?_
  refine LCodeS.seq (LCodeS.recover rfl rfl ?_)
  refine LCodeS.of ?_
  repeat first
    | refine LOps.nil ?_
    | refine LCode.seq ?_
    | refine LCode.region ?_
    | refine QThen.normal ?_
    | refine LOps.pure (Pure.mv (lv := .atom _) rfl) rfl ?_
    | refine LOps.pure (Pure.ifaceNeqNil rfl) rfl ?_
  refine LCode.cond rfl (fun hc => ?_) (fun hc => ?_)
  · repeat first
      | refine LCode.seq ?_
      | refine LCode.region ?_
      | refine LOps.pure (Pure.mv (lv := .atom _) rfl) rfl ?_
    refine LOps.pure (Pure.assertOk (vs := [.int .i64 l, .int .i64 er]) rfl) rfl ?_
    repeat first
      | refine LOps.pure (Pure.mv (lv := .tuple _) rfl) rfl ?_
      | refine LOps.pure (Pure.extract (c := .agg _) rfl rfl) rfl ?_
      | refine LOps.pure (Pure.extract (c := .atom _) rfl rfl) rfl ?_
    refine LOps.step (S.alloc fun b5 => ?_) rfl
    repeat first
      | refine LOps.nil ?_
      | refine LCode.seq ?_
      | refine LCode.region ?_
      | refine QThen.normal ?_
      | refine LOps.pure (Pure.as (lv := .atom _) rfl) rfl ?_
      | refine LOps.pure (Pure.mv (lv := .atom _) rfl) rfl ?_
      | refine LOps.pure (Pure.not rfl) rfl ?_
      | refine LOps.step (S.store (cs' := [_, _]) rfl Pick.here rfl rfl rfl rfl rfl ?_) rfl
    refine LCode.cond rfl (fun hd => ?_) (fun hd => ?_)
    · cases hd
    · repeat first
        | refine LCode.skip ?_
        | refine QThen.normal ?_
      refine LCode.draw (m := 8) rfl [(b5, .cells 57 [int .i64 l, int .i64 er])] ?_
      refine LAny.take (i := 0) (by first | exact HSub.nil _ | exact HSub.refl _ | exact HSub.drop (HSub.refl _) | exact HSub.pick Pick.here (HSub.nil _) | exact HSub.pick (Pick.there Pick.here) (HSub.nil _) | exact HSub.pick (Pick.there (Pick.there Pick.here)) (HSub.nil _)) rfl (by kernel_rfl) (by kernel_rfl) (by kernel_rfl) rfl (Pure.bld _ (cs := [_, _, _]) rfl) ?_
      refine LAny.take (i := 1) (by first | exact HSub.nil _ | exact HSub.refl _ | exact HSub.drop (HSub.refl _) | exact HSub.pick Pick.here (HSub.nil _) | exact HSub.pick (Pick.there Pick.here) (HSub.nil _) | exact HSub.pick (Pick.there (Pick.there Pick.here)) (HSub.nil _)) rfl (by kernel_rfl) (by kernel_rfl) (by kernel_rfl) rfl (Pure.fieldH rfl) ?_
      refine LAny.take (i := 2) (by first | exact HSub.nil _ | exact HSub.refl _ | exact HSub.drop (HSub.refl _) | exact HSub.pick Pick.here (HSub.nil _) | exact HSub.pick (Pick.there Pick.here) (HSub.nil _) | exact HSub.pick (Pick.there (Pick.there Pick.here)) (HSub.nil _)) rfl (by kernel_rfl) (by kernel_rfl) (by kernel_rfl) rfl (Pure.loadH (c := .atom _) rfl (List.Mem.head _) rfl) ?_
      refine LAny.take (i := 3) (by first | exact HSub.nil _ | exact HSub.refl _ | exact HSub.drop (HSub.refl _) | exact HSub.pick Pick.here (HSub.nil _) | exact HSub.pick (Pick.there Pick.here) (HSub.nil _) | exact HSub.pick (Pick.there (Pick.there Pick.here)) (HSub.nil _)) rfl (by kernel_rfl) (by kernel_rfl) (by kernel_rfl) rfl (Pure.fieldH rfl) ?_
      refine LAny.take (i := 4) (by first | exact HSub.nil _ | exact HSub.refl _ | exact HSub.drop (HSub.refl _) | exact HSub.pick Pick.here (HSub.nil _) | exact HSub.pick (Pick.there Pick.here) (HSub.nil _) | exact HSub.pick (Pick.there (Pick.there Pick.here)) (HSub.nil _)) rfl (by kernel_rfl) (by kernel_rfl) (by kernel_rfl) rfl (Pure.loadH (c := .atom _) rfl (List.Mem.head _) rfl) ?_
      refine LAny.late ?_ (HSub.pick Pick.here (HSub.nil _))
      refine LLate.one (i := 5) (by kernel_rfl) (LLateOp.step (H1 := [(b2, .cells 27 [c1, c2, c3])]) (F := [(b5, .cells 57 [int .i64 l, int .i64 er]), (b3, .cells 3 [c]), (b4, .cells 28 [d])]) rfl (.inl rfl) rfl (Pick.there Pick.here) (HSub.pick Pick.here (HSub.nil _)) (S.store (cs' := [_, _, _]) rfl Pick.here rfl rfl rfl rfl rfl ?_))
      refine LLate.one (i := 6) (by kernel_rfl) (LLateOp.step (H1 := [(b3, .cells 3 [c])]) (F := [(b2, .cells 27 [nilSlice, nilSlice, nilSlice]), (b5, .cells 57 [int .i64 l, int .i64 er]), (b4, .cells 28 [d])]) rfl (.inl rfl) rfl (Pick.there (Pick.there Pick.here)) (HSub.pick (Pick.there Pick.here) (HSub.nil _)) (S.store (cs' := [_]) rfl Pick.here rfl rfl rfl rfl rfl ?_))
      refine LLate.one (i := 7) (by kernel_rfl) (LLateOp.step (H1 := [(b4, .cells 28 [d])]) (F := [(b3, .cells 3 [int .i64 l]), (b2, .cells 27 [nilSlice, nilSlice, nilSlice]), (b5, .cells 57 [int .i64 l, int .i64 er])]) rfl (.inl rfl) rfl (Pick.there (Pick.there (Pick.there Pick.here))) (HSub.pick (Pick.there (Pick.there Pick.here)) (HSub.nil _)) (S.store (cs' := [_]) rfl Pick.here rfl rfl rfl rfl rfl ?_))
      refine LLate.done (by kernel_rfl) ?_
      exact ⟨rfl, _, HSub.pick (Pick.there (Pick.there Pick.here)) (HSub.pick (Pick.there Pick.here) (HSub.pick Pick.here (HSub.nil _))), rfl, rfl⟩
  · cases hc
theorem parse_spec (hG : GW B0 w0) (s : List UInt8) (hs : s.length ≤ 1000000000) : LCalls (KC B0 w0) 12 [str s] [] (Ret (encParse (parseP s))) := by
  refine LCalls.introD Tryz.func12 rfl (n := 24) rfl rfl rfl ?_
  refine LCodeP.seq (LCodeP.of ?_)
  repeat first
    | refine LCode.region ?_
  refine LOps.step (S.alloc fun b2 => ?_) rfl
  refine LOps.step (S.alloc fun b3 => ?_) rfl
  refine LOps.step (S.alloc fun b4 => ?_) rfl
  repeat first
    | refine LOps.nil ?_
    | refine QThen.normal ?_
  refine LCodeP.seq (LCodeP.of ?_)
  repeat first
    | refine LCode.region ?_
    | refine LOps.pure (Pure.mv (lv := .atom _) rfl) rfl ?_
  refine LOps.step (S.fn [_] rfl (Tokens_spec hG s hs) ?_) rfl
  cases hL : lexAllP s with
  | error le =>
    obtain ⟨l, er⟩ := le
    have he0 : ¬ er = 0 := lexAllP_err hL
    simp only [encLex]
    repeat first
      | refine LOps.nil ?_
      | refine QThen.normal ?_
      | refine LOps.pure (Pure.mv (lv := .tuple _) rfl) rfl ?_
      | refine LOps.pure (Pure.extract (c := .list _) rfl rfl) rfl ?_
      | refine LOps.pure (Pure.extract (c := .atom _) rfl rfl) rfl ?_
      | refine LOps.pure (Pure.as (lv := .list _) rfl) rfl ?_
      | refine LOps.step (S.store (cs' := [_]) rfl (Pick.there Pick.here) rfl rfl rfl rfl rfl ?_) rfl
    refine LCodeP.seq (LCodeP.of ?_)
    repeat first
      | refine LOps.nil ?_
      | refine LCode.seq ?_
      | refine LCode.region ?_
      | refine QThen.normal ?_
      | refine LOps.pure (Pure.loadH (c := .atom _) rfl (List.Mem.head _) rfl) rfl ?_
      | refine LOps.pure (Pure.neq rfl rfl) rfl ?_
    refine LCode.cond rfl (fun hc => ?_) (fun hc => ?_)
    · repeat first
        | refine LCode.seq ?_
      refine LCode.draw (m := 6) rfl [] ?_
      refine LAny.take (i := 0) (by first | exact HSub.nil _ | exact HSub.refl _ | exact HSub.drop (HSub.refl _) | exact HSub.pick Pick.here (HSub.nil _) | exact HSub.pick (Pick.there Pick.here) (HSub.nil _) | exact HSub.pick (Pick.there (Pick.there Pick.here)) (HSub.nil _)) rfl (by kernel_rfl) (by kernel_rfl) (by kernel_rfl) rfl (Pure.bld _ (cs := [_, _, _]) rfl) ?_
      refine LAny.late ?_ (HSub.nil _)
      refine LLate.three (i := 1) (j := 2) (k := 3) (by kernel_rfl) ?_ ?_ ?_
      · refine LLateOp.pureH rfl rfl (Pure.loadH (c := .atom _) rfl (List.Mem.tail _ (List.Mem.head _)) rfl) ?_
        refine LLate.two (i := 2) (j := 3) (by kernel_rfl) ?_ ?_
        · refine LLateOp.pureH rfl rfl (Pure.loadH (c := .atom _) rfl (List.Mem.head _) rfl) ?_
          refine LLate.one (i := 3) (by kernel_rfl) ?_
          refine LLateOp.whole rfl (.inl rfl) rfl (S.store (cs' := [_, _, _]) rfl (Pick.there (Pick.there Pick.here)) rfl rfl rfl rfl rfl ?_)
          refine LLate.one (i := 4) (by kernel_rfl) ?_
          refine LLateOp.whole rfl (.inl rfl) rfl (S.store (cs' := [_]) rfl (Pick.there (Pick.there Pick.here)) rfl rfl rfl rfl rfl ?_)
          refine LLate.one (i := 5) (by kernel_rfl) ?_
          refine LLateOp.whole rfl (.inl rfl) rfl (S.store (cs' := [_]) rfl (Pick.there (Pick.there Pick.here)) rfl rfl rfl rfl rfl ?_)
          refine LLate.done (by kernel_rfl) ?_
          repeat first
            | refine LCode.ret ?_
            | refine QThen.normal ?_
            | refine QThen.ret ?_
          have hp : parseP s = (noPr, l, er) := by rw [parseP, hL]
          rw [hp]
          exact ⟨[encPr noPr, int .i64 l, int .i64 er], [], AllRes.cons (ResIs.cellAgg (k := 3) (cs := [nilSlice, nilSlice, nilSlice]) rfl (by first | exact List.Mem.head _ | exact List.Mem.tail _ (List.Mem.head _) | exact List.Mem.tail _ (List.Mem.tail _ (List.Mem.head _)) | exact List.Mem.tail _ (List.Mem.tail _ (List.Mem.tail _ (List.Mem.head _))) | exact List.Mem.tail _ (List.Mem.tail _ (List.Mem.tail _ (List.Mem.tail _ (List.Mem.head _)))) | exact List.Mem.tail _ (List.Mem.tail _ (List.Mem.tail _ (List.Mem.tail _ (List.Mem.tail _ (List.Mem.head _))))) | exact List.Mem.tail _ (List.Mem.tail _ (List.Mem.tail _ (List.Mem.tail _ (List.Mem.tail _ (List.Mem.tail _ (List.Mem.head _))))))) rfl (LV.Sub.agg (bs := [.list [], .list [], .list []]) ⟨LV.Sub.nil, LV.Sub.nil, LV.Sub.nil, trivial⟩)) (AllRes.cons (ResIs.cellOne (cs := [int .i64 l]) rfl (by first | exact List.Mem.head _ | exact List.Mem.tail _ (List.Mem.head _) | exact List.Mem.tail _ (List.Mem.tail _ (List.Mem.head _)) | exact List.Mem.tail _ (List.Mem.tail _ (List.Mem.tail _ (List.Mem.head _))) | exact List.Mem.tail _ (List.Mem.tail _ (List.Mem.tail _ (List.Mem.tail _ (List.Mem.head _)))) | exact List.Mem.tail _ (List.Mem.tail _ (List.Mem.tail _ (List.Mem.tail _ (List.Mem.tail _ (List.Mem.head _))))) | exact List.Mem.tail _ (List.Mem.tail _ (List.Mem.tail _ (List.Mem.tail _ (List.Mem.tail _ (List.Mem.tail _ (List.Mem.head _))))))) rfl (LV.Sub.refl _)) (AllRes.cons (ResIs.cellOne (cs := [int .i64 er]) rfl (by first | exact List.Mem.head _ | exact List.Mem.tail _ (List.Mem.head _) | exact List.Mem.tail _ (List.Mem.tail _ (List.Mem.head _)) | exact List.Mem.tail _ (List.Mem.tail _ (List.Mem.tail _ (List.Mem.head _))) | exact List.Mem.tail _ (List.Mem.tail _ (List.Mem.tail _ (List.Mem.tail _ (List.Mem.head _)))) | exact List.Mem.tail _ (List.Mem.tail _ (List.Mem.tail _ (List.Mem.tail _ (List.Mem.tail _ (List.Mem.head _))))) | exact List.Mem.tail _ (List.Mem.tail _ (List.Mem.tail _ (List.Mem.tail _ (List.Mem.tail _ (List.Mem.tail _ (List.Mem.head _))))))) rfl (LV.Sub.refl _)) AllRes.nil)), HSub.nil _, rfl, rfl⟩
        · refine LLateOp.whole rfl (.inl rfl) rfl (S.store (cs' := [_, _, _]) rfl (Pick.there (Pick.there Pick.here)) rfl rfl rfl rfl rfl ?_)
          refine LLate.two (i := 2) (j := 4) (by kernel_rfl) ?_ ?_
          · refine LLateOp.pureH rfl rfl (Pure.loadH (c := .atom _) rfl (List.Mem.tail _ (List.Mem.head _)) rfl) ?_
            refine LLate.one (i := 4) (by kernel_rfl) ?_
            refine LLateOp.whole rfl (.inl rfl) rfl (S.store (cs' := [_]) rfl (Pick.there (Pick.there Pick.here)) rfl rfl rfl rfl rfl ?_)
            refine LLate.one (i := 5) (by kernel_rfl) ?_
            refine LLateOp.whole rfl (.inl rfl) rfl (S.store (cs' := [_]) rfl (Pick.there (Pick.there Pick.here)) rfl rfl rfl rfl rfl ?_)
            refine LLate.done (by kernel_rfl) ?_
            repeat first
              | refine LCode.ret ?_
              | refine QThen.normal ?_
              | refine QThen.ret ?_
            have hp : parseP s = (noPr, l, er) := by rw [parseP, hL]
            rw [hp]
            exact ⟨[encPr noPr, int .i64 l, int .i64 er], [], AllRes.cons (ResIs.cellAgg (k := 3) (cs := [nilSlice, nilSlice, nilSlice]) rfl (by first | exact List.Mem.head _ | exact List.Mem.tail _ (List.Mem.head _) | exact List.Mem.tail _ (List.Mem.tail _ (List.Mem.head _)) | exact List.Mem.tail _ (List.Mem.tail _ (List.Mem.tail _ (List.Mem.head _))) | exact List.Mem.tail _ (List.Mem.tail _ (List.Mem.tail _ (List.Mem.tail _ (List.Mem.head _)))) | exact List.Mem.tail _ (List.Mem.tail _ (List.Mem.tail _ (List.Mem.tail _ (List.Mem.tail _ (List.Mem.head _))))) | exact List.Mem.tail _ (List.Mem.tail _ (List.Mem.tail _ (List.Mem.tail _ (List.Mem.tail _ (List.Mem.tail _ (List.Mem.head _))))))) rfl (LV.Sub.agg (bs := [.list [], .list [], .list []]) ⟨LV.Sub.nil, LV.Sub.nil, LV.Sub.nil, trivial⟩)) (AllRes.cons (ResIs.cellOne (cs := [int .i64 l]) rfl (by first | exact List.Mem.head _ | exact List.Mem.tail _ (List.Mem.head _) | exact List.Mem.tail _ (List.Mem.tail _ (List.Mem.head _)) | exact List.Mem.tail _ (List.Mem.tail _ (List.Mem.tail _ (List.Mem.head _))) | exact List.Mem.tail _ (List.Mem.tail _ (List.Mem.tail _ (List.Mem.tail _ (List.Mem.head _)))) | exact List.Mem.tail _ (List.Mem.tail _ (List.Mem.tail _ (List.Mem.tail _ (List.Mem.tail _ (List.Mem.head _))))) | exact List.Mem.tail _ (List.Mem.tail _ (List.Mem.tail _ (List.Mem.tail _ (List.Mem.tail _ (List.Mem.tail _ (List.Mem.head _))))))) rfl (LV.Sub.refl _)) (AllRes.cons (ResIs.cellOne (cs := [int .i64 er]) rfl (by first | exact List.Mem.head _ | exact List.Mem.tail _ (List.Mem.head _) | exact List.Mem.tail _ (List.Mem.tail _ (List.Mem.head _)) | exact List.Mem.tail _ (List.Mem.tail _ (List.Mem.tail _ (List.Mem.head _))) | exact List.Mem.tail _ (List.Mem.tail _ (List.Mem.tail _ (List.Mem.tail _ (List.Mem.head _)))) | exact List.Mem.tail _ (List.Mem.tail _ (List.Mem.tail _ (List.Mem.tail _ (List.Mem.tail _ (List.Mem.head _))))) | exact List.Mem.tail _ (List.Mem.tail _ (List.Mem.tail _ (List.Mem.tail _ (List.Mem.tail _ (List.Mem.tail _ (List.Mem.head _))))))) rfl (LV.Sub.refl _)) AllRes.nil)), HSub.nil _, rfl, rfl⟩
          · refine LLateOp.whole rfl (.inl rfl) rfl (S.store (cs' := [_]) rfl (Pick.there (Pick.there Pick.here)) rfl rfl rfl rfl rfl ?_)
            refine LLate.one (i := 2) (by kernel_rfl) ?_
            refine LLateOp.pureH rfl rfl (Pure.loadH (c := .atom _) rfl (List.Mem.tail _ (List.Mem.tail _ (List.Mem.head _))) rfl) ?_
            refine LLate.one (i := 5) (by kernel_rfl) ?_
            refine LLateOp.whole rfl (.inl rfl) rfl (S.store (cs' := [_]) rfl (Pick.there (Pick.there Pick.here)) rfl rfl rfl rfl rfl ?_)
            refine LLate.done (by kernel_rfl) ?_
            repeat first
              | refine LCode.ret ?_
              | refine QThen.normal ?_
              | refine QThen.ret ?_
            have hp : parseP s = (noPr, l, er) := by rw [parseP, hL]
            rw [hp]
            exact ⟨[encPr noPr, int .i64 l, int .i64 er], [], AllRes.cons (ResIs.cellAgg (k := 3) (cs := [nilSlice, nilSlice, nilSlice]) rfl (by first | exact List.Mem.head _ | exact List.Mem.tail _ (List.Mem.head _) | exact List.Mem.tail _ (List.Mem.tail _ (List.Mem.head _)) | exact List.Mem.tail _ (List.Mem.tail _ (List.Mem.tail _ (List.Mem.head _))) | exact List.Mem.tail _ (List.Mem.tail _ (List.Mem.tail _ (List.Mem.tail _ (List.Mem.head _)))) | exact List.Mem.tail _ (List.Mem.tail _ (List.Mem.tail _ (List.Mem.tail _ (List.Mem.tail _ (List.Mem.head _))))) | exact List.Mem.tail _ (List.Mem.tail _ (List.Mem.tail _ (List.Mem.tail _ (List.Mem.tail _ (List.Mem.tail _ (List.Mem.head _))))))) rfl (LV.Sub.agg (bs := [.list [], .list [], .list []]) ⟨LV.Sub.nil, LV.Sub.nil, LV.Sub.nil, trivial⟩)) (AllRes.cons (ResIs.cellOne (cs := [int .i64 l]) rfl (by first | exact List.Mem.head _ | exact List.Mem.tail _ (List.Mem.head _) | exact List.Mem.tail _ (List.Mem.tail _ (List.Mem.head _)) | exact List.Mem.tail _ (List.Mem.tail _ (List.Mem.tail _ (List.Mem.head _))) | exact List.Mem.tail _ (List.Mem.tail _ (List.Mem.tail _ (List.Mem.tail _ (List.Mem.head _)))) | exact List.Mem.tail _ (List.Mem.tail _ (List.Mem.tail _ (List.Mem.tail _ (List.Mem.tail _ (List.Mem.head _))))) | exact List.Mem.tail _ (List.Mem.tail _ (List.Mem.tail _ (List.Mem.tail _ (List.Mem.tail _ (List.Mem.tail _ (List.Mem.head _))))))) rfl (LV.Sub.refl _)) (AllRes.cons (ResIs.cellOne (cs := [int .i64 er]) rfl (by first | exact List.Mem.head _ | exact List.Mem.tail _ (List.Mem.head _) | exact List.Mem.tail _ (List.Mem.tail _ (List.Mem.head _)) | exact List.Mem.tail _ (List.Mem.tail _ (List.Mem.tail _ (List.Mem.head _))) | exact List.Mem.tail _ (List.Mem.tail _ (List.Mem.tail _ (List.Mem.tail _ (List.Mem.head _)))) | exact List.Mem.tail _ (List.Mem.tail _ (List.Mem.tail _ (List.Mem.tail _ (List.Mem.tail _ (List.Mem.head _))))) | exact List.Mem.tail _ (List.Mem.tail _ (List.Mem.tail _ (List.Mem.tail _ (List.Mem.tail _ (List.Mem.tail _ (List.Mem.head _))))))) rfl (LV.Sub.refl _)) AllRes.nil)), HSub.nil _, rfl, rfl⟩
      · refine LLateOp.pureH rfl rfl (Pure.loadH (c := .atom _) rfl (List.Mem.head _) rfl) ?_
        refine LLate.two (i := 1) (j := 3) (by kernel_rfl) ?_ ?_
        · refine LLateOp.pureH rfl rfl (Pure.loadH (c := .atom _) rfl (List.Mem.tail _ (List.Mem.head _)) rfl) ?_
          refine LLate.one (i := 3) (by kernel_rfl) ?_
          refine LLateOp.whole rfl (.inl rfl) rfl (S.store (cs' := [_, _, _]) rfl (Pick.there (Pick.there Pick.here)) rfl rfl rfl rfl rfl ?_)
          refine LLate.one (i := 4) (by kernel_rfl) ?_
          refine LLateOp.whole rfl (.inl rfl) rfl (S.store (cs' := [_]) rfl (Pick.there (Pick.there Pick.here)) rfl rfl rfl rfl rfl ?_)
          refine LLate.one (i := 5) (by kernel_rfl) ?_
          refine LLateOp.whole rfl (.inl rfl) rfl (S.store (cs' := [_]) rfl (Pick.there (Pick.there Pick.here)) rfl rfl rfl rfl rfl ?_)
          refine LLate.done (by kernel_rfl) ?_
          repeat first
            | refine LCode.ret ?_
            | refine QThen.normal ?_
            | refine QThen.ret ?_
          have hp : parseP s = (noPr, l, er) := by rw [parseP, hL]
          rw [hp]
          exact ⟨[encPr noPr, int .i64 l, int .i64 er], [], AllRes.cons (ResIs.cellAgg (k := 3) (cs := [nilSlice, nilSlice, nilSlice]) rfl (by first | exact List.Mem.head _ | exact List.Mem.tail _ (List.Mem.head _) | exact List.Mem.tail _ (List.Mem.tail _ (List.Mem.head _)) | exact List.Mem.tail _ (List.Mem.tail _ (List.Mem.tail _ (List.Mem.head _))) | exact List.Mem.tail _ (List.Mem.tail _ (List.Mem.tail _ (List.Mem.tail _ (List.Mem.head _)))) | exact List.Mem.tail _ (List.Mem.tail _ (List.Mem.tail _ (List.Mem.tail _ (List.Mem.tail _ (List.Mem.head _))))) | exact List.Mem.tail _ (List.Mem.tail _ (List.Mem.tail _ (List.Mem.tail _ (List.Mem.tail _ (List.Mem.tail _ (List.Mem.head _))))))) rfl (LV.Sub.agg (bs := [.list [], .list [], .list []]) ⟨LV.Sub.nil, LV.Sub.nil, LV.Sub.nil, trivial⟩)) (AllRes.cons (ResIs.cellOne (cs := [int .i64 l]) rfl (by first | exact List.Mem.head _ | exact List.Mem.tail _ (List.Mem.head _) | exact List.Mem.tail _ (List.Mem.tail _ (List.Mem.head _)) | exact List.Mem.tail _ (List.Mem.tail _ (List.Mem.tail _ (List.Mem.head _))) | exact List.Mem.tail _ (List.Mem.tail _ (List.Mem.tail _ (List.Mem.tail _ (List.Mem.head _)))) | exact List.Mem.tail _ (List.Mem.tail _ (List.Mem.tail _ (List.Mem.tail _ (List.Mem.tail _ (List.Mem.head _))))) | exact List.Mem.tail _ (List.Mem.tail _ (List.Mem.tail _ (List.Mem.tail _ (List.Mem.tail _ (List.Mem.tail _ (List.Mem.head _))))))) rfl (LV.Sub.refl _)) (AllRes.cons (ResIs.cellOne (cs := [int .i64 er]) rfl (by first | exact List.Mem.head _ | exact List.Mem.tail _ (List.Mem.head _) | exact List.Mem.tail _ (List.Mem.tail _ (List.Mem.head _)) | exact List.Mem.tail _ (List.Mem.tail _ (List.Mem.tail _ (List.Mem.head _))) | exact List.Mem.tail _ (List.Mem.tail _ (List.Mem.tail _ (List.Mem.tail _ (List.Mem.head _)))) | exact List.Mem.tail _ (List.Mem.tail _ (List.Mem.tail _ (List.Mem.tail _ (List.Mem.tail _ (List.Mem.head _))))) | exact List.Mem.tail _ (List.Mem.tail _ (List.Mem.tail _ (List.Mem.tail _ (List.Mem.tail _ (List.Mem.tail _ (List.Mem.head _))))))) rfl (LV.Sub.refl _)) AllRes.nil)), HSub.nil _, rfl, rfl⟩
        · refine LLateOp.whole rfl (.inl rfl) rfl (S.store (cs' := [_, _, _]) rfl (Pick.there (Pick.there Pick.here)) rfl rfl rfl rfl rfl ?_)
          refine LLate.one (i := 1) (by kernel_rfl) ?_
          refine LLateOp.pureH rfl rfl (Pure.loadH (c := .atom _) rfl (List.Mem.tail _ (List.Mem.tail _ (List.Mem.head _))) rfl) ?_
          refine LLate.one (i := 4) (by kernel_rfl) ?_
          refine LLateOp.whole rfl (.inl rfl) rfl (S.store (cs' := [_]) rfl (Pick.there (Pick.there Pick.here)) rfl rfl rfl rfl rfl ?_)
          refine LLate.one (i := 5) (by kernel_rfl) ?_
          refine LLateOp.whole rfl (.inl rfl) rfl (S.store (cs' := [_]) rfl (Pick.there (Pick.there Pick.here)) rfl rfl rfl rfl rfl ?_)
          refine LLate.done (by kernel_rfl) ?_
          repeat first
            | refine LCode.ret ?_
            | refine QThen.normal ?_
            | refine QThen.ret ?_
          have hp : parseP s = (noPr, l, er) := by rw [parseP, hL]
          rw [hp]
          exact ⟨[encPr noPr, int .i64 l, int .i64 er], [], AllRes.cons (ResIs.cellAgg (k := 3) (cs := [nilSlice, nilSlice, nilSlice]) rfl (by first | exact List.Mem.head _ | exact List.Mem.tail _ (List.Mem.head _) | exact List.Mem.tail _ (List.Mem.tail _ (List.Mem.head _)) | exact List.Mem.tail _ (List.Mem.tail _ (List.Mem.tail _ (List.Mem.head _))) | exact List.Mem.tail _ (List.Mem.tail _ (List.Mem.tail _ (List.Mem.tail _ (List.Mem.head _)))) | exact List.Mem.tail _ (List.Mem.tail _ (List.Mem.tail _ (List.Mem.tail _ (List.Mem.tail _ (List.Mem.head _))))) | exact List.Mem.tail _ (List.Mem.tail _ (List.Mem.tail _ (List.Mem.tail _ (List.Mem.tail _ (List.Mem.tail _ (List.Mem.head _))))))) rfl (LV.Sub.agg (bs := [.list [], .list [], .list []]) ⟨LV.Sub.nil, LV.Sub.nil, LV.Sub.nil, trivial⟩)) (AllRes.cons (ResIs.cellOne (cs := [int .i64 l]) rfl (by first | exact List.Mem.head _ | exact List.Mem.tail _ (List.Mem.head _) | exact List.Mem.tail _ (List.Mem.tail _ (List.Mem.head _)) | exact List.Mem.tail _ (List.Mem.tail _ (List.Mem.tail _ (List.Mem.head _))) | exact List.Mem.tail _ (List.Mem.tail _ (List.Mem.tail _ (List.Mem.tail _ (List.Mem.head _)))) | exact List.Mem.tail _ (List.Mem.tail _ (List.Mem.tail _ (List.Mem.tail _ (List.Mem.tail _ (List.Mem.head _))))) | exact List.Mem.tail _ (List.Mem.tail _ (List.Mem.tail _ (List.Mem.tail _ (List.Mem.tail _ (List.Mem.tail _ (List.Mem.head _))))))) rfl (LV.Sub.refl _)) (AllRes.cons (ResIs.cellOne (cs := [int .i64 er]) rfl (by first | exact List.Mem.head _ | exact List.Mem.tail _ (List.Mem.head _) | exact List.Mem.tail _ (List.Mem.tail _ (List.Mem.head _)) | exact List.Mem.tail _ (List.Mem.tail _ (List.Mem.tail _ (List.Mem.head _))) | exact List.Mem.tail _ (List.Mem.tail _ (List.Mem.tail _ (List.Mem.tail _ (List.Mem.head _)))) | exact List.Mem.tail _ (List.Mem.tail _ (List.Mem.tail _ (List.Mem.tail _ (List.Mem.tail _ (List.Mem.head _))))) | exact List.Mem.tail _ (List.Mem.tail _ (List.Mem.tail _ (List.Mem.tail _ (List.Mem.tail _ (List.Mem.tail _ (List.Mem.head _))))))) rfl (LV.Sub.refl _)) AllRes.nil)), HSub.nil _, rfl, rfl⟩
      · refine LLateOp.whole rfl (.inl rfl) rfl (S.store (cs' := [_, _, _]) rfl (Pick.there (Pick.there Pick.here)) rfl rfl rfl rfl rfl ?_)
        refine LLate.two (i := 1) (j := 2) (by kernel_rfl) ?_ ?_
        · refine LLateOp.pureH rfl rfl (Pure.loadH (c := .atom _) rfl (List.Mem.tail _ (List.Mem.tail _ (List.Mem.head _))) rfl) ?_
          refine LLate.two (i := 2) (j := 4) (by kernel_rfl) ?_ ?_
          · refine LLateOp.pureH rfl rfl (Pure.loadH (c := .atom _) rfl (List.Mem.tail _ (List.Mem.head _)) rfl) ?_
            refine LLate.one (i := 4) (by kernel_rfl) ?_
            refine LLateOp.whole rfl (.inl rfl) rfl (S.store (cs' := [_]) rfl (Pick.there (Pick.there Pick.here)) rfl rfl rfl rfl rfl ?_)
            refine LLate.one (i := 5) (by kernel_rfl) ?_
            refine LLateOp.whole rfl (.inl rfl) rfl (S.store (cs' := [_]) rfl (Pick.there (Pick.there Pick.here)) rfl rfl rfl rfl rfl ?_)
            refine LLate.done (by kernel_rfl) ?_
            repeat first
              | refine LCode.ret ?_
              | refine QThen.normal ?_
              | refine QThen.ret ?_
            have hp : parseP s = (noPr, l, er) := by rw [parseP, hL]
            rw [hp]
            exact ⟨[encPr noPr, int .i64 l, int .i64 er], [], AllRes.cons (ResIs.cellAgg (k := 3) (cs := [nilSlice, nilSlice, nilSlice]) rfl (by first | exact List.Mem.head _ | exact List.Mem.tail _ (List.Mem.head _) | exact List.Mem.tail _ (List.Mem.tail _ (List.Mem.head _)) | exact List.Mem.tail _ (List.Mem.tail _ (List.Mem.tail _ (List.Mem.head _))) | exact List.Mem.tail _ (List.Mem.tail _ (List.Mem.tail _ (List.Mem.tail _ (List.Mem.head _)))) | exact List.Mem.tail _ (List.Mem.tail _ (List.Mem.tail _ (List.Mem.tail _ (List.Mem.tail _ (List.Mem.head _))))) | exact List.Mem.tail _ (List.Mem.tail _ (List.Mem.tail _ (List.Mem.tail _ (List.Mem.tail _ (List.Mem.tail _ (List.Mem.head _))))))) rfl (LV.Sub.agg (bs := [.list [], .list [], .list []]) ⟨LV.Sub.nil, LV.Sub.nil, LV.Sub.nil, trivial⟩)) (AllRes.cons (ResIs.cellOne (cs := [int .i64 l]) rfl (by first | exact List.Mem.head _ | exact List.Mem.tail _ (List.Mem.head _) | exact List.Mem.tail _ (List.Mem.tail _ (List.Mem.head _)) | exact List.Mem.tail _ (List.Mem.tail _ (List.Mem.tail _ (List.Mem.head _))) | exact List.Mem.tail _ (List.Mem.tail _ (List.Mem.tail _ (List.Mem.tail _ (List.Mem.head _)))) | exact List.Mem.tail _ (List.Mem.tail _ (List.Mem.tail _ (List.Mem.tail _ (List.Mem.tail _ (List.Mem.head _))))) | exact List.Mem.tail _ (List.Mem.tail _ (List.Mem.tail _ (List.Mem.tail _ (List.Mem.tail _ (List.Mem.tail _ (List.Mem.head _))))))) rfl (LV.Sub.refl _)) (AllRes.cons (ResIs.cellOne (cs := [int .i64 er]) rfl (by first | exact List.Mem.head _ | exact List.Mem.tail _ (List.Mem.head _) | exact List.Mem.tail _ (List.Mem.tail _ (List.Mem.head _)) | exact List.Mem.tail _ (List.Mem.tail _ (List.Mem.tail _ (List.Mem.head _))) | exact List.Mem.tail _ (List.Mem.tail _ (List.Mem.tail _ (List.Mem.tail _ (List.Mem.head _)))) | exact List.Mem.tail _ (List.Mem.tail _ (List.Mem.tail _ (List.Mem.tail _ (List.Mem.tail _ (List.Mem.head _))))) | exact List.Mem.tail _ (List.Mem.tail _ (List.Mem.tail _ (List.Mem.tail _ (List.Mem.tail _ (List.Mem.tail _ (List.Mem.head _))))))) rfl (LV.Sub.refl _)) AllRes.nil)), HSub.nil _, rfl, rfl⟩
          · refine LLateOp.whole rfl (.inl rfl) rfl (S.store (cs' := [_]) rfl (Pick.there (Pick.there Pick.here)) rfl rfl rfl rfl rfl ?_)
            refine LLate.one (i := 2) (by kernel_rfl) ?_
            refine LLateOp.pureH rfl rfl (Pure.loadH (c := .atom _) rfl (List.Mem.tail _ (List.Mem.tail _ (List.Mem.head _))) rfl) ?_
            refine LLate.one (i := 5) (by kernel_rfl) ?_
            refine LLateOp.whole rfl (.inl rfl) rfl (S.store (cs' := [_]) rfl (Pick.there (Pick.there Pick.here)) rfl rfl rfl rfl rfl ?_)
            refine LLate.done (by kernel_rfl) ?_
            repeat first
              | refine LCode.ret ?_
              | refine QThen.normal ?_
              | refine QThen.ret ?_
            have hp : parseP s = (noPr, l, er) := by rw [parseP, hL]
            rw [hp]
            exact ⟨[encPr noPr, int .i64 l, int .i64 er], [], AllRes.cons (ResIs.cellAgg (k := 3) (cs := [nilSlice, nilSlice, nilSlice]) rfl (by first | exact List.Mem.head _ | exact List.Mem.tail _ (List.Mem.head _) | exact List.Mem.tail _ (List.Mem.tail _ (List.Mem.head _)) | exact List.Mem.tail _ (List.Mem.tail _ (List.Mem.tail _ (List.Mem.head _))) | exact List.Mem.tail _ (List.Mem.tail _ (List.Mem.tail _ (List.Mem.tail _ (List.Mem.head _)))) | exact List.Mem.tail _ (List.Mem.tail _ (List.Mem.tail _ (List.Mem.tail _ (List.Mem.tail _ (List.Mem.head _))))) | exact List.Mem.tail _ (List.Mem.tail _ (List.Mem.tail _ (List.Mem.tail _ (List.Mem.tail _ (List.Mem.tail _ (List.Mem.head _))))))) rfl (LV.Sub.agg (bs := [.list [], .list [], .list []]) ⟨LV.Sub.nil, LV.Sub.nil, LV.Sub.nil, trivial⟩)) (AllRes.cons (ResIs.cellOne (cs := [int .i64 l]) rfl (by first | exact List.Mem.head _ | exact List.Mem.tail _ (List.Mem.head _) | exact List.Mem.tail _ (List.Mem.tail _ (List.Mem.head _)) | exact List.Mem.tail _ (List.Mem.tail _ (List.Mem.tail _ (List.Mem.head _))) | exact List.Mem.tail _ (List.Mem.tail _ (List.Mem.tail _ (List.Mem.tail _ (List.Mem.head _)))) | exact List.Mem.tail _ (List.Mem.tail _ (List.Mem.tail _ (List.Mem.tail _ (List.Mem.tail _ (List.Mem.head _))))) | exact List.Mem.tail _ (List.Mem.tail _ (List.Mem.tail _ (List.Mem.tail _ (List.Mem.tail _ (List.Mem.tail _ (List.Mem.head _))))))) rfl (LV.Sub.refl _)) (AllRes.cons (ResIs.cellOne (cs := [int .i64 er]) rfl (by first | exact List.Mem.head _ | exact List.Mem.tail _ (List.Mem.head _) | exact List.Mem.tail _ (List.Mem.tail _ (List.Mem.head _)) | exact List.Mem.tail _ (List.Mem.tail _ (List.Mem.tail _ (List.Mem.head _))) | exact List.Mem.tail _ (List.Mem.tail _ (List.Mem.tail _ (List.Mem.tail _ (List.Mem.head _)))) | exact List.Mem.tail _ (List.Mem.tail _ (List.Mem.tail _ (List.Mem.tail _ (List.Mem.tail _ (List.Mem.head _))))) | exact List.Mem.tail _ (List.Mem.tail _ (List.Mem.tail _ (List.Mem.tail _ (List.Mem.tail _ (List.Mem.tail _ (List.Mem.head _))))))) rfl (LV.Sub.refl _)) AllRes.nil)), HSub.nil _, rfl, rfl⟩
        · refine LLateOp.pureH rfl rfl (Pure.loadH (c := .atom _) rfl (List.Mem.tail _ (List.Mem.head _)) rfl) ?_
          refine LLate.one (i := 1) (by kernel_rfl) ?_
          refine LLateOp.pureH rfl rfl (Pure.loadH (c := .atom _) rfl (List.Mem.tail _ (List.Mem.tail _ (List.Mem.head _))) rfl) ?_
          refine LLate.one (i := 4) (by kernel_rfl) ?_
          refine LLateOp.whole rfl (.inl rfl) rfl (S.store (cs' := [_]) rfl (Pick.there (Pick.there Pick.here)) rfl rfl rfl rfl rfl ?_)
          refine LLate.one (i := 5) (by kernel_rfl) ?_
          refine LLateOp.whole rfl (.inl rfl) rfl (S.store (cs' := [_]) rfl (Pick.there (Pick.there Pick.here)) rfl rfl rfl rfl rfl ?_)
          refine LLate.done (by kernel_rfl) ?_
          repeat first
            | refine LCode.ret ?_
            | refine QThen.normal ?_
            | refine QThen.ret ?_
          have hp : parseP s = (noPr, l, er) := by rw [parseP, hL]
          rw [hp]
          exact ⟨[encPr noPr, int .i64 l, int .i64 er], [], AllRes.cons (ResIs.cellAgg (k := 3) (cs := [nilSlice, nilSlice, nilSlice]) rfl (by first | exact List.Mem.head _ | exact List.Mem.tail _ (List.Mem.head _) | exact List.Mem.tail _ (List.Mem.tail _ (List.Mem.head _)) | exact List.Mem.tail _ (List.Mem.tail _ (List.Mem.tail _ (List.Mem.head _))) | exact List.Mem.tail _ (List.Mem.tail _ (List.Mem.tail _ (List.Mem.tail _ (List.Mem.head _)))) | exact List.Mem.tail _ (List.Mem.tail _ (List.Mem.tail _ (List.Mem.tail _ (List.Mem.tail _ (List.Mem.head _))))) | exact List.Mem.tail _ (List.Mem.tail _ (List.Mem.tail _ (List.Mem.tail _ (List.Mem.tail _ (List.Mem.tail _ (List.Mem.head _))))))) rfl (LV.Sub.agg (bs := [.list [], .list [], .list []]) ⟨LV.Sub.nil, LV.Sub.nil, LV.Sub.nil, trivial⟩)) (AllRes.cons (ResIs.cellOne (cs := [int .i64 l]) rfl (by first | exact List.Mem.head _ | exact List.Mem.tail _ (List.Mem.head _) | exact List.Mem.tail _ (List.Mem.tail _ (List.Mem.head _)) | exact List.Mem.tail _ (List.Mem.tail _ (List.Mem.tail _ (List.Mem.head _))) | exact List.Mem.tail _ (List.Mem.tail _ (List.Mem.tail _ (List.Mem.tail _ (List.Mem.head _)))) | exact List.Mem.tail _ (List.Mem.tail _ (List.Mem.tail _ (List.Mem.tail _ (List.Mem.tail _ (List.Mem.head _))))) | exact List.Mem.tail _ (List.Mem.tail _ (List.Mem.tail _ (List.Mem.tail _ (List.Mem.tail _ (List.Mem.tail _ (List.Mem.head _))))))) rfl (LV.Sub.refl _)) (AllRes.cons (ResIs.cellOne (cs := [int .i64 er]) rfl (by first | exact List.Mem.head _ | exact List.Mem.tail _ (List.Mem.head _) | exact List.Mem.tail _ (List.Mem.tail _ (List.Mem.head _)) | exact List.Mem.tail _ (List.Mem.tail _ (List.Mem.tail _ (List.Mem.head _))) | exact List.Mem.tail _ (List.Mem.tail _ (List.Mem.tail _ (List.Mem.tail _ (List.Mem.head _)))) | exact List.Mem.tail _ (List.Mem.tail _ (List.Mem.tail _ (List.Mem.tail _ (List.Mem.tail _ (List.Mem.head _))))) | exact List.Mem.tail _ (List.Mem.tail _ (List.Mem.tail _ (List.Mem.tail _ (List.Mem.tail _ (List.Mem.tail _ (List.Mem.head _))))))) rfl (LV.Sub.refl _)) AllRes.nil)), HSub.nil _, rfl, rfl⟩
    · have : er = 0 := by simpa using hc
      exact absurd this he0
  | ok T =>
    have hT := tok_lex hL
    simp only [encLex]
    repeat first
      | refine LOps.nil ?_
      | refine QThen.normal ?_
      | refine LOps.pure (Pure.mv (lv := .tuple _) rfl) rfl ?_
      | refine LOps.pure (Pure.extract (c := .list _) rfl rfl) rfl ?_
      | refine LOps.pure (Pure.extract (c := .atom _) rfl rfl) rfl ?_
      | refine LOps.pure (Pure.as (lv := .list _) rfl) rfl ?_
      | refine LOps.step (S.store (cs' := [_]) rfl (Pick.there Pick.here) rfl rfl rfl rfl rfl ?_) rfl
    refine LCodeP.seq (LCodeP.of ?_)
    repeat first
      | refine LOps.nil ?_
      | refine LCode.seq ?_
      | refine LCode.region ?_
      | refine QThen.normal ?_
      | refine LOps.pure (Pure.loadH (c := .atom _) rfl (List.Mem.head _) rfl) rfl ?_
      | refine LOps.pure (Pure.neq rfl rfl) rfl ?_
    refine LCode.cond rfl (fun hc => ?_) (fun hc => ?_)
    · cases hc
    · repeat first
        | refine LCode.skip ?_
        | refine QThen.normal ?_
      refine LCodeP.seq (LCodeP.region ?_)
      repeat first
        | refine LOpsP.pure (Pure.makeFunc rfl rfl) rfl ?_
      refine LOpsP.defer rfl rfl ?_
      refine LOpsP.nil ?_
      refine QThen.normal ?_
      refine LCodeP.seq (LCodeP.of ?_)
      repeat first
        | refine LCode.region ?_
        | refine LOps.pure (Pure.bld _ (cs := [_, _, _]) rfl) rfl ?_
        | refine LOps.pure (Pure.mv (lv := .list _) rfl) rfl ?_
      refine LOps.step (S.box rfl fun sb => ?_) rfl
      repeat first
        | refine LOps.nil ?_
        | refine QThen.normal ?_
        | refine LOps.pure (Pure.as (lv := .atom _) rfl) rfl ?_
      refine LCodeP.seq (LCodeP.region ?_)
      repeat first
        | refine LOpsP.pure (Pure.mv (lv := .atom _) rfl) rfl ?_
      obtain ⟨r, hr⟩ := sProg_ends T (10 * T.length + 20) noPr 0 0 (Nat.zero_le _) (by omega)
      have hp : parseP s = resP r := by
        rw [parseP, hL]
        simp only [hr]
        cases r <;> rfl
      rw [hp]
      refine LOpsP.step (S.callP (T := T) (i := 0) (op := 0) [_] rfl Pick.here (program_spec hG sb T hT _ r hr) (fun v i1 op1 h1 => ?_) (fun l er i1 op1 h1 => ?_)) rfl
      · subst h1
        refine LOpsP.step (S.store (cs' := [_, _, _]) rfl (Pick.there (Pick.there (Pick.there Pick.here))) rfl rfl rfl rfl rfl ?_) rfl
        refine LOpsP.step (S.store (cs' := [_]) rfl (Pick.there (Pick.there (Pick.there Pick.here))) rfl rfl rfl rfl rfl ?_) rfl
        refine LOpsP.step (S.store (cs' := [_]) rfl (Pick.there (Pick.there (Pick.there Pick.here))) rfl rfl rfl rfl rfl ?_) rfl
        refine LOpsP.nil ?_
        refine QThen.normal ?_
        refine LCodeP.ret ?_
        exact RetPostD.ret1 (vs := [encPr v, int .i64 0, int .i64 0]) (H2 := [(b2, .cells 27 [.list (v.vars.map str), .list (v.arrays.map encAr), .list (v.funcs.map encFn)]), (b3, .cells 3 [int .i64 0]), (b4, .cells 28 [int .i64 0])]) rfl ((Pick.there (Pick.there Pick.here)).trans (List.Perm.cons _ ((Pick.there Pick.here).trans (List.Perm.cons _ (List.Perm.refl _))))) (rec_ret b2 b3 b4 _ _ _)
          (AllRes.cons (ResIs.cellAgg (k := 3) rfl (List.Mem.head _) rfl (LV.Sub.refl _)) (AllRes.cons (ResIs.cellOne rfl (List.Mem.tail _ (List.Mem.head _)) rfl (LV.Sub.refl _)) (AllRes.cons (ResIs.cellOne rfl (List.Mem.tail _ (List.Mem.tail _ (List.Mem.head _))) rfl (LV.Sub.refl _)) AllRes.nil))) (HSub.nil _) ⟨rfl, rfl⟩
      · subst h1
        refine QThen.panic ?_
        exact RetPostD.panic1 (vs := [encPr noPr, int .i64 l, int .i64 er]) (H2 := [(b2, .cells 27 [nilSlice, nilSlice, nilSlice]), (b3, .cells 3 [int .i64 l]), (b4, .cells 28 [int .i64 er])]) rfl ((Pick.there (Pick.there (Pick.there Pick.here))).trans (List.Perm.cons _ ((Pick.there (Pick.there Pick.here)).trans (List.Perm.cons _ ((Pick.there Pick.here).trans (List.Perm.refl _)))))) (rec_pan b2 b3 b4 _ _ _ _ _ l er)
          (AllRes.cons (ResIs.cellAgg (k := 3) rfl (List.Mem.head _) rfl (LV.Sub.agg (bs := [.list [], .list [], .list []]) ⟨LV.Sub.nil, LV.Sub.nil, LV.Sub.nil, trivial⟩)) (AllRes.cons (ResIs.cellOne rfl (List.Mem.tail _ (List.Mem.head _)) rfl (LV.Sub.refl _)) (AllRes.cons (ResIs.cellOne rfl (List.Mem.tail _ (List.Mem.tail _ (List.Mem.head _))) rfl (LV.Sub.refl _)) AllRes.nil))) (HSub.nil _) ⟨rfl, rfl⟩
end
end Go.Proofs.YtfodkbchknknjaaGreatDoor
namespace Go.Stele
/-- What a step hands back has at most as many nodes as it has read tokens; m stood before. -/
def Nd {A : Type} (f : A → Nat) (m i : Nat) (r : OR A) : Prop := ∀ v i' op', r = some (.ok v i' op') → f v + i ≤ m + i'
theorem nd_bind {A B : Type} {f : A → Nat} {g : B → Nat} {m m' i j : Nat} {r : OR A} {k : A → Nat → Nat → OR B} (hr : Nd f m j r) (hk : ∀ v i' op', r = some (.ok v i' op') → f v + j ≤ m + i' → Nd g m' i (k v i' op')) : Nd g m' i (obind r k) := fun v i' op' h => by
  rcases obind_some h with ⟨u, i1, op1, h1, h2⟩ | ⟨l, e, _, h⟩
  · exact hk u i1 op1 h1 (hr u i1 op1 h1) v i' op' h2
  · cases h
theorem nd_ok {A : Type} {f : A → Nat} {m i : Nat} {v : A} {i' op' : Nat} (h : f v + i ≤ m + i') : Nd f m i (some (.ok v i' op')) := fun u j o hu => by cases hu; exact h
theorem nd_none {A : Type} {f : A → Nat} {m i : Nat} : Nd f m i none := fun _ _ _ h => by cases h
theorem nd_err {A : Type} {f : A → Nat} {m i : Nat} {l e : Int} : Nd f m i (some (.err l e)) := fun _ _ _ h => by cases h
def zN {A : Type} : A → Nat := fun _ => 0
theorem nd_word {T : List Tok} {k : Int} {i op : Nat} {s : List UInt8} {i' op' : Nat} (h : some (sWord T k i op) = some (.ok s i' op')) : i' = i + 1 ∧ op' = op := by
  injection h with h
  unfold sWord at h
  split at h
  · split at h
    · cases h; exact ⟨rfl, rfl⟩
    · cases h
  · cases h
theorem nd_need {T : List Tok} {x : List UInt8} {i op : Nat} {u : Unit} {i' op' : Nat} (h : some (sNeed T x i op) = some (.ok u i' op')) : i' = i + 1 ∧ op' = op := by
  injection h with h
  unfold sNeed at h
  split at h
  · cases h; exact ⟨rfl, rfl⟩
  · cases h
theorem nd_begin {T : List Tok} {x : List UInt8} {i op : Nat} {u : Unit} {i' op' : Nat} (h : some (sBegin T x i op) = some (.ok u i' op')) : i' = i + 1 := by
  injection h with h
  exact (sBegin_ok h).1
theorem nd_end {T : List Tok} {x : List UInt8} {i op : Nat} {u : Unit} {i' op' : Nat} (h : some (sEnd T x i op) = some (.ok u i' op')) : i' = i + 1 := by
  injection h with h
  exact (sEnd_ok h).1
theorem any_nd {A : Type} {r : OR A} : Nd (zN : A → Nat) 1000000000000 0 r → True := fun _ => trivial
theorem nd_any {A B : Type} {g : B → Nat} {m i : Nat} {r : OR A} {k : A → Nat → Nat → OR B} (hk : ∀ v i' op', r = some (.ok v i' op') → Nd g m i (k v i' op')) : Nd g m i (obind r k) := fun v i' op' h => by
  rcases obind_some h with ⟨u, i1, op1, h1, h2⟩ | ⟨l, e, _, h⟩
  · exact hk u i1 op1 h1 v i' op' h2
  · cases h
theorem nExs_app (a b : List Ex) : nExs (a ++ b) = nExs a + nExs b := by
  induction a with
  | nil => simp [nExs]
  | cons x a ih => rw [List.cons_append, nExs, nExs, ih]; omega
theorem nSms_app (a b : List Sm) : nSms (a ++ b) = nSms a + nSms b := by
  induction a with
  | nil => simp [nSms]
  | cons x a ih => rw [List.cons_append, nSms, nSms, ih]; omega
theorem nFns_app (a b : List FnD) : nFns (a ++ b) = nFns a + nFns b := by
  induction a with
  | nil => simp [nFns]
  | cons x a ih => rw [List.cons_append, nFns, nFns, ih]; omega
theorem ex_nd (T : List Tok) : ∀ f : Nat, (∀ k i op, Nd nEx 0 i (eLev T f k i op)) ∧ (∀ k e i op, Nd nEx (nEx e) i (eLoop T f k e i op)) ∧ (∀ i op, Nd nEx 0 i (eUnary T f i op)) ∧ (∀ i op, Nd nEx 0 i (ePrim T f i op)) ∧ (∀ i op, Nd nEx 0 i (eIndex T f i op)) ∧
    (∀ i op, Nd (fun v => nExs v + 2) 0 i (eArgs T f i op)) ∧ (∀ acc i op, Nd nExs (nExs acc) i (eArgsLoop T f acc i op))
  | 0 => ⟨fun _ _ _ => by rw [eLev]; exact nd_none, fun _ _ _ _ => by rw [eLoop]; exact nd_none, fun _ _ => by rw [eUnary]; exact nd_none, fun _ _ => by rw [ePrim]; exact nd_none, fun _ _ => by rw [eIndex]; exact nd_none, fun _ _ => by rw [eArgs]; exact nd_none, fun _ _ _ => by rw [eArgsLoop]; exact nd_none⟩
  | f + 1 => by
    obtain ⟨hL, hO, hU, hP, hI, hA, hB⟩ := ex_nd T f
    have neg : ∀ (x nm : List UInt8) (i op : Nat), Nd nEx 0 i (obind (some (sBegin T x i op)) fun _ i' op' => obind (eUnary T f i' op') fun e i' op' => some (.ok (Ex.mk nm 0 [] [e]) i' (op' - 1))) := fun x nm i op =>
      nd_any fun _ i1 op1 h1 => nd_bind (hU i1 op1) fun v i2 op2 _ h2 => nd_ok (by
        have := nd_begin h1
        simp only [nEx, nExs]
        omega)
    refine ⟨fun k i op => ?_, fun k e i op => ?_, fun i op => ?_, fun i op => ?_, fun i op => ?_, fun i op => ?_, fun acc i op => ?_⟩
    · rw [eLev]
      split
      · exact hU i op
      · exact nd_bind (hL (k + 1) i op) fun v i' op' _ h1 w j o hw => by
          have := hO k v i' op' w j o hw
          omega
    · rw [eLoop]
      split
      · refine nd_bind (hL (k + 1) (i + 1) op) fun v i' op' _ h1 => ?_
        split
        · exact nd_ok (by simp only [nEx, nExs]; omega)
        · intro w j o hw
          have := hO k _ i' op' w j o hw
          simp only [nEx, nExs] at this
          omega
      · exact nd_ok (Nat.le_refl _)
    · rw [eUnary]
      split
      · exact neg _ _ _ _
      · split
        · exact neg _ _ _ _
        · exact hP i op
    · rw [ePrim]
      split
      · exact nd_any fun _ i1 op1 h1 => nd_bind (hL 0 i1 op1) fun v i2 op2 _ h2 => nd_any fun _ i3 op3 h3 => nd_ok (by
          have := nd_begin h1
          have := nd_end h3
          omega)
      · split
        · exact nd_any fun n i1 op1 h1 => nd_ok (by
            have : i1 = i + 1 := by
              injection h1 with h1
              unfold sNumber Res.bind at h1
              split at h1
              · rename_i h
                cases h1
                exact (nd_word (congrArg some h)).1
              · cases h1
            simp only [nEx, nExs]
            omega)
        · refine nd_any fun s i1 op1 h1 => ?_
          have h1' := (nd_word h1).1
          split
          · exact nd_bind (hI i1 op1) fun v i2 op2 _ h2 => nd_ok (by simp only [nEx, nExs]; omega)
          · split
            · exact nd_bind (hA i1 op1) fun v i2 op2 _ h2 => nd_ok (by simp only [nEx]; omega)
            · exact nd_ok (by simp only [nEx, nExs]; omega)
    · rw [eIndex]
      exact nd_any fun _ i1 op1 h1 => nd_bind (hL 0 i1 op1) fun v i2 op2 _ h2 => nd_any fun _ i3 op3 h3 => nd_ok (by
        have := nd_begin h1
        have := nd_end h3
        omega)
    · rw [eArgs]
      exact nd_any fun _ i1 op1 h1 => nd_bind (hB [] i1 op1) fun v i2 op2 _ h2 => nd_any fun _ i3 op3 h3 => nd_ok (by
        have := nd_begin h1
        have := nd_end h3
        simp only [nExs] at h2
        omega)
    · rw [eArgsLoop]
      split
      · exact nd_ok (Nat.le_refl _)
      · refine nd_any fun _ i1 op1 h1 => nd_bind (hL 0 i1 op1) fun v i2 op2 _ h2 w j o hw => ?_
        have : i ≤ i1 := by
          injection h1 with h1
          split at h1
          · cases h1; exact Nat.le_refl _
          · have := (nd_need (congrArg some h1)).1; omega
        have := hB _ i2 op2 w j o hw
        rw [nExs_app] at this
        simp only [nExs] at this
        omega
theorem st_nd (T : List Tok) : ∀ f : Nat, (∀ i op, Nd nSms 0 i (sBlock T f i op)) ∧ (∀ acc i op, Nd nSms (nSms acc) i (sStmts T f acc i op)) ∧ (∀ i op, Nd nSm 0 i (sStmt T f i op)) ∧ (∀ i op, Nd nSm 0 i (sSimple T f i op))
  | 0 => ⟨fun _ _ => by rw [sBlock]; exact nd_none, fun _ _ _ => by rw [sStmts]; exact nd_none, fun _ _ => by rw [sStmt]; exact nd_none, fun _ _ => by rw [sSimple]; exact nd_none⟩
  | f + 1 => by
    obtain ⟨hB, hL, hS, hM⟩ := st_nd T f
    obtain ⟨eL, _, _, _, eI, eA, _⟩ := ex_nd T f
    refine ⟨fun i op => ?_, fun acc i op => ?_, fun i op => ?_, fun i op => ?_⟩
    · rw [sBlock]
      exact nd_any fun _ i1 op1 h1 => nd_bind (hL [] i1 op1) fun v i2 op2 _ h2 => nd_any fun _ i3 op3 h3 => nd_ok (by
        have := nd_begin h1
        have := nd_end h3
        simp only [nSms] at h2
        omega)
    · rw [sStmts]
      split
      · exact nd_ok (Nat.le_refl _)
      · refine nd_bind (hS i op) fun v i1 op1 _ h1 w j o hw => ?_
        have := hL _ i1 op1 w j o hw
        rw [nSms_app] at this
        simp only [nSms] at this
        omega
    · rw [sStmt]
      split
      · refine nd_bind (eL 0 (i + 1) op) fun v i1 op1 _ h1 => nd_bind (hB i1 op1) fun th i2 op2 _ h2 => ?_
        split
        · exact nd_bind (hB (i2 + 1) op2) fun el i3 op3 _ h3 => nd_ok (by simp only [nSm, nExs]; omega)
        · exact nd_ok (by simp only [nSm, nExs, nSms]; omega)
      · split
        · exact nd_bind (eL 0 (i + 1) op) fun v i1 op1 _ h1 => nd_bind (hB i1 op1) fun th i2 op2 _ h2 => nd_ok (by simp only [nSm, nExs, nSms]; omega)
        · exact nd_bind (hM i op) fun v i1 op1 _ h1 => nd_any fun _ i2 op2 h2 => nd_ok (by have := (nd_need h2).1; omega)
    · rw [sSimple]
      split
      · exact nd_bind (eL 0 (i + 1) op) fun v i1 op1 _ h1 => nd_ok (by simp only [nSm, nExs, nSms]; omega)
      · split
        · exact nd_ok (by simp only [nSm, nExs, nSms]; omega)
        · refine nd_any fun s i1 op1 h1 => ?_
          have h1' := (nd_word h1).1
          split
          · exact nd_bind (eA i1 op1) fun l i2 op2 _ h2 => nd_ok (by simp only [nSm, nExs, nSms, nEx]; omega)
          · split
            · exact nd_bind (eI i1 op1) fun x i2 op2 _ h2 => nd_any fun _ i3 op3 h3 => nd_bind (eL 0 i3 op3) fun v i4 op4 _ h4 => nd_ok (by have := (nd_need h3).1; simp only [nSm, nExs, nSms]; omega)
            · exact nd_any fun _ i3 op3 h3 => nd_bind (eL 0 i3 op3) fun v i4 op4 _ h4 => nd_ok (by have := (nd_need h3).1; simp only [nSm, nExs, nSms]; omega)
theorem namesLoop_nd (T : List Tok) : ∀ (f : Nat) (acc : List (List UInt8)) (i op : Nat), Nd List.length acc.length i (sNamesLoop T f acc i op)
  | 0, _, _, _ => by rw [sNamesLoop]; exact nd_none
  | f + 1, acc, i, op => by
    rw [sNamesLoop]
    split
    · refine nd_any fun s i1 op1 h1 w j o hw => ?_
      have := (nd_word h1).1
      have := namesLoop_nd T f _ i1 op1 w j o hw
      rw [List.length_append, List.length_singleton] at this
      omega
    · exact nd_ok (Nat.le_refl _)
theorem names_nd (T : List Tok) (f i op : Nat) : Nd List.length 0 i (sNames T f i op) := nd_any fun s i1 op1 h1 w j o hw => by
  have := (nd_word h1).1
  have := namesLoop_nd T f _ i1 op1 w j o hw
  rw [List.length_singleton] at this
  omega
theorem vars_nd (T : List Tok) : ∀ (f : Nat) (acc : List (List UInt8)) (i op : Nat), Nd List.length acc.length i (sVars T f acc i op)
  | 0, _, _, _ => by rw [sVars]; exact nd_none
  | f + 1, acc, i, op => by
    rw [sVars]
    split
    · refine nd_bind (names_nd T f (i + 1) op) fun l i1 op1 _ h1 => nd_any fun _ i2 op2 h2 w j o hw => ?_
      have := (nd_need h2).1
      have := vars_nd T f _ i2 op2 w j o hw
      rw [List.length_append] at this
      omega
    · exact nd_ok (Nat.le_refl _)
theorem func_nd (T : List Tok) (f i op : Nat) : Nd nFn 0 i (sFunc T f i op) := by
  unfold sFunc
  refine nd_any fun s i1 op1 h1 => nd_any fun _ i2 op2 h2 => nd_bind (f := List.length) (m := 0) (j := i2) ?_ fun ps i3 op3 _ h3 => nd_any fun _ i4 op4 h4 => nd_any fun _ i5 op5 h5 => nd_bind (vars_nd T f [] i5 op5) fun ls i6 op6 _ h6 => nd_bind ((st_nd T f).2.1 [] i6 op6) fun b i7 op7 _ h7 => nd_any fun _ i8 op8 h8 => nd_ok ?_
  · split
    · exact nd_ok (by simp)
    · exact names_nd T f i2 op2
  · have := (nd_word h1).1
    have := nd_begin h2
    have := nd_end h4
    have := nd_begin h5
    have := nd_end h8
    simp only [nSms, List.length_nil] at h6 h7
    simp only [nFn]
    omega
/-- Arrays have names and sizes out of the tokens. -/
def ArOk (a : Ar) : Prop := a.name.length ≤ 1000000000 ∧ a.size ≤ 4294967296
theorem array_nd {T : List Tok} (hT : ∀ t ∈ T, TokOk t) {i op : Nat} {a : Ar} {i' op' : Nat} (h : sArray T i op = some (.ok a i' op')) : i < i' ∧ ArOk a := by
  unfold sArray at h
  rcases obind_some h with ⟨s, i1, op1, h1, h⟩ | ⟨l, e, _, h⟩
  · rcases obind_some h with ⟨_, i2, op2, h2, h⟩ | ⟨l, e, _, h⟩
    · rcases obind_some h with ⟨n, i3, op3, h3, h⟩ | ⟨l, e, _, h⟩
      · rcases obind_some h with ⟨_, i4, op4, h4, h⟩ | ⟨l, e, _, h⟩
        · rcases obind_some h with ⟨_, i5, op5, h5, h⟩ | ⟨l, e, _, h⟩
          · cases h
            have e1 := (nd_word h1).1
            have e2 := nd_begin h2
            have e4 := nd_end h4
            have e5 := (nd_need h5).1
            injection h3 with h3
            unfold sNumber Res.bind at h3
            split at h3
            · rename_i t i6 op6 h6
              cases h3
              have e6 := (nd_word (congrArg some h6)).1
              refine ⟨by omega, ?_, ?_⟩
              · injection h1 with h1
                unfold sWord at h1
                split at h1
                · rename_i t1 ht1
                  split at h1
                  · cases h1
                    have := (hT t1 (List.mem_of_getElem? ht1)).1
                    show t1.text.length ≤ _
                    omega
                  · cases h1
                · cases h1
              · unfold sWord at h6
                split at h6
                · rename_i t1 ht1
                  split at h6
                  · rename_i hk
                    cases h6
                    obtain ⟨u, hu, hp, _⟩ := (hT t1 (List.mem_of_getElem? ht1)).2 hk
                    show numOf t1.text ≤ _
                    rw [numOf, hp]
                    simp only
                    omega
                  · cases h6
                · cases h6
            · cases h3
          · cases h
        · cases h
      · cases h
    · cases h
  · cases h
theorem prog_nd {T : List Tok} (hT : ∀ t ∈ T, TokOk t) : ∀ (f : Nat) (p : Pr) (i op : Nat) (q : Pr) (i' op' : Nat), (∀ a ∈ p.arrays, ArOk a) → sProg T f p i op = some (.ok q i' op') → nPr q + i ≤ nPr p + i' ∧ ∀ a ∈ q.arrays, ArOk a
  | 0, _, _, _, _, _, _, _, h => by rw [sProg] at h; cases h
  | f + 1, p, i, op, q, i', op', ha, h => by
    rw [sProg] at h
    split at h
    · cases h
      exact ⟨Nat.le_refl _, ha⟩
    · split at h
      · rcases obind_some h with ⟨l, i1, op1, h1, h⟩ | ⟨l, e, _, h⟩
        · have e1 := vars_nd T f [] i op _ _ _ h1
          obtain ⟨e2, e3⟩ := prog_nd hT f _ i1 op1 q i' op' (by exact ha) h
          refine ⟨?_, e3⟩
          simp only [nPr, List.length_append, List.length_nil] at e1 e2 ⊢
          omega
        · cases h
      · split at h
        · rcases obind_some h with ⟨a, i1, op1, h1, h⟩ | ⟨l, e, _, h⟩
          · obtain ⟨e1, e0⟩ := array_nd hT h1
            obtain ⟨e2, e3⟩ := prog_nd hT f _ i1 op1 q i' op' (by
              intro b hb
              rcases List.mem_append.1 hb with hb | hb
              · exact ha b hb
              · rw [List.mem_singleton.1 hb]; exact e0) h
            refine ⟨?_, e3⟩
            simp only [nPr, List.length_append, List.length_singleton] at e2 ⊢
            omega
          · cases h
        · split at h
          · rcases obind_some h with ⟨a, i1, op1, h1, h⟩ | ⟨l, e, _, h⟩
            · have e1 := func_nd T f _ _ _ _ _ h1
              obtain ⟨e2, e3⟩ := prog_nd hT f _ i1 op1 q i' op' (by exact ha) h
              refine ⟨?_, e3⟩
              simp only [nPr, nFns_app, nFns] at e2 ⊢
              omega
            · cases h
          · cases h
end Go.Stele
namespace Go.Proofs.YtfodkbchknknjaaGreatDoor
open Go.GL Go.RowKit Go.Stele
set_option maxRecDepth 100000
set_option maxHeartbeats 4000000
theorem encArgs_eq (e : Ex) : encArgs e = (exArgs e).map encE := by
  obtain ⟨o, n, nm, a⟩ := e
  exact encArgs_map o n nm a
theorem encThen_eq (s : Sm) : encThen s = (smThen s).map encS := by
  obtain ⟨k, n, i, v, t, e⟩ := s
  rw [encThen, encSs_map]
  rfl
theorem encElse_eq (s : Sm) : encElse s = (smElse s).map encS := by
  obtain ⟨k, n, i, v, t, e⟩ := s
  rw [encElse, encSs_map]
  rfl
/-- The trees are not too wide anywhere. -/
theorem ret_any {C : Ctx} {f : FuncId} {args : List LV} {v : Value} (h : LCalls C f args [] (Ret (.atom v))) : LCalls C f args [] (fun r _ => r = .ret (.atom v)) := LCalls.mono h fun _ _ h => h.1
attribute [local irreducible] LOps LCode LStep LCalls Go.GL.Pure QThen QBlock RetPost LQ LAny LLate LLateOp
section
variable {B0 : Nat} {w0 : World}
theorem sameNames_spec (a b : List (List UInt8)) (ha : a.length ≤ 4611686018427387904) : LCalls (KC B0 w0) 39 [.list (a.map str), .list (b.map str)] [] (Ret (bool (eqNames a b))) := by
  have hla : (a.map str).length = a.length := List.length_map _
  have hlb : (b.map str).length = b.length := List.length_map _
  refine LCalls.intro Tryz.func39 rfl (n := 26) rfl rfl rfl ?_
  repeat first
    | refine LOps.nil ?_
    | refine LCode.seq ?_
    | refine LCode.region ?_
    | refine QThen.normal ?_
    | refine LOps.pure (Pure.as (lv := .atom _) rfl) rfl ?_
    | refine LOps.pure (Pure.mv (lv := .list _) rfl) rfl ?_
    | refine LOps.pure (Pure.llen rfl) rfl ?_
    | refine LOps.pure (Pure.neq rfl rfl) rfl ?_
  refine LCode.cond rfl (fun hc => ?_) (fun hc => ?_)
  · have hne : a.length ≠ b.length := by
      have : ¬ ((a.map str).length : Int) = (b.map str).length := by simpa using hc
      omega
    repeat first
      | refine LOps.nil ?_
      | refine LCode.seq ?_
      | refine LCode.region ?_
      | refine LCode.ret ?_
      | refine QThen.normal ?_
      | refine QThen.ret ?_
      | refine LOps.pure (Pure.as (lv := .atom _) rfl) rfl ?_
    exact retRet rfl (AllRes.cons (ResIs.tmp (v := .atom _) rfl (LV.Sub.refl _)) AllRes.nil) (bool_eq (eqList_len a b hne).symm)
  · have hle : a.length = b.length := by
      have : ((a.map str).length : Int) = (b.map str).length := by simpa using hc
      omega
    repeat first
      | refine LOps.nil ?_
      | refine LCode.seq ?_
      | refine LCode.region ?_
      | refine LCode.skip ?_
      | refine LCode.block ?_
      | refine QThen.normal ?_
      | refine LOps.pure (Pure.as (lv := .atom _) rfl) rfl ?_
    refine LCode.loopI (fun k ls H => ∃ i, k = a.length - i ∧ i ≤ a.length ∧ ls = [(0, .list (a.map str)), (1, .list (b.map str)), (5, int .i64 i)] ∧ H = [] ∧ eqNames a b = eqList (fun a b => decide (a = b)) (a.drop i) (b.drop i))
      ⟨_, _, _, ⟨0, rfl, Nat.zero_le _, rfl, rfl, rfl⟩, ⟨rfl, rfl, rfl, trivial⟩, HSub.refl _⟩ ?_
    rintro k ls H ⟨i, rfl, hi, rfl, rfl, hE⟩ j hj
    repeat first
      | refine LOps.nil ?_
      | refine LCode.seq ?_
      | refine LCode.region ?_
      | refine QThen.normal ?_
      | refine LOps.pure (Pure.mv (lv := .list _) rfl) rfl ?_
      | refine LOps.pure (Pure.mv (lv := .atom _) rfl) rfl ?_
      | refine LOps.pure (Pure.llen rfl) rfl ?_
      | refine LOps.pure (Pure.lss rfl rfl) rfl ?_
    refine LCode.cond rfl (fun hc => ?_) (fun hc => ?_)
    · have hlt : i < a.length := by have := of_decide_eq_true hc; omega
      have hlt2 : i < b.length := by omega
      repeat first
        | refine LCode.seq ?_
        | refine LCode.skip ?_
        | refine LCode.block ?_
        | refine QThen.normal ?_
      refine LCode.cut [(0, .list (a.map str)), (1, .list (b.map str)), (5, int .i64 i), (25, bool (!decide (a[i] = b[i])))] ?_ (fun j2 hj2 => ?_)
      · refine LCode.quiet (by kernel_rfl) ?_
        repeat first
          | refine LQ.pure (Pure.mv (lv := .list _) rfl) rfl ?_
          | refine LQ.pure (Pure.mv (lv := .atom _) rfl) rfl ?_
        refine LQ.pure (Pure.ixRef (el' := str a[i]) (cs := [_]) rfl rfl (by omega) (map_get _ _ _ hlt) rfl rfl) rfl ?_
        repeat first
          | refine LQ.pure (Pure.mv (lv := .list _) rfl) rfl ?_
          | refine LQ.pure (Pure.mv (lv := .atom _) rfl) rfl ?_
          | refine LQ.pure (Pure.loadRef (c := .atom _) rfl rfl) rfl ?_
        refine LQ.pure (Pure.ixRef (el' := str b[i]) (cs := [_]) rfl rfl (by omega) (map_get _ _ _ hlt2) rfl rfl) rfl ?_
        repeat first
          | refine LQ.pure (Pure.loadRef (c := .atom _) rfl rfl) rfl ?_
          | refine LQ.pure (Pure.sneq rfl rfl) rfl ?_
          | refine LQ.nil ?_
          | refine QThen.normal ?_
        exact ⟨⟨rfl, rfl, rfl, rfl, trivial⟩, rfl, rfl⟩
      · rw [eqList_drop hlt hlt2] at hE
        refine LCode.cond rfl (fun hd => ?_) (fun hd => ?_)
        · have hd' : decide (a[i] = b[i]) = false := by simpa using hd
          repeat first
            | refine LOps.nil ?_
            | refine LCode.seq ?_
            | refine LCode.region ?_
            | refine LCode.ret ?_
            | refine QThen.normal ?_
            | refine QThen.ret ?_
            | refine QBlock.ret ?_
            | refine LOps.pure (Pure.as (lv := .atom _) rfl) rfl ?_
          exact retRet (hj2.trans hj) (AllRes.cons (ResIs.tmp (v := .atom _) rfl (LV.Sub.refl _)) AllRes.nil) (bool_eq (by rw [hE, hd', Bool.false_and]))
        · have hd' : decide (a[i] = b[i]) = true := by simpa using hd
          rw [hd', Bool.true_and] at hE
          repeat first
            | refine LOps.nil ?_
            | refine LCode.region ?_
            | refine LCode.skip ?_
            | refine QThen.normal ?_
            | refine QBlock.normal ?_
            | refine LOps.pure (Pure.as (lv := .atom _) rfl) rfl ?_
            | refine LOps.pure (Pure.mv (lv := .atom _) rfl) rfl ?_
            | refine LOps.pure (Pure.add rfl rfl (by omega)) rfl ?_
          exact ⟨_, _, _, by omega, ⟨i + 1, rfl, by omega, rfl, rfl, hE⟩, ⟨rfl, rfl, int_eq (by omega), trivial⟩, HSub.refl _, hj2.trans hj⟩
    · have hge : a.length ≤ i := by have := of_decide_eq_false hc; omega
      rw [eqList_end hge (by omega)] at hE
      repeat first
        | refine LOps.nil ?_
        | refine LCode.seq ?_
        | refine LCode.region ?_
        | refine LCode.ret ?_
        | refine LCode.exit ?_
        | refine QThen.normal ?_
        | refine QThen.exit ?_
        | refine QBlock.hit ?_
        | refine LOps.pure (Pure.as (lv := .atom _) rfl) rfl ?_
      exact retRet hj (AllRes.cons (ResIs.tmp (v := .atom _) rfl (LV.Sub.refl _)) AllRes.nil) (bool_eq hE.symm)
theorem sameExprs_spec : ∀ (n : Nat) (a b : List Ex), nExs a ≤ n → n ≤ 4611686018427387904 → LCalls (KC B0 w0) 68 [.list (a.map encE), .list (b.map encE)] [] (Ret (bool (eqExs a b))) := by
  intro n
  induction n using Nat.strongRecOn with
  | _ n ih =>
  intro a b hn hb
  have ha := nExs_len a
  have hla : (a.map encE).length = a.length := List.length_map _
  have hlb : (b.map encE).length = b.length := List.length_map _
  rw [eqExs_list]
  refine LCalls.intro Tryz.func68 rfl (n := 68) rfl rfl rfl ?_
  repeat first
    | refine LOps.nil ?_
    | refine LCode.seq ?_
    | refine LCode.region ?_
    | refine QThen.normal ?_
    | refine LOps.pure (Pure.as (lv := .atom _) rfl) rfl ?_
    | refine LOps.pure (Pure.mv (lv := .list _) rfl) rfl ?_
    | refine LOps.pure (Pure.llen rfl) rfl ?_
    | refine LOps.pure (Pure.neq rfl rfl) rfl ?_
  refine LCode.cond rfl (fun hc => ?_) (fun hc => ?_)
  · have hne : a.length ≠ b.length := by
      have : ¬ ((a.map encE).length : Int) = (b.map encE).length := by simpa using hc
      omega
    repeat first
      | refine LOps.nil ?_
      | refine LCode.seq ?_
      | refine LCode.region ?_
      | refine LCode.ret ?_
      | refine QThen.normal ?_
      | refine QThen.ret ?_
      | refine LOps.pure (Pure.as (lv := .atom _) rfl) rfl ?_
    exact retRet rfl (AllRes.cons (ResIs.tmp (v := .atom _) rfl (LV.Sub.refl _)) AllRes.nil) (bool_eq (eqList_len a b hne).symm)
  · have hle : a.length = b.length := by
      have : ((a.map encE).length : Int) = (b.map encE).length := by simpa using hc
      omega
    repeat first
      | refine LOps.nil ?_
      | refine LCode.seq ?_
      | refine LCode.region ?_
      | refine LCode.skip ?_
      | refine LCode.block ?_
      | refine QThen.normal ?_
      | refine LOps.pure (Pure.as (lv := .atom _) rfl) rfl ?_
    refine LCode.loopI (fun k ls H => ∃ i, k = a.length - i ∧ i ≤ a.length ∧ ls = [(0, .list (a.map encE)), (1, .list (b.map encE)), (5, int .i64 i)] ∧ H = [] ∧ eqList eqEx a b = eqList eqEx (a.drop i) (b.drop i))
      ⟨_, _, _, ⟨0, rfl, Nat.zero_le _, rfl, rfl, rfl⟩, ⟨rfl, rfl, rfl, trivial⟩, HSub.refl _⟩ ?_
    rintro k ls H ⟨i, rfl, hi, rfl, rfl, hE⟩ j hj
    repeat first
      | refine LOps.nil ?_
      | refine LCode.seq ?_
      | refine LCode.region ?_
      | refine QThen.normal ?_
      | refine LOps.pure (Pure.mv (lv := .list _) rfl) rfl ?_
      | refine LOps.pure (Pure.mv (lv := .atom _) rfl) rfl ?_
      | refine LOps.pure (Pure.llen rfl) rfl ?_
      | refine LOps.pure (Pure.lss rfl rfl) rfl ?_
    refine LCode.cond rfl (fun hc => ?_) (fun hc => ?_)
    · have hlt : i < a.length := by have := of_decide_eq_true hc; omega
      have hlt2 : i < b.length := by omega
      have hna : nExs (exArgs a[i]) < n := by
        have h1 := nExs_mem (List.getElem_mem hlt)
        have h2 := nEx_eq a[i]
        omega
      repeat first
        | refine LCode.seq ?_
        | refine LCode.skip ?_
        | refine LCode.block ?_
        | refine QThen.normal ?_
      have hpt := eqEx_parts a[i] b[i]
      refine LCode.cut [(0, .list (a.map encE)), (1, .list (b.map encE)), (5, int .i64 i), (67, bool (!eqEx a[i] b[i]))] ?_ (fun j2 hj2 => ?_)
      · refine LCode.quiet (by kernel_rfl) ?_
        repeat first
          | refine LQ.pure (Pure.mv (lv := .list _) rfl) rfl ?_
          | refine LQ.pure (Pure.mv (lv := .atom _) rfl) rfl ?_
        refine LQ.pure (Pure.ixRef (el' := encE a[i]) (cs := [_, _, _, _]) rfl rfl (by omega) (map_get _ _ _ hlt) rfl rfl) rfl ?_
        repeat first
          | refine LQ.pure (Pure.mv (lv := .list _) rfl) rfl ?_
          | refine LQ.pure (Pure.mv (lv := .atom _) rfl) rfl ?_
          | refine LQ.pure (Pure.field1 rfl rfl) rfl ?_
          | refine LQ.pure (Pure.loadRef (c := .atom _) rfl rfl) rfl ?_
        refine LQ.pure (Pure.ixRef (el' := encE b[i]) (cs := [_, _, _, _]) rfl rfl (by omega) (map_get _ _ _ hlt2) rfl rfl) rfl ?_
        repeat first
          | refine LQ.pure (Pure.mv (lv := .atom _) rfl) rfl ?_
          | refine LQ.pure (Pure.field1 rfl rfl) rfl ?_
          | refine LQ.pure (Pure.loadRef (c := .atom _) rfl rfl) rfl ?_
          | refine LQ.pure (Pure.sneq rfl rfl) rfl ?_
        refine LQ.bcase 28 rfl (fun h1 => ?_) (fun h1 => ?_)
        · repeat first
            | refine LQ.pure (Pure.mv (lv := .atom _) rfl) rfl ?_
            | refine LQ.pure (Pure.pickT (lv := .atom _) rfl rfl) rfl ?_
            | refine LQ.skip rfl rfl rfl rfl ?_
            | refine LQ.nil ?_
            | refine QThen.normal ?_
          exact ⟨⟨rfl, rfl, rfl, bool_eq (by rw [hpt, not_t h1]; rfl), trivial⟩, rfl, rfl⟩
        · have h1' := not_f h1
          rw [h1', Bool.true_and] at hpt
          repeat first
            | refine LQ.pure (Pure.mv (lv := .list _) rfl) rfl ?_
            | refine LQ.pure (Pure.mv (lv := .atom _) rfl) rfl ?_
            | refine LQ.want rfl rfl ?_
          refine LQ.pure (Pure.ixRef (el' := encE a[i]) (cs := [_, _, _, _]) rfl rfl (by omega) (map_get _ _ _ hlt) rfl rfl) rfl ?_
          repeat first
            | refine LQ.pure (Pure.mv (lv := .list _) rfl) rfl ?_
            | refine LQ.pure (Pure.mv (lv := .atom _) rfl) rfl ?_
            | refine LQ.pure (Pure.field1 rfl rfl) rfl ?_
            | refine LQ.pure (Pure.loadRef (c := .atom _) rfl rfl) rfl ?_
            | refine LQ.want rfl rfl ?_
          refine LQ.pure (Pure.ixRef (el' := encE b[i]) (cs := [_, _, _, _]) rfl rfl (by omega) (map_get _ _ _ hlt2) rfl rfl) rfl ?_
          repeat first
            | refine LQ.pure (Pure.mv (lv := .atom _) rfl) rfl ?_
            | refine LQ.pure (Pure.neq rfl rfl) rfl ?_
            | refine LQ.pure (Pure.field1 rfl rfl) rfl ?_
            | refine LQ.pure (Pure.loadRef (c := .atom _) rfl rfl) rfl ?_
            | refine LQ.pure (Pure.pickF (lv := .atom _) rfl rfl) rfl ?_
            | refine LQ.want rfl rfl ?_
          refine LQ.bcase 41 rfl (fun h2 => ?_) (fun h2 => ?_)
          · repeat first
              | refine LQ.pure (Pure.mv (lv := .atom _) rfl) rfl ?_
              | refine LQ.pure (Pure.pickT (lv := .atom _) rfl rfl) rfl ?_
              | refine LQ.skip rfl rfl rfl rfl ?_
              | refine LQ.nil ?_
              | refine QThen.normal ?_
            exact ⟨⟨rfl, rfl, rfl, bool_eq (by rw [hpt, not_t h2]; rfl), trivial⟩, rfl, rfl⟩
          · have h2' := not_f h2
            rw [h2', Bool.true_and] at hpt
            repeat first
              | refine LQ.pure (Pure.mv (lv := .list _) rfl) rfl ?_
              | refine LQ.pure (Pure.mv (lv := .atom _) rfl) rfl ?_
              | refine LQ.want rfl rfl ?_
            refine LQ.pure (Pure.ixRef (el' := encE a[i]) (cs := [_, _, _, _]) rfl rfl (by omega) (map_get _ _ _ hlt) rfl rfl) rfl ?_
            repeat first
              | refine LQ.pure (Pure.mv (lv := .list _) rfl) rfl ?_
              | refine LQ.pure (Pure.mv (lv := .atom _) rfl) rfl ?_
              | refine LQ.pure (Pure.field1 rfl rfl) rfl ?_
              | refine LQ.pure (Pure.loadRef (c := .atom _) rfl rfl) rfl ?_
              | refine LQ.want rfl rfl ?_
            refine LQ.pure (Pure.ixRef (el' := encE b[i]) (cs := [_, _, _, _]) rfl rfl (by omega) (map_get _ _ _ hlt2) rfl rfl) rfl ?_
            repeat first
              | refine LQ.pure (Pure.mv (lv := .atom _) rfl) rfl ?_
              | refine LQ.pure (Pure.field1 rfl rfl) rfl ?_
              | refine LQ.pure (Pure.loadRef (c := .atom _) rfl rfl) rfl ?_
              | refine LQ.pure (Pure.sneq rfl rfl) rfl ?_
              | refine LQ.pure (Pure.pickF (lv := .atom _) rfl rfl) rfl ?_
              | refine LQ.want rfl rfl ?_
            refine LQ.bcase 54 rfl (fun h3 => ?_) (fun h3 => ?_)
            · repeat first
                | refine LQ.pure (Pure.pickT (lv := .atom _) rfl rfl) rfl ?_
                | refine LQ.skip rfl rfl rfl rfl ?_
                | refine LQ.nil ?_
                | refine QThen.normal ?_
              exact ⟨⟨rfl, rfl, rfl, bool_eq (by rw [hpt, not_t h3]; rfl), trivial⟩, rfl, rfl⟩
            · have h3' := not_f h3
              rw [h3', Bool.true_and] at hpt
              repeat first
                | refine LQ.pure (Pure.mv (lv := .list _) rfl) rfl ?_
                | refine LQ.pure (Pure.mv (lv := .atom _) rfl) rfl ?_
                | refine LQ.want rfl rfl ?_
              refine LQ.pure (Pure.ixRef (el' := encE a[i]) (cs := [_, _, _, _]) rfl rfl (by omega) (map_get _ _ _ hlt) rfl rfl) rfl ?_
              repeat first
                | refine LQ.pure (Pure.mv (lv := .list _) rfl) rfl ?_
                | refine LQ.pure (Pure.mv (lv := .atom _) rfl) rfl ?_
                | refine LQ.pure (Pure.field1 rfl rfl) rfl ?_
                | refine LQ.pure (Pure.loadRef (c := .list _) rfl rfl) rfl ?_
                | refine LQ.want rfl rfl ?_
              refine LQ.pure (Pure.ixRef (el' := encE b[i]) (cs := [_, _, _, _]) rfl rfl (by omega) (map_get _ _ _ hlt2) rfl rfl) rfl ?_
              repeat first
                | refine LQ.pure (Pure.field1 rfl rfl) rfl ?_
                | refine LQ.pure (Pure.loadRef (c := .list _) rfl rfl) rfl ?_
                | refine LQ.want rfl rfl ?_
              refine LQ.call (args := [_, _]) (v := .bool (eqExs (exArgs a[i]) (exArgs b[i]))) (ret_any (by
                have := ih _ hna (exArgs a[i]) (exArgs b[i]) (Nat.le_refl _) (by omega)
                rw [← encArgs_eq, ← encArgs_eq] at this
                exact this)) rfl ?_
              repeat first
                | refine LQ.pure (Pure.pickF (lv := .atom _) rfl rfl) rfl ?_
                | refine LQ.pure (Pure.not rfl) rfl ?_
                | refine LQ.want rfl rfl ?_
                | refine LQ.nil ?_
                | refine QThen.normal ?_
              exact ⟨⟨rfl, rfl, rfl, bool_eq (by rw [hpt]), trivial⟩, rfl, rfl⟩
      · rw [eqList_drop hlt hlt2] at hE
        refine LCode.cond rfl (fun hd => ?_) (fun hd => ?_)
        · have hd' : eqEx a[i] b[i] = false := by simpa using hd
          repeat first
            | refine LOps.nil ?_
            | refine LCode.seq ?_
            | refine LCode.region ?_
            | refine LCode.ret ?_
            | refine QThen.normal ?_
            | refine QThen.ret ?_
            | refine QBlock.ret ?_
            | refine LOps.pure (Pure.as (lv := .atom _) rfl) rfl ?_
          exact retRet (hj2.trans hj) (AllRes.cons (ResIs.tmp (v := .atom _) rfl (LV.Sub.refl _)) AllRes.nil) (bool_eq (by rw [hE, hd', Bool.false_and]))
        · have hd' : eqEx a[i] b[i] = true := by simpa using hd
          rw [hd', Bool.true_and] at hE
          repeat first
            | refine LOps.nil ?_
            | refine LCode.region ?_
            | refine LCode.skip ?_
            | refine QThen.normal ?_
            | refine QBlock.normal ?_
            | refine LOps.pure (Pure.as (lv := .atom _) rfl) rfl ?_
            | refine LOps.pure (Pure.mv (lv := .atom _) rfl) rfl ?_
            | refine LOps.pure (Pure.add rfl rfl (by omega)) rfl ?_
          exact ⟨_, _, _, by omega, ⟨i + 1, rfl, by omega, rfl, rfl, hE⟩, ⟨rfl, rfl, int_eq (by omega), trivial⟩, HSub.refl _, hj2.trans hj⟩
    · have hge : a.length ≤ i := by have := of_decide_eq_false hc; omega
      rw [eqList_end hge (by omega)] at hE
      repeat first
        | refine LOps.nil ?_
        | refine LCode.seq ?_
        | refine LCode.region ?_
        | refine LCode.ret ?_
        | refine LCode.exit ?_
        | refine QThen.normal ?_
        | refine QThen.exit ?_
        | refine QBlock.hit ?_
        | refine LOps.pure (Pure.as (lv := .atom _) rfl) rfl ?_
      exact retRet hj (AllRes.cons (ResIs.tmp (v := .atom _) rfl (LV.Sub.refl _)) AllRes.nil) (bool_eq hE.symm)
end
end Go.Proofs.YtfodkbchknknjaaGreatDoor
namespace Go.Proofs.YtfodkbchknknjaaGreatDoor
open Go.GL Go.RowKit Go.Stele
set_option maxRecDepth 100000
set_option maxHeartbeats 4000000
attribute [local irreducible] LOps LCode LStep LCalls Go.GL.Pure QThen QBlock RetPost LQ LAny LLate LLateOp
section
variable {B0 : Nat} {w0 : World}
theorem sameStmts_spec : ∀ (n : Nat) (a b : List Sm), nSms a ≤ n → n ≤ 4611686018427387904 → LCalls (KC B0 w0) 40 [.list (a.map encS), .list (b.map encS)] [] (Ret (bool (eqSms a b))) := by
  intro n
  induction n using Nat.strongRecOn with
  | _ n ih =>
  intro a b hn hb
  have ha := nSms_len a
  have hla : (a.map encS).length = a.length := List.length_map _
  have hlb : (b.map encS).length = b.length := List.length_map _
  rw [eqSms_list]
  refine LCalls.intro Tryz.func40 rfl (n := 97) rfl rfl rfl ?_
  repeat first
    | refine LOps.nil ?_
    | refine LCode.seq ?_
    | refine LCode.region ?_
    | refine QThen.normal ?_
    | refine LOps.pure (Pure.as (lv := .atom _) rfl) rfl ?_
    | refine LOps.pure (Pure.mv (lv := .list _) rfl) rfl ?_
    | refine LOps.pure (Pure.llen rfl) rfl ?_
    | refine LOps.pure (Pure.neq rfl rfl) rfl ?_
  refine LCode.cond rfl (fun hc => ?_) (fun hc => ?_)
  · have hne : a.length ≠ b.length := by
      have : ¬ ((a.map encS).length : Int) = (b.map encS).length := by simpa using hc
      omega
    repeat first
      | refine LOps.nil ?_
      | refine LCode.seq ?_
      | refine LCode.region ?_
      | refine LCode.ret ?_
      | refine QThen.normal ?_
      | refine QThen.ret ?_
      | refine LOps.pure (Pure.as (lv := .atom _) rfl) rfl ?_
    exact retRet rfl (AllRes.cons (ResIs.tmp (v := .atom _) rfl (LV.Sub.refl _)) AllRes.nil) (bool_eq (eqList_len a b hne).symm)
  · have hle : a.length = b.length := by
      have : ((a.map encS).length : Int) = (b.map encS).length := by simpa using hc
      omega
    repeat first
      | refine LOps.nil ?_
      | refine LCode.seq ?_
      | refine LCode.region ?_
      | refine LCode.skip ?_
      | refine LCode.block ?_
      | refine QThen.normal ?_
      | refine LOps.pure (Pure.as (lv := .atom _) rfl) rfl ?_
    refine LCode.loopI (fun k ls H => ∃ i, k = a.length - i ∧ i ≤ a.length ∧ ls = [(0, .list (a.map encS)), (1, .list (b.map encS)), (5, int .i64 i)] ∧ H = [] ∧ eqList eqSm a b = eqList eqSm (a.drop i) (b.drop i))
      ⟨_, _, _, ⟨0, rfl, Nat.zero_le _, rfl, rfl, rfl⟩, ⟨rfl, rfl, rfl, trivial⟩, HSub.refl _⟩ ?_
    rintro k ls H ⟨i, rfl, hi, rfl, rfl, hE⟩ j hj
    repeat first
      | refine LOps.nil ?_
      | refine LCode.seq ?_
      | refine LCode.region ?_
      | refine QThen.normal ?_
      | refine LOps.pure (Pure.mv (lv := .list _) rfl) rfl ?_
      | refine LOps.pure (Pure.mv (lv := .atom _) rfl) rfl ?_
      | refine LOps.pure (Pure.llen rfl) rfl ?_
      | refine LOps.pure (Pure.lss rfl rfl) rfl ?_
    refine LCode.cond rfl (fun hc => ?_) (fun hc => ?_)
    · have hlt : i < a.length := by have := of_decide_eq_true hc; omega
      have hlt2 : i < b.length := by omega
      have hna : nExs (smIndex a[i]) < n ∧ nExs (smValue a[i]) < n ∧ nSms (smThen a[i]) < n ∧ nSms (smElse a[i]) < n := by
        have h1 := nSms_mem (List.getElem_mem hlt)
        have h2 := nSm_eq a[i]
        omega
      repeat first
        | refine LCode.seq ?_
        | refine LCode.skip ?_
        | refine LCode.block ?_
        | refine QThen.normal ?_
      have hpt := eqSm_parts a[i] b[i]
      refine LCode.cut [(0, .list (a.map encS)), (1, .list (b.map encS)), (5, int .i64 i), (96, bool (!eqSm a[i] b[i]))] ?_ (fun j2 hj2 => ?_)
      · refine LCode.quiet (by kernel_rfl) ?_
        repeat first
          | refine LQ.pure (Pure.mv (lv := .list _) rfl) rfl ?_
          | refine LQ.pure (Pure.mv (lv := .atom _) rfl) rfl ?_
        refine LQ.pure (Pure.ixRef (el' := encS a[i]) (cs := [_, _, _, _, _, _]) rfl rfl (by omega) (map_get _ _ _ hlt) rfl rfl) rfl ?_
        repeat first
          | refine LQ.pure (Pure.mv (lv := .list _) rfl) rfl ?_
          | refine LQ.pure (Pure.mv (lv := .atom _) rfl) rfl ?_
          | refine LQ.pure (Pure.field1 rfl rfl) rfl ?_
          | refine LQ.pure (Pure.loadRef (c := .atom _) rfl rfl) rfl ?_
        refine LQ.pure (Pure.ixRef (el' := encS b[i]) (cs := [_, _, _, _, _, _]) rfl rfl (by omega) (map_get _ _ _ hlt2) rfl rfl) rfl ?_
        repeat first
          | refine LQ.pure (Pure.mv (lv := .atom _) rfl) rfl ?_
          | refine LQ.pure (Pure.neq rfl rfl) rfl ?_
          | refine LQ.pure (Pure.field1 rfl rfl) rfl ?_
          | refine LQ.pure (Pure.loadRef (c := .atom _) rfl rfl) rfl ?_
        refine LQ.bcase 28 rfl (fun h1 => ?_) (fun h1 => ?_)
        · repeat first
            | refine LQ.pure (Pure.mv (lv := .atom _) rfl) rfl ?_
            | refine LQ.pure (Pure.pickT (lv := .atom _) rfl rfl) rfl ?_
            | refine LQ.skip rfl rfl rfl rfl ?_
            | refine LQ.nil ?_
            | refine QThen.normal ?_
          exact ⟨⟨rfl, rfl, rfl, bool_eq (by rw [hpt, not_t h1]; rfl), trivial⟩, rfl, rfl⟩
        · have h1' := not_f h1
          rw [h1', Bool.true_and] at hpt
          repeat first
            | refine LQ.pure (Pure.mv (lv := .list _) rfl) rfl ?_
            | refine LQ.pure (Pure.mv (lv := .atom _) rfl) rfl ?_
            | refine LQ.want rfl rfl ?_
          refine LQ.pure (Pure.ixRef (el' := encS a[i]) (cs := [_, _, _, _, _, _]) rfl rfl (by omega) (map_get _ _ _ hlt) rfl rfl) rfl ?_
          repeat first
            | refine LQ.pure (Pure.mv (lv := .list _) rfl) rfl ?_
            | refine LQ.pure (Pure.mv (lv := .atom _) rfl) rfl ?_
            | refine LQ.pure (Pure.field1 rfl rfl) rfl ?_
            | refine LQ.pure (Pure.loadRef (c := .atom _) rfl rfl) rfl ?_
            | refine LQ.want rfl rfl ?_
          refine LQ.pure (Pure.ixRef (el' := encS b[i]) (cs := [_, _, _, _, _, _]) rfl rfl (by omega) (map_get _ _ _ hlt2) rfl rfl) rfl ?_
          repeat first
            | refine LQ.pure (Pure.mv (lv := .atom _) rfl) rfl ?_
            | refine LQ.pure (Pure.field1 rfl rfl) rfl ?_
            | refine LQ.pure (Pure.loadRef (c := .atom _) rfl rfl) rfl ?_
            | refine LQ.pure (Pure.sneq rfl rfl) rfl ?_
            | refine LQ.pure (Pure.pickF (lv := .atom _) rfl rfl) rfl ?_
            | refine LQ.want rfl rfl ?_
          refine LQ.bcase 41 rfl (fun h2 => ?_) (fun h2 => ?_)
          · repeat first
              | refine LQ.pure (Pure.mv (lv := .atom _) rfl) rfl ?_
              | refine LQ.pure (Pure.pickT (lv := .atom _) rfl rfl) rfl ?_
              | refine LQ.skip rfl rfl rfl rfl ?_
              | refine LQ.nil ?_
              | refine QThen.normal ?_
            exact ⟨⟨rfl, rfl, rfl, bool_eq (by rw [hpt, not_t h2]; rfl), trivial⟩, rfl, rfl⟩
          · have h2' := not_f h2
            rw [h2', Bool.true_and] at hpt
            repeat first
              | refine LQ.pure (Pure.mv (lv := .list _) rfl) rfl ?_
              | refine LQ.pure (Pure.mv (lv := .atom _) rfl) rfl ?_
              | refine LQ.want rfl rfl ?_
            refine LQ.pure (Pure.ixRef (el' := encS a[i]) (cs := [_, _, _, _, _, _]) rfl rfl (by omega) (map_get _ _ _ hlt) rfl rfl) rfl ?_
            repeat first
              | refine LQ.pure (Pure.mv (lv := .list _) rfl) rfl ?_
              | refine LQ.pure (Pure.mv (lv := .atom _) rfl) rfl ?_
              | refine LQ.pure (Pure.field1 rfl rfl) rfl ?_
              | refine LQ.pure (Pure.loadRef (c := .list _) rfl rfl) rfl ?_
              | refine LQ.want rfl rfl ?_
            refine LQ.pure (Pure.ixRef (el' := encS b[i]) (cs := [_, _, _, _, _, _]) rfl rfl (by omega) (map_get _ _ _ hlt2) rfl rfl) rfl ?_
            repeat first
              | refine LQ.pure (Pure.field1 rfl rfl) rfl ?_
              | refine LQ.pure (Pure.loadRef (c := .list _) rfl rfl) rfl ?_
              | refine LQ.want rfl rfl ?_
            refine LQ.call (args := [_, _]) (v := .bool (eqExs (smIndex a[i]) (smIndex b[i]))) (ret_any (sameExprs_spec _ (smIndex a[i]) (smIndex b[i]) (Nat.le_refl _) (by omega))) rfl ?_
            repeat first
              | refine LQ.pure (Pure.mv (lv := .atom _) rfl) rfl ?_
              | refine LQ.pure (Pure.pickF (lv := .atom _) rfl rfl) rfl ?_
              | refine LQ.pure (Pure.not rfl) rfl ?_
              | refine LQ.want rfl rfl ?_
            refine LQ.bcase 55 rfl (fun h3 => ?_) (fun h3 => ?_)
            · repeat first
                | refine LQ.pure (Pure.mv (lv := .atom _) rfl) rfl ?_
                | refine LQ.pure (Pure.pickT (lv := .atom _) rfl rfl) rfl ?_
                | refine LQ.skip rfl rfl rfl rfl ?_
                | refine LQ.nil ?_
                | refine QThen.normal ?_
              exact ⟨⟨rfl, rfl, rfl, bool_eq (by rw [hpt, not_t h3]; rfl), trivial⟩, rfl, rfl⟩
            · have h3' := not_f h3
              rw [h3', Bool.true_and] at hpt
              repeat first
                | refine LQ.pure (Pure.mv (lv := .list _) rfl) rfl ?_
                | refine LQ.pure (Pure.mv (lv := .atom _) rfl) rfl ?_
                | refine LQ.want rfl rfl ?_
              refine LQ.pure (Pure.ixRef (el' := encS a[i]) (cs := [_, _, _, _, _, _]) rfl rfl (by omega) (map_get _ _ _ hlt) rfl rfl) rfl ?_
              repeat first
                | refine LQ.pure (Pure.mv (lv := .list _) rfl) rfl ?_
                | refine LQ.pure (Pure.mv (lv := .atom _) rfl) rfl ?_
                | refine LQ.pure (Pure.field1 rfl rfl) rfl ?_
                | refine LQ.pure (Pure.loadRef (c := .list _) rfl rfl) rfl ?_
                | refine LQ.want rfl rfl ?_
              refine LQ.pure (Pure.ixRef (el' := encS b[i]) (cs := [_, _, _, _, _, _]) rfl rfl (by omega) (map_get _ _ _ hlt2) rfl rfl) rfl ?_
              repeat first
                | refine LQ.pure (Pure.field1 rfl rfl) rfl ?_
                | refine LQ.pure (Pure.loadRef (c := .list _) rfl rfl) rfl ?_
                | refine LQ.want rfl rfl ?_
              refine LQ.call (args := [_, _]) (v := .bool (eqExs (smValue a[i]) (smValue b[i]))) (ret_any (sameExprs_spec _ (smValue a[i]) (smValue b[i]) (Nat.le_refl _) (by omega))) rfl ?_
              repeat first
                | refine LQ.pure (Pure.mv (lv := .atom _) rfl) rfl ?_
                | refine LQ.pure (Pure.pickF (lv := .atom _) rfl rfl) rfl ?_
                | refine LQ.pure (Pure.not rfl) rfl ?_
                | refine LQ.want rfl rfl ?_
              refine LQ.bcase 69 rfl (fun h4 => ?_) (fun h4 => ?_)
              · repeat first
                  | refine LQ.pure (Pure.mv (lv := .atom _) rfl) rfl ?_
                  | refine LQ.pure (Pure.pickT (lv := .atom _) rfl rfl) rfl ?_
                  | refine LQ.skip rfl rfl rfl rfl ?_
                  | refine LQ.nil ?_
                  | refine QThen.normal ?_
                exact ⟨⟨rfl, rfl, rfl, bool_eq (by rw [hpt, not_t h4]; rfl), trivial⟩, rfl, rfl⟩
              · have h4' := not_f h4
                rw [h4', Bool.true_and] at hpt
                repeat first
                  | refine LQ.pure (Pure.mv (lv := .list _) rfl) rfl ?_
                  | refine LQ.pure (Pure.mv (lv := .atom _) rfl) rfl ?_
                  | refine LQ.want rfl rfl ?_
                refine LQ.pure (Pure.ixRef (el' := encS a[i]) (cs := [_, _, _, _, _, _]) rfl rfl (by omega) (map_get _ _ _ hlt) rfl rfl) rfl ?_
                repeat first
                  | refine LQ.pure (Pure.mv (lv := .list _) rfl) rfl ?_
                  | refine LQ.pure (Pure.mv (lv := .atom _) rfl) rfl ?_
                  | refine LQ.pure (Pure.field1 rfl rfl) rfl ?_
                  | refine LQ.pure (Pure.loadRef (c := .list _) rfl rfl) rfl ?_
                  | refine LQ.want rfl rfl ?_
                refine LQ.pure (Pure.ixRef (el' := encS b[i]) (cs := [_, _, _, _, _, _]) rfl rfl (by omega) (map_get _ _ _ hlt2) rfl rfl) rfl ?_
                repeat first
                  | refine LQ.pure (Pure.field1 rfl rfl) rfl ?_
                  | refine LQ.pure (Pure.loadRef (c := .list _) rfl rfl) rfl ?_
                  | refine LQ.want rfl rfl ?_
                refine LQ.call (args := [_, _]) (v := .bool (eqSms (smThen a[i]) (smThen b[i]))) (ret_any (by
                  have := ih _ hna.2.2.1 (smThen a[i]) (smThen b[i]) (Nat.le_refl _) (by omega)
                  rw [← encThen_eq, ← encThen_eq] at this
                  exact this)) rfl ?_
                repeat first
                  | refine LQ.pure (Pure.mv (lv := .atom _) rfl) rfl ?_
                  | refine LQ.pure (Pure.pickF (lv := .atom _) rfl rfl) rfl ?_
                  | refine LQ.pure (Pure.not rfl) rfl ?_
                  | refine LQ.want rfl rfl ?_
                refine LQ.bcase 83 rfl (fun h5 => ?_) (fun h5 => ?_)
                · repeat first
                    | refine LQ.pure (Pure.pickT (lv := .atom _) rfl rfl) rfl ?_
                    | refine LQ.skip rfl rfl rfl rfl ?_
                    | refine LQ.nil ?_
                    | refine QThen.normal ?_
                  exact ⟨⟨rfl, rfl, rfl, bool_eq (by rw [hpt, not_t h5]; rfl), trivial⟩, rfl, rfl⟩
                · have h5' := not_f h5
                  rw [h5', Bool.true_and] at hpt
                  repeat first
                    | refine LQ.pure (Pure.mv (lv := .list _) rfl) rfl ?_
                    | refine LQ.pure (Pure.mv (lv := .atom _) rfl) rfl ?_
                    | refine LQ.want rfl rfl ?_
                  refine LQ.pure (Pure.ixRef (el' := encS a[i]) (cs := [_, _, _, _, _, _]) rfl rfl (by omega) (map_get _ _ _ hlt) rfl rfl) rfl ?_
                  repeat first
                    | refine LQ.pure (Pure.mv (lv := .list _) rfl) rfl ?_
                    | refine LQ.pure (Pure.mv (lv := .atom _) rfl) rfl ?_
                    | refine LQ.pure (Pure.field1 rfl rfl) rfl ?_
                    | refine LQ.pure (Pure.loadRef (c := .list _) rfl rfl) rfl ?_
                    | refine LQ.want rfl rfl ?_
                  refine LQ.pure (Pure.ixRef (el' := encS b[i]) (cs := [_, _, _, _, _, _]) rfl rfl (by omega) (map_get _ _ _ hlt2) rfl rfl) rfl ?_
                  repeat first
                    | refine LQ.pure (Pure.field1 rfl rfl) rfl ?_
                    | refine LQ.pure (Pure.loadRef (c := .list _) rfl rfl) rfl ?_
                    | refine LQ.want rfl rfl ?_
                  refine LQ.call (args := [_, _]) (v := .bool (eqSms (smElse a[i]) (smElse b[i]))) (ret_any (by
                    have := ih _ hna.2.2.2 (smElse a[i]) (smElse b[i]) (Nat.le_refl _) (by omega)
                    rw [← encElse_eq, ← encElse_eq] at this
                    exact this)) rfl ?_
                  repeat first
                    | refine LQ.pure (Pure.pickF (lv := .atom _) rfl rfl) rfl ?_
                    | refine LQ.pure (Pure.not rfl) rfl ?_
                    | refine LQ.want rfl rfl ?_
                    | refine LQ.nil ?_
                    | refine QThen.normal ?_
                  exact ⟨⟨rfl, rfl, rfl, bool_eq (by rw [hpt]), trivial⟩, rfl, rfl⟩
      · rw [eqList_drop hlt hlt2] at hE
        refine LCode.cond rfl (fun hd => ?_) (fun hd => ?_)
        · have hd' : eqSm a[i] b[i] = false := by simpa using hd
          repeat first
            | refine LOps.nil ?_
            | refine LCode.seq ?_
            | refine LCode.region ?_
            | refine LCode.ret ?_
            | refine QThen.normal ?_
            | refine QThen.ret ?_
            | refine QBlock.ret ?_
            | refine LOps.pure (Pure.as (lv := .atom _) rfl) rfl ?_
          exact retRet (hj2.trans hj) (AllRes.cons (ResIs.tmp (v := .atom _) rfl (LV.Sub.refl _)) AllRes.nil) (bool_eq (by rw [hE, hd', Bool.false_and]))
        · have hd' : eqSm a[i] b[i] = true := by simpa using hd
          rw [hd', Bool.true_and] at hE
          repeat first
            | refine LOps.nil ?_
            | refine LCode.region ?_
            | refine LCode.skip ?_
            | refine QThen.normal ?_
            | refine QBlock.normal ?_
            | refine LOps.pure (Pure.as (lv := .atom _) rfl) rfl ?_
            | refine LOps.pure (Pure.mv (lv := .atom _) rfl) rfl ?_
            | refine LOps.pure (Pure.add rfl rfl (by omega)) rfl ?_
          exact ⟨_, _, _, by omega, ⟨i + 1, rfl, by omega, rfl, rfl, hE⟩, ⟨rfl, rfl, int_eq (by omega), trivial⟩, HSub.refl _, hj2.trans hj⟩
    · have hge : a.length ≤ i := by have := of_decide_eq_false hc; omega
      rw [eqList_end hge (by omega)] at hE
      repeat first
        | refine LOps.nil ?_
        | refine LCode.seq ?_
        | refine LCode.region ?_
        | refine LCode.ret ?_
        | refine LCode.exit ?_
        | refine QThen.normal ?_
        | refine QThen.exit ?_
        | refine QBlock.hit ?_
        | refine LOps.pure (Pure.as (lv := .atom _) rfl) rfl ?_
      exact retRet hj (AllRes.cons (ResIs.tmp (v := .atom _) rfl (LV.Sub.refl _)) AllRes.nil) (bool_eq hE.symm)
end
end Go.Proofs.YtfodkbchknknjaaGreatDoor
namespace Go.Proofs.YtfodkbchknknjaaGreatDoor
open Go.GL Go.RowKit Go.Stele
set_option maxRecDepth 100000
set_option maxHeartbeats 4000000
instance : TPair Tryz.prog 70 := .of (by kernel_rfl) (by kernel_rfl) (by kernel_rfl)
/-- A program that is not too great. -/
structure PrOk (p : Pr) : Prop where
  size : nPr p ≤ 1000000000
  ars : ∀ a ∈ p.arrays, a.name.length ≤ 1000000000 ∧ a.size ≤ 4294967296
theorem fn_len {l : List FnD} {i : Nat} (h : i < l.length) : (l[i]).params.length + (l[i]).locals.length + nSms (l[i]).body ≤ nFns l := by
  have h1 := nFns_mem (List.getElem_mem h)
  unfold nFn at h1
  omega
theorem eqFn_parts (a b : FnD) : eqFn a b = (decide (a.name = b.name) && eqNames a.params b.params && eqNames a.locals b.locals && eqSms a.body b.body) := rfl
theorem eqAr_parts (a b : Ar) : eqAr a b = (decide (a.name = b.name) && decide ((a.size : Int) = (b.size : Int))) := rfl
attribute [local irreducible] LOps LCode LStep LCalls Go.GL.Pure QThen QBlock RetPost LQ LAny LLate LLateOp
section
variable {B0 : Nat} {w0 : World}
theorem equal_spec (a b : Pr) (ha : PrOk a) (hb : PrOk b) : LCalls (KC B0 w0) 14 [encPr a, encPr b] [] (Ret (bool (eqPr a b))) := by
  have hsz := ha.size
  unfold nPr at hsz
  have hfl := nFns_len a.funcs
  have h1a : (a.arrays.map encAr).length = a.arrays.length := List.length_map _
  have h1b : (b.arrays.map encAr).length = b.arrays.length := List.length_map _
  have h2a : (a.funcs.map encFn).length = a.funcs.length := List.length_map _
  have h2b : (b.funcs.map encFn).length = b.funcs.length := List.length_map _
  refine LCalls.intro Tryz.func14 rfl (n := 97) rfl rfl rfl ?_
  repeat first
    | refine LCode.seq ?_
    | refine LCode.region ?_
  refine LOps.step (S.box (cs := [.list (a.vars.map str), .list (a.arrays.map encAr), .list (a.funcs.map encFn)]) rfl fun b2 => ?_) rfl
  refine LOps.step (S.box (cs := [.list (b.vars.map str), .list (b.arrays.map encAr), .list (b.funcs.map encFn)]) rfl fun b3 => ?_) rfl
  repeat first
    | refine LOps.nil ?_
    | refine LCode.seq ?_
    | refine LCode.region ?_
    | refine QThen.normal ?_
    | refine LOps.pure (Pure.as (lv := .atom _) rfl) rfl ?_
    | refine LOps.pure (Pure.fieldH rfl) rfl ?_
    | refine LOps.pure (Pure.loadH (c := .list _) rfl (List.Mem.head _) rfl) rfl ?_
    | refine LOps.pure (Pure.loadH (c := .list _) rfl (List.Mem.tail _ (List.Mem.head _)) rfl) rfl ?_
  refine LOps.cut [(2, ptr b2 0), (3, ptr b3 0), (32, bool (!(eqNames a.vars b.vars && decide (a.arrays.length = b.arrays.length) && decide (a.funcs.length = b.funcs.length))))] ?_ (fun j hj => ?_)
  · refine LOps.step (S.fn [_, _] rfl (sameNames_spec a.vars b.vars (by omega)) ?_) rfl
    repeat first
      | refine LOps.pure (Pure.not rfl) rfl ?_
      | refine LOps.pure (Pure.mv (lv := .atom _) rfl) rfl ?_
    refine LOps.bcase 15 rfl (fun h1 => ?_) (fun h1 => ?_)
    · repeat first
        | refine LOps.nil ?_
        | refine QThen.normal ?_
        | refine LOps.pure (Pure.mv (lv := .atom _) rfl) rfl ?_
        | refine LOps.pure (Pure.pickT (lv := .atom _) rfl rfl) rfl ?_
        | refine LOps.skip rfl rfl rfl rfl ?_
      exact ⟨⟨rfl, rfl, bool_eq (by rw [not_t h1]; rfl), trivial⟩, rfl, rfl⟩
    · repeat first
        | refine LOps.pure (Pure.fieldH rfl) rfl ?_
        | refine LOps.pure (Pure.loadH (c := .list _) rfl (List.Mem.head _) rfl) rfl ?_
        | refine LOps.pure (Pure.loadH (c := .list _) rfl (List.Mem.tail _ (List.Mem.head _)) rfl) rfl ?_
        | refine LOps.pure (Pure.mv (lv := .atom _) rfl) rfl ?_
        | refine LOps.pure (Pure.llen rfl) rfl ?_
        | refine LOps.pure (Pure.neq rfl rfl) rfl ?_
        | refine LOps.pure (Pure.pickF (lv := .atom _) rfl rfl) rfl ?_
        | refine LOps.want rfl rfl ?_
      have e2 : (!decide (((a.arrays.map encAr).length : Int) = ((b.arrays.map encAr).length : Int))) = !decide (a.arrays.length = b.arrays.length) := by
        rw [h1a, h1b]
        congr 1
        rw [decide_eq_decide]
        omega
      refine LOps.bcase 24 rfl (fun h2 => ?_) (fun h2 => ?_)
      · rw [e2] at h2
        repeat first
          | refine LOps.nil ?_
          | refine QThen.normal ?_
          | refine LOps.pure (Pure.pickT (lv := .atom _) rfl rfl) rfl ?_
          | refine LOps.skip rfl rfl rfl rfl ?_
        exact ⟨⟨rfl, rfl, bool_eq (by rw [not_f h1, not_t h2]; rfl), trivial⟩, rfl, rfl⟩
      · rw [e2] at h2
        repeat first
          | refine LOps.nil ?_
          | refine QThen.normal ?_
          | refine LOps.pure (Pure.fieldH rfl) rfl ?_
          | refine LOps.pure (Pure.loadH (c := .list _) rfl (List.Mem.head _) rfl) rfl ?_
          | refine LOps.pure (Pure.loadH (c := .list _) rfl (List.Mem.tail _ (List.Mem.head _)) rfl) rfl ?_
          | refine LOps.pure (Pure.llen rfl) rfl ?_
          | refine LOps.pure (Pure.neq rfl rfl) rfl ?_
          | refine LOps.pure (Pure.pickF (lv := .atom _) rfl rfl) rfl ?_
          | refine LOps.want rfl rfl ?_
        refine ⟨⟨rfl, rfl, bool_eq ?_, trivial⟩, rfl, rfl⟩
        rw [not_f h1, not_f h2]
        show (!decide (((a.funcs.map encFn).length : Int) = ((b.funcs.map encFn).length : Int))) = _
        rw [h2a, h2b, Bool.true_and, Bool.true_and]
        congr 1
        rw [decide_eq_decide]
        omega
  · skip
    refine LCode.cond rfl (fun hc => ?_) (fun hc => ?_)
    · repeat first
        | refine LOps.nil ?_
        | refine LCode.seq ?_
        | refine LCode.region ?_
        | refine LCode.ret ?_
        | refine QThen.normal ?_
        | refine QThen.ret ?_
        | refine LOps.pure (Pure.as (lv := .atom _) rfl) rfl ?_
      refine retRet hj (AllRes.cons (ResIs.tmp (v := .atom _) rfl (LV.Sub.refl _)) AllRes.nil) (bool_eq ?_)
      have hx := not_t hc
      have : ¬ eqPr a b = true := by
        rw [eqPr_iff]
        rintro rfl
        rw [(eqNames_iff _ _).2 rfl] at hx
        simp at hx
      exact (Bool.eq_false_iff.2 this).symm
    · have hx := not_f hc
      simp only [Bool.and_eq_true, decide_eq_true_eq] at hx
      obtain ⟨⟨hv, hla⟩, hlf⟩ := hx
      have hE0 : eqPr a b = (eqList eqAr a.arrays b.arrays && eqList eqFn a.funcs b.funcs) := by rw [eqPr, hv, Bool.true_and]
      repeat first
        | refine LOps.nil ?_
        | refine LCode.seq ?_
        | refine LCode.region ?_
        | refine LCode.skip ?_
        | refine LCode.block ?_
        | refine QThen.normal ?_
        | refine LOps.pure (Pure.as (lv := .atom _) rfl) rfl ?_
      refine LCode.loopI (fun k ls H => ∃ i, k = a.arrays.length - i ∧ i ≤ a.arrays.length ∧ ls = [(2, ptr b2 0), (3, ptr b3 0), (5, int .i64 i)] ∧ H = [(b3, .cells 27 [.list (b.vars.map str), .list (b.arrays.map encAr), .list (b.funcs.map encFn)]), (b2, .cells 27 [.list (a.vars.map str), .list (a.arrays.map encAr), .list (a.funcs.map encFn)])] ∧ eqPr a b = (eqList eqAr (a.arrays.drop i) (b.arrays.drop i) && eqList eqFn a.funcs b.funcs))
        ⟨_, _, _, ⟨0, rfl, Nat.zero_le _, rfl, rfl, hE0⟩, ⟨rfl, rfl, rfl, trivial⟩, HSub.refl _⟩ ?_
      rintro k ls H ⟨i, rfl, hi, rfl, rfl, hE⟩ j2 hj2
      repeat first
        | refine LOps.nil ?_
        | refine LCode.seq ?_
        | refine LCode.region ?_
        | refine QThen.normal ?_
        | refine LOps.pure (Pure.fieldH rfl) rfl ?_
        | refine LOps.pure (Pure.loadH (c := .list _) rfl (List.Mem.tail _ (List.Mem.head _)) rfl) rfl ?_
        | refine LOps.pure (Pure.mv (lv := .atom _) rfl) rfl ?_
        | refine LOps.pure (Pure.llen rfl) rfl ?_
        | refine LOps.pure (Pure.lss rfl rfl) rfl ?_
      refine LCode.cond rfl (fun hc => ?_) (fun hc => ?_)
      · have hlt : i < a.arrays.length := by have := of_decide_eq_true hc; omega
        have hlt2 : i < b.arrays.length := by omega
        obtain ⟨hn1, hs1⟩ := ha.ars _ (List.getElem_mem hlt)
        obtain ⟨hn2, hs2⟩ := hb.ars _ (List.getElem_mem hlt2)
        repeat first
          | refine LCode.seq ?_
          | refine LCode.skip ?_
          | refine LCode.block ?_
          | refine QThen.normal ?_
        refine LCode.cut [(2, ptr b2 0), (3, ptr b3 0), (5, int .i64 i), (50, bool (!eqAr a.arrays[i] b.arrays[i]))] ?_ (fun j3 hj3 => ?_)
        · refine LCode.quiet (by kernel_rfl) ?_
          repeat first
            | refine LQ.pure (Pure.fieldH rfl) rfl ?_
            | refine LQ.pure (Pure.loadH (c := .list _) rfl (List.Mem.tail _ (List.Mem.head _)) rfl) rfl ?_
            | refine LQ.pure (Pure.mv (lv := .atom _) rfl) rfl ?_
          refine LQ.pure (Pure.ixRef (el' := encAr a.arrays[i]) (cs := [_, _]) rfl rfl (by omega) (map_get _ _ _ hlt) rfl rfl) rfl ?_
          repeat first
            | refine LQ.pure (Pure.fieldH rfl) rfl ?_
            | refine LQ.pure (Pure.loadH (c := .list _) rfl (List.Mem.head _) rfl) rfl ?_
            | refine LQ.pure (Pure.mv (lv := .atom _) rfl) rfl ?_
            | refine LQ.pure (Pure.ldRefAgg (cs' := [_, _]) rfl rfl rfl) rfl ?_
          refine LQ.pure (Pure.ixRef (el' := encAr b.arrays[i]) (cs := [_, _]) rfl rfl (by omega) (map_get _ _ _ hlt2) rfl rfl) rfl ?_
          repeat first
            | refine LQ.pure (Pure.ldRefAgg (cs' := [_, _]) rfl rfl rfl) rfl ?_
          refine LQ.pure (Pure.pairNeq rfl rfl hn1 hn2 (by omega) (by omega)) rfl ?_
          repeat first
            | refine LQ.nil ?_
            | refine QThen.normal ?_
          exact ⟨⟨rfl, rfl, rfl, rfl, trivial⟩, rfl, rfl⟩
        · rw [eqList_drop hlt hlt2] at hE
          refine LCode.cond rfl (fun hd => ?_) (fun hd => ?_)
          · repeat first
              | refine LOps.nil ?_
              | refine LCode.seq ?_
              | refine LCode.region ?_
              | refine LCode.ret ?_
              | refine QThen.normal ?_
              | refine QThen.ret ?_
              | refine QBlock.ret ?_
              | refine LOps.pure (Pure.as (lv := .atom _) rfl) rfl ?_
            exact retRet (hj3.trans (hj2.trans hj)) (AllRes.cons (ResIs.tmp (v := .atom _) rfl (LV.Sub.refl _)) AllRes.nil) (bool_eq (by rw [hE, not_t hd]; rfl))
          · rw [not_f hd, Bool.true_and] at hE
            repeat first
              | refine LOps.nil ?_
              | refine LCode.region ?_
              | refine LCode.skip ?_
              | refine QThen.normal ?_
              | refine QBlock.normal ?_
              | refine LOps.pure (Pure.as (lv := .atom _) rfl) rfl ?_
              | refine LOps.pure (Pure.mv (lv := .atom _) rfl) rfl ?_
              | refine LOps.pure (Pure.add rfl rfl (by omega)) rfl ?_
            exact ⟨_, _, _, by omega, ⟨i + 1, rfl, by omega, rfl, rfl, hE⟩, ⟨rfl, rfl, int_eq (by omega), trivial⟩, HSub.refl _, hj3.trans hj2⟩
      · have hge : a.arrays.length ≤ i := by have := of_decide_eq_false hc; omega
        rw [eqList_end hge (by omega), Bool.true_and] at hE
        repeat first
          | refine LOps.nil ?_
          | refine LCode.seq ?_
          | refine LCode.region ?_
          | refine LCode.exit ?_
          | refine LCode.block ?_
          | refine QThen.normal ?_
          | refine QThen.exit ?_
          | refine QBlock.hit ?_
          | refine LOps.pure (Pure.as (lv := .atom _) rfl) rfl ?_
        refine LCode.loopI (fun k ls H => ∃ i, k = a.funcs.length - i ∧ i ≤ a.funcs.length ∧ ls = [(2, ptr b2 0), (3, ptr b3 0), (6, int .i64 i)] ∧ H = [(b3, .cells 27 [.list (b.vars.map str), .list (b.arrays.map encAr), .list (b.funcs.map encFn)]), (b2, .cells 27 [.list (a.vars.map str), .list (a.arrays.map encAr), .list (a.funcs.map encFn)])] ∧ eqPr a b = eqList eqFn (a.funcs.drop i) (b.funcs.drop i))
          ⟨_, _, _, ⟨0, rfl, Nat.zero_le _, rfl, rfl, hE⟩, ⟨rfl, rfl, rfl, trivial⟩, HSub.refl _⟩ ?_
        clear hE hge
        rintro k ls H ⟨i, rfl, hi, rfl, rfl, hE⟩ j3 hj3
        repeat first
          | refine LOps.nil ?_
          | refine LCode.seq ?_
          | refine LCode.region ?_
          | refine QThen.normal ?_
          | refine LOps.pure (Pure.fieldH rfl) rfl ?_
          | refine LOps.pure (Pure.loadH (c := .list _) rfl (List.Mem.tail _ (List.Mem.head _)) rfl) rfl ?_
          | refine LOps.pure (Pure.mv (lv := .atom _) rfl) rfl ?_
          | refine LOps.pure (Pure.llen rfl) rfl ?_
          | refine LOps.pure (Pure.lss rfl rfl) rfl ?_
        refine LCode.cond rfl (fun hc => ?_) (fun hc => ?_)
        · have hlt : i < a.funcs.length := by have := of_decide_eq_true hc; omega
          have hlt2 : i < b.funcs.length := by omega
          have hfn := fn_len hlt
          have hpt := eqFn_parts a.funcs[i] b.funcs[i]
          repeat first
            | refine LCode.seq ?_
            | refine LCode.skip ?_
            | refine LCode.block ?_
            | refine QThen.normal ?_
          refine LCode.midC (A := Nat × Nat) (fun q => [(2, ptr b2 0), (3, ptr b3 0), (6, int .i64 i), (7, ptr q.1 0), (8, ptr q.2 0)]) (fun q => (q.1, .cells 53 [str a.funcs[i].name, .list (a.funcs[i].params.map str), .list (a.funcs[i].locals.map str), .list (a.funcs[i].body.map encS)]) :: (q.2, .cells 53 [str b.funcs[i].name, .list (b.funcs[i].params.map str), .list (b.funcs[i].locals.map str), .list (b.funcs[i].body.map encS)]) :: [(b3, .cells 27 [.list (b.vars.map str), .list (b.arrays.map encAr), .list (b.funcs.map encFn)]), (b2, .cells 27 [.list (a.vars.map str), .list (a.arrays.map encAr), .list (a.funcs.map encFn)])]) (fun _ => True) ?_ ?_
          · refine LCode.draw (m := 14) rfl [(b3, .cells 27 [.list (b.vars.map str), .list (b.arrays.map encAr), .list (b.funcs.map encFn)]), (b2, .cells 27 [.list (a.vars.map str), .list (a.arrays.map encAr), .list (a.funcs.map encFn)])] ?_
            refine LAny.take (i := 0) (by first | exact HSub.nil _ | exact HSub.refl _ | exact HSub.drop (HSub.refl _) | exact HSub.pick Pick.here (HSub.nil _) | exact HSub.pick (Pick.there Pick.here) (HSub.nil _) | exact HSub.pick (Pick.there (Pick.there Pick.here)) (HSub.nil _)) rfl (by kernel_rfl) (by kernel_rfl) (by kernel_rfl) rfl (Pure.fieldH rfl) ?_
            refine LAny.take (i := 1) (by first | exact HSub.nil _ | exact HSub.refl _ | exact HSub.drop (HSub.refl _) | exact HSub.pick Pick.here (HSub.nil _) | exact HSub.pick (Pick.there Pick.here) (HSub.nil _) | exact HSub.pick (Pick.there (Pick.there Pick.here)) (HSub.nil _)) rfl (by kernel_rfl) (by kernel_rfl) (by kernel_rfl) rfl (Pure.loadH (c := .list _) rfl (List.Mem.tail _ (List.Mem.head _)) rfl) ?_
            refine LAny.take (i := 2) (by first | exact HSub.nil _ | exact HSub.refl _ | exact HSub.drop (HSub.refl _) | exact HSub.pick Pick.here (HSub.nil _) | exact HSub.pick (Pick.there Pick.here) (HSub.nil _) | exact HSub.pick (Pick.there (Pick.there Pick.here)) (HSub.nil _)) rfl (by kernel_rfl) (by kernel_rfl) (by kernel_rfl) rfl (Pure.mv (lv := .atom _) rfl) ?_
            refine LAny.take (i := 3) (HSub.refl _) rfl (by kernel_rfl) (by kernel_rfl) (by kernel_rfl) rfl (Pure.ixRef (el' := encFn a.funcs[i]) (cs := [_, _, _, _]) rfl rfl (by omega) (map_get _ _ _ hlt) rfl rfl) ?_
            refine LAny.take (i := 4) (by first | exact HSub.nil _ | exact HSub.refl _ | exact HSub.drop (HSub.refl _) | exact HSub.pick Pick.here (HSub.nil _) | exact HSub.pick (Pick.there Pick.here) (HSub.nil _) | exact HSub.pick (Pick.there (Pick.there Pick.here)) (HSub.nil _)) rfl (by kernel_rfl) (by kernel_rfl) (by kernel_rfl) rfl (Pure.ldRefAgg (cs' := [_, _, _, _]) rfl rfl rfl) ?_
            refine LAny.take (i := 5) (by first | exact HSub.nil _ | exact HSub.refl _ | exact HSub.drop (HSub.refl _) | exact HSub.pick Pick.here (HSub.nil _) | exact HSub.pick (Pick.there Pick.here) (HSub.nil _) | exact HSub.pick (Pick.there (Pick.there Pick.here)) (HSub.nil _)) rfl (by kernel_rfl) (by kernel_rfl) (by kernel_rfl) rfl (Pure.fieldH rfl) ?_
            refine LAny.take (i := 6) (by first | exact HSub.nil _ | exact HSub.refl _ | exact HSub.drop (HSub.refl _) | exact HSub.pick Pick.here (HSub.nil _) | exact HSub.pick (Pick.there Pick.here) (HSub.nil _) | exact HSub.pick (Pick.there (Pick.there Pick.here)) (HSub.nil _)) rfl (by kernel_rfl) (by kernel_rfl) (by kernel_rfl) rfl (Pure.loadH (c := .list _) rfl (List.Mem.head _) rfl) ?_
            refine LAny.take (i := 7) (by first | exact HSub.nil _ | exact HSub.refl _ | exact HSub.drop (HSub.refl _) | exact HSub.pick Pick.here (HSub.nil _) | exact HSub.pick (Pick.there Pick.here) (HSub.nil _) | exact HSub.pick (Pick.there (Pick.there Pick.here)) (HSub.nil _)) rfl (by kernel_rfl) (by kernel_rfl) (by kernel_rfl) rfl (Pure.mv (lv := .atom _) rfl) ?_
            refine LAny.take (i := 8) (HSub.refl _) rfl (by kernel_rfl) (by kernel_rfl) (by kernel_rfl) rfl (Pure.ixRef (el' := encFn b.funcs[i]) (cs := [_, _, _, _]) rfl rfl (by omega) (map_get _ _ _ hlt2) rfl rfl) ?_
            refine LAny.take (i := 9) (by first | exact HSub.nil _ | exact HSub.refl _ | exact HSub.drop (HSub.refl _) | exact HSub.pick Pick.here (HSub.nil _) | exact HSub.pick (Pick.there Pick.here) (HSub.nil _) | exact HSub.pick (Pick.there (Pick.there Pick.here)) (HSub.nil _)) rfl (by kernel_rfl) (by kernel_rfl) (by kernel_rfl) rfl (Pure.ldRefAgg (cs' := [_, _, _, _]) rfl rfl rfl) ?_
            refine LAny.late ?_ (HSub.refl _)
            refine LLate.two (i := 10) (j := 11) (by kernel_rfl) ?_ ?_
            · refine LLateOp.step (H1 := []) (F := [(b3, .cells 27 [.list (b.vars.map str), .list (b.arrays.map encAr), .list (b.funcs.map encFn)]), (b2, .cells 27 [.list (a.vars.map str), .list (a.arrays.map encAr), .list (a.funcs.map encFn)])]) rfl (.inl rfl) rfl (List.Perm.refl _) (HSub.refl _) (S.alloc fun b7 => ?_)
              refine LLate.one (i := 11) (by kernel_rfl) (LLateOp.step (H1 := []) (F := (b7, .cells 53 [str [], nilSlice, nilSlice, nilSlice]) :: [(b3, .cells 27 [.list (b.vars.map str), .list (b.arrays.map encAr), .list (b.funcs.map encFn)]), (b2, .cells 27 [.list (a.vars.map str), .list (a.arrays.map encAr), .list (a.funcs.map encFn)])]) rfl (.inl rfl) rfl (List.Perm.refl _) (HSub.drop (HSub.refl _)) (S.alloc fun b8 => ?_))
              refine LLate.one (i := 12) (by kernel_rfl) (LLateOp.step (H1 := [(b7, .cells 53 [str [], nilSlice, nilSlice, nilSlice])]) (F := (b8, .cells 53 [str [], nilSlice, nilSlice, nilSlice]) :: [(b3, .cells 27 [.list (b.vars.map str), .list (b.arrays.map encAr), .list (b.funcs.map encFn)]), (b2, .cells 27 [.list (a.vars.map str), .list (a.arrays.map encAr), .list (a.funcs.map encFn)])]) rfl (.inl rfl) rfl (Pick.there Pick.here) (HSub.drop (HSub.refl _)) (S.store (cs' := [str a.funcs[i].name, .list (a.funcs[i].params.map str), .list (a.funcs[i].locals.map str), .list (a.funcs[i].body.map encS)]) rfl Pick.here rfl rfl rfl rfl rfl ?_))
              refine LLate.one (i := 13) (by kernel_rfl) (LLateOp.step (H1 := [(b8, .cells 53 [str [], nilSlice, nilSlice, nilSlice])]) (F := (b7, .cells 53 [str a.funcs[i].name, .list (a.funcs[i].params.map str), .list (a.funcs[i].locals.map str), .list (a.funcs[i].body.map encS)]) :: [(b3, .cells 27 [.list (b.vars.map str), .list (b.arrays.map encAr), .list (b.funcs.map encFn)]), (b2, .cells 27 [.list (a.vars.map str), .list (a.arrays.map encAr), .list (a.funcs.map encFn)])]) rfl (.inl rfl) rfl (Pick.there Pick.here) (HSub.drop (HSub.refl _)) (S.store (cs' := [str b.funcs[i].name, .list (b.funcs[i].params.map str), .list (b.funcs[i].locals.map str), .list (b.funcs[i].body.map encS)]) rfl Pick.here rfl rfl rfl rfl rfl ?_))
              refine LLate.done (by kernel_rfl) ?_
              repeat first
                | refine QThen.normal ?_
              exact ⟨(b7, b8), trivial, ⟨rfl, rfl, rfl, rfl, rfl, trivial⟩, HSub.pick (Pick.there Pick.here) (HSub.refl _), rfl⟩
            · refine LLateOp.step (H1 := []) (F := [(b3, .cells 27 [.list (b.vars.map str), .list (b.arrays.map encAr), .list (b.funcs.map encFn)]), (b2, .cells 27 [.list (a.vars.map str), .list (a.arrays.map encAr), .list (a.funcs.map encFn)])]) rfl (.inl rfl) rfl (List.Perm.refl _) (HSub.refl _) (S.alloc fun b8 => ?_)
              refine LLate.one (i := 10) (by kernel_rfl) (LLateOp.step (H1 := []) (F := (b8, .cells 53 [str [], nilSlice, nilSlice, nilSlice]) :: [(b3, .cells 27 [.list (b.vars.map str), .list (b.arrays.map encAr), .list (b.funcs.map encFn)]), (b2, .cells 27 [.list (a.vars.map str), .list (a.arrays.map encAr), .list (a.funcs.map encFn)])]) rfl (.inl rfl) rfl (List.Perm.refl _) (HSub.drop (HSub.refl _)) (S.alloc fun b7 => ?_))
              refine LLate.one (i := 12) (by kernel_rfl) (LLateOp.step (H1 := [(b7, .cells 53 [str [], nilSlice, nilSlice, nilSlice])]) (F := (b8, .cells 53 [str [], nilSlice, nilSlice, nilSlice]) :: [(b3, .cells 27 [.list (b.vars.map str), .list (b.arrays.map encAr), .list (b.funcs.map encFn)]), (b2, .cells 27 [.list (a.vars.map str), .list (a.arrays.map encAr), .list (a.funcs.map encFn)])]) rfl (.inl rfl) rfl Pick.here (HSub.drop (HSub.refl _)) (S.store (cs' := [str a.funcs[i].name, .list (a.funcs[i].params.map str), .list (a.funcs[i].locals.map str), .list (a.funcs[i].body.map encS)]) rfl Pick.here rfl rfl rfl rfl rfl ?_))
              refine LLate.one (i := 13) (by kernel_rfl) (LLateOp.step (H1 := [(b8, .cells 53 [str [], nilSlice, nilSlice, nilSlice])]) (F := (b7, .cells 53 [str a.funcs[i].name, .list (a.funcs[i].params.map str), .list (a.funcs[i].locals.map str), .list (a.funcs[i].body.map encS)]) :: [(b3, .cells 27 [.list (b.vars.map str), .list (b.arrays.map encAr), .list (b.funcs.map encFn)]), (b2, .cells 27 [.list (a.vars.map str), .list (a.arrays.map encAr), .list (a.funcs.map encFn)])]) rfl (.inl rfl) rfl (Pick.there Pick.here) (HSub.drop (HSub.refl _)) (S.store (cs' := [str b.funcs[i].name, .list (b.funcs[i].params.map str), .list (b.funcs[i].locals.map str), .list (b.funcs[i].body.map encS)]) rfl Pick.here rfl rfl rfl rfl rfl ?_))
              refine LLate.done (by kernel_rfl) ?_
              repeat first
                | refine QThen.normal ?_
              exact ⟨(b7, b8), trivial, ⟨rfl, rfl, rfl, rfl, rfl, trivial⟩, HSub.pick (Pick.there Pick.here) (HSub.refl _), rfl⟩
          · rintro ⟨b7, b8⟩ _ j4 hj4
            repeat first
              | refine LCode.seq ?_
              | refine LCode.region ?_
              | refine LOps.pure (Pure.fieldH rfl) rfl ?_
              | refine LOps.pure (Pure.loadH (c := .atom _) rfl (List.Mem.head _) rfl) rfl ?_
              | refine LOps.pure (Pure.loadH (c := .atom _) rfl (List.Mem.tail _ (List.Mem.head _)) rfl) rfl ?_
              | refine LOps.pure (Pure.mv (lv := .atom _) rfl) rfl ?_
              | refine LOps.pure (Pure.sneq rfl rfl) rfl ?_
            refine LOps.cut [(2, ptr b2 0), (3, ptr b3 0), (6, int .i64 i), (96, bool (!eqFn a.funcs[i] b.funcs[i]))] ?_ (fun j5 hj5 => ?_)
            · refine LOps.bcase 73 rfl (fun h1 => ?_) (fun h1 => ?_)
              · repeat first
                  | refine LOps.nil ?_
                  | refine QThen.normal ?_
                  | refine LOps.pure (Pure.mv (lv := .atom _) rfl) rfl ?_
                  | refine LOps.pure (Pure.pickT (lv := .atom _) rfl rfl) rfl ?_
                  | refine LOps.skip rfl rfl rfl rfl ?_
                exact ⟨⟨rfl, rfl, rfl, bool_eq (by rw [hpt, not_t h1]; rfl), trivial⟩, rfl, rfl⟩
              · rw [not_f h1, Bool.true_and] at hpt
                repeat first
                  | refine LOps.pure (Pure.fieldH rfl) rfl ?_
                  | refine LOps.pure (Pure.loadH (c := .list _) rfl (List.Mem.head _) rfl) rfl ?_
                  | refine LOps.pure (Pure.loadH (c := .list _) rfl (List.Mem.tail _ (List.Mem.head _)) rfl) rfl ?_
                  | refine LOps.want rfl rfl ?_
                refine LOps.step (S.fn [_, _] rfl (sameNames_spec a.funcs[i].params b.funcs[i].params (by omega)) ?_) rfl
                repeat first
                  | refine LOps.pure (Pure.not rfl) rfl ?_
                  | refine LOps.pure (Pure.mv (lv := .atom _) rfl) rfl ?_
                  | refine LOps.pure (Pure.pickF (lv := .atom _) rfl rfl) rfl ?_
                  | refine LOps.want rfl rfl ?_
                refine LOps.bcase 81 rfl (fun h2 => ?_) (fun h2 => ?_)
                · repeat first
                    | refine LOps.nil ?_
                    | refine QThen.normal ?_
                    | refine LOps.pure (Pure.mv (lv := .atom _) rfl) rfl ?_
                    | refine LOps.pure (Pure.pickT (lv := .atom _) rfl rfl) rfl ?_
                    | refine LOps.skip rfl rfl rfl rfl ?_
                  exact ⟨⟨rfl, rfl, rfl, bool_eq (by rw [hpt, not_t h2]; rfl), trivial⟩, rfl, rfl⟩
                · rw [not_f h2, Bool.true_and] at hpt
                  repeat first
                    | refine LOps.pure (Pure.fieldH rfl) rfl ?_
                    | refine LOps.pure (Pure.loadH (c := .list _) rfl (List.Mem.head _) rfl) rfl ?_
                    | refine LOps.pure (Pure.loadH (c := .list _) rfl (List.Mem.tail _ (List.Mem.head _)) rfl) rfl ?_
                    | refine LOps.want rfl rfl ?_
                  refine LOps.step (S.fn [_, _] rfl (sameNames_spec a.funcs[i].locals b.funcs[i].locals (by omega)) ?_) rfl
                  repeat first
                    | refine LOps.pure (Pure.not rfl) rfl ?_
                    | refine LOps.pure (Pure.mv (lv := .atom _) rfl) rfl ?_
                    | refine LOps.pure (Pure.pickF (lv := .atom _) rfl rfl) rfl ?_
                    | refine LOps.want rfl rfl ?_
                  refine LOps.bcase 89 rfl (fun h3 => ?_) (fun h3 => ?_)
                  · repeat first
                      | refine LOps.nil ?_
                      | refine QThen.normal ?_
                      | refine LOps.pure (Pure.pickT (lv := .atom _) rfl rfl) rfl ?_
                      | refine LOps.skip rfl rfl rfl rfl ?_
                    exact ⟨⟨rfl, rfl, rfl, bool_eq (by rw [hpt, not_t h3]; rfl), trivial⟩, rfl, rfl⟩
                  · rw [not_f h3, Bool.true_and] at hpt
                    repeat first
                      | refine LOps.pure (Pure.fieldH rfl) rfl ?_
                      | refine LOps.pure (Pure.loadH (c := .list _) rfl (List.Mem.head _) rfl) rfl ?_
                      | refine LOps.pure (Pure.loadH (c := .list _) rfl (List.Mem.tail _ (List.Mem.head _)) rfl) rfl ?_
                      | refine LOps.want rfl rfl ?_
                    refine LOps.step (S.fn [_, _] rfl (sameStmts_spec _ a.funcs[i].body b.funcs[i].body (Nat.le_refl _) (by omega)) ?_) rfl
                    repeat first
                      | refine LOps.nil ?_
                      | refine QThen.normal ?_
                      | refine LOps.pure (Pure.not rfl) rfl ?_
                      | refine LOps.pure (Pure.pickF (lv := .atom _) rfl rfl) rfl ?_
                      | refine LOps.want rfl rfl ?_
                    exact ⟨⟨rfl, rfl, rfl, bool_eq (by rw [hpt]), trivial⟩, rfl, rfl⟩
            · rw [eqList_drop hlt hlt2] at hE
              refine LCode.cond rfl (fun hd => ?_) (fun hd => ?_)
              · repeat first
                  | refine LOps.nil ?_
                  | refine LCode.seq ?_
                  | refine LCode.region ?_
                  | refine LCode.ret ?_
                  | refine QThen.normal ?_
                  | refine QThen.ret ?_
                  | refine QBlock.ret ?_
                  | refine LOps.pure (Pure.as (lv := .atom _) rfl) rfl ?_
                exact retRet (hj5.trans (hj4.trans (hj3.trans (hj2.trans hj)))) (AllRes.cons (ResIs.tmp (v := .atom _) rfl (LV.Sub.refl _)) AllRes.nil) (bool_eq (by rw [hE, not_t hd]; rfl))
              · rw [not_f hd, Bool.true_and] at hE
                repeat first
                  | refine LOps.nil ?_
                  | refine LCode.region ?_
                  | refine LCode.skip ?_
                  | refine QThen.normal ?_
                  | refine QBlock.normal ?_
                  | refine LOps.pure (Pure.as (lv := .atom _) rfl) rfl ?_
                  | refine LOps.pure (Pure.mv (lv := .atom _) rfl) rfl ?_
                  | refine LOps.pure (Pure.add rfl rfl (by omega)) rfl ?_
                exact ⟨_, _, _, by omega, ⟨i + 1, rfl, by omega, rfl, rfl, hE⟩, ⟨rfl, rfl, int_eq (by omega), trivial⟩, HSub.drop (HSub.drop (HSub.refl _)), hj5.trans (hj4.trans hj3)⟩
        · have hge : a.funcs.length ≤ i := by have := of_decide_eq_false hc; omega
          rw [eqList_end hge (by omega)] at hE
          repeat first
            | refine LOps.nil ?_
            | refine LCode.seq ?_
            | refine LCode.region ?_
            | refine LCode.ret ?_
            | refine LCode.exit ?_
            | refine QThen.normal ?_
            | refine QThen.exit ?_
            | refine QBlock.hit ?_
            | refine LOps.pure (Pure.as (lv := .atom _) rfl) rfl ?_
          exact retRet (hj3.trans (hj2.trans hj)) (AllRes.cons (ResIs.tmp (v := .atom _) rfl (LV.Sub.refl _)) AllRes.nil) (bool_eq hE.symm)
end
end Go.Proofs.YtfodkbchknknjaaGreatDoor
