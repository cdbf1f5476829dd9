/- Texts joined: InpSpec, InpPad, ChkSpec, InpLoop, FmtSpec, LexCat, ParTok, LexJoin, ParFuel, ParNodes, RtPrint, ParExt, InpSrc, InpLaw, InpErr, ChkRef2, InpKey. -/
import Derived.Lib.Join
import Derived.Test.YtcbpcianefpniaaGreatDoorBRowLM1
set_option linter.unusedVariables false
set_option linter.unusedSimpArgs false
namespace Go.Stele
/-- The state of an execution: scalars by key, arrays, the input that is left, the output, the steps that are left. -/
structure IS where
 sc : List UInt8 → Nat
 ar : List UInt8 → List Nat
 inp : List Nat
 out : List UInt8
 left : Nat
/-- A value, or the end of the execution: its error (0: halt). -/
inductive IR (A : Type) where
 | ok (v : A) (s : IS)
 | stop (e : Int) (s : IS)
def IR.bind {A B : Type} (r : IR A) (f : A → IS → IR B) : IR B := match r with
 | .ok v s => f v s
 | .stop e s => .stop e s
def IR.st {A : Type} : IR A → IS
 | .ok _ s => s
 | .stop _ s => s
def tick (s : IS) : IR Unit := if s.left = 0 then .stop 13 s else .ok () { s with left := s.left - 1 }
def b2n (b : Bool) : Nat := if b = true then 1 else 0
/-- A binary operator; nothing: a division by zero. -/
def binI (op : List UInt8) (a b : Nat) : Option Nat :=
 if op = [43] then some ((a + b) % 4294967296)
 else if op = [45] then some ((a + 4294967296 - b) % 4294967296)
 else if op = [42] then some (a * b % 4294967296)
 else if op = [94] then some (a ^^^ b)
 else if op = [61, 61] then some (b2n (decide (a = b)))
 else if op = [33, 61] then some (b2n (decide (a ≠ b)))
 else if op = [60] then some (b2n (decide (a < b)))
 else if op = [62] then some (b2n (decide (b < a)))
 else if op = [60, 61] then some (b2n (decide (a ≤ b)))
 else if op = [62, 61] then some (b2n (decide (b ≤ a)))
 else if op = [38, 38] then some (b2n (decide (a ≠ 0 ∧ b ≠ 0)))
 else if op = [124, 124] then some (b2n (decide (a ≠ 0 ∨ b ≠ 0)))
 else if b = 0 then none
 else if op = [47] then some (a / b) else some (a % b)
/-- The key of a scalar that a function uses: its own ones precede the globals. -/
def keyI (f : FnD) (name : List UInt8) : List UInt8 := if name ∈ f.params ∨ name ∈ f.locals then f.name ++ [46] ++ name else name
def fnI (P : Pr) (name : List UInt8) : FnD := (P.funcs.find? fun f => decide (f.name = name)).getD ⟨[], [], [], []⟩
def setSc (s : IS) (k : List UInt8) (v : Nat) : IS := { s with sc := fun x => if x = k then v else s.sc x }
def setPs (f : FnD) : List (List UInt8) → List Nat → IS → IS
 | p :: ps, v :: vs, s => setPs f ps vs (setSc s (keyI f p) v)
 | _, _, s => s
def mapR {A : Type} (g : A → IS → IR Nat) : List A → IS → IR (List Nat)
 | [], s => .ok [] s
 | a :: l, s => (g a s).bind fun v s => (mapR g l s).bind fun vs s => .ok (v :: vs) s
def blkR (g : Sm → IS → IR (Option Nat)) : List Sm → IS → IR (Option Nat)
 | [], s => .ok none s
 | a :: l, s => (g a s).bind fun r s => match r with
  | some v => .ok (some v) s
  | none => blkR g l s
def whlR (c : IS → IR Nat) (b : IS → IR (Option Nat)) : Nat → Nat → IS → IR (Option Nat)
 | 0, v, s => if v = 0 then .ok none s else .stop 13 s
 | m + 1, v, s => if v = 0 then .ok none s else (b s).bind fun r s => match r with
  | some x => .ok (some x) s
  | none => (c s).bind fun v s => whlR c b m v s
def callI (P : Pr) (g : FnD → Sm → IS → IR (Option Nat)) (name : List UInt8) (vs : List Nat) (s : IS) : IR Nat :=
 if name = [105, 110] then (match s.inp with
  | [] => .ok 4294967295 s
  | v :: r => .ok v { s with inp := r })
 else if name = [111, 117, 116] then .ok 0 { s with out := s.out ++ [UInt8.ofNat (vs.headD 0)] }
 else (blkR (g (fnI P name)) (fnI P name).body (setPs (fnI P name) (fnI P name).params vs s)).bind fun r s => .ok (r.getD 0) s
/-- An operation on values. -/
def opI (P : Pr) (g : FnD → Sm → IS → IR (Option Nat)) (f : FnD) (op : List UInt8) (num : Nat) (name : List UInt8) (vs : List Nat) (s : IS) : IR Nat :=
 if op = [110, 117, 109] then .ok num s
 else if op = [118, 97, 114] then .ok (s.sc (keyI f name)) s
 else if op = [101, 108, 101, 109] then (match (s.ar name)[vs.headD 0]? with
  | some v => .ok v s
  | none => .stop 2 s)
 else if op = [110, 101, 103] then .ok ((4294967296 - vs.headD 0) % 4294967296) s
 else if op = [110, 111, 116] then .ok (b2n (decide (vs.headD 0 = 0))) s
 else if op = [99, 97, 108, 108] then callI P g name vs s
 else match binI op (vs.headD 0) (vs.tail.headD 0) with
  | some v => .ok v s
  | none => .stop 12 s
mutual
def evI (P : Pr) : Nat → FnD → Ex → IS → IR Nat
 | 0, _, _, s => .stop 13 s
 | n + 1, f, .mk op num name args, s => (tick s).bind fun _ s => (mapR (evI P n f) args s).bind fun vs s => opI P (stI P n) f op num name vs s
def stI (P : Pr) : Nat → FnD → Sm → IS → IR (Option Nat)
 | 0, _, _, s => .stop 13 s
 | n + 1, f, .mk kind name index value thn els, s => (tick s).bind fun _ s =>
  if kind = 7 then .stop 0 s else (evI P n f (value.headD default) s).bind fun v s =>
   if kind = 1 then .ok none (setSc s (keyI f name) v)
   else if kind = 2 then (evI P n f (index.headD default) s).bind fun i s => match (s.ar name)[i]? with
    | some _ => .ok none { s with ar := fun x => if x = name then (s.ar name).set i v else s.ar x }
    | none => .stop 2 s
   else if kind = 5 then .ok (some v) s
   else if kind = 3 then (if v ≠ 0 then blkR (stI P n f) thn s else blkR (stI P n f) els s)
   else if kind = 4 then whlR (evI P n f (value.headD default)) (blkR (stI P n f) thn) n v s
   else .ok none s
end
/-! ### A greater limit -/
def up (k : Nat) (s : IS) : IS := { s with left := s.left + k }
/-- The same end with k steps more left; or the limit was reached, and the output goes on from there. -/
def SimI {A : Type} (k : Nat) (r r' : IR A) : Prop := (match r with
 | .ok v s => r' = .ok v (up k s)
 | .stop e s => e ≠ 13 ∧ r' = .stop e (up k s)) ∨ ∃ s, r = .stop 13 s ∧ s.left = 0 ∧ s.out <+: r'.st.out ∧ r'.st.left ≤ k
/-- The output grows, and no steps are given back. -/
def Grow {A : Type} (s : IS) (r : IR A) : Prop := s.out <+: r.st.out ∧ r.st.left ≤ s.left
theorem Grow.bind {A B : Type} {s : IS} {r : IR A} {f : A → IS → IR B} (h : Grow s r) (hf : ∀ v s', Grow s' (f v s')) : Grow s (r.bind f) := by
 cases r with
 | ok v s' => exact ⟨List.IsPrefix.trans h.1 (hf v s').1, Nat.le_trans (hf v s').2 h.2⟩
 | stop e s' => exact h
theorem SimI.ok {A : Type} (k : Nat) (v : A) (s : IS) : SimI k (.ok v s) (.ok v (up k s)) := .inl rfl
theorem SimI.stop {A : Type} (k : Nat) {e : Int} (he : e ≠ 13) (s : IS) : SimI (A := A) k (.stop e s) (.stop e (up k s)) := .inl ⟨he, rfl⟩
theorem SimI.bind {A B : Type} {k : Nat} {r r' : IR A} {f f' : A → IS → IR B} (h : SimI k r r') (hf : ∀ v s, r = .ok v s → SimI k (f v s) (f' v (up k s))) (hg : ∀ v s, Grow s (f' v s)) : SimI k (r.bind f) (r'.bind f') := by
 rcases h with h | ⟨s, rfl, h1, h2, h3⟩
 ·cases r with
  | ok v s =>
   simp only at h
   subst h
   exact hf v s rfl
  | stop e s =>
   simp only at h
   obtain ⟨he, rfl⟩ := h
   exact .inl ⟨he, rfl⟩
 ·refine .inr ⟨s, rfl, h1, ?_⟩
  cases r' with
  | ok v s' => exact ⟨List.IsPrefix.trans h2 (hg v s').1, Nat.le_trans (hg v s').2 h3⟩
  | stop e s' => exact ⟨h2, h3⟩
theorem tick_grow (s : IS) : Grow s (tick s) := by
 unfold tick
 split
 ·exact ⟨List.prefix_refl _, Nat.le_refl _⟩
 ·exact ⟨List.prefix_refl _, Nat.sub_le _ _⟩
theorem mapR_grow {A : Type} {g : A → IS → IR Nat} (h : ∀ a s, Grow s (g a s)) : ∀ (l : List A) (s : IS), Grow s (mapR g l s)
 | [], s => ⟨List.prefix_refl _, Nat.le_refl _⟩
 | a :: l, s => (h a s).bind fun v s => (mapR_grow h l s).bind fun vs s => ⟨List.prefix_refl _, Nat.le_refl _⟩
theorem blkR_grow {g : Sm → IS → IR (Option Nat)} (h : ∀ a s, Grow s (g a s)) : ∀ (l : List Sm) (s : IS), Grow s (blkR g l s)
 | [], s => ⟨List.prefix_refl _, Nat.le_refl _⟩
 | a :: l, s => (h a s).bind fun r s => by
  cases r with
  | none => exact blkR_grow h l s
  | some v => exact ⟨List.prefix_refl _, Nat.le_refl _⟩
theorem whlR_grow {c : IS → IR Nat} {b : IS → IR (Option Nat)} (hc : ∀ s, Grow s (c s)) (hb : ∀ s, Grow s (b s)) : ∀ (m v : Nat) (s : IS), Grow s (whlR c b m v s)
 | 0, v, s => by
  unfold whlR
  split <;> exact ⟨List.prefix_refl _, Nat.le_refl _⟩
 | m + 1, v, s => by
  unfold whlR
  split
  ·exact ⟨List.prefix_refl _, Nat.le_refl _⟩
  ·refine (hb s).bind fun r s => ?_
   cases r with
   | some x => exact ⟨List.prefix_refl _, Nat.le_refl _⟩
   | none => exact (hc s).bind fun v s => whlR_grow hc hb m v s
theorem setPs_same (f : FnD) : ∀ (ps : List (List UInt8)) (vs : List Nat) (s : IS), (setPs f ps vs s).out = s.out ∧ (setPs f ps vs s).left = s.left ∧ ∀ k, setPs f ps vs (up k s) = up k (setPs f ps vs s)
 | p :: ps, v :: vs, s => by
  obtain ⟨h1, h2, h3⟩ := setPs_same f ps vs (setSc s (keyI f p) v)
  exact ⟨h1, h2, fun k => h3 k⟩
 | [], _, s => by unfold setPs; exact ⟨rfl, rfl, fun _ => rfl⟩
 | _ :: _, [], s => by unfold setPs; exact ⟨rfl, rfl, fun _ => rfl⟩
theorem opI_grow {P : Pr} {g : FnD → Sm → IS → IR (Option Nat)} (h : ∀ f a s, Grow s (g f a s)) (f : FnD) (op : List UInt8) (num : Nat) (name : List UInt8) (vs : List Nat) (s : IS) : Grow s (opI P g f op num name vs s) := by
 unfold opI
 split
 ·exact ⟨List.prefix_refl _, Nat.le_refl _⟩
 split
 ·exact ⟨List.prefix_refl _, Nat.le_refl _⟩
 split
 ·split <;> exact ⟨List.prefix_refl _, Nat.le_refl _⟩
 split
 ·exact ⟨List.prefix_refl _, Nat.le_refl _⟩
 split
 ·exact ⟨List.prefix_refl _, Nat.le_refl _⟩
 split
 ·unfold callI
  split
  ·split <;> exact ⟨List.prefix_refl _, Nat.le_refl _⟩
  split
  ·exact ⟨List.prefix_append _ _, Nat.le_refl _⟩
  ·refine Grow.bind ?_ fun r s => ⟨List.prefix_refl _, Nat.le_refl _⟩
   have := blkR_grow (h (fnI P name)) (fnI P name).body (setPs (fnI P name) (fnI P name).params vs s)
   unfold Grow at this ⊢
   rwa [(setPs_same _ _ _ _).1, (setPs_same _ _ _ _).2.1] at this
 ·split <;> exact ⟨List.prefix_refl _, Nat.le_refl _⟩
theorem grow_all (P : Pr) : ∀ n : Nat, (∀ f x s, Grow s (evI P n f x s)) ∧ ∀ f x s, Grow s (stI P n f x s)
 | 0 => ⟨fun f x s => by unfold evI; exact ⟨List.prefix_refl _, Nat.le_refl _⟩, fun f x s => by unfold stI; exact ⟨List.prefix_refl _, Nat.le_refl _⟩⟩
 | n + 1 => by
  obtain ⟨h1, h2⟩ := grow_all P n
  refine ⟨fun f x s => ?_, fun f x s => ?_⟩
  ·obtain ⟨op, num, name, args⟩ := x
   unfold evI
   exact (tick_grow s).bind fun _ s => (mapR_grow (h1 f) args s).bind fun vs s => opI_grow h2 f op num name vs s
  ·obtain ⟨kind, name, index, value, thn, els⟩ := x
   unfold stI
   refine (tick_grow s).bind fun _ s => ?_
   split
   ·exact ⟨List.prefix_refl _, Nat.le_refl _⟩
   ·refine (h1 f _ s).bind fun v s => ?_
    split
    ·exact ⟨List.prefix_refl _, Nat.le_refl _⟩
    split
    ·refine (h1 f _ s).bind fun i s => ?_
     split <;> exact ⟨List.prefix_refl _, Nat.le_refl _⟩
    split
    ·exact ⟨List.prefix_refl _, Nat.le_refl _⟩
    split
    ·split
     ·exact blkR_grow (h2 f) _ _
     ·exact blkR_grow (h2 f) _ _
    split
    ·exact whlR_grow (h1 f _) (blkR_grow (h2 f) _) _ _ _
    ·exact ⟨List.prefix_refl _, Nat.le_refl _⟩
theorem tick_sim (k : Nat) (s : IS) : SimI k (tick s) (tick (up k s)) := by
 unfold tick
 by_cases h : s.left = 0
 ·rw [if_pos h]
  refine .inr ⟨s, rfl, h, ?_⟩
  have hk : (up k s).left = k := by simp only [up]; omega
  split
  ·exact ⟨List.prefix_refl _, by show (up k s).left ≤ k; omega⟩
  ·exact ⟨List.prefix_refl _, by show (up k s).left - 1 ≤ k; omega⟩
 ·rw [if_neg h, if_neg (by simp only [up]; omega)]
  refine .inl ?_
  simp only [up]
  congr 2
  omega
theorem mapR_sim {A : Type} {k n : Nat} {g g' : A → IS → IR Nat} (h : ∀ a s, s.left ≤ n → SimI k (g a s) (g' a (up k s))) (hg : ∀ a s, Grow s (g a s)) (hg' : ∀ a s, Grow s (g' a s)) : ∀ (l : List A) (s : IS), s.left ≤ n → SimI k (mapR g l s) (mapR g' l (up k s))
 | [], s, _ => SimI.ok k _ s
 | a :: l, s, hs => by
  unfold mapR
  refine (h a s hs).bind (fun v s1 h1 => ?_) fun v s => (mapR_grow hg' l s).bind fun vs s => ⟨List.prefix_refl _, Nat.le_refl _⟩
  have hl := (hg a s).2
  rw [h1] at hl
  exact (mapR_sim h hg hg' l s1 (Nat.le_trans hl hs)).bind (fun vs s2 _ => SimI.ok k _ s2) fun vs s => ⟨List.prefix_refl _, Nat.le_refl _⟩
theorem blkR_sim {k n : Nat} {g g' : Sm → IS → IR (Option Nat)} (h : ∀ a s, s.left ≤ n → SimI k (g a s) (g' a (up k s))) (hg : ∀ a s, Grow s (g a s)) (hg' : ∀ a s, Grow s (g' a s)) : ∀ (l : List Sm) (s : IS), s.left ≤ n → SimI k (blkR g l s) (blkR g' l (up k s))
 | [], s, _ => SimI.ok k _ s
 | a :: l, s, hs => by
  unfold blkR
  refine (h a s hs).bind (fun r s1 h1 => ?_) fun r s => ?_
  ·have hl := (hg a s).2
   rw [h1] at hl
   cases r with
   | some v => exact SimI.ok k _ s1
   | none => exact blkR_sim h hg hg' l s1 (Nat.le_trans hl hs)
  ·cases r with
   | some v => exact ⟨List.prefix_refl _, Nat.le_refl _⟩
   | none => exact blkR_grow hg' l s
theorem whlR_zero (c : IS → IR Nat) (b : IS → IR (Option Nat)) (m : Nat) (s : IS) : whlR c b m 0 s = .ok none s := by
 cases m <;> rw [whlR, if_pos rfl]
theorem whlR_sim {k : Nat} {c c' : IS → IR Nat} {b b' : IS → IR (Option Nat)} {N : Nat} (hc : ∀ s, s.left ≤ N → SimI k (c s) (c' (up k s))) (hb : ∀ s, s.left ≤ N → SimI k (b s) (b' (up k s))) (gc : ∀ s, Grow s (c s)) (gb : ∀ s, Grow s (b s)) (gc' : ∀ s, Grow s (c' s)) (gb' : ∀ s, Grow s (b' s)) (strict : ∀ s v s', c s = .ok v s' → s'.left < s.left) :
  ∀ (m v : Nat) (s : IS), s.left ≤ m → s.left ≤ N → SimI k (whlR c b m v s) (whlR c' b' (m + k) v (up k s))
 | 0, v, s, hm, hs => by
  rw [show whlR c b 0 v s = if v = 0 then .ok none s else .stop 13 s by rw [whlR]]
  by_cases hv : v = 0
  ·rw [if_pos hv, hv, whlR_zero]
   exact SimI.ok k _ s
  ·rw [if_neg hv]
   have hk : (up k s).left = k := by simp only [up]; omega
   exact .inr ⟨s, rfl, by omega, (whlR_grow gc' gb' (0 + k) v (up k s)).1, by have := (whlR_grow gc' gb' (0 + k) v (up k s)).2; omega⟩
 | m + 1, v, s, hm, hs => by
  rw [show m + 1 + k = (m + k) + 1 by omega]
  unfold whlR
  by_cases hv : v = 0
  ·rw [if_pos hv, if_pos hv]
   exact SimI.ok k _ s
  ·rw [if_neg hv, if_neg hv]
   refine (hb s hs).bind (fun r s1 h1 => ?_) fun r s => ?_
   ·have hl := (gb s).2
    rw [h1] at hl
    cases r with
    | some x => exact SimI.ok k _ s1
    | none =>
     refine (hc s1 (Nat.le_trans hl hs)).bind (fun v2 s2 h2 => ?_) fun v s => whlR_grow gc' gb' (m + k) v s
     have hst := strict s1 v2 s2 h2
     have hl' : s1.left ≤ s.left := hl
     exact whlR_sim hc hb gc gb gc' gb' strict m v2 s2 (by omega) (by omega)
   ·cases r with
    | some x => exact ⟨List.prefix_refl _, Nat.le_refl _⟩
    | none => exact (gc' s).bind fun v s => whlR_grow gc' gb' (m + k) v s
theorem opI_sim {P : Pr} {k n : Nat} {g g' : FnD → Sm → IS → IR (Option Nat)} (h : ∀ f a s, s.left ≤ n → SimI k (g f a s) (g' f a (up k s))) (hg : ∀ f a s, Grow s (g f a s)) (hg' : ∀ f a s, Grow s (g' f a s)) (f : FnD) (op : List UInt8) (num : Nat) (name : List UInt8) (vs : List Nat) (s : IS) (hs : s.left ≤ n) : SimI k (opI P g f op num name vs s) (opI P g' f op num name vs (up k s)) := by
 unfold opI
 split
 ·exact SimI.ok k _ s
 split
 ·exact SimI.ok k _ s
 split
 ·rw [show (up k s).ar = s.ar from rfl]
  split
  ·exact SimI.ok k _ s
  ·exact SimI.stop k (by decide) s
 split
 ·exact SimI.ok k _ s
 split
 ·exact SimI.ok k _ s
 split
 ·unfold callI
  split
  ·rw [show (up k s).inp = s.inp from rfl]
   split
   ·exact SimI.ok k _ s
   ·exact SimI.ok k _ { s with inp := _ }
  split
  ·exact SimI.ok k _ { s with out := _ }
  ·obtain ⟨h1, h2, h3⟩ := setPs_same (fnI P name) (fnI P name).params vs s
   rw [h3]
   exact (blkR_sim (h (fnI P name)) (hg _) (hg' _) _ _ (by rw [h2]; exact hs)).bind (fun r s _ => SimI.ok k _ s) fun r s => ⟨List.prefix_refl _, Nat.le_refl _⟩
 ·split
  ·exact SimI.ok k _ s
  ·exact SimI.stop k (by decide) s
theorem tick_less {s s' : IS} {u : Unit} (h : tick s = .ok u s') : s'.left < s.left := by
 unfold tick at h
 split at h
 ·cases h
 ·cases h
  simp only
  omega
/-- An expression takes a step. -/
theorem ev_less (P : Pr) (n : Nat) (f : FnD) (x : Ex) (s s' : IS) (v : Nat) (h : evI P n f x s = .ok v s') : s'.left < s.left := by
 cases n with
 | zero => unfold evI at h; cases h
 | succ n =>
  obtain ⟨op, num, name, args⟩ := x
  unfold evI at h
  cases ht : tick s with
  | stop e s1 => rw [ht] at h; cases h
  | ok u s1 =>
   rw [ht] at h
   have h1 := tick_less ht
   have hG : Grow s1 ((mapR (evI P n f) args s1).bind fun vs s => opI P (stI P n) f op num name vs s) := (mapR_grow ((grow_all P n).1 f) args s1).bind fun vs s => opI_grow (grow_all P n).2 f op num name vs s
   have h2 := hG.2
   have h3 : (mapR (evI P n f) args s1).bind (fun vs s => opI P (stI P n) f op num name vs s) = .ok v s' := h
   rw [h3] at h2
   exact Nat.lt_of_le_of_lt h2 h1
theorem sim_all (P : Pr) (k : Nat) : ∀ n : Nat, (∀ f x s, s.left ≤ n → SimI k (evI P n f x s) (evI P (n + k) f x (up k s))) ∧ ∀ f x s, s.left ≤ n → SimI k (stI P n f x s) (stI P (n + k) f x (up k s))
 | 0 => by
  have hk : ∀ s : IS, s.left ≤ 0 → (up k s).left = k := fun s hs => by simp only [up]; omega
  refine ⟨fun f x s hs => .inr ⟨s, ?_, by omega, ((grow_all P (0 + k)).1 f x (up k s)).1, by have := ((grow_all P (0 + k)).1 f x (up k s)).2; have := hk s hs; omega⟩, fun f x s hs => .inr ⟨s, ?_, by omega, ((grow_all P (0 + k)).2 f x (up k s)).1, by have := ((grow_all P (0 + k)).2 f x (up k s)).2; have := hk s hs; omega⟩⟩
  ·unfold evI; rfl
  ·unfold stI; rfl
 | n + 1 => by
  obtain ⟨i1, i2⟩ := sim_all P k n
  obtain ⟨g1, g2⟩ := grow_all P n
  obtain ⟨q1, q2⟩ := grow_all P (n + k)
  rw [show n + 1 + k = (n + k) + 1 by omega]
  refine ⟨fun f x s hs => ?_, fun f x s hs => ?_⟩
  ·obtain ⟨op, num, name, args⟩ := x
   unfold evI
   refine (tick_sim k s).bind (fun _ s1 h1 => ?_) fun _ s => (mapR_grow (q1 f) args s).bind fun vs s => opI_grow q2 f op num name vs s
   have hl := tick_less h1
   refine (mapR_sim (i1 f) (g1 f) (q1 f) args s1 (by omega)).bind (fun vs s2 h2 => ?_) fun vs s => opI_grow q2 f op num name vs s
   have hl2 := (mapR_grow (g1 f) args s1).2
   rw [h2] at hl2
   have hl3 : s2.left ≤ s1.left := hl2
   exact opI_sim i2 g2 q2 f op num name vs s2 (by omega)
  ·obtain ⟨kind, name, index, value, thn, els⟩ := x
   unfold stI
   have gtail : ∀ v s, Grow s (if kind = 1 then IR.ok none (setSc s (keyI f name) v) else if kind = 2 then (evI P (n + k) f (index.headD default) s).bind fun i s => match (s.ar name)[i]? with
     | some _ => .ok none { s with ar := fun x => if x = name then (s.ar name).set i v else s.ar x }
     | none => .stop 2 s
    else if kind = 5 then .ok (some v) s
    else if kind = 3 then (if v ≠ 0 then blkR (stI P (n + k) f) thn s else blkR (stI P (n + k) f) els s)
    else if kind = 4 then whlR (evI P (n + k) f (value.headD default)) (blkR (stI P (n + k) f) thn) (n + k) v s
    else .ok none s) := fun v s => by
    split
    ·exact ⟨List.prefix_refl _, Nat.le_refl _⟩
    split
    ·refine (q1 f _ s).bind fun i s => ?_
     split <;> exact ⟨List.prefix_refl _, Nat.le_refl _⟩
    split
    ·exact ⟨List.prefix_refl _, Nat.le_refl _⟩
    split
    ·split
     ·exact blkR_grow (q2 f) _ _
     ·exact blkR_grow (q2 f) _ _
    split
    ·exact whlR_grow (q1 f _) (blkR_grow (q2 f) _) _ _ _
    ·exact ⟨List.prefix_refl _, Nat.le_refl _⟩
   refine (tick_sim k s).bind (fun _ s1 h1 => ?_) fun _ s => ?_
   ·have hl := tick_less h1
    by_cases h7 : kind = 7
    ·rw [if_pos h7, if_pos h7]
     exact SimI.stop k (by decide) s1
    rw [if_neg h7, if_neg h7]
    refine (i1 f _ s1 (by omega)).bind (fun v s2 h2 => ?_) fun v s => gtail v s
    have hl2 := ev_less P n f _ s1 s2 v h2
    by_cases hk1 : kind = 1
    ·rw [if_pos hk1, if_pos hk1]
     exact SimI.ok k _ (setSc s2 (keyI f name) v)
    rw [if_neg hk1, if_neg hk1]
    by_cases hk2 : kind = 2
    ·rw [if_pos hk2, if_pos hk2]
     refine (i1 f _ s2 (by omega)).bind (fun i s3 h3 => ?_) fun i s => ?_
     ·rw [show (up k s3).ar = s3.ar from rfl]
      split
      ·exact SimI.ok k _ { s3 with ar := _ }
      ·exact SimI.stop k (by decide) s3
     ·split <;> exact ⟨List.prefix_refl _, Nat.le_refl _⟩
    rw [if_neg hk2, if_neg hk2]
    by_cases hk5 : kind = 5
    ·rw [if_pos hk5, if_pos hk5]
     exact SimI.ok k _ s2
    rw [if_neg hk5, if_neg hk5]
    by_cases hk3 : kind = 3
    ·rw [if_pos hk3, if_pos hk3]
     split
     ·exact blkR_sim (i2 f) (g2 f) (q2 f) thn s2 (by omega)
     ·exact blkR_sim (i2 f) (g2 f) (q2 f) els s2 (by omega)
    rw [if_neg hk3, if_neg hk3]
    by_cases hk4 : kind = 4
    ·rw [if_pos hk4, if_pos hk4]
     exact whlR_sim (N := n) (i1 f _) (blkR_sim (i2 f) (g2 f) (q2 f) thn) (g1 f _) (blkR_grow (g2 f) thn) (q1 f _) (blkR_grow (q2 f) thn) (fun s v s' h => ev_less P n f _ s s' v h) n v s2 (by omega) (by omega)
    rw [if_neg hk4, if_neg hk4]
    exact SimI.ok k _ s2
   ·by_cases h7 : kind = 7
    ·rw [if_pos h7]
     exact ⟨List.prefix_refl _, Nat.le_refl _⟩
    rw [if_neg h7]
    exact (q1 f _ s).bind fun v s => gtail v s
/-! ### A run -/
/-- An outcome: output, error, steps. -/
structure OutI where
 out : List UInt8
 err : Int
 steps : Nat
def startI (P : Pr) (inp : List Nat) (limit : Nat) : IS := ⟨fun _ => 0, fun x => match P.arrays.find? fun a => decide (a.name = x) with
 | some a => List.replicate a.size 0
 | none => [], inp, [], limit⟩
def mainI (P : Pr) : FnD := P.funcs.getLast?.getD ⟨[], [], [], []⟩
def endI {A : Type} (limit : Nat) : IR A → OutI
 | .ok _ s => ⟨s.out, 0, limit - s.left⟩
 | .stop e s => ⟨s.out, e, limit - s.left⟩
/-- A run of a valid program. -/
def runI (P : Pr) (inp : List Nat) (limit : Nat) : OutI := endI limit (blkR (stI P limit (mainI P)) (mainI P).body (startI P inp limit))
theorem run_sim (P : Pr) (inp : List Nat) (a k : Nat) : SimI k (blkR (stI P a (mainI P)) (mainI P).body (startI P inp a)) (blkR (stI P (a + k) (mainI P)) (mainI P).body (startI P inp (a + k))) :=
 blkR_sim ((sim_all P k a).2 (mainI P)) ((grow_all P a).2 (mainI P)) ((grow_all P (a + k)).2 (mainI P)) (mainI P).body (startI P inp a) (Nat.le_refl _)
theorem run_steps (P : Pr) (inp : List Nat) (a : Nat) : (runI P inp a).steps ≤ a := by
 unfold runI endI
 split <;> exact Nat.sub_le _ _
/-- A run with a greater limit. -/
theorem run_limit (P : Pr) (inp : List Nat) (a k : Nat) : (runI P inp a).out <+: (runI P inp (a + k)).out ∧ ((runI P inp a).err ≠ 13 → runI P inp a = runI P inp (a + k)) ∧ ((runI P inp a).err = 13 → (runI P inp a).steps = a ∧ a ≤ (runI P inp (a + k)).steps) := by
 have hS := run_sim P inp a k
 have hg := (blkR_grow ((grow_all P a).2 (mainI P)) (mainI P).body (startI P inp a)).2
 have hsl : (startI P inp a).left = a := rfl
 unfold runI
 generalize blkR (stI P a (mainI P)) (mainI P).body (startI P inp a) = r at hS hg
 generalize blkR (stI P (a + k) (mainI P)) (mainI P).body (startI P inp (a + k)) = r' at hS
 rcases hS with h | ⟨s, rfl, h1, h2, h3⟩
 ·cases r with
  | ok v s =>
   simp only at h
   subst h
   have hl : s.left ≤ a := by rw [hsl] at hg; exact hg
   refine ⟨List.prefix_refl _, fun _ => ?_, fun h => by cases h⟩
   simp only [endI, up]
   congr 1
   omega
  | stop e s =>
   simp only at h
   obtain ⟨he, rfl⟩ := h
   have hl : s.left ≤ a := by rw [hsl] at hg; exact hg
   refine ⟨List.prefix_refl _, fun _ => ?_, fun h => absurd h he⟩
   simp only [endI, up]
   congr 1
   omega
 ·refine ⟨?_, fun h => absurd rfl h, fun _ => ⟨?_, ?_⟩⟩
  ·cases r' <;> exact h2
  ·simp only [endI]
   omega
  ·cases r' with
   | ok v s' => have h3' : s'.left ≤ k := h3; simp only [endI]; omega
   | stop e s' => have h3' : s'.left ≤ k := h3; simp only [endI]; omega
end Go.Stele
namespace Go.Stele
/-- What is read next, and what is left then. -/
def readI : List Nat → Nat × List Nat
 | [] => (4294967295, [])
 | v :: r => (v, r)
section
variable {Q : List Nat → List Nat → Prop}
end
end Go.Stele
namespace Go.Stele
abbrev Nm := List UInt8
/-- The names that are none although their letters are right. -/
def noName : List Nm := keywords ++ [[105, 110], [111, 117, 116]]
def isNm (s : Nm) : Bool := decide (s.length ≤ 24) && !noName.contains s && (match s with
 | [] => false
 | c :: r => isLetter c && r.all isInner)
/-- What is known about a function. -/
structure FSum where
 name : Nm
 params : Nat
 need : Nat
 depth : Nat
/-- What a function may refer to. -/
structure CEnv where
 vars : List Nm
 arrays : List Nm
 later : List Nm
 own : List Nm
 funcs : List FSum
def CEnv.globals (c : CEnv) : List Nm := c.vars ++ c.arrays ++ c.later
def CEnv.fn (c : CEnv) (name : Nm) : Option FSum := c.funcs.find? fun f => decide (f.name = name)
def orE (a b : Int) : Int := if a ≠ 0 then a else b
def binOps : List Nm := [[124, 124], [38, 38], [61, 61], [33, 61], [60], [62], [60, 61], [62, 61], [94], [43], [45], [42], [47], [37]]
/-- The number of operands of an operation; -1: any number, -2: there is no such operation. -/
def opnds (op : Nm) : Int := if op = nNum ∨ op = nVar then 0 else if op = nElem ∨ op = nNeg ∨ op = nNot then 1 else if op = nCall then -1 else if op ∈ binOps then 2 else -2
def scalarE (c : CEnv) (name : Nm) : Int := if name ∈ c.vars ∨ name ∈ c.own then 0 else if name ∈ c.globals then 10 else 7
def arrayE (c : CEnv) (name : Nm) : Int := if name ∈ c.arrays then 0 else if name ∈ c.globals ∨ name ∈ c.own then 10 else 7
def callE (c : CEnv) (name : Nm) (n : Nat) : Int :=
 if name = [105, 110] then (if n = 0 then 0 else 1)
 else if name = [111, 117, 116] then (if n = 1 then 0 else 1)
 else match c.fn name with
  | some f => if n = f.params then 0 else 1
  | none => if name ∈ c.vars ∨ name ∈ c.arrays ∨ name ∈ c.own then 10 else 7
def useE (c : CEnv) (op name : Nm) (n : Nat) : Int := if op = nVar then scalarE c name else if op = nElem then arrayE c name else if op = nCall then callE c name n else 0
mutual
def errE (c : CEnv) : Ex → Int
 | .mk op num name args => if opnds op = -1 ∨ opnds op = args.length then orE (errEs c args) (useE c op name args.length) else 3
def errEs (c : CEnv) : List Ex → Int
 | [] => 0
 | x :: l => orE (errE c x) (errEs c l)
end
/-- The greatest of i, i + 1, .. added to the numbers, and m. -/
def stair : Nat → List Nat → Nat → Nat
 | i, [], m => m
 | i, n :: l, m => stair (i + 1) l (max m (i + n))
def callN (c : CEnv) (name : Nm) (ns : List Nat) : Nat :=
 if name = [105, 110] then 1
 else if name = [111, 117, 116] then ns.headD 0
 else match c.fn name with
  | some f => stair 0 ns (max (f.params + 1) f.need)
  | none => 0
/-- The stack need of an operation whose operands have these needs. -/
def opN (c : CEnv) (op name : Nm) (ns : List Nat) : Nat :=
 if op = nNum ∨ op = nVar then 1
 else if op = nElem ∨ op = nNeg then 1 + ns.headD 0
 else if op = nCall then callN c name ns
 else if op = nNot then max 2 (ns.headD 0)
 else if op = [62] ∨ op = [60, 61] then max (max 3 (ns.headD 0)) (1 + ns.tail.headD 0)
 else if op = [33, 61] then max (max 3 (1 + ns.headD 0)) (2 + ns.tail.headD 0)
 else if op = [38, 38] then max (1 + ns.headD 0) (2 + ns.tail.headD 0)
 else if op = [124, 124] then max (2 + ns.headD 0) (3 + ns.tail.headD 0)
 else max (max 2 (ns.headD 0)) (1 + ns.tail.headD 0)
mutual
def needE (c : CEnv) : Ex → Nat
 | .mk op num name args => opN c op name (needEs c args)
def needEs (c : CEnv) : List Ex → List Nat
 | [] => []
 | x :: l => needE c x :: needEs c l
end
/-- The depth that a call adds. -/
def callD (c : CEnv) (op name : Nm) : Nat := if op = nCall ∧ name ≠ [105, 110] ∧ name ≠ [111, 117, 116] then (match c.fn name with
 | some f => f.depth + 1
 | none => 0) else 0
mutual
def depE (c : CEnv) : Ex → Nat
 | .mk op num name args => max (depEs c args) (callD c op name)
def depEs (c : CEnv) : List Ex → Nat
 | [] => 0
 | x :: l => max (depE c x) (depEs c l)
end
def exOp1 : Ex → Nm
 | .mk op _ _ _ => op
/-- The statement is well-formed. -/
def formS : Sm → Bool
 | .mk kind name index value thn els =>
  if kind = 1 then decide (name ≠ [] ∧ index.length = 0 ∧ value.length = 1 ∧ thn.length = 0 ∧ els.length = 0)
  else if kind = 2 then decide (name ≠ [] ∧ index.length = 1 ∧ value.length = 1 ∧ thn.length = 0 ∧ els.length = 0)
  else if kind = 3 then decide (name = [] ∧ index.length = 0 ∧ value.length = 1)
  else if kind = 4 then decide (name = [] ∧ index.length = 0 ∧ value.length = 1 ∧ els.length = 0)
  else if kind = 5 then decide (name = [] ∧ index.length = 0 ∧ value.length = 1 ∧ thn.length = 0 ∧ els.length = 0)
  else if kind = 6 then decide (name = [] ∧ index.length = 0 ∧ value.length = 1 ∧ thn.length = 0 ∧ els.length = 0 ∧ exOp1 (value.headD default) = nCall)
  else if kind = 7 then decide (name = [] ∧ index.length = 0 ∧ value.length = 0 ∧ thn.length = 0 ∧ els.length = 0)
  else false
mutual
def errS (c : CEnv) : Sm → Int
 | .mk kind name index value thn els => if formS (.mk kind name index value thn els) = false then 3
  else orE (errEs c value) (orE (errEs c index) (orE (if kind = 1 then scalarE c name else if kind = 2 then arrayE c name else 0) (orE (errSs c thn) (errSs c els))))
def errSs (c : CEnv) : List Sm → Int
 | [] => 0
 | s :: l => orE (errS c s) (errSs c l)
end
mutual
def needS (c : CEnv) : Sm → Nat
 | .mk kind name index value thn els =>
  if kind = 7 then 0
  else if kind = 2 then max (needE c (value.headD default)) (2 + needE c (index.headD default))
  else if kind = 5 then needE c (value.headD default)
  else max 2 (max (max (needE c (value.headD default)) (needSs c thn)) (needSs c els))
def needSs (c : CEnv) : List Sm → Nat
 | [] => 0
 | s :: l => max (needS c s) (needSs c l)
end
mutual
def depS (c : CEnv) : Sm → Nat
 | .mk kind name index value thn els => max (max (depEs c value) (depEs c index)) (max (depSs c thn) (depSs c els))
def depSs (c : CEnv) : List Sm → Nat
 | [] => 0
 | s :: l => max (depS c s) (depSs c l)
end
/-- Names that are valid and new: the known ones first. -/
def freshE : List Nm → List Nm → Int
 | known, [] => 0
 | known, s :: l => if isNm s = false then 7 else if s ∈ known then 8 else freshE (s :: known) l
def sizesE : Int → List Int → Int
 | total, [] => 0
 | total, n :: l => if n ≤ 0 then 2 else if 150000 - total < n then 6 else sizesE (total + n) l
def envF (vars arrays later : List Nm) (known : List FSum) (f : FnD) : CEnv := ⟨vars, arrays, later, f.params ++ f.locals, known⟩
def errF (vars arrays later : List Nm) (known : List FSum) (f : FnD) : Int := orE (freshE (vars ++ arrays ++ later) (f.params ++ f.locals)) (errSs (envF vars arrays later known f) f.body)
def sumF (vars arrays later : List Nm) (known : List FSum) (f : FnD) : FSum := ⟨f.name, f.params.length, max (max 2 (f.params.length + 1)) (needSs (envF vars arrays later known f) f.body), max 1 (depSs (envF vars arrays later known f) f.body)⟩
def errFs (vars arrays later : List Nm) : List FSum → List FnD → Int
 | known, [] => 0
 | known, f :: l => orE (errF vars arrays later known f) (errFs vars arrays later (known ++ [sumF vars arrays later known f]) l)
def sumFs (vars arrays later : List Nm) : List FSum → List FnD → List FSum
 | known, [] => known
 | known, f :: l => sumFs vars arrays later (known ++ [sumF vars arrays later known f]) l
def scalarsP (vars : List Nm) (fs : List FnD) : List Nm := vars ++ (fs.map fun f => (f.params ++ f.locals).map fun x => f.name ++ [46] ++ x).flatten
def mainE (vars : List Nm) (fs : List FnD) (sums : List FSum) : Int := match fs.getLast?, sums.getLast? with
 | some f, some m => if f.name = [109, 97, 105, 110] ∧ f.params = [] then (if (scalarsP vars fs).length ≤ 8000 ∧ m.need ≤ 200 ∧ m.depth ≤ 60 then 0 else 6) else 9
 | _, _ => 9
/-- The error of the first violated rule. -/
def checkP (vars : List Nm) (arrays : List (Nm × Int)) (fs : List FnD) : Int :=
 orE (freshE [] (vars ++ arrays.map (·.1) ++ fs.map (·.name))) (orE (sizesE 0 (arrays.map (·.2)))
  (orE (errFs vars (arrays.map (·.1)) (fs.map (·.name)) [] fs) (mainE vars fs (sumFs vars (arrays.map (·.1)) (fs.map (·.name)) [] fs))))
def checkPr (p : Pr) : Int := checkP p.vars (p.arrays.map fun a => (a.name, (a.size : Int))) p.funcs
theorem orE_zero {a b : Int} : orE a b = 0 ↔ a = 0 ∧ b = 0 := by
 unfold orE
 split
 ·constructor
  ·intro h; contradiction
  ·rintro ⟨h, _⟩; contradiction
 ·constructor
  ·intro h; exact ⟨by omega, h⟩
  ·rintro ⟨_, h⟩; exact h
end Go.Stele
namespace Go.Stele
def xK : Nm := [120]
def inK : Nm := [105, 110]
def outK : Nm := [111, 117, 116]
def mainK : Nm := [109, 97, 105, 110]
def lpX : Ex := .mk nVar 0 xK []
def lpIn : Sm := .mk 1 xK [] [.mk nCall 0 inK []] [] []
def lpOut : Sm := .mk 6 [] [] [.mk nCall 0 outK [lpX]] [] []
def lpC : Ex := .mk [33, 61] 0 [] [lpX, .mk nNum 4294967295 [] []]
def lpW : Sm := .mk 4 [] [] [lpC] [lpOut, lpIn] []
def lpMain : FnD := ⟨mainK, [], [], [lpIn, lpW]⟩
/-- `var x; func main() { x = in(); while x != 4294967295 { out(x); x = in(); } }` -/
def loopP : Pr := ⟨[xK], [], [lpMain]⟩
theorem loop_check : checkPr loopP = 0 := by decide +kernel
def putX (sc : Nm → Nat) (v : Nat) : Nm → Nat := fun x => if x = xK then v else sc x
theorem lp_in (n : Nat) (sc : Nm → Nat) (ar : Nm → List Nat) (inp : List Nat) (out : List UInt8) (k : Nat) :
  stI loopP (n + 2) lpMain lpIn ⟨sc, ar, inp, out, k + 2⟩ = .ok none ⟨putX sc (readI inp).1, ar, (readI inp).2, out, k⟩ := by
 cases inp <;> rfl
theorem lp_out (n : Nat) (sc : Nm → Nat) (ar : Nm → List Nat) (inp : List Nat) (out : List UInt8) (k : Nat) :
  stI loopP (n + 3) lpMain lpOut ⟨sc, ar, inp, out, k + 3⟩ = .ok none ⟨sc, ar, inp, out ++ [UInt8.ofNat (sc xK)], k⟩ := rfl
theorem lp_c (n : Nat) (sc : Nm → Nat) (ar : Nm → List Nat) (inp : List Nat) (out : List UInt8) (k : Nat) :
  evI loopP (n + 2) lpMain lpC ⟨sc, ar, inp, out, k + 3⟩ = .ok (b2n (decide (sc xK ≠ 4294967295))) ⟨sc, ar, inp, out, k⟩ := rfl
/-- What the loop copies. -/
def copied (l : List Nat) : List UInt8 := (l.takeWhile fun v => decide (v ≠ 4294967295)).map UInt8.ofNat
theorem copied_cons {v : Nat} (h : v ≠ 4294967295) (l : List Nat) : copied (v :: l) = UInt8.ofNat v :: copied l := by
 unfold copied
 rw [List.takeWhile_cons, if_pos (decide_eq_true h), List.map_cons]
theorem lp_w (n : Nat) (sc : Nm → Nat) (ar : Nm → List Nat) (inp : List Nat) (out : List UInt8) (k : Nat) :
  stI loopP (n + 4) lpMain lpW ⟨sc, ar, inp, out, k + 4⟩ = whlR (evI loopP (n + 3) lpMain lpC) (blkR (stI loopP (n + 3) lpMain) [lpOut, lpIn]) (n + 3) (b2n (decide (sc xK ≠ 4294967295))) ⟨sc, ar, inp, out, k⟩ := rfl
/-- A round of the loop. -/
theorem lp_round (n m : Nat) (sc : Nm → Nat) (ar : Nm → List Nat) (inp : List Nat) (out : List UInt8) (k : Nat) :
  whlR (evI loopP (n + 3) lpMain lpC) (blkR (stI loopP (n + 3) lpMain) [lpOut, lpIn]) (m + 1) 1 ⟨sc, ar, inp, out, k + 8⟩ =
   whlR (evI loopP (n + 3) lpMain lpC) (blkR (stI loopP (n + 3) lpMain) [lpOut, lpIn]) m (b2n (decide ((readI inp).1 ≠ 4294967295))) ⟨putX sc (readI inp).1, ar, (readI inp).2, out ++ [UInt8.ofNat (sc xK)], k⟩ := by
 rw [whlR, if_neg (by decide), blkR, lp_out n sc ar inp out (k + 5)]
 simp only [IR.bind]
 rw [blkR, lp_in (n + 1) sc ar inp _ (k + 3)]
 simp only [IR.bind]
 rw [blkR]
 simp only [IR.bind]
 rw [lp_c (n + 1)]
 rfl
theorem lp_while (n : Nat) : ∀ (inp : List Nat) (m : Nat) (sc : Nm → Nat) (ar : Nm → List Nat) (out : List UInt8) (k : Nat), inp.length + 1 ≤ m →
  8 * (inp.length + 1) ≤ k → ∃ sc' inp', whlR (evI loopP (n + 3) lpMain lpC) (blkR (stI loopP (n + 3) lpMain) [lpOut, lpIn]) m (b2n (decide (sc xK ≠ 4294967295))) ⟨sc, ar, inp, out, k⟩
   = .ok none ⟨sc', ar, inp', out ++ copied (sc xK :: inp), k - 8 * (copied (sc xK :: inp)).length⟩ := by
 intro inp
 induction inp with
 | nil =>
  intro m sc ar out k hm hk
  by_cases h : sc xK = 4294967295
  ·have e1 : copied [sc xK] = [] := by rw [h]; rfl
   rw [e1, show b2n (decide (sc xK ≠ 4294967295)) = 0 by rw [h]; rfl, whlR_zero]
   exact ⟨_, _, by simp only [List.append_nil, List.length_nil, Nat.mul_zero, Nat.sub_zero]; rfl⟩
  ·obtain ⟨m, rfl⟩ : ∃ m', m = m' + 1 := ⟨m - 1, by omega⟩
   obtain ⟨k, rfl⟩ : ∃ k', k = k' + 8 := ⟨k - 8, by simp only [List.length_nil] at hk; omega⟩
   rw [copied_cons h, show b2n (decide (sc xK ≠ 4294967295)) = 1 by rw [decide_eq_true h]; rfl, lp_round, show b2n (decide ((readI []).1 ≠ 4294967295)) = 0 from rfl, whlR_zero]
   exact ⟨_, _, rfl⟩
 | cons v r ih =>
  intro m sc ar out k hm hk
  by_cases h : sc xK = 4294967295
  ·have e1 : copied (sc xK :: v :: r) = [] := by rw [h]; rfl
   rw [e1, show b2n (decide (sc xK ≠ 4294967295)) = 0 by rw [h]; rfl, whlR_zero]
   exact ⟨_, _, by simp only [List.append_nil, List.length_nil, Nat.mul_zero, Nat.sub_zero]; rfl⟩
  ·simp only [List.length_cons] at hm hk
   obtain ⟨m, rfl⟩ : ∃ m', m = m' + 1 := ⟨m - 1, by omega⟩
   obtain ⟨k, rfl⟩ : ∃ k', k = k' + 8 := ⟨k - 8, by omega⟩
   rw [copied_cons h, show b2n (decide (sc xK ≠ 4294967295)) = 1 by rw [decide_eq_true h]; rfl, lp_round]
   obtain ⟨sc', inp', h1⟩ := ih m (putX sc v) ar (out ++ [UInt8.ofNat (sc xK)]) k (by omega) (by omega)
   refine ⟨sc', inp', ?_⟩
   have e2 : putX sc v xK = v := rfl
   rw [e2] at h1
   rw [show (readI (v :: r)).1 = v from rfl, show (readI (v :: r)).2 = r from rfl, h1]
   simp only [List.append_assoc, List.singleton_append, List.length_cons]
   congr 2
   omega
/-- The run of the copying loop. -/
theorem loop_run (inp : List Nat) (h : inp.length ≤ 100) : runI loopP inp 10000 = ⟨copied inp, 0, 2 + 1 + 3 + 8 * (copied inp).length⟩ := by
 have hl : (copied inp).length ≤ inp.length := by
  unfold copied
  rw [List.length_map]
  exact (List.takeWhile_sublist _).length_le
 unfold runI
 show endI 10000 (blkR (stI loopP 10000 lpMain) [lpIn, lpW] ⟨fun _ => 0, (startI loopP inp 10000).ar, inp, [], 10000⟩) = _
 generalize (startI loopP inp 10000).ar = ar
 rw [blkR, lp_in 9998 _ _ inp [] 9998]
 simp only [IR.bind]
 rw [blkR, lp_w 9996 _ _ _ _ 9994]
 obtain ⟨sc', inp', h1⟩ := lp_while 9996 (readI inp).2 (9996 + 3) (putX (fun _ => 0) (readI inp).1) ar [] 9994 (by cases inp <;> simp [readI] at h ⊢ <;> omega) (by cases inp <;> simp [readI] at h ⊢ <;> omega)
 rw [h1]
 have e2 : copied (putX (fun _ => 0) (readI inp).1 xK :: (readI inp).2) = copied inp := by cases inp <;> rfl
 rw [e2]
 simp only [IR.bind, blkR, endI, List.nil_append]
 congr 1
 omega
end Go.Stele
namespace Go.Stele
def leftLv (k : Nat) : Nat := if k = 2 then k + 1 else k
end Go.Stele
namespace Go.Stele
/-- The tokens of s, as many as there are. -/
def lexAt (s : List UInt8) (line : Int) : Except (Int × Int) (List Tok) := lexP s.length s line
end Go.Stele
namespace Go.Stele
open Go.Lib
theorem pu_append (M : Nat) : ∀ (l r : List UInt8) (acc u : Nat), parseUintM M acc l = .ok u → parseUintM M acc (l ++ r) = parseUintM M u r
 | [], r, acc, u, h => by
  rw [parseUintM] at h
  cases h
  rfl
 | c :: l, r, acc, u, h => by
  rw [parseUintM] at h
  rw [List.cons_append, parseUintM]
  split at h
  ·rename_i hc
   rw [if_pos hc]
   split at h
   ·cases h
   ·rename_i h1
    rw [if_neg h1]
    split at h
    ·cases h
    ·rename_i h2
     rw [if_neg h2]
     exact pu_append M l r _ u h
  ·cases h
theorem digit_toNat {d : Nat} (h : d < 10) : (UInt8.ofNat (48 + d)).toNat = 48 + d := by
 rw [UInt8.toNat_ofNat']
 omega
theorem pu_dec (M : Nat) (hM : M ≤ 4294967295) (u : Nat) (hu : u ≤ M) : parseUintM M 0 (decDigits u) = .ok u := by
 induction u using Nat.strongRecOn with
 | _ u ih =>
  have one : ∀ a d, d < 10 → a * 10 + d ≤ M → parseUintM M a [UInt8.ofNat (48 + d)] = .ok (a * 10 + d) := fun a d hd ha => by
   rw [parseUintM, digit_toNat hd, if_pos (by omega), if_neg (by omega), if_neg (by omega), parseUintM]
   congr 1
   omega
  rw [decDigits]
  split
  ·have := one 0 u (by assumption) (by omega)
   simpa using this
  ·rw [pu_append M _ _ 0 (u / 10) (ih (u / 10) (by omega) (by omega)), one _ _ (by omega) (by omega)]
   congr 1
   omega
theorem decDigits_ne (u : Nat) : decDigits u ≠ [] := by
 rw [decDigits]
 split <;> simp
theorem pu32_dec (u : Nat) (hu : u < 4294967296) : parseUintB 32 (decDigits u) = .ok u := by
 rw [parseUintB, if_neg (decDigits_ne u)]
 exact pu_dec _ (by decide) u (by omega)
theorem nDigits_le : ∀ (k u : Nat), u < 10 ^ (k + 1) → nDigits u ≤ k + 1
 | 0, u, h => by rw [nDigits_small (by simpa using h)]; omega
 | k + 1, u, h => by
  by_cases hu : u < 10
  ·rw [nDigits_small hu]; omega
  ·rw [nDigits_big hu]
   have := nDigits_le k (u / 10) (by rw [Nat.pow_succ] at h; omega)
   omega
theorem dec_len {u : Nat} (hu : u < 4294967296) : (decDigits u).length ≤ 10 := by
 rw [decDigits_length]
 exact nDigits_le 9 u (by omega)
theorem pu32_lt {l : List UInt8} {u : Nat} (h : parseUintB 32 l = .ok u) : u < 4294967296 := by
 have key : ∀ (l : List UInt8) (acc u : Nat), acc ≤ 4294967295 → parseUintM 4294967295 acc l = .ok u → u ≤ 4294967295 := by
  intro l
  induction l with
  | nil => intro acc u ha h; rw [parseUintM] at h; cases h; exact ha
  | cons c l ih =>
   intro acc u ha h
   rw [parseUintM] at h
   split at h
   ·split at h
    ·cases h
    ·split at h
     ·cases h
     ·exact ih _ _ (by omega) h
   ·cases h
 rw [parseUintB] at h
 split at h
 ·cases h
 ·have := key _ _ _ (by omega) h
  omega
/-- What a token is. -/
def TokOk (t : Tok) : Prop := t.text.length ≤ 100 ∧ (t.kind = 1 → ∃ u, u < 4294967296 ∧ parseUintB 32 t.text = .ok u ∧ t.text = decDigits u)
theorem lexToken_ok (s : List UInt8) (h : (lexToken s).2.2 = 0) : TokOk (lexToken s).1 := by
 match s with
 | [] => simp [lexToken, tokErr] at h
 | c :: r =>
  simp only [lexToken] at h ⊢
  split at h <;> rename_i hc
  ·rw [if_pos hc]
   unfold lexNumber at h ⊢
   split at h
   ·simp [tokErr] at h
   ·rename_i hw
    rw [if_neg hw]
    split at h
    ·rename_i u hu
     have hlt := pu32_lt hu
     exact ⟨by have := dec_len hlt; simp only; omega, fun _ => ⟨u, hlt, pu32_dec u hlt, rfl⟩⟩
    ·simp [tokErr] at h
  ·rw [if_neg hc]
   split at h <;> rename_i hl
   ·rw [if_pos hl]
    unfold lexName at h ⊢
    split at h
    ·simp [tokErr] at h
    ·rename_i hw
     rw [if_neg hw]
     refine ⟨by simp only; omega, fun hk => ?_⟩
     simp only at hk
     split at hk <;> cases hk
   ·rw [if_neg hl]
    split at h <;> rename_i hq
    ·rw [if_pos hq]
     unfold lexLiteral at h ⊢
     split at h
     ·split at h
      ·simp [tokErr] at h
      ·rename_i hx
       rename_i heq
       rename_i b _ _
       rw [if_neg hx]
       have hb : b.toNat < 4294967296 := Nat.lt_trans (UInt8.toNat_lt b) (by decide)
       exact ⟨by have := dec_len hb; simp only; omega, fun _ => ⟨b.toNat, hb, pu32_dec _ hb, rfl⟩⟩
     ·simp [tokErr] at h
    ·rw [if_neg hq]
     unfold lexSign at h ⊢
     split at h
     ·rename_i x hx
      have h2 := List.mem_of_find?_eq_some hx
      have : ∀ x ∈ signs, x.length ≤ 100 := by decide
      exact ⟨this x h2, fun hk => by cases hk⟩
     ·simp [tokErr] at h
theorem map_ok {A B : Type} {f : A → B} {r : Except (Int × Int) A} {b : B} (h : r.map f = .ok b) : ∃ a, r = .ok a ∧ f a = b := by
 cases r with
 | ok a => exact ⟨a, rfl, by injection h⟩
 | error e => cases h
theorem lexP_ok : ∀ (f : Nat) (s : List UInt8) (line : Int) (T : List Tok), lexP f s line = .ok T → T.length ≤ f ∧ ∀ t ∈ T, TokOk t
 | 0, s, line, T, h => by
  rw [lexP] at h
  cases h
  exact ⟨Nat.le_refl _, by simp⟩
 | f + 1, s, line, T, h => by
  rw [lexP] at h
  split at h
  ·cases h
   exact ⟨Nat.zero_le _, by simp⟩
  ·split at h
   ·split at h
    ·cases h
    ·rename_i he
     obtain ⟨T', h1, rfl⟩ := map_ok h
     obtain ⟨k1, k2⟩ := lexP_ok f _ _ _ h1
     refine ⟨by rw [List.length_cons]; omega, fun t ht => ?_⟩
     rcases List.mem_cons.1 ht with rfl | ht
     ·exact lexToken_ok s (by omega)
     ·exact k2 t ht
   ·obtain ⟨k1, k2⟩ := lexP_ok f _ _ _ h
    exact ⟨by omega, k2⟩
end Go.Stele
namespace Go.Stele
open Go.Lib
/-- A token's text is read as that token. -/
def Again (t : Tok) : Prop := t.text.length ≤ 24 ∧ t.text ≠ [] ∧ skipLen t.text = 0 ∧ (10 : UInt8) ∉ t.text ∧ lexToken t.text = (⟨t.kind, t.text, 0⟩, t.text.length, 0)
theorem skip_head {c : UInt8} {r : List UInt8} (hw : isWhite c = false) (h47 : c ≠ 47) : skipLen (c :: r) = 0 := by
 have h : ([47, 47] : List UInt8).isPrefixOf (c :: r) = false := by
  cases h : ([47, 47] : List UInt8).isPrefixOf (c :: r) with
  | false => rfl
  | true =>
   simp only [List.isPrefixOf, Bool.and_eq_true, beq_iff_eq] at h
   exact absurd h.1.symm h47
 unfold skipLen
 rw [h, if_neg (by decide), List.takeWhile_cons_of_neg (by rw [hw]; decide)]
 rfl
theorem digit_of {d : Nat} (h : d < 10) : isDigit (UInt8.ofNat (48 + d)) = true := by
 have h1 : (UInt8.ofNat (48 + d)).toNat = 48 + d := digit_toNat h
 unfold isDigit cv
 rw [h1]
 simp
 omega
theorem dec_digits (u : Nat) : ∀ c ∈ decDigits u, isDigit c = true := by
 induction u using Nat.strongRecOn with
 | ind u ih =>
  intro c hc
  by_cases h : u < 10
  ·rw [decDigits_one h] at hc
   rw [List.mem_singleton.1 hc]
   exact digit_of h
  ·rw [decDigits, dif_neg h] at hc
   rcases List.mem_append.1 hc with hc | hc
   ·exact ih (u / 10) (by omega) c hc
   ·rw [List.mem_singleton.1 hc]
    exact digit_of (by omega)
theorem digit_white {c : UInt8} (h : isDigit c = true) : isWhite c = false ∧ c ≠ 47 := by
 unfold isDigit at h
 rw [Bool.and_eq_true, decide_eq_true_eq, decide_eq_true_eq] at h
 refine ⟨?_, fun hc => ?_⟩
 ·unfold isWhite
  simp only [Bool.or_eq_false_iff, decide_eq_false_iff_not]
  omega
 ·subst hc
  exact absurd h.1 (by decide)
theorem letter_white {c : UInt8} (h : isLetter c = true) : isWhite c = false ∧ c ≠ 47 := by
 unfold isLetter at h
 rw [Bool.and_eq_true, decide_eq_true_eq, decide_eq_true_eq] at h
 refine ⟨?_, fun hc => ?_⟩
 ·unfold isWhite
  simp only [Bool.or_eq_false_iff, decide_eq_false_iff_not]
  omega
 ·subst hc
  exact absurd h.1 (by decide)
theorem tw_self {p : UInt8 → Bool} : ∀ {s : List UInt8}, (∀ c ∈ s, p c = true) → s.takeWhile p = s
 | [], _ => rfl
 | c :: s, h => by rw [List.takeWhile_cons_of_pos (h c (List.mem_cons_self ..)), tw_self fun d hd => h d (List.mem_cons_of_mem _ hd)]
theorem tw_mem {p : UInt8 → Bool} : ∀ {s : List UInt8} {c : UInt8}, c ∈ s.takeWhile p → p c = true
 | [], _, h => by cases h
 | d :: s, c, h => by
  by_cases hd : p d = true
  ·rw [List.takeWhile_cons_of_pos hd] at h
   rcases List.mem_cons.1 h with rfl | h
   ·exact hd
   ·exact tw_mem h
  ·rw [List.takeWhile_cons_of_neg hd] at h
   cases h
theorem again_dec {u : Nat} (hu : u < 4294967296) (l : Int) : Again ⟨1, decDigits u, l⟩ := by
 have hd := dec_digits u
 have hne := decDigits_ne u
 refine ⟨by have := dec_len hu; simp only; omega, hne, ?_, fun h => by have := hd _ h; exact absurd this (by decide), ?_⟩
 ·show skipLen (decDigits u) = 0
  cases hD : decDigits u with
  | nil => exact absurd hD hne
  | cons c r =>
   have := digit_white (hd c (by rw [hD]; exact List.mem_cons_self ..))
   exact skip_head this.1 this.2
 ·show lexToken (decDigits u) = (⟨1, decDigits u, 0⟩, (decDigits u).length, 0)
  have h1 : lexToken (decDigits u) = lexNumber (decDigits u) := by
   cases hD : decDigits u with
   | nil => exact absurd hD hne
   | cons c r => rw [lexToken, if_pos (hd c (by rw [hD]; exact List.mem_cons_self ..))]
  rw [h1]
  unfold lexNumber
  rw [tw_self hd, pu32_dec u hu, if_neg]
  unfold wordNext
  rw [List.getElem?_eq_none (Nat.le_refl _)]
  decide
theorem again_sign : ∀ x ∈ signs, x.length ≤ 24 ∧ x ≠ [] ∧ skipLen x = 0 ∧ (10 : UInt8) ∉ x ∧ lexToken x = (⟨4, x, 0⟩, x.length, 0) := by decide +kernel
theorem lexToken_again (s : List UInt8) (h : (lexToken s).2.2 = 0) : Again (lexToken s).1 := by
 match s with
 | [] => simp [lexToken, tokErr] at h
 | c :: r =>
  simp only [lexToken] at h ⊢
  split at h <;> rename_i hc
  ·rw [if_pos hc]
   unfold lexNumber at h ⊢
   split at h
   ·simp [tokErr] at h
   ·rename_i hw
    rw [if_neg hw]
    split at h
    ·rename_i u hu
     exact again_dec (pu32_lt hu) 0
    ·simp [tokErr] at h
  ·rw [if_neg hc]
   split at h <;> rename_i hl
   ·rw [if_pos hl]
    unfold lexName at h ⊢
    split at h
    ·simp [tokErr] at h
    ·rename_i hw
     rw [if_neg hw]
     have hin : isInner c = true := by simp [isInner, hl]
     have hW : (c :: r).takeWhile isInner = c :: r.takeWhile isInner := List.takeWhile_cons_of_pos hin
     have hall : ∀ d ∈ (c :: r).takeWhile isInner, isInner d = true := fun d hd => tw_mem hd
     have hww := letter_white hl
     refine ⟨by simp only; omega, by simp only; rw [hW]; simp, by simp only; rw [hW]; exact skip_head hww.1 hww.2, fun h10 => absurd (hall _ h10) (by decide), ?_⟩
     simp only
     have h1 : lexToken ((c :: r).takeWhile isInner) = lexName ((c :: r).takeWhile isInner) := by
      rw [hW, lexToken, if_neg hc, if_pos hl]
     rw [h1]
     unfold lexName
     rw [tw_self hall, if_neg hw]
   ·rw [if_neg hl]
    split at h <;> rename_i hq
    ·rw [if_pos hq]
     unfold lexLiteral at h ⊢
     split at h
     ·split at h
      ·simp [tokErr] at h
      ·rename_i hx
       rename_i heq
       rename_i b _ _
       rw [if_neg hx]
       exact again_dec (Nat.lt_trans (UInt8.toNat_lt b) (by decide)) 0
     ·simp [tokErr] at h
    ·rw [if_neg hq]
     unfold lexSign at h ⊢
     split at h
     ·rename_i x hx
      exact again_sign x (List.mem_of_find?_eq_some hx)
     ·simp [tokErr] at h
theorem lexP_again : ∀ (f : Nat) (s : List UInt8) (line : Int) (T : List Tok), lexP f s line = .ok T → ∀ t ∈ T, Again t
 | 0, s, line, T, h => by
  rw [lexP] at h
  cases h
  simp
 | f + 1, s, line, T, h => by
  rw [lexP] at h
  split at h
  ·cases h
   simp
  ·split at h
   ·split at h
    ·cases h
    ·rename_i he
     obtain ⟨T', h1, rfl⟩ := map_ok h
     have k2 := lexP_again f _ _ _ h1
     intro t ht
     rcases List.mem_cons.1 ht with rfl | ht
     ·exact lexToken_again s (by omega)
     ·exact k2 t ht
   ·exact lexP_again f _ _ _ h
end Go.Stele
namespace Go.Stele
/-- A step from i, op that ends well ends at a later place (strictly, if s), within the tokens, with as many open constructs. -/
def Good {A : Type} (T : List Tok) (s : Bool) (i op : Nat) (r : Res A) : Prop := match r with
 | .ok _ i' op' => i ≤ i' ∧ (s = true → i < i') ∧ (i ≤ T.length → i' ≤ T.length) ∧ op' = op
 | .err _ _ => True
def GoodO {A : Type} (T : List Tok) (s : Bool) (i op : Nat) (r : OR A) : Prop := ∀ r', r = some r' → Good T s i op r'
theorem isTok_lt {T : List Tok} {i : Nat} {xs : List (List UInt8)} (h : isTok T i xs = true) : i < T.length := by
 rcases Nat.lt_or_ge i T.length with h1 | h1
 ·exact h1
 ·rw [isTok, List.getElem?_eq_none h1] at h; cases h
theorem get_lt {T : List Tok} {i : Nat} {t : Tok} (h : T[i]? = some t) : i < T.length := (List.getElem?_eq_some_iff.1 h).1
theorem sWord_good (T : List Tok) (k : Int) (i op : Nat) : Good T true i op (sWord T k i op) := by
 unfold sWord
 split
 ·rename_i t ht
  have := get_lt ht
  split
  ·exact ⟨by omega, fun _ => by omega, fun _ => by omega, rfl⟩
  ·trivial
 ·trivial
theorem sNeed_good (T : List Tok) (x : List UInt8) (i op : Nat) : Good T true i op (sNeed T x i op) := by
 unfold sNeed
 split
 ·rename_i h
  have := isTok_lt h
  exact ⟨by omega, fun _ => by omega, fun _ => by omega, rfl⟩
 ·trivial
theorem sBegin_ok {T : List Tok} {x : List UInt8} {i op i' op' : Nat} {u : Unit} (h : sBegin T x i op = .ok u i' op') : i' = i + 1 ∧ op' = op + 1 ∧ op < 100 ∧ i < T.length := by
 unfold sBegin at h
 split at h
 ·rename_i h1
  have := isTok_lt h1
  split at h
  ·cases h
  ·cases h
   exact ⟨rfl, rfl, by omega, this⟩
 ·cases h
theorem sEnd_ok {T : List Tok} {x : List UInt8} {i op i' op' : Nat} {u : Unit} (h : sEnd T x i op = .ok u i' op') : i' = i + 1 ∧ op' = op - 1 ∧ i < T.length := by
 unfold sEnd sNeed at h
 split at h
 ·rename_i h1
  have := isTok_lt h1
  cases h
  exact ⟨rfl, rfl, this⟩
 ·cases h
theorem sNumber_good (T : List Tok) (i op : Nat) : Good T true i op (sNumber T i op) := by
 have := sWord_good T 1 i op
 unfold sNumber
 cases h : sWord T 1 i op with
 | ok v i' op' => rw [h] at this; exact this
 | err l e => trivial
theorem obind_some {A B : Type} {r : OR A} {f : A → Nat → Nat → OR B} {q : Res B} (h : obind r f = some q) :
  (∃ v i op, r = some (.ok v i op) ∧ f v i op = some q) ∨ (∃ l e, r = some (.err l e) ∧ q = .err l e) := by
 match r, h with
 | some (.ok v i op), h => exact .inl ⟨v, i, op, rfl, h⟩
 | some (.err l e), h => exact .inr ⟨l, e, rfl, by simpa [obind] using h.symm⟩
/-- One step behind another. -/
theorem good_bind {A B : Type} {T : List Tok} {s t : Bool} {i op j op1 : Nat} {r : OR A} {f : A → Nat → Nat → OR B} (hr : GoodO T s j op1 r)
  (hf : ∀ v i' , r = some (.ok v i' op1) → j ≤ i' → (s = true → j < i') → (j ≤ T.length → i' ≤ T.length) → GoodO T t i op (f v i' op1)) : GoodO T t i op (obind r f) := fun q hq => by
 rcases obind_some hq with ⟨v, i', op', h1, h2⟩ | ⟨l, e, _, rfl⟩
 ·obtain ⟨g1, g2, g3, g4⟩ := hr _ h1
  subst g4
  exact hf v i' h1 g1 g2 g3 q h2
 ·trivial
theorem good_some {A : Type} {T : List Tok} {s : Bool} {i op : Nat} {r : Res A} (h : Good T s i op r) : GoodO T s i op (some r) := fun r' hr => by cases hr; exact h
theorem good_none {A : Type} {T : List Tok} {s : Bool} {i op : Nat} : GoodO (A := A) T s i op none := fun r' hr => by cases hr
/-- From an earlier place on. -/
theorem GoodO.from {A : Type} {T : List Tok} {s t : Bool} {i j op : Nat} {r : OR A} (h : GoodO T s j op r) (hij : i ≤ j) (hs : t = true → i < j ∨ s = true) (hT : i ≤ T.length → j ≤ T.length) : GoodO T t i op r := fun r' hr => by
 have := h r' hr
 cases r' with
 | ok v i' op' =>
  obtain ⟨g1, g2, g3, g4⟩ := this
  refine ⟨by omega, fun ht => ?_, fun hi => g3 (hT hi), g4⟩
  rcases hs ht with h1 | h1
  ·omega
  ·have := g2 h1; omega
 | err l e => trivial
theorem sNamesLoop_good (T : List Tok) : ∀ (f : Nat) (acc : List (List UInt8)) (i op : Nat), GoodO T false i op (sNamesLoop T f acc i op)
 | 0, _, _, _ => good_none
 | f + 1, acc, i, op => by
  rw [sNamesLoop]
  split
  ·rename_i h
   have := isTok_lt h
   refine good_bind (good_some (sWord_good T 2 (i + 1) op)) fun v i' _ h1 h2 h3 => ?_
   exact (sNamesLoop_good T f _ i' op).from (by omega) (by simp) (fun _ => h3 (by omega))
  ·exact good_some ⟨by omega, by simp, fun h => h, rfl⟩
theorem sNames_good (T : List Tok) (f i op : Nat) : GoodO T true i op (sNames T f i op) :=
 good_bind (good_some (sWord_good T 2 i op)) fun v i' _ h1 h2 h3 => (sNamesLoop_good T f _ i' op).from h1 (fun _ => .inl (h2 rfl)) h3
/-- What stands between a sign that opens a construct and the one that closes it. -/
theorem good_wrap {A : Type} {T : List Tok} {s : Bool} {x y : List UInt8} {i op : Nat} {g : Nat → Nat → OR A} (hg : i < T.length → op < 100 → GoodO T s (i + 1) (op + 1) (g (i + 1) (op + 1))) :
  GoodO T true i op (obind (some (sBegin T x i op)) fun _ i' op' => obind (g i' op') fun v i' op' => obind (some (sEnd T y i' op')) fun _ i' op' => some (.ok v i' op')) := fun q hq => by
 rcases obind_some hq with ⟨v, i1, op1, h1, h2⟩ | ⟨l, e, _, rfl⟩
 ·injection h1 with h1
  obtain ⟨rfl, rfl, ho, hi⟩ := sBegin_ok h1
  rcases obind_some h2 with ⟨w, i2, op2, h3, h4⟩ | ⟨l, e, _, rfl⟩
  ·obtain ⟨g1, _, g3, rfl⟩ := hg hi ho _ h3
   rcases obind_some h4 with ⟨u, i3, op3, h5, h6⟩ | ⟨l, e, _, rfl⟩
   ·injection h5 with h5
    obtain ⟨rfl, rfl, hi2⟩ := sEnd_ok h5
    cases h6
    exact ⟨by omega, fun _ => by omega, fun _ => by omega, by omega⟩
   ·trivial
  ·trivial
 ·trivial
/-- All the functions for expressions. -/
theorem ex_good (T : List Tok) : ∀ f : Nat, (∀ k i op, GoodO T true i op (eLev T f k i op)) ∧ (∀ k e i op, GoodO T false i op (eLoop T f k e i op)) ∧ (∀ i op, GoodO T true i op (eUnary T f i op)) ∧
  (∀ i op, GoodO T true i op (ePrim T f i op)) ∧ (∀ i op, GoodO T true i op (eIndex T f i op)) ∧ (∀ i op, GoodO T true i op (eArgs T f i op)) ∧ (∀ acc i op, GoodO T false i op (eArgsLoop T f acc i op))
 | 0 => ⟨fun _ _ _ => by rw [eLev]; exact good_none, fun _ _ _ _ => by rw [eLoop]; exact good_none, fun _ _ => by rw [eUnary]; exact good_none, fun _ _ => by rw [ePrim]; exact good_none, fun _ _ => by rw [eIndex]; exact good_none, fun _ _ => by rw [eArgs]; exact good_none, fun _ _ _ => by rw [eArgsLoop]; exact good_none⟩
 | f + 1 => by
  obtain ⟨hL, hO, hU, hP, hI, hA, hB⟩ := ex_good T f
  have neg : ∀ (x : List UInt8) (nm : List UInt8) (i op : Nat), GoodO T true i op (obind (some (sBegin T x i op)) fun _ i' op' => obind (eUnary T f i' op') fun e i' op' => some (.ok (Ex.mk nm 0 [] [e]) i' (op' - 1))) := fun x nm i op q hq => by
   rcases obind_some hq with ⟨v, i1, op1, h1, h2⟩ | ⟨l, e, _, rfl⟩
   ·injection h1 with h1
    obtain ⟨rfl, rfl, ho, hi⟩ := sBegin_ok h1
    rcases obind_some h2 with ⟨w, i2, op2, h3, h4⟩ | ⟨l, e, _, rfl⟩
    ·obtain ⟨g1, _, g3, rfl⟩ := hU _ _ _ h3
     cases h4
     exact ⟨by omega, fun _ => by omega, fun _ => g3 (by omega), by omega⟩
    ·trivial
   ·trivial
  refine ⟨fun k i op => ?_, fun k e i op => ?_, fun i op => ?_, fun i op => ?_, fun i op => ?_, fun i op => ?_, fun acc i op => ?_⟩
  ·rw [eLev]
   split
   ·exact hU i op
   ·exact good_bind (hL (k + 1) i op) fun v i' _ h1 h2 h3 => (hO k v i' op).from h1 (fun _ => .inl (h2 rfl)) h3
  ·rw [eLoop]
   split
   ·rename_i h
    have := isTok_lt h
    refine good_bind (hL (k + 1) (i + 1) op) fun v i' _ h1 h2 h3 => ?_
    split
    ·exact good_some ⟨by omega, by simp, fun _ => h3 (by omega), rfl⟩
    ·exact (hO k _ i' op).from (by omega) (by simp) (fun _ => h3 (by omega))
   ·exact good_some ⟨by omega, by simp, fun h => h, rfl⟩
  ·rw [eUnary]
   split
   ·exact neg _ _ _ _
   ·split
    ·exact neg _ _ _ _
    ·exact hP i op
  ·rw [ePrim]
   split
   ·exact good_wrap (g := fun i op => eLev T f 0 i op) fun _ _ => hL 0 _ _
   ·split
    ·exact good_bind (good_some (sNumber_good T i op)) fun v i' _ h1 h2 h3 => good_some ⟨h1, fun _ => h2 rfl, h3, rfl⟩
    ·refine good_bind (good_some (sWord_good T 2 i op)) fun v i' _ h1 h2 h3 => ?_
     split
     ·exact good_bind (hI i' op) fun v i2 _ g1 g2 g3 => good_some ⟨by omega, fun _ => by have := h2 rfl; omega, fun h => g3 (h3 h), rfl⟩
     ·split
      ·exact good_bind (hA i' op) fun v i2 _ g1 g2 g3 => good_some ⟨by omega, fun _ => by have := h2 rfl; omega, fun h => g3 (h3 h), rfl⟩
      ·exact good_some ⟨h1, fun _ => h2 rfl, h3, rfl⟩
  ·rw [eIndex]
   exact good_wrap (g := fun i op => eLev T f 0 i op) fun _ _ => hL 0 _ _
  ·rw [eArgs]
   exact good_wrap (g := fun i op => eArgsLoop T f [] i op) fun _ _ => hB [] _ _
  ·rw [eArgsLoop]
   split
   ·exact good_some ⟨by omega, by simp, fun h => h, rfl⟩
   ·refine good_bind (s := false) (j := i) (op1 := op) ?_ fun v i' _ h1 h2 h3 => ?_
    ·split
     ·exact good_some ⟨by omega, by simp, fun h => h, rfl⟩
     ·exact GoodO.from (good_some (sNeed_good T [44] i op)) (by omega) (by simp) (fun h => h)
    ·exact good_bind (hL 0 i' op) fun v i2 _ g1 g2 g3 => (hB _ i2 op).from (by omega) (by simp) (fun h => g3 (h3 h))
end Go.Stele
/- The parser in plain Lean: where statements end; enough fuel. -/
namespace Go.Stele
theorem st_good (T : List Tok) : ∀ f : Nat, (∀ i op, GoodO T true i op (sBlock T f i op)) ∧ (∀ acc i op, GoodO T false i op (sStmts T f acc i op)) ∧ (∀ i op, GoodO T true i op (sStmt T f i op)) ∧ (∀ i op, GoodO T true i op (sSimple T f i op))
 | 0 => ⟨fun _ _ => by rw [sBlock]; exact good_none, fun _ _ _ => by rw [sStmts]; exact good_none, fun _ _ => by rw [sStmt]; exact good_none, fun _ _ => by rw [sSimple]; exact good_none⟩
 | f + 1 => by
  obtain ⟨hB, hL, hS, hM⟩ := st_good T f
  obtain ⟨gL, _, _, _, gI, gA, _⟩ := ex_good T f
  refine ⟨fun i op => ?_, fun acc i op => ?_, fun i op => ?_, fun i op => ?_⟩
  ·rw [sBlock]
   exact good_wrap (g := fun i op => sStmts T f [] i op) fun _ _ => hL [] _ _
  ·rw [sStmts]
   split
   ·exact good_some ⟨by omega, by simp, fun h => h, rfl⟩
   ·exact good_bind (hS i op) fun v i' _ h1 h2 h3 => (hL _ i' op).from h1 (by simp) h3
  ·rw [sStmt]
   split
   ·rename_i h
    have := isTok_lt h
    refine good_bind (gL 0 (i + 1) op) fun v i' _ h1 h2 h3 => good_bind (hB i' op) fun w i2 _ g1 g2 g3 => ?_
    split
    ·rename_i h4
     have := isTok_lt h4
     refine good_bind (hB (i2 + 1) op) fun x i3 _ k1 k2 k3 => good_some ⟨by omega, fun _ => by omega, fun _ => k3 (by omega), rfl⟩
    ·exact good_some ⟨by omega, fun _ => by omega, fun _ => g3 (h3 (by omega)), rfl⟩
   ·split
    ·rename_i h
     have := isTok_lt h
     exact good_bind (gL 0 (i + 1) op) fun v i' _ h1 h2 h3 => good_bind (hB i' op) fun w i2 _ g1 g2 g3 => good_some ⟨by omega, fun _ => by omega, fun _ => g3 (h3 (by omega)), rfl⟩
    ·exact good_bind (hM i op) fun v i' _ h1 h2 h3 => good_bind (good_some (sNeed_good T [59] i' op)) fun w i2 _ g1 g2 g3 => good_some ⟨by omega, fun _ => by have := h2 rfl; omega, fun hh => g3 (h3 hh), rfl⟩
  ·rw [sSimple]
   split
   ·rename_i h
    have := isTok_lt h
    exact good_bind (gL 0 (i + 1) op) fun v i' _ h1 h2 h3 => good_some ⟨by omega, fun _ => by omega, fun _ => h3 (by omega), rfl⟩
   ·split
    ·rename_i h
     have := isTok_lt h
     exact good_some ⟨by omega, fun _ => by omega, fun _ => by omega, rfl⟩
    ·refine good_bind (good_some (sWord_good T 2 i op)) fun v i' _ h1 h2 h3 => ?_
     split
     ·exact good_bind (gA i' op) fun w i2 _ g1 g2 g3 => good_some ⟨by omega, fun _ => by have := h2 rfl; omega, fun hh => g3 (h3 hh), rfl⟩
     ·split
      ·exact good_bind (gI i' op) fun w i2 _ g1 g2 g3 => good_bind (good_some (sNeed_good T [61] i2 op)) fun u i3 _ k1 k2 k3 => good_bind (gL 0 i3 op) fun x i4 _ m1 m2 m3 =>
        good_some ⟨by omega, fun _ => by have := h2 rfl; omega, fun hh => m3 (k3 (g3 (h3 hh))), rfl⟩
      ·exact good_bind (good_some (sNeed_good T [61] i' op)) fun u i3 _ k1 k2 k3 => good_bind (gL 0 i3 op) fun x i4 _ m1 m2 m3 =>
        good_some ⟨by omega, fun _ => by have := h2 rfl; omega, fun hh => m3 (k3 (h3 hh)), rfl⟩
theorem sVars_good (T : List Tok) : ∀ (f : Nat) (acc : List (List UInt8)) (i op : Nat), GoodO T (isTok T i [kwVar]) i op (sVars T f acc i op)
 | 0, _, _, _ => by rw [sVars]; exact good_none
 | f + 1, acc, i, op => by
  rw [sVars]
  split
  ·rename_i h
   have := isTok_lt h
   exact good_bind (sNames_good T f (i + 1) op) fun v i' _ h1 h2 h3 => good_bind (good_some (sNeed_good T [59] i' op)) fun u i2 _ g1 g2 g3 =>
    (sVars_good T f _ i2 op).from (by omega) (fun _ => .inl (by omega)) (fun _ => g3 (h3 (by omega)))
  ·rename_i h
   exact good_some ⟨by omega, fun hh => absurd hh h, fun h => h, rfl⟩
/-! ### Enough fuel -/
def Ends {A : Type} (r : OR A) : Prop := ∃ q, r = some q
theorem ends_bind {A B : Type} {r : OR A} {f : A → Nat → Nat → OR B} (h : Ends r) (k : ∀ v i op, r = some (.ok v i op) → Ends (f v i op)) : Ends (obind r f) := by
 obtain ⟨q, rfl⟩ := h
 cases q with
 | ok v i op => exact k v i op rfl
 | err l e => exact ⟨_, rfl⟩
theorem ends_some {A : Type} {r : Res A} : Ends (some r) := ⟨_, rfl⟩
theorem ends_begin {B : Type} {T : List Tok} {x : List UInt8} {i op : Nat} {g : Unit → Nat → Nat → OR B} (k : i < T.length → op < 100 → Ends (g () (i + 1) (op + 1))) : Ends (obind (some (sBegin T x i op)) g) :=
 ends_bind ends_some fun v i1 op1 h1 => by
  injection h1 with h1
  obtain ⟨rfl, rfl, ho, hi⟩ := sBegin_ok h1
  exact k hi ho
theorem ex_ends (T : List Tok) : ∀ f : Nat, (∀ k i op, k ≤ 6 → i ≤ T.length → 10 * (T.length - i) + 20 - k ≤ f → Ends (eLev T f k i op)) ∧ (∀ k e i op, k ≤ 5 → i ≤ T.length → 10 * (T.length - i) + 11 ≤ f → Ends (eLoop T f k e i op)) ∧
  (∀ i op, i ≤ T.length → 10 * (T.length - i) + 13 ≤ f → Ends (eUnary T f i op)) ∧ (∀ i op, i ≤ T.length → 10 * (T.length - i) + 12 ≤ f → Ends (ePrim T f i op)) ∧ (∀ i op, i ≤ T.length → 10 * (T.length - i) + 11 ≤ f → Ends (eIndex T f i op)) ∧
  (∀ i op, i ≤ T.length → 10 * (T.length - i) + 12 ≤ f → Ends (eArgs T f i op)) ∧ (∀ acc i op, i ≤ T.length → 10 * (T.length - i) + 21 ≤ f → Ends (eArgsLoop T f acc i op))
 | 0 => ⟨fun _ _ _ _ _ _ => by omega, fun _ _ _ _ _ _ _ => by omega, fun _ _ _ _ => by omega, fun _ _ _ _ => by omega, fun _ _ _ _ => by omega, fun _ _ _ _ => by omega, fun _ _ _ _ _ => by omega⟩
 | f + 1 => by
  obtain ⟨hL, hO, hU, hP, hI, hA, hB⟩ := ex_ends T f
  obtain ⟨gL, gO, gU, gP, gI, gA, gB⟩ := ex_good T f
  have neg : ∀ (x nm : List UInt8) (i op : Nat), 10 * (T.length - i) + 13 ≤ f + 1 → Ends (obind (some (sBegin T x i op)) fun _ i' op' => obind (eUnary T f i' op') fun e i' op' => some (.ok (Ex.mk nm 0 [] [e]) i' (op' - 1))) := fun x nm i op hf =>
   ends_begin fun hi ho => ends_bind (hU _ _ (by omega) (by omega)) fun v i2 op2 _ => ends_some
  refine ⟨fun k i op hk hi hf => ?_, fun k e i op hk hi hf => ?_, fun i op hi hf => ?_, fun i op hi hf => ?_, fun i op hi hf => ?_, fun i op hi hf => ?_, fun acc i op hi hf => ?_⟩
  ·rw [eLev]
   split
   ·exact hU i op hi (by omega)
   ·refine ends_bind (hL (k + 1) i op (by omega) hi (by omega)) fun v i' op' h => ?_
    obtain ⟨g1, g2, g3, rfl⟩ := gL (k + 1) i op _ h
    have := g2 rfl
    exact hO k v i' op' (by omega) (g3 hi) (by have := g3 hi; omega)
  ·rw [eLoop]
   split
   ·rename_i h
    have := isTok_lt h
    refine ends_bind (hL (k + 1) (i + 1) op (by omega) (by omega) (by omega)) fun v i' op' h => ?_
    obtain ⟨g1, g2, g3, rfl⟩ := gL (k + 1) (i + 1) op _ h
    have := g3 (by omega)
    split
    ·exact ends_some
    ·exact hO k _ i' op' hk this (by omega)
   ·exact ends_some
  ·rw [eUnary]
   split
   ·exact neg _ _ _ _ hf
   ·split
    ·exact neg _ _ _ _ hf
    ·exact hP i op hi (by omega)
  ·rw [ePrim]
   split
   ·exact ends_begin fun hlt ho => ends_bind (hL 0 _ _ (by omega) (by omega) (by omega)) fun v i2 op2 _ => ends_bind ends_some fun _ _ _ _ => ends_some
   ·split
    ·exact ends_bind ends_some fun _ _ _ _ => ends_some
    ·refine ends_bind ends_some fun v i' op' h => ?_
     injection h with h
     have hg := sWord_good T 2 i op
     rw [h] at hg
     obtain ⟨h1, h2, h3, rfl⟩ := hg
     have := h2 rfl
     have := h3 hi
     split
     ·exact ends_bind (hI i' _ (by omega) (by omega)) fun _ _ _ _ => ends_some
     ·split
      ·exact ends_bind (hA i' _ (by omega) (by omega)) fun _ _ _ _ => ends_some
      ·exact ends_some
  ·rw [eIndex]
   exact ends_begin fun hlt ho => ends_bind (hL 0 _ _ (by omega) (by omega) (by omega)) fun v i2 op2 _ => ends_bind ends_some fun _ _ _ _ => ends_some
  ·rw [eArgs]
   exact ends_begin fun hlt ho => ends_bind (hB [] _ _ (by omega) (by omega)) fun v i2 op2 _ => ends_bind ends_some fun _ _ _ _ => ends_some
  ·rw [eArgsLoop]
   split
   ·exact ends_some
   ·refine ends_bind ends_some fun v i' op' h => ?_
    have hg : i ≤ i' ∧ i' ≤ T.length := by
     injection h with h
     split at h
     ·cases h; exact ⟨Nat.le_refl _, hi⟩
     ·have hg := sNeed_good T [44] i op
      rw [h] at hg
      exact ⟨hg.1, hg.2.2.1 hi⟩
    refine ends_bind (hL 0 i' op' (by omega) hg.2 (by omega)) fun v2 i2 op2 h2 => ?_
    obtain ⟨g1, g2, g3, rfl⟩ := gL 0 i' op' _ h2
    have := g2 rfl
    have := g3 hg.2
    exact hB _ i2 _ this (by omega)
theorem st_ends (T : List Tok) : ∀ f : Nat, (∀ i op, i ≤ T.length → 10 * (T.length - i) + 5 ≤ f → Ends (sBlock T f i op)) ∧ (∀ acc i op, i ≤ T.length → 10 * (T.length - i) + 14 ≤ f → Ends (sStmts T f acc i op)) ∧
  (∀ i op, i ≤ T.length → 10 * (T.length - i) + 13 ≤ f → Ends (sStmt T f i op)) ∧ (∀ i op, i ≤ T.length → 10 * (T.length - i) + 12 ≤ f → Ends (sSimple T f i op))
 | 0 => ⟨fun _ _ _ _ => by omega, fun _ _ _ _ _ => by omega, fun _ _ _ _ => by omega, fun _ _ _ _ => by omega⟩
 | f + 1 => by
  obtain ⟨hB, hL, hS, hM⟩ := st_ends T f
  obtain ⟨eL, _, _, _, eI, eA, _⟩ := ex_ends T f
  obtain ⟨gL, _, _, _, gI, gA, _⟩ := ex_good T f
  obtain ⟨kB, kL, kS, kM⟩ := st_good T f
  refine ⟨fun i op hi hf => ?_, fun acc i op hi hf => ?_, fun i op hi hf => ?_, fun i op hi hf => ?_⟩
  ·rw [sBlock]
   exact ends_begin fun hlt ho => ends_bind (hL [] _ _ (by omega) (by omega)) fun v i2 op2 _ => ends_bind ends_some fun _ _ _ _ => ends_some
  ·rw [sStmts]
   split
   ·exact ends_some
   ·refine ends_bind (hS i op hi (by omega)) fun v i' op' h => ?_
    obtain ⟨g1, g2, g3, rfl⟩ := kS i op _ h
    have := g2 rfl
    have := g3 hi
    exact hL _ i' _ (by omega) (by omega)
  ·rw [sStmt]
   split
   ·rename_i h
    have := isTok_lt h
    refine ends_bind (eL 0 (i + 1) op (by omega) (by omega) (by omega)) fun v i' op' h => ?_
    obtain ⟨g1, g2, g3, rfl⟩ := gL 0 (i + 1) op _ h
    have := g2 rfl
    have := g3 (by omega)
    refine ends_bind (hB i' _ (by omega) (by omega)) fun v2 i2 op2 h2 => ?_
    obtain ⟨q1, q2, q3, rfl⟩ := kB i' _ _ h2
    have := q3 (by omega)
    split
    ·rename_i h4
     have := isTok_lt h4
     exact ends_bind (hB (i2 + 1) _ (by omega) (by omega)) fun _ _ _ _ => ends_some
    ·exact ends_some
   ·split
    ·rename_i h
     have := isTok_lt h
     refine ends_bind (eL 0 (i + 1) op (by omega) (by omega) (by omega)) fun v i' op' h => ?_
     obtain ⟨g1, g2, g3, rfl⟩ := gL 0 (i + 1) op _ h
     have := g2 rfl
     have := g3 (by omega)
     exact ends_bind (hB i' _ (by omega) (by omega)) fun v2 i2 op2 h2 => ends_some
    ·exact ends_bind (hM i op hi (by omega)) fun _ _ _ _ => ends_bind ends_some fun _ _ _ _ => ends_some
  ·rw [sSimple]
   split
   ·rename_i h
    have := isTok_lt h
    exact ends_bind (eL 0 (i + 1) op (by omega) (by omega) (by omega)) fun _ _ _ _ => ends_some
   ·split
    ·exact ends_some
    ·refine ends_bind ends_some fun v i' op' h => ?_
     injection h with h
     have hg := sWord_good T 2 i op
     rw [h] at hg
     obtain ⟨h1, h2, h3, rfl⟩ := hg
     have := h2 rfl
     have := h3 hi
     split
     ·exact ends_bind (eA i' _ (by omega) (by omega)) fun _ _ _ _ => ends_some
     ·have tail : ∀ (i2 op2 : Nat) (g : Ex → Sm), i' ≤ i2 → i2 ≤ T.length → Ends (obind (some (sNeed T [61] i2 op2)) fun _ i' op' => obind (eLev T f 0 i' op') fun e i' op' => some (.ok (g e) i' op')) := fun i2 op2 g hi1 hi2 => by
       refine ends_bind ends_some fun v i3 op3 h3 => ?_
       injection h3 with h3
       have hg := sNeed_good T [61] i2 op2
       rw [h3] at hg
       have := hg.2.2.1 hi2
       have := hg.1
       exact ends_bind (eL 0 i3 _ (by omega) (by omega) (by omega)) fun _ _ _ _ => ends_some
      split
      ·refine ends_bind (eI i' _ (by omega) (by omega)) fun v2 i2 op2 h2 => ?_
       obtain ⟨q1, q2, q3, rfl⟩ := gI i' _ _ h2
       exact tail i2 _ _ q1 (q3 (by omega))
      ·exact tail i' _ _ (Nat.le_refl _) (by omega)
theorem sNamesLoop_ends (T : List Tok) : ∀ (f : Nat) (acc : List (List UInt8)) (i op : Nat), i ≤ T.length → T.length - i + 1 ≤ f → Ends (sNamesLoop T f acc i op)
 | 0, _, _, _, _, h => by omega
 | f + 1, acc, i, op, hi, hf => by
  rw [sNamesLoop]
  split
  ·rename_i h
   have := isTok_lt h
   refine ends_bind ends_some fun v i' op' h => ?_
   injection h with h
   have hg := sWord_good T 2 (i + 1) op
   rw [h] at hg
   obtain ⟨h1, h2, h3, rfl⟩ := hg
   exact sNamesLoop_ends T f _ i' _ (h3 (by omega)) (by have := h3 (by omega); omega)
  ·exact ends_some
theorem sNames_ends (T : List Tok) (f i op : Nat) (hi : i ≤ T.length) (hf : T.length - i + 1 ≤ f) : Ends (sNames T f i op) :=
 ends_bind ends_some fun v i' op' h => by
  injection h with h
  have hg := sWord_good T 2 i op
  rw [h] at hg
  obtain ⟨h1, h2, h3, rfl⟩ := hg
  exact sNamesLoop_ends T f _ i' _ (h3 hi) (by have := h3 hi; omega)
theorem sVars_ends (T : List Tok) : ∀ (f : Nat) (acc : List (List UInt8)) (i op : Nat), i ≤ T.length → T.length - i + 2 ≤ f → Ends (sVars T f acc i op)
 | 0, _, _, _, _, h => by omega
 | f + 1, acc, i, op, hi, hf => by
  rw [sVars]
  split
  ·rename_i h
   have := isTok_lt h
   refine ends_bind (sNames_ends T f (i + 1) op (by omega) (by omega)) fun v i' op' h => ?_
   obtain ⟨g1, g2, g3, rfl⟩ := sNames_good T f (i + 1) op _ h
   have := g3 (by omega)
   refine ends_bind ends_some fun v i2 op2 h2 => ?_
   injection h2 with h2
   have hg := sNeed_good T [59] i' op'
   rw [h2] at hg
   obtain ⟨h1, h2, h3, rfl⟩ := hg
   have := h3 (by omega)
   exact sVars_ends T f _ i2 _ (by omega) (by omega)
  ·exact ends_some
theorem obind_word {B : Type} {T : List Tok} {k : Int} {i op : Nat} {g : List UInt8 → Nat → Nat → OR B} (h : ∀ s, i < T.length → Ends (g s (i + 1) op)) : Ends (obind (some (sWord T k i op)) g) :=
 ends_bind ends_some fun v i' op' hw => by
  injection hw with hw
  unfold sWord at hw
  split at hw
  ·rename_i t ht
   have := get_lt ht
   split at hw
   ·cases hw; exact h _ this
   ·cases hw
  ·cases hw
theorem obind_end {B : Type} {T : List Tok} {x : List UInt8} {i op : Nat} {g : Unit → Nat → Nat → OR B} (h : i < T.length → Ends (g () (i + 1) (op - 1))) : Ends (obind (some (sEnd T x i op)) g) :=
 ends_bind ends_some fun v i' op' hw => by
  injection hw with hw
  obtain ⟨rfl, rfl, hlt⟩ := sEnd_ok hw
  exact h hlt
theorem sFunc_ends (T : List Tok) (f i op : Nat) (hi : i ≤ T.length) (hf : 10 * (T.length - i) + 14 ≤ f) : Ends (sFunc T f i op) := by
 unfold sFunc
 refine obind_word fun s h1 => ends_begin fun h2 h3 => ends_bind ?_ fun v i2 op2 h4 => obind_end fun h5 => ends_begin fun h6 h7 => ends_bind (sVars_ends T f [] _ _ (by omega) ?_) fun v2 i3 op3 h8 => ends_bind ((st_ends T f).2.1 [] _ _ ?_ ?_) fun v3 i4 op4 h9 => ends_bind ends_some fun _ _ _ _ => ends_some
 ·split
  ·exact ends_some
  ·exact sNames_ends T f _ _ (by omega) (by omega)
 ·have : i + 1 + 1 ≤ i2 := by
   split at h4
   ·cases h4; omega
   ·exact (sNames_good T f _ _ _ h4).1
  omega
 ·exact (sVars_good T f _ _ _ _ h8).2.2.1 (by omega)
 ·have : i + 1 + 1 ≤ i2 := by
   split at h4
   ·cases h4; omega
   ·exact (sNames_good T f _ _ _ h4).1
  have := (sVars_good T f _ _ _ _ h8).1
  omega
theorem sFunc_good (T : List Tok) (f i op : Nat) : GoodO T true i op (sFunc T f i op) := by
 intro q hq0
 unfold sFunc at hq0
 cases q with
 | err l e => trivial
 | ok v i9 op9 =>
  rcases obind_some hq0 with ⟨s, i1, op1, h1, hq1⟩ | ⟨l, e, _, h⟩
  ·injection h1 with h1
   have g1 := sWord_good T 2 i op
   rw [h1] at g1
   obtain ⟨a1, a2, a3, rfl⟩ := g1
   have := a2 rfl
   rcases obind_some hq1 with ⟨_, i2, op2, h2, hq2⟩ | ⟨l, e, _, h⟩
   ·injection h2 with h2
    obtain ⟨rfl, rfl, b1, b2⟩ := sBegin_ok h2
    rcases obind_some hq2 with ⟨ps, i3, op3, h3, hq3⟩ | ⟨l, e, _, h⟩
    ·have c : i1 + 1 ≤ i3 ∧ (i1 + 1 ≤ T.length → i3 ≤ T.length) ∧ op3 = op1 + 1 := by
      split at h3
      ·cases h3; exact ⟨Nat.le_refl _, fun h => h, rfl⟩
      ·obtain ⟨c1, _, c3, c4⟩ := sNames_good T f _ _ _ h3
       exact ⟨c1, c3, c4⟩
     obtain ⟨c1, c2, rfl⟩ := c
     rcases obind_some hq3 with ⟨_, i4, op4, h4, hq4⟩ | ⟨l, e, _, h⟩
     ·injection h4 with h4
      obtain ⟨rfl, rfl, d1⟩ := sEnd_ok h4
      rcases obind_some hq4 with ⟨_, i5, op5, h5, hq5⟩ | ⟨l, e, _, h⟩
      ·injection h5 with h5
       obtain ⟨rfl, rfl, e1, e2⟩ := sBegin_ok h5
       rcases obind_some hq5 with ⟨ls, i6, op6, h6, hq6⟩ | ⟨l, e, _, h⟩
       ·obtain ⟨f1, _, f3, rfl⟩ := sVars_good T f _ _ _ _ h6
        have := f3 (by omega)
        rcases obind_some hq6 with ⟨bs, i7, op7, h7, hq7⟩ | ⟨l, e, _, h⟩
        ·obtain ⟨k1, _, k3, rfl⟩ := (st_good T f).2.1 _ _ _ _ h7
         have := k3 (by omega)
         rcases obind_some hq7 with ⟨_, i8, op8, h8, hq8⟩ | ⟨l, e, _, h⟩
         ·injection h8 with h8
          obtain ⟨rfl, rfl, m1⟩ := sEnd_ok h8
          cases hq8
          exact ⟨by omega, fun _ => by omega, fun _ => by omega, by omega⟩
         ·cases h
        ·cases h
       ·cases h
      ·cases h
     ·cases h
    ·cases h
   ·cases h
  ·cases h
theorem sArray_good (T : List Tok) (i op : Nat) : GoodO T true i op (sArray T i op) := by
 intro q hq0
 unfold sArray at hq0
 cases q with
 | err l e => trivial
 | ok v i9 op9 =>
  rcases obind_some hq0 with ⟨s, i1, op1, h1, hq1⟩ | ⟨l, e, _, h⟩
  ·injection h1 with h1
   have g1 := sWord_good T 2 i op
   rw [h1] at g1
   obtain ⟨a1, a2, a3, rfl⟩ := g1
   have := a2 rfl
   rcases obind_some hq1 with ⟨_, i2, op2, h2, hq2⟩ | ⟨l, e, _, h⟩
   ·injection h2 with h2
    obtain ⟨rfl, rfl, b1, b2⟩ := sBegin_ok h2
    rcases obind_some hq2 with ⟨ps, i3, op3, h3, hq3⟩ | ⟨l, e, _, h⟩
    ·injection h3 with h3
     have g3 := sNumber_good T (i1 + 1) (op1 + 1)
     rw [h3] at g3
     obtain ⟨c1, c2, c3, rfl⟩ := g3
     have := c2 rfl
     rcases obind_some hq3 with ⟨_, i4, op4, h4, hq4⟩ | ⟨l, e, _, h⟩
     ·injection h4 with h4
      obtain ⟨rfl, rfl, d1⟩ := sEnd_ok h4
      rcases obind_some hq4 with ⟨_, i5, op5, h5, hq5⟩ | ⟨l, e, _, h⟩
      ·injection h5 with h5
       have g5 := sNeed_good T [59] (i3 + 1) op4
       rw [h5] at g5
       obtain ⟨e1, e2, e3, rfl⟩ := g5
       have := e2 rfl
       have := e3 (by omega)
       cases hq5
       exact ⟨by omega, fun _ => by omega, fun _ => by omega, by omega⟩
      ·cases h
     ·cases h
    ·cases h
   ·cases h
  ·cases h
theorem sArray_ends (T : List Tok) (i op : Nat) : Ends (sArray T i op) := by
 unfold sArray
 exact obind_word fun s _ => ends_begin fun _ _ => ends_bind ends_some fun _ _ _ _ => ends_bind ends_some fun _ _ _ _ => ends_bind ends_some fun _ _ _ _ => ends_some
theorem sProg_ends (T : List Tok) : ∀ (f : Nat) (p : Pr) (i op : Nat), i ≤ T.length → 10 * (T.length - i) + 20 ≤ f → Ends (sProg T f p i op)
 | 0, _, _, _, _, h => by omega
 | f + 1, p, i, op, hi, hf => by
  rw [sProg]
  split
  ·exact ends_some
  ·split
   ·rename_i h
    have := isTok_lt h
    refine ends_bind (sVars_ends T f _ i op hi (by omega)) fun v i' op' h2 => ?_
    obtain ⟨g1, g2, g3, rfl⟩ := sVars_good T f _ i op _ h2
    have := g2 h
    have := g3 hi
    exact sProg_ends T f _ i' _ (by omega) (by omega)
   ·split
    ·rename_i h
     have := isTok_lt h
     refine ends_bind (sArray_ends T _ _) fun v i' op' h2 => ?_
     obtain ⟨g1, g2, g3, rfl⟩ := sArray_good T _ _ _ h2
     have := g3 (by omega)
     exact sProg_ends T f _ i' _ (by omega) (by omega)
    ·split
     ·rename_i h
      have := isTok_lt h
      refine ends_bind (sFunc_ends T f _ _ (by omega) (by omega)) fun v i' op' h2 => ?_
      obtain ⟨g1, g2, g3, rfl⟩ := sFunc_good T f _ _ _ h2
      have := g3 (by omega)
      exact sProg_ends T f _ i' _ (by omega) (by omega)
     ·exact ends_some
end Go.Stele
namespace Go.Stele
theorem nd_word {T : List Tok} {k : Int} {i op : Nat} {s : List UInt8} {i' op' : Nat} (h : some (sWord T k i op) = some (.ok s i' op')) : i' = i + 1 ∧ op' = op := by
 injection h with h
 unfold sWord at h
 split at h
 ·split at h
  ·cases h; exact ⟨rfl, rfl⟩
  ·cases h
 ·cases h
theorem nd_need {T : List Tok} {x : List UInt8} {i op : Nat} {u : Unit} {i' op' : Nat} (h : some (sNeed T x i op) = some (.ok u i' op')) : i' = i + 1 ∧ op' = op := by
 injection h with h
 unfold sNeed at h
 split at h
 ·cases h; exact ⟨rfl, rfl⟩
 ·cases h
end Go.Stele
namespace Go.Stele
abbrev KT := Int × List UInt8
def sg (c : UInt8) : KT := (4, [c])
def NameOk (x : List UInt8) : Prop := Again ⟨2, x, 0⟩
mutual
/-- The expression, printed at this level: its tokens, and how many constructs are open within. -/
inductive PE : Ex → Nat → List KT → Nat → Prop
 | num {n k : Nat} (h : n < 4294967296) : PE (.mk nNum n [] []) k [(1, Go.Lib.decDigits n)] 0
 | var {s : List UInt8} {k : Nat} (h : NameOk s) : PE (.mk nVar 0 s []) k [(2, s)] 0
 | elem {s : List UInt8} {k : Nat} {a : Ex} {ts : List KT} {d : Nat} (h : NameOk s) (ha : PE a 0 ts d) : PE (.mk nElem 0 s [a]) k ((2, s) :: sg 91 :: (ts ++ [sg 93])) (d + 1)
 | call {s : List UInt8} {k : Nat} {l : List Ex} {ts : List KT} {d : Nat} (h : NameOk s) (hl : PEs l ts d) : PE (.mk nCall 0 s l) k ((2, s) :: sg 40 :: (ts ++ [sg 41])) (d + 1)
 | neg {k : Nat} {a : Ex} {ts : List KT} {d : Nat} (ha : PE a 6 ts d) : PE (.mk nNeg 0 [] [a]) k (sg 45 :: ts) (d + 1)
 | not {k : Nat} {a : Ex} {ts : List KT} {d : Nat} (ha : PE a 6 ts d) : PE (.mk nNot 0 [] [a]) k (sg 33 :: ts) (d + 1)
 | bin {s k : Nat} {op : List UInt8} {a b : Ex} {t1 t2 : List KT} {d1 d2 : Nat} (hs : s < 6) (ho : op ∈ lvOps s) (hk : k ≤ s) (ha : PE a (leftLv s) t1 d1) (hb : PE b (s + 1) t2 d2) : PE (.mk op 0 [] [a, b]) k (t1 ++ (4, op) :: t2) (max d1 d2)
 | par {s k : Nat} {op : List UInt8} {a b : Ex} {t1 t2 : List KT} {d1 d2 : Nat} (hs : s < 6) (ho : op ∈ lvOps s) (hk : s < k) (ha : PE a (leftLv s) t1 d1) (hb : PE b (s + 1) t2 d2) : PE (.mk op 0 [] [a, b]) k (sg 40 :: ((t1 ++ (4, op) :: t2) ++ [sg 41])) (max d1 d2 + 1)
/-- Expressions with commas between them. -/
inductive PEs : List Ex → List KT → Nat → Prop
 | nil : PEs [] [] 0
 | one {a : Ex} {ts : List KT} {d : Nat} (ha : PE a 0 ts d) : PEs [a] ts d
 | more {a b : Ex} {l : List Ex} {t1 t2 : List KT} {d1 d2 : Nat} (ha : PE a 0 t1 d1) (hl : PEs (b :: l) t2 d2) : PEs (a :: b :: l) (t1 ++ sg 44 :: t2) (max d1 d2)
end
theorem PE.weak {e : Ex} {k k' : Nat} {ts : List KT} {d : Nat} (h : PE e k ts d) (hk : k' ≤ k) : ∃ ts' d', PE e k' ts' d' ∧ ts'.length ≤ ts.length ∧ d' ≤ d := by
 cases h with
 | num h => exact ⟨_, _, .num h, Nat.le_refl _, Nat.le_refl _⟩
 | var h => exact ⟨_, _, .var h, Nat.le_refl _, Nat.le_refl _⟩
 | elem h ha => exact ⟨_, _, .elem h ha, Nat.le_refl _, Nat.le_refl _⟩
 | call h ha => exact ⟨_, _, .call h ha, Nat.le_refl _, Nat.le_refl _⟩
 | neg ha => exact ⟨_, _, .neg ha, Nat.le_refl _, Nat.le_refl _⟩
 | not ha => exact ⟨_, _, .not ha, Nat.le_refl _, Nat.le_refl _⟩
 | bin hs ho hk2 ha hb => exact ⟨_, _, .bin hs ho (by omega) ha hb, Nat.le_refl _, Nat.le_refl _⟩
 | par hs ho hk2 ha hb =>
  rename_i s _ _ _ _ _ _ _
  by_cases h2 : k' ≤ s
  ·exact ⟨_, _, .bin hs ho h2 ha hb, by simp only [List.length_append, List.length_cons, List.length_nil]; omega, by omega⟩
  ·exact ⟨_, _, .par hs ho (by omega) ha hb, Nat.le_refl _, Nat.le_refl _⟩
theorem PE.paren {e : Ex} {ts : List KT} {d : Nat} (h : PE e 0 ts d) : ∃ ts' d', PE e 6 ts' d' ∧ ts'.length ≤ ts.length + 2 ∧ d' ≤ d + 1 := by
 cases h with
 | num h => exact ⟨_, _, .num h, by omega, by omega⟩
 | var h => exact ⟨_, _, .var h, by omega, by omega⟩
 | elem h ha => exact ⟨_, _, .elem h ha, by omega, by omega⟩
 | call h ha => exact ⟨_, _, .call h ha, by omega, by omega⟩
 | neg ha => exact ⟨_, _, .neg ha, by omega, by omega⟩
 | not ha => exact ⟨_, _, .not ha, by omega, by omega⟩
 | bin hs ho hk2 ha hb => exact ⟨_, _, .par hs ho hs ha hb, by simp only [List.length_append, List.length_cons, List.length_nil]; omega, by omega⟩
 | par hs ho hk2 ha hb => omega
theorem PEs.snoc : ∀ {l : List Ex} {a : Ex} {t0 t1 : List KT} {d0 d1 : Nat}, PEs l t0 d0 → PE a 0 t1 d1 → ∃ t, PEs (l ++ [a]) t (max d0 d1) ∧ t.length = t0.length + (if l = [] then 0 else 1) + t1.length := by
 intro l
 induction l with
 | nil =>
  intro a t0 t1 d0 d1 h h1
  cases h with
  | nil => exact ⟨t1, by rw [Nat.zero_max]; exact .one h1, by simp⟩
 | cons b l ih =>
  intro a t0 t1 d0 d1 h h1
  cases h with
  | one hb => exact ⟨_, .more hb (.one h1), by simp only [List.length_append, List.length_cons]; simp; omega⟩
  | more hb hl =>
   obtain ⟨t, g1, g2⟩ := ih hl h1
   exact ⟨_, by rw [Nat.max_assoc]; exact .more hb g1, by simp only [List.length_append, List.length_cons, g2]; simp; omega⟩
/-! ### What is read can be printed -/
def Wh {A : Type} (P : A → Nat → Nat → Prop) (r : OR A) : Prop := ∀ v i op, r = some (.ok v i op) → P v i op
theorem wh_bind {A B : Type} {r : OR A} {k : A → Nat → Nat → OR B} {P : A → Nat → Nat → Prop} {Q : B → Nat → Nat → Prop} (hr : Wh P r) (hk : ∀ v i op, P v i op → Wh Q (k v i op)) : Wh Q (obind r k) := fun v i op h => by
 rcases obind_some h with ⟨w, i1, op1, h1, h2⟩ | ⟨_, _, _, h2⟩
 ·exact hk _ _ _ (hr _ _ _ h1) v i op h2
 ·cases h2
theorem wh_any {A B : Type} {r : OR A} {k : A → Nat → Nat → OR B} {Q : B → Nat → Nat → Prop} (hk : ∀ v i op, r = some (.ok v i op) → Wh Q (k v i op)) : Wh Q (obind r k) := wh_bind (fun _ _ _ h => h) hk
theorem wh_ok {A : Type} {P : A → Nat → Nat → Prop} {v : A} {i op : Nat} (h : P v i op) : Wh P (some (.ok v i op)) := fun _ _ _ e => by cases e; exact h
theorem wh_none {A : Type} {P : A → Nat → Nat → Prop} : Wh P none := fun _ _ _ e => by cases e
theorem wh_mono {A : Type} {P Q : A → Nat → Nat → Prop} {r : OR A} (h : Wh P r) (hPQ : ∀ v i op, P v i op → Q v i op) : Wh Q r := fun v i op e => hPQ _ _ _ (h v i op e)
theorem wh_begin {B : Type} {T : List Tok} {x : List UInt8} {i op : Nat} {k : Unit → Nat → Nat → OR B} {Q : B → Nat → Nat → Prop} (hk : op < 100 → Wh Q (k () (i + 1) (op + 1))) : Wh Q (obind (some (sBegin T x i op)) k) := wh_any fun v i1 op1 h => by
 injection h with h
 obtain ⟨rfl, rfl, h3, _⟩ := sBegin_ok h
 exact hk h3
theorem wh_end {B : Type} {T : List Tok} {x : List UInt8} {i op : Nat} {k : Unit → Nat → Nat → OR B} {Q : B → Nat → Nat → Prop} (hk : Wh Q (k () (i + 1) (op - 1))) : Wh Q (obind (some (sEnd T x i op)) k) := wh_any fun v i1 op1 h => by
 injection h with h
 obtain ⟨rfl, rfl, _⟩ := sEnd_ok h
 exact hk
theorem wh_need {B : Type} {T : List Tok} {x : List UInt8} {i op : Nat} {k : Unit → Nat → Nat → OR B} {Q : B → Nat → Nat → Prop} (hk : Wh Q (k () (i + 1) op)) : Wh Q (obind (some (sNeed T x i op)) k) := wh_any fun v i1 op1 h => by
 obtain ⟨rfl, rfl⟩ := nd_need h
 exact hk
theorem word_again {T : List Tok} (hT : ∀ t ∈ T, Again t) {i op i' op' : Nat} {s : List UInt8} (h : sWord T 2 i op = .ok s i' op') : NameOk s ∧ i' = i + 1 ∧ op' = op := by
 unfold sWord at h
 split at h
 ·rename_i t ht
  split at h
  ·rename_i hk
   cases h
   have := hT t (List.mem_of_getElem? ht)
   refine ⟨?_, rfl, rfl⟩
   unfold NameOk
   unfold Again at this ⊢
   rw [hk] at this
   exact this
  ·cases h
 ·cases h
theorem wh_name {B : Type} {T : List Tok} (hT : ∀ t ∈ T, Again t) {i op : Nat} {k : List UInt8 → Nat → Nat → OR B} {Q : B → Nat → Nat → Prop} (hk : ∀ s, NameOk s → Wh Q (k s (i + 1) op)) : Wh Q (obind (some (sWord T 2 i op)) k) := wh_any fun v i1 op1 h => by
 injection h with h
 obtain ⟨h1, rfl, rfl⟩ := word_again hT h
 exact hk v h1
theorem numOf_lt (s : List UInt8) : numOf s < 4294967296 := by
 unfold numOf
 split
 ·rename_i u h
  exact pu32_lt h
 ·decide
theorem wh_number {B : Type} {T : List Tok} {i op : Nat} {k : Nat → Nat → Nat → OR B} {Q : B → Nat → Nat → Prop} (hk : ∀ n, n < 4294967296 → Wh Q (k n (i + 1) op)) : Wh Q (obind (some (sNumber T i op)) k) := wh_any fun v i1 op1 h => by
 injection h with h
 unfold sNumber Res.bind at h
 split at h
 ·rename_i h1
  cases h
  obtain ⟨rfl, rfl⟩ := nd_word (congrArg some h1)
  exact hk _ (numOf_lt _)
 ·cases h
theorem isTok_text {T : List Tok} {i : Nat} {xs : List (List UInt8)} (h : isTok T i xs = true) : textAt T i ∈ xs := by
 unfold isTok at h
 unfold textAt
 split at h
 ·rename_i t ht
  simp only [Bool.and_eq_true] at h
  simpa using h.2
 ·cases h
def SE (k i op : Nat) (e : Ex) (i' op' : Nat) : Prop := op' = op ∧ ∃ ts d, PE e k ts d ∧ ts.length + i ≤ i' ∧ d ≤ 100 - op
def SX (i op : Nat) (e : Ex) (i' op' : Nat) : Prop := op' = op ∧ ∃ ts d, PE e 0 ts d ∧ ts.length + 2 + i ≤ i' ∧ d + 1 ≤ 100 - op
def SA (i op : Nat) (l : List Ex) (i' op' : Nat) : Prop := op' = op ∧ ∃ ts d, PEs l ts d ∧ ts.length + 2 + i ≤ i' ∧ d + 1 ≤ 100 - op
def SL (i op : Nat) (l : List Ex) (i' op' : Nat) : Prop := op' = op ∧ ∃ ts d, PEs l ts d ∧ ts.length + i ≤ i' ∧ d ≤ 100 - op
theorem ex_src {T : List Tok} (hT : ∀ t ∈ T, Again t) : ∀ f : Nat, (∀ k i op, k ≤ 6 → Wh (SE k i op) (eLev T f k i op)) ∧ (∀ k e i0 i op ts d, k < 6 → PE e (leftLv k) ts d → ts.length + i0 ≤ i → d ≤ 100 - op → Wh (SE k i0 op) (eLoop T f k e i op)) ∧
  (∀ i op, Wh (SE 6 i op) (eUnary T f i op)) ∧ (∀ i op, Wh (SE 6 i op) (ePrim T f i op)) ∧ (∀ i op, Wh (SX i op) (eIndex T f i op)) ∧ (∀ i op, Wh (SA i op) (eArgs T f i op)) ∧
  (∀ acc i0 i op ts d, PEs acc ts d → ts.length + i0 ≤ i → d ≤ 100 - op → Wh (SL i0 op) (eArgsLoop T f acc i op))
 | 0 => ⟨fun _ _ _ _ => by rw [eLev]; exact wh_none, fun _ _ _ _ _ _ _ _ _ _ _ => by rw [eLoop]; exact wh_none, fun _ _ => by rw [eUnary]; exact wh_none, fun _ _ => by rw [ePrim]; exact wh_none, fun _ _ => by rw [eIndex]; exact wh_none, fun _ _ => by rw [eArgs]; exact wh_none, fun _ _ _ _ _ _ _ _ _ => by rw [eArgsLoop]; exact wh_none⟩
 | f + 1 => by
  obtain ⟨hL, hO, hU, hP, hI, hA, hB⟩ := ex_src hT f
  refine ⟨fun k i op hk => ?_, fun k e i0 i op ts d hk hP0 hts hd => ?_, fun i op => ?_, fun i op => ?_, fun i op => ?_, fun i op => ?_, fun acc i0 i op ts d hP0 hts hd => ?_⟩
  ·rw [eLev]
   split
   ·rename_i h6
    subst h6
    exact hU i op
   ·refine wh_bind (hL (k + 1) i op (by omega)) fun v i' op' h => ?_
    obtain ⟨rfl, ts, d, h1, h2, h3⟩ := h
    obtain ⟨ts', d', g1, g2, g3⟩ := h1.weak (k' := leftLv k) (by unfold leftLv; split <;> omega)
    exact hO k v i i' _ ts' d' (by omega) g1 (by omega) (by omega)
  ·rw [eLoop]
   split
   ·rename_i ht
    refine wh_bind (hL (k + 1) (i + 1) op (by omega)) fun v i' op' h => ?_
    obtain ⟨rfl, t2, d2, h1, h2, h3⟩ := h
    have hb : PE (.mk (textAt T i) 0 [] [e, v]) k (ts ++ (4, textAt T i) :: t2) (max d d2) := .bin hk (isTok_text ht) (Nat.le_refl _) hP0 h1
    split
    ·exact wh_ok ⟨rfl, _, _, hb, by simp only [List.length_append, List.length_cons]; omega, by omega⟩
    ·rename_i h22
     refine hO k _ i0 i' _ _ _ hk (by rw [leftLv, if_neg h22]; exact hb) (by simp only [List.length_append, List.length_cons]; omega) (by omega)
   ·obtain ⟨ts', d', g1, g2, g3⟩ := hP0.weak (k' := k) (by unfold leftLv; split <;> omega)
    exact wh_ok ⟨rfl, ts', d', g1, by omega, by omega⟩
  ·rw [eUnary]
   split
   ·refine wh_begin fun ho => wh_bind (hU (i + 1) (op + 1)) fun v i' op' h => ?_
    obtain ⟨rfl, ts, d, h1, h2, h3⟩ := h
    exact wh_ok ⟨by omega, _, _, .neg h1, by simp only [List.length_cons]; omega, by omega⟩
   ·split
    ·refine wh_begin fun ho => wh_bind (hU (i + 1) (op + 1)) fun v i' op' h => ?_
     obtain ⟨rfl, ts, d, h1, h2, h3⟩ := h
     exact wh_ok ⟨by omega, _, _, .not h1, by simp only [List.length_cons]; omega, by omega⟩
    ·exact hP i op
  ·rw [ePrim]
   split
   ·refine wh_begin fun ho => wh_bind (hL 0 (i + 1) (op + 1) (by omega)) fun v i' op' h => wh_end ?_
    obtain ⟨rfl, ts, d, h1, h2, h3⟩ := h
    obtain ⟨ts', d', g1, g2, g3⟩ := h1.paren
    exact wh_ok ⟨by omega, ts', d', g1, by omega, by omega⟩
   ·split
    ·exact wh_number fun n hn => wh_ok ⟨rfl, _, _, .num hn, by simp only [List.length_cons, List.length_nil]; omega, by omega⟩
    ·refine wh_name hT fun s hs => ?_
     split
     ·refine wh_bind (hI (i + 1) op) fun v i' op' h => ?_
      obtain ⟨rfl, ts, d, h1, h2, h3⟩ := h
      exact wh_ok ⟨rfl, _, _, .elem hs h1, by simp only [List.length_cons, List.length_append, List.length_nil]; omega, by omega⟩
     ·split
      ·refine wh_bind (hA (i + 1) op) fun v i' op' h => ?_
       obtain ⟨rfl, ts, d, h1, h2, h3⟩ := h
       exact wh_ok ⟨rfl, _, _, .call hs h1, by simp only [List.length_cons, List.length_append, List.length_nil]; omega, by omega⟩
      ·exact wh_ok ⟨rfl, _, _, .var hs, by simp only [List.length_cons, List.length_nil]; omega, by omega⟩
  ·rw [eIndex]
   refine wh_begin fun ho => wh_bind (hL 0 (i + 1) (op + 1) (by omega)) fun v i' op' h => wh_end ?_
   obtain ⟨rfl, ts, d, h1, h2, h3⟩ := h
   exact wh_ok ⟨by omega, ts, d, h1, by omega, by omega⟩
  ·rw [eArgs]
   refine wh_begin fun ho => wh_bind (hB [] (i + 1) (i + 1) (op + 1) [] 0 .nil (by simp) (by omega)) fun v i' op' h => wh_end ?_
   obtain ⟨rfl, ts, d, h1, h2, h3⟩ := h
   exact wh_ok ⟨by omega, ts, d, h1, by omega, by omega⟩
  ·rw [eArgsLoop]
   split
   ·exact wh_ok ⟨rfl, ts, d, hP0, by omega, by omega⟩
   ·refine wh_any fun _ i1 op1 h1 => ?_
    have hi : i1 = i + (if acc = [] then 0 else 1) ∧ op1 = op := by
     injection h1 with h1
     split at h1
     ·rename_i ha
      cases h1
      rw [if_pos ha]
      exact ⟨rfl, rfl⟩
     ·rename_i ha
      rw [if_neg ha]
      exact nd_need (congrArg some h1)
    obtain ⟨rfl, rfl⟩ := hi
    refine wh_bind (hL 0 _ op1 (by omega)) fun v i' op' h => ?_
    obtain ⟨rfl, t2, d2, h1, h2, h3⟩ := h
    obtain ⟨t, g1, g2⟩ := hP0.snoc h1
    exact hB _ i0 i' _ t _ g1 (by omega) (by omega)
/-! ### Statements -/
mutual
inductive PS : Sm → List KT → Nat → Prop
 | assign {s : List UInt8} {e : Ex} {ts : List KT} {d : Nat} (h : NameOk s) (he : PE e 0 ts d) : PS (.mk 1 s [] [e] [] []) ((2, s) :: sg 61 :: (ts ++ [sg 59])) d
 | store {s : List UInt8} {x e : Ex} {t1 t2 : List KT} {d1 d2 : Nat} (h : NameOk s) (hx : PE x 0 t1 d1) (he : PE e 0 t2 d2) : PS (.mk 2 s [x] [e] [] []) ((2, s) :: sg 91 :: (t1 ++ sg 93 :: sg 61 :: (t2 ++ [sg 59]))) (max (d1 + 1) d2)
 | call {s : List UInt8} {l : List Ex} {ts : List KT} {d : Nat} (h : NameOk s) (hl : PEs l ts d) : PS (.mk 6 [] [] [.mk nCall 0 s l] [] []) ((2, s) :: sg 40 :: (ts ++ [sg 41, sg 59])) (d + 1)
 | ret {e : Ex} {ts : List KT} {d : Nat} (he : PE e 0 ts d) : PS (.mk 5 [] [] [e] [] []) ((3, kwReturn) :: (ts ++ [sg 59])) d
 | halt : PS (.mk 7 [] [] [] [] []) [(3, kwHalt), sg 59] 0
 | ifElse {e : Ex} {th el : List Sm} {ts t1 t2 : List KT} {d d1 d2 : Nat} (he : PE e 0 ts d) (h1 : PSs th t1 d1) (h2 : PSs el t2 d2) (hne : el ≠ []) :
   PS (.mk 3 [] [] [e] th el) ((3, kwIf) :: (ts ++ sg 123 :: (t1 ++ sg 125 :: (3, kwElse) :: sg 123 :: (t2 ++ [sg 125])))) (max d (max (d1 + 1) (d2 + 1)))
 | ifThen {e : Ex} {th : List Sm} {ts t1 : List KT} {d d1 : Nat} (he : PE e 0 ts d) (h1 : PSs th t1 d1) : PS (.mk 3 [] [] [e] th []) ((3, kwIf) :: (ts ++ sg 123 :: (t1 ++ [sg 125]))) (max d (d1 + 1))
 | while {e : Ex} {th : List Sm} {ts t1 : List KT} {d d1 : Nat} (he : PE e 0 ts d) (h1 : PSs th t1 d1) : PS (.mk 4 [] [] [e] th []) ((3, kwWhile) :: (ts ++ sg 123 :: (t1 ++ [sg 125]))) (max d (d1 + 1))
inductive PSs : List Sm → List KT → Nat → Prop
 | nil : PSs [] [] 0
 | cons {s : Sm} {l : List Sm} {t1 t2 : List KT} {d1 d2 : Nat} (h : PS s t1 d1) (hl : PSs l t2 d2) : PSs (s :: l) (t1 ++ t2) (max d1 d2)
end
theorem PSs.snoc : ∀ {l : List Sm} {a : Sm} {t0 t1 : List KT} {d0 d1 : Nat}, PSs l t0 d0 → PS a t1 d1 → PSs (l ++ [a]) (t0 ++ t1) (max d0 d1) := by
 intro l
 induction l with
 | nil =>
  intro a t0 t1 d0 d1 h h1
  cases h with
  | nil =>
   have := PSs.cons h1 .nil
   rw [List.append_nil, Nat.max_zero] at this
   rw [Nat.zero_max]
   exact this
 | cons b l ih =>
  intro a t0 t1 d0 d1 h h1
  cases h with
  | cons hb hl =>
   rw [List.append_assoc, Nat.max_assoc]
   exact .cons hb (ih hl h1)
def SS (i op : Nat) (s : Sm) (i' op' : Nat) : Prop := op' = op ∧ ∃ ts d, PS s ts d ∧ ts.length + i ≤ i' ∧ d ≤ 100 - op
/-- A simple statement stands ahead of its semicolon. -/
def SM (i op : Nat) (s : Sm) (i' op' : Nat) : Prop := op' = op ∧ ∃ ts d, PS s ts d ∧ ts.length + i ≤ i' + 1 ∧ d ≤ 100 - op
def SSs (i op : Nat) (s : List Sm) (i' op' : Nat) : Prop := op' = op ∧ ∃ ts d, PSs s ts d ∧ ts.length + i ≤ i' ∧ d ≤ 100 - op
def SB (i op : Nat) (s : List Sm) (i' op' : Nat) : Prop := op' = op ∧ ∃ ts d, PSs s ts d ∧ ts.length + 2 + i ≤ i' ∧ d + 1 ≤ 100 - op
theorem st_src {T : List Tok} (hT : ∀ t ∈ T, Again t) : ∀ f : Nat, (∀ i op, Wh (SB i op) (sBlock T f i op)) ∧ (∀ acc i0 i op ts d, PSs acc ts d → ts.length + i0 ≤ i → d ≤ 100 - op → Wh (SSs i0 op) (sStmts T f acc i op)) ∧
  (∀ i op, Wh (SS i op) (sStmt T f i op)) ∧ (∀ i op, Wh (SM i op) (sSimple T f i op))
 | 0 => ⟨fun _ _ => by rw [sBlock]; exact wh_none, fun _ _ _ _ _ _ _ _ _ => by rw [sStmts]; exact wh_none, fun _ _ => by rw [sStmt]; exact wh_none, fun _ _ => by rw [sSimple]; exact wh_none⟩
 | f + 1 => by
  obtain ⟨hB, hL, hS, hM⟩ := st_src hT f
  obtain ⟨eL, _, _, _, eI, eA, _⟩ := ex_src hT f
  refine ⟨fun i op => ?_, fun acc i0 i op ts d hP0 hts hd => ?_, fun i op => ?_, fun i op => ?_⟩
  ·rw [sBlock]
   refine wh_begin fun ho => wh_bind (hL [] (i + 1) (i + 1) (op + 1) [] 0 .nil (by simp) (by omega)) fun v i' op' h => wh_end ?_
   obtain ⟨rfl, ts, d, h1, h2, h3⟩ := h
   exact wh_ok ⟨by omega, ts, d, h1, by omega, by omega⟩
  ·rw [sStmts]
   split
   ·exact wh_ok ⟨rfl, ts, d, hP0, hts, hd⟩
   ·refine wh_bind (hS i op) fun v i' op' h => ?_
    obtain ⟨rfl, t2, d2, h1, h2, h3⟩ := h
    exact hL _ i0 i' _ _ _ (hP0.snoc h1) (by simp only [List.length_append]; omega) (by omega)
  ·rw [sStmt]
   split
   ·refine wh_bind (eL 0 (i + 1) op (by omega)) fun v i1 op1 h => ?_
    obtain ⟨rfl, t1, d1, g1, g2, g3⟩ := h
    refine wh_bind (hB i1 _) fun th i2 op2 h => ?_
    obtain ⟨rfl, t2, d2, k1, k2, k3⟩ := h
    split
    ·refine wh_bind (hB (i2 + 1) _) fun el i3 op3 h => ?_
     obtain ⟨rfl, t3, d3, l1, l2, l3⟩ := h
     by_cases hne : el = []
     ·subst hne
      exact wh_ok ⟨rfl, _, _, .ifThen g1 k1, by simp only [List.length_cons, List.length_append, List.length_nil]; omega, by omega⟩
     ·exact wh_ok ⟨rfl, _, _, .ifElse g1 k1 l1 hne, by simp only [List.length_cons, List.length_append, List.length_nil]; omega, by omega⟩
    ·exact wh_ok ⟨rfl, _, _, .ifThen g1 k1, by simp only [List.length_cons, List.length_append, List.length_nil]; omega, by omega⟩
   ·split
    ·refine wh_bind (eL 0 (i + 1) op (by omega)) fun v i1 op1 h => ?_
     obtain ⟨rfl, t1, d1, g1, g2, g3⟩ := h
     refine wh_bind (hB i1 _) fun th i2 op2 h => ?_
     obtain ⟨rfl, t2, d2, k1, k2, k3⟩ := h
     exact wh_ok ⟨rfl, _, _, .while g1 k1, by simp only [List.length_cons, List.length_append, List.length_nil]; omega, by omega⟩
    ·refine wh_bind (hM i op) fun v i1 op1 h => wh_need ?_
     obtain ⟨rfl, t1, d1, g1, g2, g3⟩ := h
     exact wh_ok ⟨rfl, _, _, g1, by omega, by omega⟩
  ·rw [sSimple]
   split
   ·refine wh_bind (eL 0 (i + 1) op (by omega)) fun v i1 op1 h => ?_
    obtain ⟨rfl, t1, d1, g1, g2, g3⟩ := h
    exact wh_ok ⟨rfl, _, _, .ret g1, by simp only [List.length_cons, List.length_append, List.length_nil]; omega, by omega⟩
   ·split
    ·exact wh_ok ⟨rfl, _, _, .halt, by simp only [List.length_cons, List.length_append, List.length_nil]; omega, by omega⟩
    ·refine wh_name hT fun s hs => ?_
     split
     ·refine wh_bind (eA (i + 1) op) fun v i1 op1 h => ?_
      obtain ⟨rfl, t1, d1, g1, g2, g3⟩ := h
      exact wh_ok ⟨rfl, _, _, .call hs g1, by simp only [List.length_cons, List.length_append, List.length_nil]; omega, by omega⟩
     ·split
      ·refine wh_bind (eI (i + 1) op) fun v i1 op1 h => wh_need ?_
       obtain ⟨rfl, t1, d1, g1, g2, g3⟩ := h
       refine wh_bind (eL 0 (i1 + 1) _ (by omega)) fun e i2 op2 h => ?_
       obtain ⟨rfl, t2, d2, k1, k2, k3⟩ := h
       exact wh_ok ⟨rfl, _, _, .store hs g1 k1, by simp only [List.length_cons, List.length_append, List.length_nil]; omega, by omega⟩
      ·refine wh_need (wh_bind (eL 0 (i + 1 + 1) op (by omega)) fun e i2 op2 h => ?_)
       obtain ⟨rfl, t2, d2, k1, k2, k3⟩ := h
       exact wh_ok ⟨rfl, _, _, .assign hs k1, by simp only [List.length_cons, List.length_append, List.length_nil]; omega, by omega⟩
/-! ### Declarations -/
/-- Names with commas between them. -/
def commas : List (List UInt8) → List KT
 | [] => []
 | [a] => [(2, a)]
 | a :: b :: l => (2, a) :: sg 44 :: commas (b :: l)
theorem commas_len : ∀ l : List (List UInt8), (commas l).length = 2 * l.length - 1
 | [] => rfl
 | [a] => rfl
 | a :: b :: l => by
  rw [commas, List.length_cons, List.length_cons, commas_len (b :: l)]
  simp only [List.length_cons]
  omega
/-- A row of variables declared, if there are any. -/
def varK (l : List (List UInt8)) : List KT := if l = [] then [] else (3, kwVar) :: (commas l ++ [sg 59])
theorem varK_len (l : List (List UInt8)) : (varK l).length = if l = [] then 0 else 2 * l.length + 1 := by
 unfold varK
 split
 ·rfl
 ·rename_i h
  have : 0 < l.length := List.length_pos_iff.2 h
  simp only [List.length_cons, List.length_append, commas_len, List.length_nil]
  omega
def AllOk (l : List (List UInt8)) : Prop := ∀ x ∈ l, NameOk x
theorem AllOk.app {a b : List (List UInt8)} (ha : AllOk a) (hb : AllOk b) : AllOk (a ++ b) := fun x hx => by
 rcases List.mem_append.1 hx with h | h
 ·exact ha x h
 ·exact hb x h
inductive PF : FnD → List KT → Nat → Prop
 | mk {nm : List UInt8} {ps ls : List (List UInt8)} {b : List Sm} {ts : List KT} {d : Nat} (h : NameOk nm) (hp : AllOk ps) (hl : AllOk ls) (hb : PSs b ts d) :
   PF ⟨nm, ps, ls, b⟩ ((3, kwFunc) :: (2, nm) :: sg 40 :: (commas ps ++ sg 41 :: sg 123 :: (varK ls ++ (ts ++ [sg 125])))) (d + 1)
inductive PFs : List FnD → List KT → Prop
 | nil : PFs [] []
 | cons {f : FnD} {l : List FnD} {t1 t2 : List KT} {d : Nat} (h : PF f t1 d) (hd : d ≤ 100) (hl : PFs l t2) : PFs (f :: l) (t1 ++ t2)
def arK (a : Ar) : List KT := [(3, kwArray), (2, a.name), sg 91, (1, Go.Lib.decDigits a.size), sg 93, sg 59]
def ArsOk (l : List Ar) : Prop := ∀ a ∈ l, NameOk a.name ∧ a.size < 4294967296
/-- A program, printed. -/
inductive PP : Pr → List KT → Prop
 | mk {v : List (List UInt8)} {a : List Ar} {f : List FnD} {ts : List KT} (hv : AllOk v) (ha : ArsOk a) (hf : PFs f ts) : PP ⟨v, a, f⟩ (varK v ++ ((a.map arK).flatten ++ ts))
theorem PFs.snoc : ∀ {l : List FnD} {a : FnD} {t0 t1 : List KT} {d : Nat}, PFs l t0 → PF a t1 d → d ≤ 100 → PFs (l ++ [a]) (t0 ++ t1) := by
 intro l
 induction l with
 | nil =>
  intro a t0 t1 d h h1 hd
  cases h with
  | nil =>
   have := PFs.cons h1 hd .nil
   rw [List.append_nil] at this
   exact this
 | cons b l ih =>
  intro a t0 t1 d h h1 hd
  cases h with
  | cons hb hd' hl =>
   rw [List.append_assoc]
   exact .cons hb hd' (ih hl h1 hd)
theorem namesLoop_src {T : List Tok} (hT : ∀ t ∈ T, Again t) : ∀ (f : Nat) (acc : List (List UInt8)) (i op : Nat), AllOk acc → Wh (fun l i' op' => op' = op ∧ AllOk l ∧ acc.length ≤ l.length ∧ 2 * l.length + i ≤ 2 * acc.length + i') (sNamesLoop T f acc i op)
 | 0, _, _, _, _ => by rw [sNamesLoop]; exact wh_none
 | f + 1, acc, i, op, ha => by
  rw [sNamesLoop]
  split
  ·refine wh_name hT fun s hs => wh_mono (namesLoop_src hT f (acc ++ [s]) (i + 1 + 1) op (ha.app fun x hx => by cases List.mem_singleton.1 hx; exact hs)) fun l i' op' h => ?_
   obtain ⟨rfl, h1, h2, h3⟩ := h
   rw [List.length_append, List.length_singleton] at h2 h3
   exact ⟨rfl, h1, by omega, by omega⟩
  ·exact wh_ok ⟨rfl, ha, Nat.le_refl _, by omega⟩
theorem names_src {T : List Tok} (hT : ∀ t ∈ T, Again t) (f i op : Nat) : Wh (fun l i' op' => op' = op ∧ AllOk l ∧ 0 < l.length ∧ 2 * l.length + i ≤ 1 + i') (sNames T f i op) :=
 wh_name hT fun s hs => wh_mono (namesLoop_src hT f [s] (i + 1) op fun x hx => by cases List.mem_singleton.1 hx; exact hs) fun l i' op' h => by
  obtain ⟨rfl, h1, h2, h3⟩ := h
  rw [List.length_singleton] at h2 h3
  exact ⟨rfl, h1, by omega, by omega⟩
theorem vars_src {T : List Tok} (hT : ∀ t ∈ T, Again t) : ∀ (f : Nat) (acc : List (List UInt8)) (i op : Nat), AllOk acc → Wh (fun l i' op' => op' = op ∧ AllOk l ∧ acc.length ≤ l.length ∧ (if acc.length = l.length then i ≤ i' else 2 * l.length + 1 + i ≤ 2 * acc.length + i')) (sVars T f acc i op)
 | 0, _, _, _, _ => by rw [sVars]; exact wh_none
 | f + 1, acc, i, op, ha => by
  rw [sVars]
  split
  ·refine wh_bind (names_src hT f (i + 1) op) fun l i1 op1 h => wh_need ?_
   obtain ⟨rfl, h1, h2, h3⟩ := h
   refine wh_mono (vars_src hT f (acc ++ l) (i1 + 1) _ (ha.app h1)) fun l2 i' op' h => ?_
   obtain ⟨rfl, g1, g2, g3⟩ := h
   rw [List.length_append] at g2 g3
   refine ⟨rfl, g1, by omega, ?_⟩
   rw [if_neg (by omega)]
   split at g3 <;> omega
  ·exact wh_ok ⟨rfl, ha, Nat.le_refl _, by rw [if_pos rfl]; omega⟩
theorem func_src {T : List Tok} (hT : ∀ t ∈ T, Again t) (f i : Nat) : Wh (fun a i' op' => op' = 0 ∧ ∃ ts d, PF a ts d ∧ d ≤ 100 ∧ ts.length + i ≤ i' + 1) (sFunc T f i 0) := by
 unfold sFunc
 refine wh_name hT fun nm hnm => wh_begin fun _ => wh_bind (P := fun ps i' op' => op' = 1 ∧ AllOk ps ∧ 2 * ps.length - 1 + (i + 1 + 1) ≤ i') ?_ fun ps i1 op1 h => wh_end (wh_begin fun _ => ?_)
 ·split
  ·exact wh_ok ⟨rfl, (fun x hx => by cases hx), by simp⟩
  ·exact wh_mono (names_src hT f _ _) fun l i' op' h => ⟨h.1, h.2.1, by omega⟩
 obtain ⟨rfl, h1, h2⟩ := h
 refine wh_bind (vars_src hT f [] _ _ fun x hx => by cases hx) fun ls i2 op2 h => ?_
 obtain ⟨rfl, g1, _, g3⟩ := h
 refine wh_bind ((st_src hT f).2.1 [] i2 i2 _ [] 0 .nil (by simp) (by omega)) fun b i3 op3 h => wh_end ?_
 obtain ⟨rfl, ts, d, k1, k2, k3⟩ := h
 refine wh_ok ⟨by omega, _, _, .mk hnm h1 g1 k1, by omega, ?_⟩
 simp only [List.length_cons, List.length_append, List.length_nil, commas_len, varK_len] at g3 ⊢
 by_cases hl : ls = []
 ·subst hl
  simp only [List.length_nil, if_pos] at g3 ⊢
  omega
 ·have : ¬ 0 = ls.length := fun h => hl (List.eq_nil_of_length_eq_zero h.symm)
  rw [if_neg this] at g3
  rw [if_neg hl]
  omega
theorem array_src {T : List Tok} (hT : ∀ t ∈ T, Again t) (i : Nat) : Wh (fun a i' op' => op' = 0 ∧ NameOk a.name ∧ a.size < 4294967296 ∧ 5 + i ≤ i') (sArray T i 0) := by
 unfold sArray
 exact wh_name hT fun nm hnm => wh_begin fun _ => wh_number fun n hn => wh_end (wh_need (wh_ok ⟨rfl, hnm, hn, by omega⟩))
/-- How many tokens a program takes at least. -/
def ntK (v : Nat) (a : Nat) (t : Nat) : Nat := (if v = 0 then 0 else 2 * v + 1) + 6 * a + t
theorem prog_src {T : List Tok} (hT : ∀ t ∈ T, Again t) : ∀ (f : Nat) (v : List (List UInt8)) (a : List Ar) (fs : List FnD) (ts : List KT) (i : Nat), AllOk v → ArsOk a → PFs fs ts → ntK v.length a.length ts.length ≤ i → i ≤ T.length →
  Wh (fun q _ _ => ∃ v' a' f' t', q = ⟨v', a', f'⟩ ∧ AllOk v' ∧ ArsOk a' ∧ PFs f' t' ∧ ntK v'.length a'.length t'.length ≤ T.length) (sProg T f ⟨v, a, fs⟩ i 0)
 | 0, _, _, _, _, _, _, _, _, _, _ => by rw [sProg]; exact wh_none
 | f + 1, v, a, fs, ts, i, hv, ha, hf, hi, hT' => by
  rw [sProg]
  split
  ·exact wh_ok ⟨_, _, _, _, rfl, hv, ha, hf, by omega⟩
  rename_i hlt
  split
  ·rename_i hw
   refine wh_any fun l i1 op1 h1 => ?_
   have hg := (sVars_good T f [] i 0 _ h1).2.2.1 hT'
   obtain ⟨rfl, g1, _, g3⟩ := vars_src hT f [] i 0 (fun x hx => by cases hx) _ _ _ h1
   refine prog_src hT f (v ++ l) a fs ts i1 (hv.app g1) ha hf ?_ hg
   rw [List.length_append]
   simp only [List.length_nil] at g3
   unfold ntK at hi ⊢
   split at g3
   ·rename_i h0
    rw [← h0, Nat.add_zero]
    omega
   ·rw [if_neg (by omega)]
    split at hi <;> omega
  ·split
   ·refine wh_any fun l i1 op1 h1 => ?_
    have hg := (sArray_good T (i + 1) 0 _ h1).2.2.1 (by omega)
    obtain ⟨rfl, g1, g2, g3⟩ := array_src hT (i + 1) _ _ _ h1
    refine prog_src hT f v (a ++ [l]) fs ts i1 hv (fun x hx => ?_) hf ?_ hg
    ·rcases List.mem_append.1 hx with h | h
     ·exact ha x h
     ·cases List.mem_singleton.1 h; exact ⟨g1, g2⟩
    ·rw [List.length_append, List.length_singleton]
     unfold ntK at hi ⊢
     omega
   ·split
    ·refine wh_any fun l i1 op1 h1 => ?_
     have hg := (sFunc_good T f (i + 1) 0 _ h1).2.2.1 (by omega)
     obtain ⟨rfl, t1, d, g1, g2, g3⟩ := func_src hT f (i + 1) _ _ _ h1
     refine prog_src hT f v a (fs ++ [l]) (ts ++ t1) i1 hv ha (hf.snoc g1 g2) ?_ hg
     rw [List.length_append]
     unfold ntK at hi ⊢
     omega
    ·exact fun _ _ _ e => by cases e
theorem arK_len : ∀ a : List Ar, ((a.map arK).flatten).length = 6 * a.length
 | [] => rfl
 | a :: l => by
  rw [List.map_cons, List.flatten_cons, List.length_append, arK_len l, List.length_cons]
  simp only [arK, List.length_cons, List.length_nil]
  omega
/-- What is parsed can be printed with no more tokens. -/
theorem src_print {T : List Tok} (hT : ∀ t ∈ T, Again t) {f i op : Nat} {p : Pr} (h : sProg T f ⟨[], [], []⟩ 0 0 = some (.ok p i op)) : ∃ ts, PP p ts ∧ ts.length ≤ T.length := by
 obtain ⟨v, a, fs, t, rfl, h1, h2, h3, h4⟩ := prog_src hT f [] [] [] [] 0 (fun x hx => by cases hx) (fun x hx => by cases hx) .nil (by simp [ntK]) (Nat.zero_le _) _ _ _ h
 refine ⟨_, .mk h1 h2 h3, ?_⟩
 simp only [List.length_append, varK_len, arK_len]
 unfold ntK at h4
 by_cases hv : v = []
 ·subst hv
  simp only [List.length_nil, if_pos] at h4 ⊢
  omega
 ·have : ¬ v.length = 0 := fun h => hv (List.eq_nil_of_length_eq_zero h)
  rw [if_neg this] at h4
  rw [if_neg hv]
  omega
end Go.Stele
namespace Go.Stele
/-- Nothing changes but that more is told. -/
def LeO {A : Type} (r r' : OR A) : Prop := ∀ q, r = some q → r' = some q
theorem LeO.rfl' {A : Type} {r : OR A} : LeO r r := fun _ h => h
theorem LeO.none {A : Type} {r : OR A} : LeO none r := fun _ h => by cases h
theorem LeO.bind {A B : Type} {r r' : OR A} {f f' : A → Nat → Nat → OR B} (h : LeO r r') (hf : ∀ v i op, LeO (f v i op) (f' v i op)) : LeO (obind r f) (obind r' f') := fun q hq => by
 rcases obind_some hq with ⟨v, i, op, h1, h2⟩ | ⟨l, e, h1, rfl⟩
 ·rw [h _ h1]
  exact hf _ _ _ _ h2
 ·rw [h _ h1]
  rfl
theorem LeO.ite {A : Type} {c : Prop} [Decidable c] {a b a' b' : OR A} (h1 : LeO a a') (h2 : LeO b b') : LeO (if c then a else b) (if c then a' else b') := by
 split
 ·exact h1
 ·exact h2
theorem namesLoop_le (T : List Tok) : ∀ (f g : Nat) (acc : List (List UInt8)) (i op : Nat), f ≤ g → LeO (sNamesLoop T f acc i op) (sNamesLoop T g acc i op)
 | 0, _, _, _, _, _ => LeO.none
 | f + 1, 0, _, _, _, h => by omega
 | f + 1, g + 1, acc, i, op, h => by
  rw [sNamesLoop, sNamesLoop]
  exact LeO.ite (LeO.bind LeO.rfl' fun v i op => namesLoop_le T f g _ i op (by omega)) LeO.rfl'
theorem names_le (T : List Tok) (f g i op : Nat) (h : f ≤ g) : LeO (sNames T f i op) (sNames T g i op) := LeO.bind LeO.rfl' fun v i op => namesLoop_le T f g _ i op h
theorem ex_le (T : List Tok) : ∀ f g : Nat, f ≤ g → (∀ k i op, LeO (eLev T f k i op) (eLev T g k i op)) ∧ (∀ k e i op, LeO (eLoop T f k e i op) (eLoop T g k e i op)) ∧ (∀ i op, LeO (eUnary T f i op) (eUnary T g i op)) ∧
  (∀ i op, LeO (ePrim T f i op) (ePrim T g i op)) ∧ (∀ i op, LeO (eIndex T f i op) (eIndex T g i op)) ∧ (∀ i op, LeO (eArgs T f i op) (eArgs T g i op)) ∧ (∀ acc i op, LeO (eArgsLoop T f acc i op) (eArgsLoop T g acc i op))
 | 0, g, _ => ⟨fun _ _ _ => by rw [eLev]; exact LeO.none, fun _ _ _ _ => by rw [eLoop]; exact LeO.none, fun _ _ => by rw [eUnary]; exact LeO.none, fun _ _ => by rw [ePrim]; exact LeO.none, fun _ _ => by rw [eIndex]; exact LeO.none, fun _ _ => by rw [eArgs]; exact LeO.none, fun _ _ _ => by rw [eArgsLoop]; exact LeO.none⟩
 | f + 1, 0, h => by omega
 | f + 1, g + 1, h => by
  obtain ⟨hL, hO, hU, hP, hI, hA, hB⟩ := ex_le T f g (by omega)
  refine ⟨fun k i op => ?_, fun k e i op => ?_, fun i op => ?_, fun i op => ?_, fun i op => ?_, fun i op => ?_, fun acc i op => ?_⟩
  ·rw [eLev, eLev]
   exact LeO.ite (hU _ _) (LeO.bind (hL _ _ _) fun _ _ _ => hO _ _ _ _)
  ·rw [eLoop, eLoop]
   exact LeO.ite (LeO.bind (hL _ _ _) fun _ _ _ => LeO.ite LeO.rfl' (hO _ _ _ _)) LeO.rfl'
  ·rw [eUnary, eUnary]
   exact LeO.ite (LeO.bind LeO.rfl' fun _ _ _ => LeO.bind (hU _ _) fun _ _ _ => LeO.rfl') (LeO.ite (LeO.bind LeO.rfl' fun _ _ _ => LeO.bind (hU _ _) fun _ _ _ => LeO.rfl') (hP _ _))
  ·rw [ePrim, ePrim]
   exact LeO.ite (LeO.bind LeO.rfl' fun _ _ _ => LeO.bind (hL _ _ _) fun _ _ _ => LeO.rfl') (LeO.ite LeO.rfl' (LeO.bind LeO.rfl' fun _ _ _ => LeO.ite (LeO.bind (hI _ _) fun _ _ _ => LeO.rfl') (LeO.ite (LeO.bind (hA _ _) fun _ _ _ => LeO.rfl') LeO.rfl')))
  ·rw [eIndex, eIndex]
   exact LeO.bind LeO.rfl' fun _ _ _ => LeO.bind (hL _ _ _) fun _ _ _ => LeO.rfl'
  ·rw [eArgs, eArgs]
   exact LeO.bind LeO.rfl' fun _ _ _ => LeO.bind (hB _ _ _) fun _ _ _ => LeO.rfl'
  ·rw [eArgsLoop, eArgsLoop]
   exact LeO.ite LeO.rfl' (LeO.bind LeO.rfl' fun _ _ _ => LeO.bind (hL _ _ _) fun _ _ _ => hB _ _ _)
theorem st_le (T : List Tok) : ∀ f g : Nat, f ≤ g → (∀ i op, LeO (sBlock T f i op) (sBlock T g i op)) ∧ (∀ acc i op, LeO (sStmts T f acc i op) (sStmts T g acc i op)) ∧ (∀ i op, LeO (sStmt T f i op) (sStmt T g i op)) ∧ (∀ i op, LeO (sSimple T f i op) (sSimple T g i op))
 | 0, g, _ => ⟨fun _ _ => by rw [sBlock]; exact LeO.none, fun _ _ _ => by rw [sStmts]; exact LeO.none, fun _ _ => by rw [sStmt]; exact LeO.none, fun _ _ => by rw [sSimple]; exact LeO.none⟩
 | f + 1, 0, h => by omega
 | f + 1, g + 1, h => by
  obtain ⟨hB, hS, hT, hM⟩ := st_le T f g (by omega)
  obtain ⟨hL, _, _, _, hI, hA, _⟩ := ex_le T f g (by omega)
  refine ⟨fun i op => ?_, fun acc i op => ?_, fun i op => ?_, fun i op => ?_⟩
  ·rw [sBlock, sBlock]
   exact LeO.bind LeO.rfl' fun _ _ _ => LeO.bind (hS _ _ _) fun _ _ _ => LeO.rfl'
  ·rw [sStmts, sStmts]
   exact LeO.ite LeO.rfl' (LeO.bind (hT _ _) fun _ _ _ => hS _ _ _)
  ·rw [sStmt, sStmt]
   exact LeO.ite (LeO.bind (hL _ _ _) fun _ _ _ => LeO.bind (hB _ _) fun _ _ _ => LeO.ite (LeO.bind (hB _ _) fun _ _ _ => LeO.rfl') LeO.rfl') (LeO.ite (LeO.bind (hL _ _ _) fun _ _ _ => LeO.bind (hB _ _) fun _ _ _ => LeO.rfl') (LeO.bind (hM _ _) fun _ _ _ => LeO.rfl'))
  ·rw [sSimple, sSimple]
   exact LeO.ite (LeO.bind (hL _ _ _) fun _ _ _ => LeO.rfl') (LeO.ite LeO.rfl' (LeO.bind LeO.rfl' fun _ _ _ => LeO.ite (LeO.bind (hA _ _) fun _ _ _ => LeO.rfl') (LeO.ite (LeO.bind (hI _ _) fun _ _ _ => LeO.bind LeO.rfl' fun _ _ _ => LeO.bind (hL _ _ _) fun _ _ _ => LeO.rfl') (LeO.bind LeO.rfl' fun _ _ _ => LeO.bind (hL _ _ _) fun _ _ _ => LeO.rfl'))))
theorem vars_le (T : List Tok) : ∀ (f g : Nat) (acc : List (List UInt8)) (i op : Nat), f ≤ g → LeO (sVars T f acc i op) (sVars T g acc i op)
 | 0, _, _, _, _, _ => LeO.none
 | f + 1, 0, _, _, _, h => by omega
 | f + 1, g + 1, acc, i, op, h => by
  rw [sVars, sVars]
  exact LeO.ite (LeO.bind (names_le T f g _ _ (by omega)) fun _ _ _ => LeO.bind LeO.rfl' fun _ _ _ => vars_le T f g _ _ _ (by omega)) LeO.rfl'
theorem func_le (T : List Tok) (f g i op : Nat) (h : f ≤ g) : LeO (sFunc T f i op) (sFunc T g i op) := by
 unfold sFunc
 exact LeO.bind LeO.rfl' fun _ _ _ => LeO.bind LeO.rfl' fun _ _ _ => LeO.bind (LeO.ite LeO.rfl' (names_le T f g _ _ h)) fun _ _ _ => LeO.bind LeO.rfl' fun _ _ _ => LeO.bind LeO.rfl' fun _ _ _ =>
  LeO.bind (vars_le T f g _ _ _ h) fun _ _ _ => LeO.bind ((st_le T f g h).2.1 _ _ _) fun _ _ _ => LeO.rfl'
theorem prog_le (T : List Tok) : ∀ (f g : Nat) (p : Pr) (i op : Nat), f ≤ g → LeO (sProg T f p i op) (sProg T g p i op)
 | 0, _, _, _, _, _ => LeO.none
 | f + 1, 0, _, _, _, h => by omega
 | f + 1, g + 1, p, i, op, h => by
  rw [sProg, sProg]
  exact LeO.ite LeO.rfl' (LeO.ite (LeO.bind (vars_le T f g _ _ _ (by omega)) fun _ _ _ => prog_le T f g _ _ _ (by omega)) (LeO.ite (LeO.bind LeO.rfl' fun _ _ _ => prog_le T f g _ _ _ (by omega))
   (LeO.ite (LeO.bind (func_le T f g _ _ (by omega)) fun _ _ _ => prog_le T f g _ _ _ (by omega)) LeO.rfl')))
section
variable {T T' : List Tok} {d m : Nat}
end
end Go.Stele
set_option maxRecDepth 100000
namespace Go.Stele
open Go.Lib
namespace Src
def loopS : List UInt8 := [118, 97, 114, 32, 120, 59, 32, 102, 117, 110, 99, 32, 109, 97, 105, 110, 40, 41, 32, 123, 32, 120, 32, 61, 32, 105, 110, 40, 41, 59, 32, 119, 104, 105, 108, 101, 32, 120, 32, 33, 61, 32, 52, 50, 57, 52, 57, 54, 55, 50, 57, 53, 32, 123, 32, 111, 117, 116, 40, 120, 41, 59, 32, 120, 32, 61, 32, 105, 110, 40, 41, 59, 32, 125, 32, 125]
def loopT : List Tok := [⟨3, [118, 97, 114], 1⟩, ⟨2, [120], 1⟩, ⟨4, [59], 1⟩, ⟨3, [102, 117, 110, 99], 1⟩, ⟨2, [109, 97, 105, 110], 1⟩, ⟨4, [40], 1⟩, ⟨4, [41], 1⟩, ⟨4, [123], 1⟩, ⟨2, [120], 1⟩, ⟨4, [61], 1⟩, ⟨2, [105, 110], 1⟩, ⟨4, [40], 1⟩, ⟨4, [41], 1⟩, ⟨4, [59], 1⟩, ⟨3, [119, 104, 105, 108, 101], 1⟩, ⟨2, [120], 1⟩, ⟨4, [33, 61], 1⟩, ⟨1, [52, 50, 57, 52, 57, 54, 55, 50, 57, 53], 1⟩, ⟨4, [123], 1⟩, ⟨2, [111, 117, 116], 1⟩, ⟨4, [40], 1⟩, ⟨2, [120], 1⟩, ⟨4, [41], 1⟩, ⟨4, [59], 1⟩, ⟨2, [120], 1⟩, ⟨4, [61], 1⟩, ⟨2, [105, 110], 1⟩, ⟨4, [40], 1⟩, ⟨4, [41], 1⟩, ⟨4, [59], 1⟩, ⟨4, [125], 1⟩, ⟨4, [125], 1⟩]
/-! ### The source of InterpreterArithmetic -/
/-! ### The source of InterpreterStatic -/
/-! ### The source of InterpreterLoop -/
theorem loop_lex : lexAt loopS 1 = .ok loopT := by kernel_rfl
theorem loop_parse : sProg loopT 300 ⟨[], [], []⟩ 0 0 = some (.ok loopP 32 0) := by kernel_rfl
end Src
end Go.Stele
namespace Go.Stele
open Go.Lib
/-- A source parsed: the program, and the error. -/
def parseQ (s : List UInt8) : Pr × Int := match lexAt s 1 with
 | .error (l, e) => (⟨[], [], []⟩, e)
 | .ok T => match sProg T (10 * T.length + 20) ⟨[], [], []⟩ 0 0 with
  | some (.ok p _ _) => (p, 0)
  | some (.err l e) => (⟨[], [], []⟩, e)
  | none => (⟨[], [], []⟩, 0)
/-- A valid program's run with any limit. -/
def limitI (p : Pr) (inp : List Nat) (steps : Int) : OutI := if 100000000 < steps then ⟨[], 6, 0⟩ else if steps ≤ 0 then ⟨[], 13, 0⟩ else runI p inp steps.toNat
/-- What Source returns. -/
def sourceI (s : List UInt8) (inp : List Nat) (steps : Int) : OutI :=
 if (parseQ s).2 ≠ 0 then ⟨[], (parseQ s).2, 0⟩ else if checkPr (parseQ s).1 ≠ 0 then ⟨[], checkPr (parseQ s).1, 0⟩ else limitI (parseQ s).1 inp steps
theorem source_ok {s : List UInt8} {p : Pr} (h : parseQ s = (p, 0)) (hc : checkPr p = 0) (inp : List Nat) (steps : Int) : sourceI s inp steps = limitI p inp steps := by
 unfold sourceI
 rw [h, if_neg (by simp), hc, if_neg (by simp)]
theorem parseQ_of {s : List UInt8} {T : List Tok} {p : Pr} {i op : Nat} (hT : lexAt s 1 = .ok T) (hs : sProg T (10 * T.length + 20) ⟨[], [], []⟩ 0 0 = some (.ok p i op)) : parseQ s = (p, 0) := by
 unfold parseQ
 rw [hT]
 simp only
 rw [hs]
/-! ### Limits -/
theorem limit_law (s : List UInt8) (inp : List Nat) (a k : Nat) (ha : 0 < a) (hk : a + k ≤ 100000000) :
  (sourceI s inp a).out <+: (sourceI s inp ((a + k : Nat) : Int)).out ∧ (sourceI s inp a).steps ≤ a ∧ (sourceI s inp ((a + k : Nat) : Int)).steps ≤ a + k ∧
  ((sourceI s inp a).err ≠ 13 → sourceI s inp a = sourceI s inp ((a + k : Nat) : Int)) ∧ ((sourceI s inp a).err = 13 → ((sourceI s inp a).steps = a ∧ a ≤ (sourceI s inp ((a + k : Nat) : Int)).steps) ∨ (parseQ s).2 = 13 ∨ checkPr (parseQ s).1 = 13) := by
 unfold sourceI
 split
 ·exact ⟨List.prefix_refl _, Nat.zero_le _, Nat.zero_le _, fun _ => rfl, fun h => .inr (.inl h)⟩
 split
 ·exact ⟨List.prefix_refl _, Nat.zero_le _, Nat.zero_le _, fun _ => rfl, fun h => .inr (.inr h)⟩
 unfold limitI
 rw [if_neg (by omega), if_neg (by omega), if_neg (by omega), if_neg (by omega), Int.toNat_natCast, Int.toNat_natCast]
 obtain ⟨h1, h2, h3⟩ := run_limit (parseQ s).1 inp a k
 exact ⟨h1, run_steps _ _ _, run_steps _ _ _, h2, fun h => .inl (h3 h)⟩
/-! ### Input -/
theorem limit_run (p : Pr) (inp : List Nat) : limitI p inp 10000 = runI p inp 10000 := by
 unfold limitI
 rw [if_neg (by decide), if_neg (by decide)]
 rfl
/-! ### The given sources -/
theorem loop_law (inp : List Nat) (h : inp.length ≤ 100) : sourceI Src.loopS inp 10000 = ⟨copied inp, 0, 2 + 1 + 3 + 8 * (copied inp).length⟩ := by
 have hp : parseQ Src.loopS = (loopP, 0) := parseQ_of Src.loop_lex (prog_le _ 300 _ _ 0 0 (by decide +kernel) _ Src.loop_parse)
 rw [source_ok hp loop_check, limit_run]
 exact loop_run inp h
/-! ### Unused declarations -/
theorem commas_ge (l : List (List UInt8)) : l.length ≤ (commas l).length := by rw [commas_len]; omega
theorem varK_ge (l : List (List UInt8)) : l.length ≤ (varK l).length := by 
 rw [varK_len]
 by_cases h : l = []
 ·rw [h]; exact Nat.zero_le _
 ·rw [if_neg h]; omega
end Go.Stele
namespace Go.Stele
/-- The parser's errors. -/
def EK {A : Type} (r : OR A) : Prop := ∀ l e, r = some (.err l e) → (e = 3 ∨ e = 6)
theorem EK.none {A : Type} : EK (none : OR A) := fun _ _ h => by cases h
theorem EK.ok {A : Type} {v : A} {i op : Nat} : EK (some (.ok v i op)) := fun _ _ h => by cases h
theorem EK.bind {A B : Type} {r : OR A} {f : A → Nat → Nat → OR B} (h : EK r) (hf : ∀ v i op, EK (f v i op)) : EK (obind r f) := fun l e hq => by
 rcases obind_some hq with ⟨v, i, op, _, h2⟩ | ⟨l', e', h1, h2⟩
 ·exact hf _ _ _ _ _ h2
 ·cases h2
  exact h _ _ h1
theorem EK.ite {A : Type} {c : Prop} [Decidable c] {a b : OR A} (h1 : EK a) (h2 : EK b) : EK (if c then a else b) := by
 split
 ·exact h1
 ·exact h2
theorem EK.syn {A : Type} {T : List Tok} {i : Nat} : EK (A := A) (some (synErr T i)) := fun l e h => by
 cases h
 decide
theorem EK.word {T : List Tok} {k : Int} {i op : Nat} : EK (some (sWord T k i op)) := by
 unfold sWord
 split
 ·split
  ·exact EK.ok
  ·exact EK.syn
 ·exact EK.syn
theorem EK.need {T : List Tok} {x : List UInt8} {i op : Nat} : EK (some (sNeed T x i op)) := by
 unfold sNeed
 split
 ·exact EK.ok
 ·exact EK.syn
theorem EK.begin {T : List Tok} {x : List UInt8} {i op : Nat} : EK (some (sBegin T x i op)) := by
 unfold sBegin
 split
 ·split
  ·intro l e h
   cases h
   decide
  ·exact EK.ok
 ·exact EK.syn
theorem EK.end' {T : List Tok} {x : List UInt8} {i op : Nat} : EK (some (sEnd T x i op)) := by
 unfold sEnd sNeed
 split
 ·exact EK.ok
 ·exact EK.syn
theorem EK.number {T : List Tok} {i op : Nat} : EK (some (sNumber T i op)) := by
 unfold sNumber sWord
 split
 ·split
  ·exact EK.ok
  ·exact EK.syn
 ·exact EK.syn
theorem namesLoop_ek (T : List Tok) : ∀ (f : Nat) (acc : List (List UInt8)) (i op : Nat), EK (sNamesLoop T f acc i op)
 | 0, _, _, _ => EK.none
 | f + 1, acc, i, op => by
  rw [sNamesLoop]
  exact EK.ite (EK.bind EK.word fun _ _ _ => namesLoop_ek T f _ _ _) EK.ok
theorem names_ek (T : List Tok) (f i op : Nat) : EK (sNames T f i op) := EK.bind EK.word fun _ _ _ => namesLoop_ek T f _ _ _
theorem ex_ek (T : List Tok) : ∀ f : Nat, (∀ k i op, EK (eLev T f k i op)) ∧ (∀ k e i op, EK (eLoop T f k e i op)) ∧ (∀ i op, EK (eUnary T f i op)) ∧ (∀ i op, EK (ePrim T f i op)) ∧ (∀ i op, EK (eIndex T f i op)) ∧ (∀ i op, EK (eArgs T f i op)) ∧ (∀ acc i op, EK (eArgsLoop T f acc i op))
 | 0 => ⟨fun _ _ _ => by rw [eLev]; exact EK.none, fun _ _ _ _ => by rw [eLoop]; exact EK.none, fun _ _ => by rw [eUnary]; exact EK.none, fun _ _ => by rw [ePrim]; exact EK.none, fun _ _ => by rw [eIndex]; exact EK.none, fun _ _ => by rw [eArgs]; exact EK.none, fun _ _ _ => by rw [eArgsLoop]; exact EK.none⟩
 | f + 1 => by
  obtain ⟨hL, hO, hU, hP, hI, hA, hB⟩ := ex_ek T f
  refine ⟨fun k i op => ?_, fun k e i op => ?_, fun i op => ?_, fun i op => ?_, fun i op => ?_, fun i op => ?_, fun acc i op => ?_⟩
  ·rw [eLev]
   exact EK.ite (hU _ _) (EK.bind (hL _ _ _) fun _ _ _ => hO _ _ _ _)
  ·rw [eLoop]
   exact EK.ite (EK.bind (hL _ _ _) fun _ _ _ => EK.ite EK.ok (hO _ _ _ _)) EK.ok
  ·rw [eUnary]
   exact EK.ite (EK.bind EK.begin fun _ _ _ => EK.bind (hU _ _) fun _ _ _ => EK.ok) (EK.ite (EK.bind EK.begin fun _ _ _ => EK.bind (hU _ _) fun _ _ _ => EK.ok) (hP _ _))
  ·rw [ePrim]
   exact EK.ite (EK.bind EK.begin fun _ _ _ => EK.bind (hL _ _ _) fun _ _ _ => EK.bind EK.end' fun _ _ _ => EK.ok) (EK.ite (EK.bind EK.number fun _ _ _ => EK.ok) (EK.bind EK.word fun _ _ _ => EK.ite (EK.bind (hI _ _) fun _ _ _ => EK.ok) (EK.ite (EK.bind (hA _ _) fun _ _ _ => EK.ok) EK.ok)))
  ·rw [eIndex]
   exact EK.bind EK.begin fun _ _ _ => EK.bind (hL _ _ _) fun _ _ _ => EK.bind EK.end' fun _ _ _ => EK.ok
  ·rw [eArgs]
   exact EK.bind EK.begin fun _ _ _ => EK.bind (hB _ _ _) fun _ _ _ => EK.bind EK.end' fun _ _ _ => EK.ok
  ·rw [eArgsLoop]
   refine EK.ite EK.ok (EK.bind ?_ fun _ _ _ => EK.bind (hL _ _ _) fun _ _ _ => hB _ _ _)
   split
   ·exact EK.ok
   ·exact EK.need
theorem st_ek (T : List Tok) : ∀ f : Nat, (∀ i op, EK (sBlock T f i op)) ∧ (∀ acc i op, EK (sStmts T f acc i op)) ∧ (∀ i op, EK (sStmt T f i op)) ∧ (∀ i op, EK (sSimple T f i op))
 | 0 => ⟨fun _ _ => by rw [sBlock]; exact EK.none, fun _ _ _ => by rw [sStmts]; exact EK.none, fun _ _ => by rw [sStmt]; exact EK.none, fun _ _ => by rw [sSimple]; exact EK.none⟩
 | f + 1 => by
  obtain ⟨hB, hS, hT, hM⟩ := st_ek T f
  obtain ⟨hL, _, _, _, hI, hA, _⟩ := ex_ek T f
  refine ⟨fun i op => ?_, fun acc i op => ?_, fun i op => ?_, fun i op => ?_⟩
  ·rw [sBlock]
   exact EK.bind EK.begin fun _ _ _ => EK.bind (hS _ _ _) fun _ _ _ => EK.bind EK.end' fun _ _ _ => EK.ok
  ·rw [sStmts]
   exact EK.ite EK.ok (EK.bind (hT _ _) fun _ _ _ => hS _ _ _)
  ·rw [sStmt]
   exact EK.ite (EK.bind (hL _ _ _) fun _ _ _ => EK.bind (hB _ _) fun _ _ _ => EK.ite (EK.bind (hB _ _) fun _ _ _ => EK.ok) EK.ok) (EK.ite (EK.bind (hL _ _ _) fun _ _ _ => EK.bind (hB _ _) fun _ _ _ => EK.ok) (EK.bind (hM _ _) fun _ _ _ => EK.bind EK.need fun _ _ _ => EK.ok))
  ·rw [sSimple]
   exact EK.ite (EK.bind (hL _ _ _) fun _ _ _ => EK.ok) (EK.ite EK.ok (EK.bind EK.word fun _ _ _ => EK.ite (EK.bind (hA _ _) fun _ _ _ => EK.ok) (EK.ite (EK.bind (hI _ _) fun _ _ _ => EK.bind EK.need fun _ _ _ => EK.bind (hL _ _ _) fun _ _ _ => EK.ok) (EK.bind EK.need fun _ _ _ => EK.bind (hL _ _ _) fun _ _ _ => EK.ok))))
theorem vars_ek (T : List Tok) : ∀ (f : Nat) (acc : List (List UInt8)) (i op : Nat), EK (sVars T f acc i op)
 | 0, _, _, _ => EK.none
 | f + 1, acc, i, op => by
  rw [sVars]
  exact EK.ite (EK.bind (names_ek T f _ _) fun _ _ _ => EK.bind EK.need fun _ _ _ => vars_ek T f _ _ _) EK.ok
theorem func_ek (T : List Tok) (f i op : Nat) : EK (sFunc T f i op) := by
 unfold sFunc
 exact EK.bind EK.word fun _ _ _ => EK.bind EK.begin fun _ _ _ => EK.bind (EK.ite EK.ok (names_ek T f _ _)) fun _ _ _ => EK.bind EK.end' fun _ _ _ => EK.bind EK.begin fun _ _ _ => EK.bind (vars_ek T f _ _ _) fun _ _ _ => EK.bind ((st_ek T f).2.1 _ _ _) fun _ _ _ => EK.bind EK.end' fun _ _ _ => EK.ok
theorem array_ek (T : List Tok) (i op : Nat) : EK (sArray T i op) := by
 unfold sArray
 exact EK.bind EK.word fun _ _ _ => EK.bind EK.begin fun _ _ _ => EK.bind EK.number fun _ _ _ => EK.bind EK.end' fun _ _ _ => EK.bind EK.need fun _ _ _ => EK.ok
theorem prog_ek (T : List Tok) : ∀ (f : Nat) (p : Pr) (i op : Nat), EK (sProg T f p i op)
 | 0, _, _, _ => EK.none
 | f + 1, p, i, op => by
  rw [sProg]
  exact EK.ite EK.ok (EK.ite (EK.bind (vars_ek T f _ _ _) fun _ _ _ => prog_ek T f _ _ _) (EK.ite (EK.bind (array_ek T _ _) fun _ _ _ => prog_ek T f _ _ _) (EK.ite (EK.bind (func_ek T f _ _) fun _ _ _ => prog_ek T f _ _ _) EK.syn)))
/-- The lexer's errors. -/
theorem lexToken_ek (s : List UInt8) (h : (lexToken s).2.2 ≠ 0) : (lexToken s).2.2 = 2 ∨ (lexToken s).2.2 = 3 ∨ (lexToken s).2.2 = 7 := by
 cases s with
 | nil => exact .inr (.inl rfl)
 | cons a t =>
  simp only [lexToken] at h ⊢
  split
  ·unfold lexNumber
   split
   ·exact .inr (.inl rfl)
   ·rename_i h1 h2
    rw [if_pos h1] at h
    unfold lexNumber at h
    rw [if_neg h2] at h
    split
    ·rename_i u hu
     rw [hu] at h
     exact absurd rfl h
    ·exact .inl rfl
  ·rename_i h1
   rw [if_neg h1] at h
   split
   ·rename_i h2
    rw [if_pos h2] at h
    unfold lexName at h ⊢
    split
    ·exact .inr (.inr rfl)
    ·rename_i h3
     rw [if_neg h3] at h
     exact absurd rfl h
   ·rename_i h2
    rw [if_neg h2] at h
    split
    ·rename_i h3
     rw [if_pos h3] at h
     match t, h with
     | [], _ => exact .inr (.inl rfl)
     | [_], _ => exact .inr (.inl rfl)
     | b :: d :: t', h =>
      simp only [lexLiteral] at h ⊢
      split
      ·exact .inr (.inl rfl)
      ·rename_i h4
       rw [if_neg h4] at h
       exact absurd rfl h
    ·rename_i h3
     rw [if_neg h3] at h
     unfold lexSign at h ⊢
     split
     ·rename_i x hx
      rw [hx] at h
      exact absurd rfl h
     ·exact .inr (.inl rfl)
theorem map_err {A B : Type} {r : Except (Int × Int) A} {f : A → B} {x : Int × Int} (h : r.map f = .error x) : r = .error x := by
 cases r with
 | ok v => cases h
 | error y =>
  have h' : Except.error (α := B) y = Except.error x := h
  injection h' with h'
  rw [h']
theorem lex_ek : ∀ (f : Nat) (s : List UInt8) (line l e : Int), lexP f s line = .error (l, e) → e = 2 ∨ e = 3 ∨ e = 7
 | 0, s, line, l, e, h => by rw [lexP] at h; cases h
 | f + 1, s, line, l, e, h => by
  rw [lexP] at h
  split at h
  ·cases h
  split at h
  ·split at h
   ·rename_i h1
    cases h
    exact lexToken_ek s h1
   ·exact lex_ek f _ _ _ _ (map_err h)
  ·exact lex_ek f _ _ _ _ h
/-- A source's error, if it has one. -/
theorem parseQ_err (s : List UInt8) : (parseQ s).2 = 0 ∨ (parseQ s).2 = 2 ∨ (parseQ s).2 = 3 ∨ (parseQ s).2 = 6 ∨ (parseQ s).2 = 7 := by
 unfold parseQ
 split
 ·rename_i l e he
  rcases lex_ek _ _ _ _ _ he with h | h | h <;> simp [h]
 ·split
  ·exact .inl rfl
  ·rename_i l e he
   rcases prog_ek _ _ _ _ _ _ _ he with h | h <;> simp [h]
  ·exact .inl rfl
/-! ### The checker's errors -/
def Low (e : Int) : Prop := 0 ≤ e ∧ e ≤ 10
theorem Low.or {a b : Int} (ha : Low a) (hb : Low b) : Low (orE a b) := by
 unfold orE
 split
 ·exact ha
 ·exact hb
theorem Low.ite {c : Prop} [Decidable c] {a b : Int} (ha : Low a) (hb : Low b) : Low (if c then a else b) := by
 split
 ·exact ha
 ·exact hb
theorem lowE {e : Int} (h1 : 0 ≤ e := by decide) (h2 : e ≤ 10 := by decide) : Low e := ⟨h1, h2⟩
theorem scalarE_low (c : CEnv) (name : Nm) : Low (scalarE c name) := Low.ite lowE (Low.ite lowE lowE)
theorem arrayE_low (c : CEnv) (name : Nm) : Low (arrayE c name) := Low.ite lowE (Low.ite lowE lowE)
theorem callE_low (c : CEnv) (name : Nm) (n : Nat) : Low (callE c name n) := by
 unfold callE
 refine Low.ite (Low.ite lowE lowE) (Low.ite (Low.ite lowE lowE) ?_)
 split
 ·exact Low.ite lowE lowE
 ·exact Low.ite lowE lowE
theorem useE_low (c : CEnv) (op name : Nm) (n : Nat) : Low (useE c op name n) := Low.ite (scalarE_low c name) (Low.ite (arrayE_low c name) (Low.ite (callE_low c name n) lowE))
mutual
theorem errE_low (c : CEnv) : ∀ x : Ex, Low (errE c x)
 | .mk op num name args => by rw [errE]; exact Low.ite ((errEs_low c args).or (useE_low c op name _)) lowE
theorem errEs_low (c : CEnv) : ∀ l : List Ex, Low (errEs c l)
 | [] => by rw [errEs]; exact lowE
 | x :: l => by rw [errEs]; exact (errE_low c x).or (errEs_low c l)
end
mutual
theorem errS_low (c : CEnv) : ∀ x : Sm, Low (errS c x)
 | .mk kind name index value thn els => by
  rw [errS]
  exact Low.ite lowE ((errEs_low c value).or ((errEs_low c index).or ((Low.ite (scalarE_low c name) (Low.ite (arrayE_low c name) lowE)).or ((errSs_low c thn).or (errSs_low c els)))))
theorem errSs_low (c : CEnv) : ∀ l : List Sm, Low (errSs c l)
 | [] => by rw [errSs]; exact lowE
 | x :: l => by rw [errSs]; exact (errS_low c x).or (errSs_low c l)
end
theorem freshE_low : ∀ (l known : List Nm), Low (freshE known l)
 | [], known => by rw [freshE]; exact lowE
 | s :: l, known => by rw [freshE]; exact Low.ite lowE (Low.ite lowE (freshE_low l _))
theorem sizesE_low : ∀ (l : List Int) (t : Int), Low (sizesE t l)
 | [], t => by rw [sizesE]; exact lowE
 | n :: l, t => by rw [sizesE]; exact Low.ite lowE (Low.ite lowE (sizesE_low l _))
theorem errFs_low (vars arrays later : List Nm) : ∀ (fs : List FnD) (known : List FSum), Low (errFs vars arrays later known fs)
 | [], known => by rw [errFs]; exact lowE
 | f :: l, known => by rw [errFs]; exact ((freshE_low _ _).or (errSs_low _ _)).or (errFs_low vars arrays later l _)
theorem mainE_low (vars : List Nm) (fs : List FnD) (sums : List FSum) : Low (mainE vars fs sums) := by
 unfold mainE
 split
 ·exact Low.ite (Low.ite lowE lowE) lowE
 ·exact lowE
/-- The check's error is at most 10. -/
theorem check_low (vars : List Nm) (arrays : List (Nm × Int)) (fs : List FnD) : Low (checkP vars arrays fs) := (freshE_low _ _).or ((sizesE_low _ _).or ((errFs_low _ _ _ _ _).or (mainE_low _ _ _)))
/-- A run with a greater limit. -/
theorem limit_all (s : List UInt8) (inp : List Nat) (a k : Nat) (ha : 0 < a) (hk : a + k ≤ 100000000) :
  (sourceI s inp a).out <+: (sourceI s inp ((a + k : Nat) : Int)).out ∧ (sourceI s inp a).steps ≤ a ∧ (sourceI s inp ((a + k : Nat) : Int)).steps ≤ a + k ∧
  ((sourceI s inp a).err ≠ 13 → sourceI s inp a = sourceI s inp ((a + k : Nat) : Int)) ∧ ((sourceI s inp a).err = 13 → (sourceI s inp a).steps = a ∧ a ≤ (sourceI s inp ((a + k : Nat) : Int)).steps) := by
 obtain ⟨h1, h2, h3, h4, h5⟩ := limit_law s inp a k ha hk
 refine ⟨h1, h2, h3, h4, fun h => ?_⟩
 rcases h5 h with g | g | g
 ·exact g
 ·rcases parseQ_err s with e | e | e | e | e <;> rw [e] at g <;> exact absurd g (by decide)
 ·have hl : Low (checkPr (parseQ s).1) := check_low _ _ _
  rw [g] at hl
  exact absurd hl.2 (by decide)
end Go.Stele
namespace Go.Stele
/-! ### Functions -/
theorem fresh_zero : ∀ (l k : List Nm), freshE k l = 0 → l.Nodup ∧ ∀ s ∈ l, s ∉ k ∧ isNm s = true
 | [], k, _ => ⟨List.nodup_nil, fun s hs => (List.not_mem_nil hs).elim⟩
 | s :: l, k, h => by
  rw [freshE] at h
  split at h
  ·cases h
  rename_i h1
  split at h
  ·cases h
  rename_i h2
  obtain ⟨g1, g2⟩ := fresh_zero l (s :: k) h
  refine ⟨List.nodup_cons.2 ⟨fun hm => (g2 s hm).1 (List.mem_cons_self ..), g1⟩, fun x hx => ?_⟩
  rcases List.mem_cons.1 hx with rfl | hx
  ·exact ⟨h2, by simpa using h1⟩
  ·exact ⟨fun hm => (g2 x hx).1 (List.mem_cons_of_mem _ hm), (g2 x hx).2⟩
end Go.Stele
namespace Go.Stele
theorem noDot {s : Nm} (h : isNm s = true) : (46 : UInt8) ∉ s := by
 unfold isNm at h
 rw [Bool.and_eq_true] at h
 have h2 := h.2
 cases s with
 | nil => exact List.not_mem_nil
 | cons c r =>
  simp only [Bool.and_eq_true] at h2
  intro hm
  rcases List.mem_cons.1 hm with rfl | hm
  ·exact absurd h2.1 (by decide)
  ·exact absurd (List.all_eq_true.1 h2.2 46 hm) (by decide)
theorem split_dot : ∀ (a b x y : Nm), (46 : UInt8) ∉ a → (46 : UInt8) ∉ b → a ++ 46 :: x = b ++ 46 :: y → a = b ∧ x = y
 | [], [], x, y, _, _, h => by
  injection h with _ h
  exact ⟨rfl, h⟩
 | [], d :: b, x, y, _, hb, h => by
  injection h with h1 _
  exact absurd (h1 ▸ List.mem_cons_self ..) hb
 | c :: a, [], x, y, ha, _, h => by
  injection h with h1 _
  exact absurd (h1 ▸ List.mem_cons_self ..) ha
 | c :: a, d :: b, x, y, ha, hb, h => by
  injection h with h1 h2
  obtain ⟨e1, e2⟩ := split_dot a b x y (fun g => ha (List.mem_cons_of_mem _ g)) (fun g => hb (List.mem_cons_of_mem _ g)) h2
  exact ⟨by rw [h1, e1], e2⟩
theorem nodup_inj {fs : List FnD} (h : (fs.map (·.name)).Nodup) {f g : FnD} (hf : f ∈ fs) (hg : g ∈ fs) (he : f.name = g.name) : f = g := by
 induction fs with
 | nil => cases hf
 | cons a l ih =>
  rw [List.map_cons, List.nodup_cons] at h
  rcases List.mem_cons.1 hf with rfl | hf'
  ·rcases List.mem_cons.1 hg with rfl | hg'
   ·rfl
   ·exact absurd (List.mem_map.2 ⟨g, hg', he.symm⟩) h.1
  ·rcases List.mem_cons.1 hg with rfl | hg'
   ·exact absurd (List.mem_map.2 ⟨f, hf', he⟩) h.1
   ·exact ih h.2 hf' hg'
/-- A function's own scalars are placed, and no others under its name. -/
theorem own_key {vars arrays : List Nm} {fs : List FnD} (h : freshE [] (vars ++ arrays ++ fs.map (·.name)) = 0) {f : FnD} (hf : f ∈ fs) (name : Nm) : f.name ++ [46] ++ name ∈ scalarsP vars fs ↔ name ∈ f.params ++ f.locals := by
 obtain ⟨h1, h2⟩ := fresh_zero _ _ h
 have hd : ∀ g ∈ fs, (46 : UInt8) ∉ g.name := fun g hg => noDot (h2 _ (List.mem_append.2 (.inr (List.mem_map.2 ⟨g, hg, rfl⟩)))).2
 unfold scalarsP
 rw [List.mem_append]
 constructor
 ·rintro (g | g)
  ·have := noDot (h2 _ (List.mem_append.2 (.inl (List.mem_append.2 (.inl g))))).2
   exact absurd (by simp) this
  ·obtain ⟨l, g1, g2⟩ := List.mem_flatten.1 g
   obtain ⟨k, g3, rfl⟩ := List.mem_map.1 g1
   obtain ⟨x, g4, g5⟩ := List.mem_map.1 g2
   have g6 : k.name ++ 46 :: x = f.name ++ 46 :: name := by simpa using g5
   obtain ⟨e1, rfl⟩ := split_dot _ _ _ _ (hd k g3) (hd f hf) g6
   rw [← nodup_inj (List.nodup_append.1 h1).2.1 g3 hf e1]
   exact g4
 ·intro g
  exact .inr (List.mem_flatten.2 ⟨_, List.mem_map.2 ⟨f, hf, rfl⟩, List.mem_map.2 ⟨name, g, rfl⟩⟩)
/-- The key that the interpreter finds is the reference's. -/
theorem key_eq {vars arrays : List Nm} {fs : List FnD} (h : freshE [] (vars ++ arrays ++ fs.map (·.name)) = 0) {f : FnD} (hf : f ∈ fs) (name : Nm) : (if f.name ++ [46] ++ name ∈ scalarsP vars fs then f.name ++ [46] ++ name else name) = keyI f name := by
 unfold keyI
 simp only [own_key h hf, List.mem_append]
/-- A name that the checker lets through as a scalar is placed. -/
theorem key_placed {vars arrays : List Nm} {fs : List FnD} {known : List FSum} {f : FnD} (hf : f ∈ fs) {name : Nm} (h : scalarE (envF vars arrays (fs.map (·.name)) known f) name = 0) : keyI f name ∈ scalarsP vars fs := by
 unfold scalarE at h
 unfold keyI scalarsP
 rw [List.mem_append]
 split at h
 ·rename_i h1
  split
  ·rename_i h2
   exact .inr (List.mem_flatten.2 ⟨_, List.mem_map.2 ⟨f, hf, rfl⟩, List.mem_map.2 ⟨name, List.mem_append.2 h2, rfl⟩⟩)
  ·rename_i h2
   rcases h1 with h1 | h1
   ·exact .inl h1
   ·exact absurd (List.mem_append.1 h1) h2
 ·split at h <;> cases h
/-- Where a name stands among different ones. -/
theorem fnI_mem {P : Pr} {f : FnD} (h : (P.funcs.map (·.name)).Nodup) (hf : f ∈ P.funcs) : fnI P f.name = f := by
 unfold fnI
 cases hg : P.funcs.find? fun g => decide (g.name = f.name) with
 | none => exact absurd (List.find?_eq_none.1 hg f hf) (by simp)
 | some g => exact nodup_inj h (List.mem_of_find?_eq_some hg) hf (of_decide_eq_true (List.find?_some (p := fun g : FnD => decide (g.name = f.name)) hg))
end Go.Stele
