/- Texts joined: InpSpec, ChkSpec, InpStat, FmtSpec, LexCat, ParTok, LexJoin, ParFuel, ParNodes, RtPrint, RtParse, ParExt. -/
import Derived.KernelRfl
import Derived.Lib.Join
import Derived.Test.YtcbpcianefpniaaGreatDoorBRowIS1
set_option linter.unusedVariables false
set_option linter.unusedSimpArgs false
namespace Go.Stele
/-- The state of an execution: scalars by key, arrays, the input that is left, the output, the steps that are left. -/
structure IS where
 sc : List UInt8 → Nat
 ar : List UInt8 → List Nat
 inp : List Nat
 out : List UInt8
 left : Nat
/-- A value, or the end of the execution: its error (0: halt). -/
inductive IR (A : Type) where
 | ok (v : A) (s : IS)
 | stop (e : Int) (s : IS)
def IR.bind {A B : Type} (r : IR A) (f : A → IS → IR B) : IR B := match r with
 | .ok v s => f v s
 | .stop e s => .stop e s
def IR.st {A : Type} : IR A → IS
 | .ok _ s => s
 | .stop _ s => s
def tick (s : IS) : IR Unit := if s.left = 0 then .stop 13 s else .ok () { s with left := s.left - 1 }
def b2n (b : Bool) : Nat := if b = true then 1 else 0
/-- A binary operator; nothing: a division by zero. -/
def binI (op : List UInt8) (a b : Nat) : Option Nat :=
 if op = [43] then some ((a + b) % 4294967296)
 else if op = [45] then some ((a + 4294967296 - b) % 4294967296)
 else if op = [42] then some (a * b % 4294967296)
 else if op = [94] then some (a ^^^ b)
 else if op = [61, 61] then some (b2n (decide (a = b)))
 else if op = [33, 61] then some (b2n (decide (a ≠ b)))
 else if op = [60] then some (b2n (decide (a < b)))
 else if op = [62] then some (b2n (decide (b < a)))
 else if op = [60, 61] then some (b2n (decide (a ≤ b)))
 else if op = [62, 61] then some (b2n (decide (b ≤ a)))
 else if op = [38, 38] then some (b2n (decide (a ≠ 0 ∧ b ≠ 0)))
 else if op = [124, 124] then some (b2n (decide (a ≠ 0 ∨ b ≠ 0)))
 else if b = 0 then none
 else if op = [47] then some (a / b) else some (a % b)
/-- The key of a scalar that a function uses: its own ones precede the globals. -/
def keyI (f : FnD) (name : List UInt8) : List UInt8 := if name ∈ f.params ∨ name ∈ f.locals then f.name ++ [46] ++ name else name
def fnI (P : Pr) (name : List UInt8) : FnD := (P.funcs.find? fun f => decide (f.name = name)).getD ⟨[], [], [], []⟩
def setSc (s : IS) (k : List UInt8) (v : Nat) : IS := { s with sc := fun x => if x = k then v else s.sc x }
def setPs (f : FnD) : List (List UInt8) → List Nat → IS → IS
 | p :: ps, v :: vs, s => setPs f ps vs (setSc s (keyI f p) v)
 | _, _, s => s
def mapR {A : Type} (g : A → IS → IR Nat) : List A → IS → IR (List Nat)
 | [], s => .ok [] s
 | a :: l, s => (g a s).bind fun v s => (mapR g l s).bind fun vs s => .ok (v :: vs) s
def blkR (g : Sm → IS → IR (Option Nat)) : List Sm → IS → IR (Option Nat)
 | [], s => .ok none s
 | a :: l, s => (g a s).bind fun r s => match r with
  | some v => .ok (some v) s
  | none => blkR g l s
def whlR (c : IS → IR Nat) (b : IS → IR (Option Nat)) : Nat → Nat → IS → IR (Option Nat)
 | 0, v, s => if v = 0 then .ok none s else .stop 13 s
 | m + 1, v, s => if v = 0 then .ok none s else (b s).bind fun r s => match r with
  | some x => .ok (some x) s
  | none => (c s).bind fun v s => whlR c b m v s
def callI (P : Pr) (g : FnD → Sm → IS → IR (Option Nat)) (name : List UInt8) (vs : List Nat) (s : IS) : IR Nat :=
 if name = [105, 110] then (match s.inp with
  | [] => .ok 4294967295 s
  | v :: r => .ok v { s with inp := r })
 else if name = [111, 117, 116] then .ok 0 { s with out := s.out ++ [UInt8.ofNat (vs.headD 0)] }
 else (blkR (g (fnI P name)) (fnI P name).body (setPs (fnI P name) (fnI P name).params vs s)).bind fun r s => .ok (r.getD 0) s
/-- An operation on values. -/
def opI (P : Pr) (g : FnD → Sm → IS → IR (Option Nat)) (f : FnD) (op : List UInt8) (num : Nat) (name : List UInt8) (vs : List Nat) (s : IS) : IR Nat :=
 if op = [110, 117, 109] then .ok num s
 else if op = [118, 97, 114] then .ok (s.sc (keyI f name)) s
 else if op = [101, 108, 101, 109] then (match (s.ar name)[vs.headD 0]? with
  | some v => .ok v s
  | none => .stop 2 s)
 else if op = [110, 101, 103] then .ok ((4294967296 - vs.headD 0) % 4294967296) s
 else if op = [110, 111, 116] then .ok (b2n (decide (vs.headD 0 = 0))) s
 else if op = [99, 97, 108, 108] then callI P g name vs s
 else match binI op (vs.headD 0) (vs.tail.headD 0) with
  | some v => .ok v s
  | none => .stop 12 s
mutual
def evI (P : Pr) : Nat → FnD → Ex → IS → IR Nat
 | 0, _, _, s => .stop 13 s
 | n + 1, f, .mk op num name args, s => (tick s).bind fun _ s => (mapR (evI P n f) args s).bind fun vs s => opI P (stI P n) f op num name vs s
def stI (P : Pr) : Nat → FnD → Sm → IS → IR (Option Nat)
 | 0, _, _, s => .stop 13 s
 | n + 1, f, .mk kind name index value thn els, s => (tick s).bind fun _ s =>
  if kind = 7 then .stop 0 s else (evI P n f (value.headD default) s).bind fun v s =>
   if kind = 1 then .ok none (setSc s (keyI f name) v)
   else if kind = 2 then (evI P n f (index.headD default) s).bind fun i s => match (s.ar name)[i]? with
    | some _ => .ok none { s with ar := fun x => if x = name then (s.ar name).set i v else s.ar x }
    | none => .stop 2 s
   else if kind = 5 then .ok (some v) s
   else if kind = 3 then (if v ≠ 0 then blkR (stI P n f) thn s else blkR (stI P n f) els s)
   else if kind = 4 then whlR (evI P n f (value.headD default)) (blkR (stI P n f) thn) n v s
   else .ok none s
end
/-! ### A greater limit -/
def up (k : Nat) (s : IS) : IS := { s with left := s.left + k }
/-- The output grows, and no steps are given back. -/
def Grow {A : Type} (s : IS) (r : IR A) : Prop := s.out <+: r.st.out ∧ r.st.left ≤ s.left
theorem Grow.bind {A B : Type} {s : IS} {r : IR A} {f : A → IS → IR B} (h : Grow s r) (hf : ∀ v s', Grow s' (f v s')) : Grow s (r.bind f) := by
 cases r with
 | ok v s' => exact ⟨List.IsPrefix.trans h.1 (hf v s').1, Nat.le_trans (hf v s').2 h.2⟩
 | stop e s' => exact h
theorem tick_grow (s : IS) : Grow s (tick s) := by
 unfold tick
 split
 ·exact ⟨List.prefix_refl _, Nat.le_refl _⟩
 ·exact ⟨List.prefix_refl _, Nat.sub_le _ _⟩
theorem mapR_grow {A : Type} {g : A → IS → IR Nat} (h : ∀ a s, Grow s (g a s)) : ∀ (l : List A) (s : IS), Grow s (mapR g l s)
 | [], s => ⟨List.prefix_refl _, Nat.le_refl _⟩
 | a :: l, s => (h a s).bind fun v s => (mapR_grow h l s).bind fun vs s => ⟨List.prefix_refl _, Nat.le_refl _⟩
theorem blkR_grow {g : Sm → IS → IR (Option Nat)} (h : ∀ a s, Grow s (g a s)) : ∀ (l : List Sm) (s : IS), Grow s (blkR g l s)
 | [], s => ⟨List.prefix_refl _, Nat.le_refl _⟩
 | a :: l, s => (h a s).bind fun r s => by
  cases r with
  | none => exact blkR_grow h l s
  | some v => exact ⟨List.prefix_refl _, Nat.le_refl _⟩
theorem whlR_grow {c : IS → IR Nat} {b : IS → IR (Option Nat)} (hc : ∀ s, Grow s (c s)) (hb : ∀ s, Grow s (b s)) : ∀ (m v : Nat) (s : IS), Grow s (whlR c b m v s)
 | 0, v, s => by
  unfold whlR
  split <;> exact ⟨List.prefix_refl _, Nat.le_refl _⟩
 | m + 1, v, s => by
  unfold whlR
  split
  ·exact ⟨List.prefix_refl _, Nat.le_refl _⟩
  ·refine (hb s).bind fun r s => ?_
   cases r with
   | some x => exact ⟨List.prefix_refl _, Nat.le_refl _⟩
   | none => exact (hc s).bind fun v s => whlR_grow hc hb m v s
theorem setPs_same (f : FnD) : ∀ (ps : List (List UInt8)) (vs : List Nat) (s : IS), (setPs f ps vs s).out = s.out ∧ (setPs f ps vs s).left = s.left ∧ ∀ k, setPs f ps vs (up k s) = up k (setPs f ps vs s)
 | p :: ps, v :: vs, s => by
  obtain ⟨h1, h2, h3⟩ := setPs_same f ps vs (setSc s (keyI f p) v)
  exact ⟨h1, h2, fun k => h3 k⟩
 | [], _, s => by unfold setPs; exact ⟨rfl, rfl, fun _ => rfl⟩
 | _ :: _, [], s => by unfold setPs; exact ⟨rfl, rfl, fun _ => rfl⟩
theorem opI_grow {P : Pr} {g : FnD → Sm → IS → IR (Option Nat)} (h : ∀ f a s, Grow s (g f a s)) (f : FnD) (op : List UInt8) (num : Nat) (name : List UInt8) (vs : List Nat) (s : IS) : Grow s (opI P g f op num name vs s) := by
 unfold opI
 split
 ·exact ⟨List.prefix_refl _, Nat.le_refl _⟩
 split
 ·exact ⟨List.prefix_refl _, Nat.le_refl _⟩
 split
 ·split <;> exact ⟨List.prefix_refl _, Nat.le_refl _⟩
 split
 ·exact ⟨List.prefix_refl _, Nat.le_refl _⟩
 split
 ·exact ⟨List.prefix_refl _, Nat.le_refl _⟩
 split
 ·unfold callI
  split
  ·split <;> exact ⟨List.prefix_refl _, Nat.le_refl _⟩
  split
  ·exact ⟨List.prefix_append _ _, Nat.le_refl _⟩
  ·refine Grow.bind ?_ fun r s => ⟨List.prefix_refl _, Nat.le_refl _⟩
   have := blkR_grow (h (fnI P name)) (fnI P name).body (setPs (fnI P name) (fnI P name).params vs s)
   unfold Grow at this ⊢
   rwa [(setPs_same _ _ _ _).1, (setPs_same _ _ _ _).2.1] at this
 ·split <;> exact ⟨List.prefix_refl _, Nat.le_refl _⟩
theorem grow_all (P : Pr) : ∀ n : Nat, (∀ f x s, Grow s (evI P n f x s)) ∧ ∀ f x s, Grow s (stI P n f x s)
 | 0 => ⟨fun f x s => by unfold evI; exact ⟨List.prefix_refl _, Nat.le_refl _⟩, fun f x s => by unfold stI; exact ⟨List.prefix_refl _, Nat.le_refl _⟩⟩
 | n + 1 => by
  obtain ⟨h1, h2⟩ := grow_all P n
  refine ⟨fun f x s => ?_, fun f x s => ?_⟩
  ·obtain ⟨op, num, name, args⟩ := x
   unfold evI
   exact (tick_grow s).bind fun _ s => (mapR_grow (h1 f) args s).bind fun vs s => opI_grow h2 f op num name vs s
  ·obtain ⟨kind, name, index, value, thn, els⟩ := x
   unfold stI
   refine (tick_grow s).bind fun _ s => ?_
   split
   ·exact ⟨List.prefix_refl _, Nat.le_refl _⟩
   ·refine (h1 f _ s).bind fun v s => ?_
    split
    ·exact ⟨List.prefix_refl _, Nat.le_refl _⟩
    split
    ·refine (h1 f _ s).bind fun i s => ?_
     split <;> exact ⟨List.prefix_refl _, Nat.le_refl _⟩
    split
    ·exact ⟨List.prefix_refl _, Nat.le_refl _⟩
    split
    ·split
     ·exact blkR_grow (h2 f) _ _
     ·exact blkR_grow (h2 f) _ _
    split
    ·exact whlR_grow (h1 f _) (blkR_grow (h2 f) _) _ _ _
    ·exact ⟨List.prefix_refl _, Nat.le_refl _⟩
theorem whlR_zero (c : IS → IR Nat) (b : IS → IR (Option Nat)) (m : Nat) (s : IS) : whlR c b m 0 s = .ok none s := by
 cases m <;> rw [whlR, if_pos rfl]
theorem tick_less {s s' : IS} {u : Unit} (h : tick s = .ok u s') : s'.left < s.left := by
 unfold tick at h
 split at h
 ·cases h
 ·cases h
  simp only
  omega
/-- An expression takes a step. -/
theorem ev_less (P : Pr) (n : Nat) (f : FnD) (x : Ex) (s s' : IS) (v : Nat) (h : evI P n f x s = .ok v s') : s'.left < s.left := by
 cases n with
 | zero => unfold evI at h; cases h
 | succ n =>
  obtain ⟨op, num, name, args⟩ := x
  unfold evI at h
  cases ht : tick s with
  | stop e s1 => rw [ht] at h; cases h
  | ok u s1 =>
   rw [ht] at h
   have h1 := tick_less ht
   have hG : Grow s1 ((mapR (evI P n f) args s1).bind fun vs s => opI P (stI P n) f op num name vs s) := (mapR_grow ((grow_all P n).1 f) args s1).bind fun vs s => opI_grow (grow_all P n).2 f op num name vs s
   have h2 := hG.2
   have h3 : (mapR (evI P n f) args s1).bind (fun vs s => opI P (stI P n) f op num name vs s) = .ok v s' := h
   rw [h3] at h2
   exact Nat.lt_of_le_of_lt h2 h1
/-! ### A run -/
/-- An outcome: output, error, steps. -/
structure OutI where
 out : List UInt8
 err : Int
 steps : Nat
def startI (P : Pr) (inp : List Nat) (limit : Nat) : IS := ⟨fun _ => 0, fun x => match P.arrays.find? fun a => decide (a.name = x) with
 | some a => List.replicate a.size 0
 | none => [], inp, [], limit⟩
def mainI (P : Pr) : FnD := P.funcs.getLast?.getD ⟨[], [], [], []⟩
def endI {A : Type} (limit : Nat) : IR A → OutI
 | .ok _ s => ⟨s.out, 0, limit - s.left⟩
 | .stop e s => ⟨s.out, e, limit - s.left⟩
/-- A run of a valid program. -/
def runI (P : Pr) (inp : List Nat) (limit : Nat) : OutI := endI limit (blkR (stI P limit (mainI P)) (mainI P).body (startI P inp limit))
end Go.Stele
namespace Go.Stele
abbrev Nm := List UInt8
/-- The names that are none although their letters are right. -/
def noName : List Nm := keywords ++ [[105, 110], [111, 117, 116]]
def isNm (s : Nm) : Bool := decide (s.length ≤ 24) && !noName.contains s && (match s with
 | [] => false
 | c :: r => isLetter c && r.all isInner)
/-- What is known about a function. -/
structure FSum where
 name : Nm
 params : Nat
 need : Nat
 depth : Nat
/-- What a function may refer to. -/
structure CEnv where
 vars : List Nm
 arrays : List Nm
 later : List Nm
 own : List Nm
 funcs : List FSum
def CEnv.globals (c : CEnv) : List Nm := c.vars ++ c.arrays ++ c.later
def CEnv.fn (c : CEnv) (name : Nm) : Option FSum := c.funcs.find? fun f => decide (f.name = name)
def orE (a b : Int) : Int := if a ≠ 0 then a else b
def binOps : List Nm := [[124, 124], [38, 38], [61, 61], [33, 61], [60], [62], [60, 61], [62, 61], [94], [43], [45], [42], [47], [37]]
/-- The number of operands of an operation; -1: any number, -2: there is no such operation. -/
def opnds (op : Nm) : Int := if op = nNum ∨ op = nVar then 0 else if op = nElem ∨ op = nNeg ∨ op = nNot then 1 else if op = nCall then -1 else if op ∈ binOps then 2 else -2
def scalarE (c : CEnv) (name : Nm) : Int := if name ∈ c.vars ∨ name ∈ c.own then 0 else if name ∈ c.globals then 10 else 7
def arrayE (c : CEnv) (name : Nm) : Int := if name ∈ c.arrays then 0 else if name ∈ c.globals ∨ name ∈ c.own then 10 else 7
def callE (c : CEnv) (name : Nm) (n : Nat) : Int :=
 if name = [105, 110] then (if n = 0 then 0 else 1)
 else if name = [111, 117, 116] then (if n = 1 then 0 else 1)
 else match c.fn name with
  | some f => if n = f.params then 0 else 1
  | none => if name ∈ c.vars ∨ name ∈ c.arrays ∨ name ∈ c.own then 10 else 7
def useE (c : CEnv) (op name : Nm) (n : Nat) : Int := if op = nVar then scalarE c name else if op = nElem then arrayE c name else if op = nCall then callE c name n else 0
mutual
def errE (c : CEnv) : Ex → Int
 | .mk op num name args => if opnds op = -1 ∨ opnds op = args.length then orE (errEs c args) (useE c op name args.length) else 3
def errEs (c : CEnv) : List Ex → Int
 | [] => 0
 | x :: l => orE (errE c x) (errEs c l)
end
/-- The greatest of i, i + 1, .. added to the numbers, and m. -/
def stair : Nat → List Nat → Nat → Nat
 | i, [], m => m
 | i, n :: l, m => stair (i + 1) l (max m (i + n))
def callN (c : CEnv) (name : Nm) (ns : List Nat) : Nat :=
 if name = [105, 110] then 1
 else if name = [111, 117, 116] then ns.headD 0
 else match c.fn name with
  | some f => stair 0 ns (max (f.params + 1) f.need)
  | none => 0
/-- The stack need of an operation whose operands have these needs. -/
def opN (c : CEnv) (op name : Nm) (ns : List Nat) : Nat :=
 if op = nNum ∨ op = nVar then 1
 else if op = nElem ∨ op = nNeg then 1 + ns.headD 0
 else if op = nCall then callN c name ns
 else if op = nNot then max 2 (ns.headD 0)
 else if op = [62] ∨ op = [60, 61] then max (max 3 (ns.headD 0)) (1 + ns.tail.headD 0)
 else if op = [33, 61] then max (max 3 (1 + ns.headD 0)) (2 + ns.tail.headD 0)
 else if op = [38, 38] then max (1 + ns.headD 0) (2 + ns.tail.headD 0)
 else if op = [124, 124] then max (2 + ns.headD 0) (3 + ns.tail.headD 0)
 else max (max 2 (ns.headD 0)) (1 + ns.tail.headD 0)
mutual
def needE (c : CEnv) : Ex → Nat
 | .mk op num name args => opN c op name (needEs c args)
def needEs (c : CEnv) : List Ex → List Nat
 | [] => []
 | x :: l => needE c x :: needEs c l
end
/-- The depth that a call adds. -/
def callD (c : CEnv) (op name : Nm) : Nat := if op = nCall ∧ name ≠ [105, 110] ∧ name ≠ [111, 117, 116] then (match c.fn name with
 | some f => f.depth + 1
 | none => 0) else 0
mutual
def depE (c : CEnv) : Ex → Nat
 | .mk op num name args => max (depEs c args) (callD c op name)
def depEs (c : CEnv) : List Ex → Nat
 | [] => 0
 | x :: l => max (depE c x) (depEs c l)
end
def exOp1 : Ex → Nm
 | .mk op _ _ _ => op
/-- The statement is well-formed. -/
def formS : Sm → Bool
 | .mk kind name index value thn els =>
  if kind = 1 then decide (name ≠ [] ∧ index.length = 0 ∧ value.length = 1 ∧ thn.length = 0 ∧ els.length = 0)
  else if kind = 2 then decide (name ≠ [] ∧ index.length = 1 ∧ value.length = 1 ∧ thn.length = 0 ∧ els.length = 0)
  else if kind = 3 then decide (name = [] ∧ index.length = 0 ∧ value.length = 1)
  else if kind = 4 then decide (name = [] ∧ index.length = 0 ∧ value.length = 1 ∧ els.length = 0)
  else if kind = 5 then decide (name = [] ∧ index.length = 0 ∧ value.length = 1 ∧ thn.length = 0 ∧ els.length = 0)
  else if kind = 6 then decide (name = [] ∧ index.length = 0 ∧ value.length = 1 ∧ thn.length = 0 ∧ els.length = 0 ∧ exOp1 (value.headD default) = nCall)
  else if kind = 7 then decide (name = [] ∧ index.length = 0 ∧ value.length = 0 ∧ thn.length = 0 ∧ els.length = 0)
  else false
mutual
def errS (c : CEnv) : Sm → Int
 | .mk kind name index value thn els => if formS (.mk kind name index value thn els) = false then 3
  else orE (errEs c value) (orE (errEs c index) (orE (if kind = 1 then scalarE c name else if kind = 2 then arrayE c name else 0) (orE (errSs c thn) (errSs c els))))
def errSs (c : CEnv) : List Sm → Int
 | [] => 0
 | s :: l => orE (errS c s) (errSs c l)
end
mutual
def needS (c : CEnv) : Sm → Nat
 | .mk kind name index value thn els =>
  if kind = 7 then 0
  else if kind = 2 then max (needE c (value.headD default)) (2 + needE c (index.headD default))
  else if kind = 5 then needE c (value.headD default)
  else max 2 (max (max (needE c (value.headD default)) (needSs c thn)) (needSs c els))
def needSs (c : CEnv) : List Sm → Nat
 | [] => 0
 | s :: l => max (needS c s) (needSs c l)
end
mutual
def depS (c : CEnv) : Sm → Nat
 | .mk kind name index value thn els => max (max (depEs c value) (depEs c index)) (max (depSs c thn) (depSs c els))
def depSs (c : CEnv) : List Sm → Nat
 | [] => 0
 | s :: l => max (depS c s) (depSs c l)
end
/-- Names that are valid and new: the known ones first. -/
def freshE : List Nm → List Nm → Int
 | known, [] => 0
 | known, s :: l => if isNm s = false then 7 else if s ∈ known then 8 else freshE (s :: known) l
def sizesE : Int → List Int → Int
 | total, [] => 0
 | total, n :: l => if n ≤ 0 then 2 else if 150000 - total < n then 6 else sizesE (total + n) l
def envF (vars arrays later : List Nm) (known : List FSum) (f : FnD) : CEnv := ⟨vars, arrays, later, f.params ++ f.locals, known⟩
def errF (vars arrays later : List Nm) (known : List FSum) (f : FnD) : Int := orE (freshE (vars ++ arrays ++ later) (f.params ++ f.locals)) (errSs (envF vars arrays later known f) f.body)
def sumF (vars arrays later : List Nm) (known : List FSum) (f : FnD) : FSum := ⟨f.name, f.params.length, max (max 2 (f.params.length + 1)) (needSs (envF vars arrays later known f) f.body), max 1 (depSs (envF vars arrays later known f) f.body)⟩
def errFs (vars arrays later : List Nm) : List FSum → List FnD → Int
 | known, [] => 0
 | known, f :: l => orE (errF vars arrays later known f) (errFs vars arrays later (known ++ [sumF vars arrays later known f]) l)
def sumFs (vars arrays later : List Nm) : List FSum → List FnD → List FSum
 | known, [] => known
 | known, f :: l => sumFs vars arrays later (known ++ [sumF vars arrays later known f]) l
def scalarsP (vars : List Nm) (fs : List FnD) : List Nm := vars ++ (fs.map fun f => (f.params ++ f.locals).map fun x => f.name ++ [46] ++ x).flatten
def mainE (vars : List Nm) (fs : List FnD) (sums : List FSum) : Int := match fs.getLast?, sums.getLast? with
 | some f, some m => if f.name = [109, 97, 105, 110] ∧ f.params = [] then (if (scalarsP vars fs).length ≤ 8000 ∧ m.need ≤ 200 ∧ m.depth ≤ 60 then 0 else 6) else 9
 | _, _ => 9
/-- The error of the first violated rule. -/
def checkP (vars : List Nm) (arrays : List (Nm × Int)) (fs : List FnD) : Int :=
 orE (freshE [] (vars ++ arrays.map (·.1) ++ fs.map (·.name))) (orE (sizesE 0 (arrays.map (·.2)))
  (orE (errFs vars (arrays.map (·.1)) (fs.map (·.name)) [] fs) (mainE vars fs (sumFs vars (arrays.map (·.1)) (fs.map (·.name)) [] fs))))
def checkPr (p : Pr) : Int := checkP p.vars (p.arrays.map fun a => (a.name, (a.size : Int))) p.funcs
theorem orE_zero {a b : Int} : orE a b = 0 ↔ a = 0 ∧ b = 0 := by
 unfold orE
 split
 ·constructor
  ·intro h; contradiction
  ·rintro ⟨h, _⟩; contradiction
 ·constructor
  ·intro h; exact ⟨by omega, h⟩
  ·rintro ⟨_, h⟩; exact h
end Go.Stele
namespace Go.Stele
namespace Sta
def outK : Nm := [111, 117, 116]
def addK : Nm := [97, 100, 100]
def sumK : Nm := [115, 117, 109]
def mainK : Nm := [109, 97, 105, 110]
/-- The key of the sum. -/
def keyK : Nm := [97, 100, 100, 46, 115, 117, 109]
def keyX : Nm := [97, 100, 100, 46, 120]
/-- `func add(x) { var sum; sum = sum + x; return sum; }` -/
def add : FnD := ⟨addK, [[120]], [sumK], [.mk 1 sumK [] [.mk [43] 0 [] [.mk nVar 0 sumK [], .mk nVar 0 [120] []]] [] [], .mk 5 [] [] [.mk nVar 0 sumK []] [] []]⟩
/-- `out(add(x));` -/
def st (x : UInt8) : Sm := .mk 6 [] [] [.mk nCall 0 outK [.mk nCall 0 addK [.mk nNum x.toNat [] []]]] [] []
def main (l : List UInt8) : FnD := ⟨mainK, [], [], l.map st⟩
def prog (l : List UInt8) : Pr := ⟨[], [], [add, main l]⟩
def env : CEnv := envF [] [] [addK, mainK] [sumF [] [] [addK, mainK] [] add] (main [])
theorem st_ok (x : UInt8) : errS env (st x) = 0 ∧ needS env (st x) ≤ 2 ∧ depS env (st x) ≤ 2 := by
 have h1 : errS env (st x) = errS env (st 0) := by kernel_rfl
 have h2 : needS env (st x) = needS env (st 0) := by kernel_rfl
 have h3 : depS env (st x) = depS env (st 0) := by kernel_rfl
 rw [h1, h2, h3]
 decide +kernel
theorem sts_ok : ∀ l : List UInt8, errSs env (l.map st) = 0 ∧ needSs env (l.map st) ≤ 2 ∧ depSs env (l.map st) ≤ 2
 | [] => by decide +kernel
 | x :: l => by
  obtain ⟨h1, h2, h3⟩ := sts_ok l
  obtain ⟨g1, g2, g3⟩ := st_ok x
  rw [List.map_cons, errSs, needSs, depSs]
  exact ⟨orE_zero.2 ⟨g1, h1⟩, Nat.max_le.2 ⟨g2, h2⟩, Nat.max_le.2 ⟨g3, h3⟩⟩
theorem check (l : List UInt8) : checkPr (prog l) = 0 := by
 obtain ⟨h1, h2, h3⟩ := sts_ok l
 unfold checkPr checkP
 refine orE_zero.2 ⟨by kernel_rfl, orE_zero.2 ⟨rfl, orE_zero.2 ⟨?_, ?_⟩⟩⟩
 ·refine orE_zero.2 ⟨by kernel_rfl, orE_zero.2 ⟨orE_zero.2 ⟨by kernel_rfl, h1⟩, rfl⟩⟩
 ·show mainE [] [add, main l] [sumF [] [] [addK, mainK] [] add, sumF [] [] [addK, mainK] [sumF [] [] [addK, mainK] [] add] (main l)] = 0
  unfold mainE
  simp only [List.getLast?_cons_cons, List.getLast?_singleton]
  have e1 : scalarsP [] [add, main l] = scalarsP [] [add, main []] := rfl
  have h2' : (sumF [] [] [addK, mainK] [sumF [] [] [addK, mainK] [] add] (main l)).need ≤ 200 := Nat.max_le.2 ⟨show (2 : Nat) ≤ 200 by decide, Nat.le_trans h2 (by decide)⟩
  have h3' : (sumF [] [] [addK, mainK] [sumF [] [] [addK, mainK] [] add] (main l)).depth ≤ 60 := Nat.max_le.2 ⟨show (1 : Nat) ≤ 60 by decide, Nat.le_trans h3 (by decide)⟩
  rw [if_pos ⟨rfl, rfl⟩, e1, if_pos ⟨by decide +kernel, h2', h3'⟩]
/-- The sums, modulo 256. -/
def sums : UInt8 → List UInt8 → List UInt8
 | _, [] => []
 | s, x :: l => (s + x) :: sums (s + x) l
theorem add_body (l : List UInt8) (n : Nat) (sc : Nm → Nat) (ar : Nm → List Nat) (inp : List Nat) (out : List UInt8) (k : Nat) :
  blkR (stI (prog l) (n + 3) add) add.body ⟨sc, ar, inp, out, k + 6⟩ = .ok (some ((sc keyK + sc keyX) % 4294967296)) ⟨fun x => if x = keyK then (sc keyK + sc keyX) % 4294967296 else sc x, ar, inp, out, k⟩ := rfl
theorem st_eq (l : List UInt8) (x : UInt8) (n : Nat) (sc : Nm → Nat) (ar : Nm → List Nat) (inp : List Nat) (out : List UInt8) (k : Nat) :
  stI (prog l) (n + 6) (main l) (st x) ⟨sc, ar, inp, out, k + 10⟩ = (((((((blkR (stI (prog l) (n + 3) add) add.body ⟨fun y => if y = keyX then x.toNat else sc y, ar, inp, out, k + 6⟩).bind fun r s => .ok (r.getD 0) s).bind fun v s => .ok [v] s)).bind fun vs s => .ok 0 { s with out := s.out ++ [UInt8.ofNat (vs.headD 0)] }).bind fun _ s => IR.ok none s)) := rfl
theorem st_run (l : List UInt8) (x : UInt8) (n : Nat) (sc : Nm → Nat) (ar : Nm → List Nat) (inp : List Nat) (out : List UInt8) (k : Nat) :
  ∃ sc', stI (prog l) (n + 6) (main l) (st x) ⟨sc, ar, inp, out, k + 10⟩ = .ok none ⟨sc', ar, inp, out ++ [UInt8.ofNat ((sc keyK + x.toNat) % 4294967296)], k⟩ ∧ sc' keyK = (sc keyK + x.toNat) % 4294967296 := by
 rw [st_eq, add_body]
 exact ⟨_, rfl, rfl⟩
theorem sts_run (l0 : List UInt8) (n : Nat) : ∀ (l : List UInt8) (s : UInt8) (sc : Nm → Nat) (ar : Nm → List Nat) (inp : List Nat) (out : List UInt8) (k : Nat), 10 * l.length ≤ k → UInt8.ofNat (sc keyK) = s →
  ∃ sc', blkR (stI (prog l0) (n + 6) (main l0)) (l.map st) ⟨sc, ar, inp, out, k⟩ = .ok none ⟨sc', ar, inp, out ++ sums s l, k - 10 * l.length⟩
 | [], s, sc, ar, inp, out, k, hk, hs => ⟨sc, by rw [List.map_nil, blkR, sums, List.append_nil]; rfl⟩
 | x :: l, s, sc, ar, inp, out, k, hk, hs => by
  rw [List.length_cons] at hk ⊢
  obtain ⟨k, rfl⟩ : ∃ k', k = k' + 10 := ⟨k - 10, by omega⟩
  obtain ⟨sc1, h1, h2⟩ := st_run l0 x n sc ar inp out k
  have h3 : UInt8.ofNat ((sc keyK + x.toNat) % 4294967296) = s + x := by
   rw [← hs]
   apply UInt8.toNat_inj.1
   rw [UInt8.toNat_add, UInt8.toNat_ofNat', UInt8.toNat_ofNat']
   have := x.toNat_lt
   omega
  obtain ⟨sc2, h4⟩ := sts_run l0 n l (s + x) sc1 ar inp (out ++ [s + x]) k (by omega) (by rw [h2, h3])
  refine ⟨sc2, ?_⟩
  rw [List.map_cons, blkR, h1, h3]
  simp only [IR.bind]
  rw [h4, sums, List.append_assoc, List.singleton_append]
  congr 2
  omega
/-- The run of the calls. -/
theorem run (l : List UInt8) (hl : l.length ≤ 60) : (runI (prog l) [] 10000).out = sums 0 l ∧ (runI (prog l) [] 10000).err = 0 := by
 obtain ⟨sc', h⟩ := sts_run l 9994 l 0 (fun _ => 0) (startI (prog l) [] 10000).ar [] [] 10000 (by omega) rfl
 have e : runI (prog l) [] 10000 = endI 10000 (blkR (stI (prog l) (9994 + 6) (main l)) (l.map st) ⟨fun _ => 0, (startI (prog l) [] 10000).ar, [], [], 10000⟩) := rfl
 rw [e, h]
 exact ⟨rfl, rfl⟩
end Sta
end Go.Stele
namespace Go.Stele
def leftLv (k : Nat) : Nat := if k = 2 then k + 1 else k
end Go.Stele
namespace Go.Stele
theorem skip_white {c : UInt8} (hc : isWhite c = true) (b : List UInt8) : skipLen (c :: b) = (b.takeWhile isWhite).length + 1 := by
 have h47 : ([47, 47] : List UInt8).isPrefixOf (c :: b) = false := by
  cases h : ([47, 47] : List UInt8).isPrefixOf (c :: b) with
  | false => rfl
  | true =>
   simp only [List.isPrefixOf, Bool.and_eq_true, beq_iff_eq] at h
   rw [← h.1] at hc
   exact absurd hc (by decide)
 unfold skipLen
 rw [h47, if_neg (by decide), List.takeWhile_cons_of_pos hc]
 rfl
theorem skip_zero {s : List UInt8} (h : skipLen s = 0) : ([47, 47] : List UInt8).isPrefixOf s = false ∧ s.takeWhile isWhite = [] := by
 unfold skipLen at h
 split at h
 ·rename_i hp
  obtain ⟨r, rfl⟩ := List.isPrefixOf_iff_prefix.1 hp
  rw [List.cons_append, List.takeWhile_cons_of_pos (by decide)] at h
  cases h
 ·rename_i hp
  exact ⟨Bool.eq_false_iff.2 hp, List.eq_nil_of_length_eq_zero h⟩
theorem lexP_fuel : ∀ (f g : Nat) (s : List UInt8) (line : Int), s.length ≤ f → s.length ≤ g → lexP f s line = lexP g s line
 | 0, g, s, line, hf, _ => by
  have : s = [] := List.eq_nil_of_length_eq_zero (by omega)
  subst this
  cases g with
  | zero => rfl
  | succ g => rw [lexP, lexP, if_pos rfl]
 | f + 1, 0, s, line, _, hg => by
  have : s = [] := List.eq_nil_of_length_eq_zero (by omega)
  subst this
  rw [lexP, lexP, if_pos rfl]
 | f + 1, g + 1, s, line, hf, hg => by
  rw [lexP, lexP]
  by_cases h0 : s = []
  ·rw [if_pos h0, if_pos h0]
  rw [if_neg h0, if_neg h0]
  by_cases hk : skipLen s = 0
  ·rw [if_pos hk, if_pos hk]
   by_cases he : (lexToken s).2.2 ≠ 0
   ·rw [if_pos he, if_pos he]
   ·rw [if_neg he, if_neg he]
    obtain ⟨h1, h2⟩ := lexToken_size s (by simpa using he)
    rw [lexP_fuel f g _ _ (by rw [List.length_drop]; omega) (by rw [List.length_drop]; omega)]
  ·rw [if_neg hk, if_neg hk]
   exact lexP_fuel f g _ _ (by rw [List.length_drop]; omega) (by rw [List.length_drop]; omega)
/-- The tokens of s, as many as there are. -/
def lexAt (s : List UInt8) (line : Int) : Except (Int × Int) (List Tok) := lexP s.length s line
theorem lexAt_eq {f : Nat} {s : List UInt8} (h : s.length ≤ f) (line : Int) : lexP f s line = lexAt s line := lexP_fuel _ _ _ _ h (Nat.le_refl _)
theorem lexAt_nil (line : Int) : lexAt [] line = .ok [] := rfl
theorem lexAt_white {c : UInt8} (hc : isWhite c = true) (b : List UInt8) (line : Int) : lexAt (c :: b) line = lexAt b (line + (([c] : List UInt8).count 10 : Nat)) := by
 rw [← lexAt_eq (f := b.length + 1) (by simp), lexP, if_neg (by simp), if_neg (by rw [skip_white hc]; omega), skip_white hc, List.drop_succ_cons, List.take_succ_cons, lexAt_eq (by rw [List.length_drop]; omega)]
 cases b with
 | nil => simp [lexAt_nil]
 | cons d b =>
  by_cases hd : isWhite d = true
  ·rw [← lexAt_eq (f := b.length + 1) (s := d :: b) (by simp), lexP, if_neg (by simp), if_neg (by rw [skip_white hd]; omega), skip_white hd, List.takeWhile_cons_of_pos hd, List.length_cons, List.drop_succ_cons, List.take_succ_cons, lexAt_eq (by rw [List.length_drop]; omega)]
   congr 1
   rw [List.count_cons, List.count_singleton, List.count_cons]
   omega
  ·rw [List.takeWhile_cons_of_neg hd]
   simp
def kt (t : Tok) : Int × List UInt8 := (t.kind, t.text)
/-- The number of the first line changes nothing but the lines. -/
theorem lexP_line : ∀ (f : Nat) (s : List UInt8) (l1 l2 : Int) (A : List Tok), lexP f s l1 = .ok A → ∃ B, lexP f s l2 = .ok B ∧ B.map kt = A.map kt
 | 0, _, _, _, _, h => by
  cases h
  exact ⟨[], rfl, rfl⟩
 | f + 1, s, l1, l2, A, h => by
  rw [lexP] at h ⊢
  split at h
  ·rename_i h0
   cases h
   rw [if_pos h0]
   exact ⟨[], rfl, rfl⟩
  rename_i h0
  rw [if_neg h0]
  split at h
  ·rename_i hk
   rw [if_pos hk]
   split at h
   ·cases h
   ·rename_i he
    rw [if_neg he]
    cases hx : lexP f (s.drop (lexToken s).2.1) (l1 + ((s.take (lexToken s).2.1).count 10 : Nat)) with
    | error e => rw [hx] at h; cases h
    | ok A2 =>
     rw [hx] at h
     cases h
     obtain ⟨B, h1, h2⟩ := lexP_line f _ _ (l2 + ((s.take (lexToken s).2.1).count 10 : Nat)) A2 hx
     rw [h1]
     exact ⟨_, rfl, by rw [List.map_cons, List.map_cons, h2]; rfl⟩
  ·rename_i hk
   rw [if_neg hk]
   exact lexP_line f _ _ _ A h
end Go.Stele
namespace Go.Stele
open Go.Lib
theorem pu_append (M : Nat) : ∀ (l r : List UInt8) (acc u : Nat), parseUintM M acc l = .ok u → parseUintM M acc (l ++ r) = parseUintM M u r
 | [], r, acc, u, h => by
  rw [parseUintM] at h
  cases h
  rfl
 | c :: l, r, acc, u, h => by
  rw [parseUintM] at h
  rw [List.cons_append, parseUintM]
  split at h
  ·rename_i hc
   rw [if_pos hc]
   split at h
   ·cases h
   ·rename_i h1
    rw [if_neg h1]
    split at h
    ·cases h
    ·rename_i h2
     rw [if_neg h2]
     exact pu_append M l r _ u h
  ·cases h
theorem digit_toNat {d : Nat} (h : d < 10) : (UInt8.ofNat (48 + d)).toNat = 48 + d := by
 rw [UInt8.toNat_ofNat']
 omega
theorem pu_dec (M : Nat) (hM : M ≤ 4294967295) (u : Nat) (hu : u ≤ M) : parseUintM M 0 (decDigits u) = .ok u := by
 induction u using Nat.strongRecOn with
 | _ u ih =>
  have one : ∀ a d, d < 10 → a * 10 + d ≤ M → parseUintM M a [UInt8.ofNat (48 + d)] = .ok (a * 10 + d) := fun a d hd ha => by
   rw [parseUintM, digit_toNat hd, if_pos (by omega), if_neg (by omega), if_neg (by omega), parseUintM]
   congr 1
   omega
  rw [decDigits]
  split
  ·have := one 0 u (by assumption) (by omega)
   simpa using this
  ·rw [pu_append M _ _ 0 (u / 10) (ih (u / 10) (by omega) (by omega)), one _ _ (by omega) (by omega)]
   congr 1
   omega
theorem decDigits_ne (u : Nat) : decDigits u ≠ [] := by
 rw [decDigits]
 split <;> simp
theorem pu32_dec (u : Nat) (hu : u < 4294967296) : parseUintB 32 (decDigits u) = .ok u := by
 rw [parseUintB, if_neg (decDigits_ne u)]
 exact pu_dec _ (by decide) u (by omega)
theorem nDigits_le : ∀ (k u : Nat), u < 10 ^ (k + 1) → nDigits u ≤ k + 1
 | 0, u, h => by rw [nDigits_small (by simpa using h)]; omega
 | k + 1, u, h => by
  by_cases hu : u < 10
  ·rw [nDigits_small hu]; omega
  ·rw [nDigits_big hu]
   have := nDigits_le k (u / 10) (by rw [Nat.pow_succ] at h; omega)
   omega
theorem dec_len {u : Nat} (hu : u < 4294967296) : (decDigits u).length ≤ 10 := by
 rw [decDigits_length]
 exact nDigits_le 9 u (by omega)
theorem pu32_lt {l : List UInt8} {u : Nat} (h : parseUintB 32 l = .ok u) : u < 4294967296 := by
 have key : ∀ (l : List UInt8) (acc u : Nat), acc ≤ 4294967295 → parseUintM 4294967295 acc l = .ok u → u ≤ 4294967295 := by
  intro l
  induction l with
  | nil => intro acc u ha h; rw [parseUintM] at h; cases h; exact ha
  | cons c l ih =>
   intro acc u ha h
   rw [parseUintM] at h
   split at h
   ·split at h
    ·cases h
    ·split at h
     ·cases h
     ·exact ih _ _ (by omega) h
   ·cases h
 rw [parseUintB] at h
 split at h
 ·cases h
 ·have := key _ _ _ (by omega) h
  omega
/-- What a token is. -/
def TokOk (t : Tok) : Prop := t.text.length ≤ 100 ∧ (t.kind = 1 → ∃ u, u < 4294967296 ∧ parseUintB 32 t.text = .ok u ∧ t.text = decDigits u)
theorem lexToken_ok (s : List UInt8) (h : (lexToken s).2.2 = 0) : TokOk (lexToken s).1 := by
 match s with
 | [] => simp [lexToken, tokErr] at h
 | c :: r =>
  simp only [lexToken] at h ⊢
  split at h <;> rename_i hc
  ·rw [if_pos hc]
   unfold lexNumber at h ⊢
   split at h
   ·simp [tokErr] at h
   ·rename_i hw
    rw [if_neg hw]
    split at h
    ·rename_i u hu
     have hlt := pu32_lt hu
     exact ⟨by have := dec_len hlt; simp only; omega, fun _ => ⟨u, hlt, pu32_dec u hlt, rfl⟩⟩
    ·simp [tokErr] at h
  ·rw [if_neg hc]
   split at h <;> rename_i hl
   ·rw [if_pos hl]
    unfold lexName at h ⊢
    split at h
    ·simp [tokErr] at h
    ·rename_i hw
     rw [if_neg hw]
     refine ⟨by simp only; omega, fun hk => ?_⟩
     simp only at hk
     split at hk <;> cases hk
   ·rw [if_neg hl]
    split at h <;> rename_i hq
    ·rw [if_pos hq]
     unfold lexLiteral at h ⊢
     split at h
     ·split at h
      ·simp [tokErr] at h
      ·rename_i hx
       rename_i heq
       rename_i b _ _
       rw [if_neg hx]
       have hb : b.toNat < 4294967296 := Nat.lt_trans (UInt8.toNat_lt b) (by decide)
       exact ⟨by have := dec_len hb; simp only; omega, fun _ => ⟨b.toNat, hb, pu32_dec _ hb, rfl⟩⟩
     ·simp [tokErr] at h
    ·rw [if_neg hq]
     unfold lexSign at h ⊢
     split at h
     ·rename_i x hx
      have h2 := List.mem_of_find?_eq_some hx
      have : ∀ x ∈ signs, x.length ≤ 100 := by decide
      exact ⟨this x h2, fun hk => by cases hk⟩
     ·simp [tokErr] at h
theorem map_ok {A B : Type} {f : A → B} {r : Except (Int × Int) A} {b : B} (h : r.map f = .ok b) : ∃ a, r = .ok a ∧ f a = b := by
 cases r with
 | ok a => exact ⟨a, rfl, by injection h⟩
 | error e => cases h
theorem lexP_ok : ∀ (f : Nat) (s : List UInt8) (line : Int) (T : List Tok), lexP f s line = .ok T → T.length ≤ f ∧ ∀ t ∈ T, TokOk t
 | 0, s, line, T, h => by
  rw [lexP] at h
  cases h
  exact ⟨Nat.le_refl _, by simp⟩
 | f + 1, s, line, T, h => by
  rw [lexP] at h
  split at h
  ·cases h
   exact ⟨Nat.zero_le _, by simp⟩
  ·split at h
   ·split at h
    ·cases h
    ·rename_i he
     obtain ⟨T', h1, rfl⟩ := map_ok h
     obtain ⟨k1, k2⟩ := lexP_ok f _ _ _ h1
     refine ⟨by rw [List.length_cons]; omega, fun t ht => ?_⟩
     rcases List.mem_cons.1 ht with rfl | ht
     ·exact lexToken_ok s (by omega)
     ·exact k2 t ht
   ·obtain ⟨k1, k2⟩ := lexP_ok f _ _ _ h
    exact ⟨by omega, k2⟩
end Go.Stele
namespace Go.Stele
open Go.Lib
/-- A token's text is read as that token. -/
def Again (t : Tok) : Prop := t.text.length ≤ 24 ∧ t.text ≠ [] ∧ skipLen t.text = 0 ∧ (10 : UInt8) ∉ t.text ∧ lexToken t.text = (⟨t.kind, t.text, 0⟩, t.text.length, 0)
theorem skip_head {c : UInt8} {r : List UInt8} (hw : isWhite c = false) (h47 : c ≠ 47) : skipLen (c :: r) = 0 := by
 have h : ([47, 47] : List UInt8).isPrefixOf (c :: r) = false := by
  cases h : ([47, 47] : List UInt8).isPrefixOf (c :: r) with
  | false => rfl
  | true =>
   simp only [List.isPrefixOf, Bool.and_eq_true, beq_iff_eq] at h
   exact absurd h.1.symm h47
 unfold skipLen
 rw [h, if_neg (by decide), List.takeWhile_cons_of_neg (by rw [hw]; decide)]
 rfl
theorem digit_of {d : Nat} (h : d < 10) : isDigit (UInt8.ofNat (48 + d)) = true := by
 have h1 : (UInt8.ofNat (48 + d)).toNat = 48 + d := digit_toNat h
 unfold isDigit cv
 rw [h1]
 simp
 omega
theorem dec_digits (u : Nat) : ∀ c ∈ decDigits u, isDigit c = true := by
 induction u using Nat.strongRecOn with
 | ind u ih =>
  intro c hc
  by_cases h : u < 10
  ·rw [decDigits_one h] at hc
   rw [List.mem_singleton.1 hc]
   exact digit_of h
  ·rw [decDigits, dif_neg h] at hc
   rcases List.mem_append.1 hc with hc | hc
   ·exact ih (u / 10) (by omega) c hc
   ·rw [List.mem_singleton.1 hc]
    exact digit_of (by omega)
theorem digit_white {c : UInt8} (h : isDigit c = true) : isWhite c = false ∧ c ≠ 47 := by
 unfold isDigit at h
 rw [Bool.and_eq_true, decide_eq_true_eq, decide_eq_true_eq] at h
 refine ⟨?_, fun hc => ?_⟩
 ·unfold isWhite
  simp only [Bool.or_eq_false_iff, decide_eq_false_iff_not]
  omega
 ·subst hc
  exact absurd h.1 (by decide)
theorem letter_white {c : UInt8} (h : isLetter c = true) : isWhite c = false ∧ c ≠ 47 := by
 unfold isLetter at h
 rw [Bool.and_eq_true, decide_eq_true_eq, decide_eq_true_eq] at h
 refine ⟨?_, fun hc => ?_⟩
 ·unfold isWhite
  simp only [Bool.or_eq_false_iff, decide_eq_false_iff_not]
  omega
 ·subst hc
  exact absurd h.1 (by decide)
theorem tw_self {p : UInt8 → Bool} : ∀ {s : List UInt8}, (∀ c ∈ s, p c = true) → s.takeWhile p = s
 | [], _ => rfl
 | c :: s, h => by rw [List.takeWhile_cons_of_pos (h c (List.mem_cons_self ..)), tw_self fun d hd => h d (List.mem_cons_of_mem _ hd)]
theorem tw_mem {p : UInt8 → Bool} : ∀ {s : List UInt8} {c : UInt8}, c ∈ s.takeWhile p → p c = true
 | [], _, h => by cases h
 | d :: s, c, h => by
  by_cases hd : p d = true
  ·rw [List.takeWhile_cons_of_pos hd] at h
   rcases List.mem_cons.1 h with rfl | h
   ·exact hd
   ·exact tw_mem h
  ·rw [List.takeWhile_cons_of_neg hd] at h
   cases h
theorem again_dec {u : Nat} (hu : u < 4294967296) (l : Int) : Again ⟨1, decDigits u, l⟩ := by
 have hd := dec_digits u
 have hne := decDigits_ne u
 refine ⟨by have := dec_len hu; simp only; omega, hne, ?_, fun h => by have := hd _ h; exact absurd this (by decide), ?_⟩
 ·show skipLen (decDigits u) = 0
  cases hD : decDigits u with
  | nil => exact absurd hD hne
  | cons c r =>
   have := digit_white (hd c (by rw [hD]; exact List.mem_cons_self ..))
   exact skip_head this.1 this.2
 ·show lexToken (decDigits u) = (⟨1, decDigits u, 0⟩, (decDigits u).length, 0)
  have h1 : lexToken (decDigits u) = lexNumber (decDigits u) := by
   cases hD : decDigits u with
   | nil => exact absurd hD hne
   | cons c r => rw [lexToken, if_pos (hd c (by rw [hD]; exact List.mem_cons_self ..))]
  rw [h1]
  unfold lexNumber
  rw [tw_self hd, pu32_dec u hu, if_neg]
  unfold wordNext
  rw [List.getElem?_eq_none (Nat.le_refl _)]
  decide
theorem again_sign : ∀ x ∈ signs, x.length ≤ 24 ∧ x ≠ [] ∧ skipLen x = 0 ∧ (10 : UInt8) ∉ x ∧ lexToken x = (⟨4, x, 0⟩, x.length, 0) := by decide +kernel
theorem lexToken_again (s : List UInt8) (h : (lexToken s).2.2 = 0) : Again (lexToken s).1 := by
 match s with
 | [] => simp [lexToken, tokErr] at h
 | c :: r =>
  simp only [lexToken] at h ⊢
  split at h <;> rename_i hc
  ·rw [if_pos hc]
   unfold lexNumber at h ⊢
   split at h
   ·simp [tokErr] at h
   ·rename_i hw
    rw [if_neg hw]
    split at h
    ·rename_i u hu
     exact again_dec (pu32_lt hu) 0
    ·simp [tokErr] at h
  ·rw [if_neg hc]
   split at h <;> rename_i hl
   ·rw [if_pos hl]
    unfold lexName at h ⊢
    split at h
    ·simp [tokErr] at h
    ·rename_i hw
     rw [if_neg hw]
     have hin : isInner c = true := by simp [isInner, hl]
     have hW : (c :: r).takeWhile isInner = c :: r.takeWhile isInner := List.takeWhile_cons_of_pos hin
     have hall : ∀ d ∈ (c :: r).takeWhile isInner, isInner d = true := fun d hd => tw_mem hd
     have hww := letter_white hl
     refine ⟨by simp only; omega, by simp only; rw [hW]; simp, by simp only; rw [hW]; exact skip_head hww.1 hww.2, fun h10 => absurd (hall _ h10) (by decide), ?_⟩
     simp only
     have h1 : lexToken ((c :: r).takeWhile isInner) = lexName ((c :: r).takeWhile isInner) := by
      rw [hW, lexToken, if_neg hc, if_pos hl]
     rw [h1]
     unfold lexName
     rw [tw_self hall, if_neg hw]
   ·rw [if_neg hl]
    split at h <;> rename_i hq
    ·rw [if_pos hq]
     unfold lexLiteral at h ⊢
     split at h
     ·split at h
      ·simp [tokErr] at h
      ·rename_i hx
       rename_i heq
       rename_i b _ _
       rw [if_neg hx]
       exact again_dec (Nat.lt_trans (UInt8.toNat_lt b) (by decide)) 0
     ·simp [tokErr] at h
    ·rw [if_neg hq]
     unfold lexSign at h ⊢
     split at h
     ·rename_i x hx
      exact again_sign x (List.mem_of_find?_eq_some hx)
     ·simp [tokErr] at h
theorem lexP_again : ∀ (f : Nat) (s : List UInt8) (line : Int) (T : List Tok), lexP f s line = .ok T → ∀ t ∈ T, Again t
 | 0, s, line, T, h => by
  rw [lexP] at h
  cases h
  simp
 | f + 1, s, line, T, h => by
  rw [lexP] at h
  split at h
  ·cases h
   simp
  ·split at h
   ·split at h
    ·cases h
    ·rename_i he
     obtain ⟨T', h1, rfl⟩ := map_ok h
     have k2 := lexP_again f _ _ _ h1
     intro t ht
     rcases List.mem_cons.1 ht with rfl | ht
     ·exact lexToken_again s (by omega)
     ·exact k2 t ht
   ·exact lexP_again f _ _ _ h
end Go.Stele
namespace Go.Stele
/-- A step from i, op that ends well ends at a later place (strictly, if s), within the tokens, with as many open constructs. -/
def Good {A : Type} (T : List Tok) (s : Bool) (i op : Nat) (r : Res A) : Prop := match r with
 | .ok _ i' op' => i ≤ i' ∧ (s = true → i < i') ∧ (i ≤ T.length → i' ≤ T.length) ∧ op' = op
 | .err _ _ => True
def GoodO {A : Type} (T : List Tok) (s : Bool) (i op : Nat) (r : OR A) : Prop := ∀ r', r = some r' → Good T s i op r'
theorem isTok_lt {T : List Tok} {i : Nat} {xs : List (List UInt8)} (h : isTok T i xs = true) : i < T.length := by
 rcases Nat.lt_or_ge i T.length with h1 | h1
 ·exact h1
 ·rw [isTok, List.getElem?_eq_none h1] at h; cases h
theorem get_lt {T : List Tok} {i : Nat} {t : Tok} (h : T[i]? = some t) : i < T.length := (List.getElem?_eq_some_iff.1 h).1
theorem sWord_good (T : List Tok) (k : Int) (i op : Nat) : Good T true i op (sWord T k i op) := by
 unfold sWord
 split
 ·rename_i t ht
  have := get_lt ht
  split
  ·exact ⟨by omega, fun _ => by omega, fun _ => by omega, rfl⟩
  ·trivial
 ·trivial
theorem sNeed_good (T : List Tok) (x : List UInt8) (i op : Nat) : Good T true i op (sNeed T x i op) := by
 unfold sNeed
 split
 ·rename_i h
  have := isTok_lt h
  exact ⟨by omega, fun _ => by omega, fun _ => by omega, rfl⟩
 ·trivial
theorem sBegin_ok {T : List Tok} {x : List UInt8} {i op i' op' : Nat} {u : Unit} (h : sBegin T x i op = .ok u i' op') : i' = i + 1 ∧ op' = op + 1 ∧ op < 100 ∧ i < T.length := by
 unfold sBegin at h
 split at h
 ·rename_i h1
  have := isTok_lt h1
  split at h
  ·cases h
  ·cases h
   exact ⟨rfl, rfl, by omega, this⟩
 ·cases h
theorem sEnd_ok {T : List Tok} {x : List UInt8} {i op i' op' : Nat} {u : Unit} (h : sEnd T x i op = .ok u i' op') : i' = i + 1 ∧ op' = op - 1 ∧ i < T.length := by
 unfold sEnd sNeed at h
 split at h
 ·rename_i h1
  have := isTok_lt h1
  cases h
  exact ⟨rfl, rfl, this⟩
 ·cases h
theorem sNumber_good (T : List Tok) (i op : Nat) : Good T true i op (sNumber T i op) := by
 have := sWord_good T 1 i op
 unfold sNumber
 cases h : sWord T 1 i op with
 | ok v i' op' => rw [h] at this; exact this
 | err l e => trivial
theorem obind_some {A B : Type} {r : OR A} {f : A → Nat → Nat → OR B} {q : Res B} (h : obind r f = some q) :
  (∃ v i op, r = some (.ok v i op) ∧ f v i op = some q) ∨ (∃ l e, r = some (.err l e) ∧ q = .err l e) := by
 match r, h with
 | some (.ok v i op), h => exact .inl ⟨v, i, op, rfl, h⟩
 | some (.err l e), h => exact .inr ⟨l, e, rfl, by simpa [obind] using h.symm⟩
/-- One step behind another. -/
theorem good_bind {A B : Type} {T : List Tok} {s t : Bool} {i op j op1 : Nat} {r : OR A} {f : A → Nat → Nat → OR B} (hr : GoodO T s j op1 r)
  (hf : ∀ v i' , r = some (.ok v i' op1) → j ≤ i' → (s = true → j < i') → (j ≤ T.length → i' ≤ T.length) → GoodO T t i op (f v i' op1)) : GoodO T t i op (obind r f) := fun q hq => by
 rcases obind_some hq with ⟨v, i', op', h1, h2⟩ | ⟨l, e, _, rfl⟩
 ·obtain ⟨g1, g2, g3, g4⟩ := hr _ h1
  subst g4
  exact hf v i' h1 g1 g2 g3 q h2
 ·trivial
theorem good_some {A : Type} {T : List Tok} {s : Bool} {i op : Nat} {r : Res A} (h : Good T s i op r) : GoodO T s i op (some r) := fun r' hr => by cases hr; exact h
theorem good_none {A : Type} {T : List Tok} {s : Bool} {i op : Nat} : GoodO (A := A) T s i op none := fun r' hr => by cases hr
/-- From an earlier place on. -/
theorem GoodO.from {A : Type} {T : List Tok} {s t : Bool} {i j op : Nat} {r : OR A} (h : GoodO T s j op r) (hij : i ≤ j) (hs : t = true → i < j ∨ s = true) (hT : i ≤ T.length → j ≤ T.length) : GoodO T t i op r := fun r' hr => by
 have := h r' hr
 cases r' with
 | ok v i' op' =>
  obtain ⟨g1, g2, g3, g4⟩ := this
  refine ⟨by omega, fun ht => ?_, fun hi => g3 (hT hi), g4⟩
  rcases hs ht with h1 | h1
  ·omega
  ·have := g2 h1; omega
 | err l e => trivial
theorem sNamesLoop_good (T : List Tok) : ∀ (f : Nat) (acc : List (List UInt8)) (i op : Nat), GoodO T false i op (sNamesLoop T f acc i op)
 | 0, _, _, _ => good_none
 | f + 1, acc, i, op => by
  rw [sNamesLoop]
  split
  ·rename_i h
   have := isTok_lt h
   refine good_bind (good_some (sWord_good T 2 (i + 1) op)) fun v i' _ h1 h2 h3 => ?_
   exact (sNamesLoop_good T f _ i' op).from (by omega) (by simp) (fun _ => h3 (by omega))
  ·exact good_some ⟨by omega, by simp, fun h => h, rfl⟩
theorem sNames_good (T : List Tok) (f i op : Nat) : GoodO T true i op (sNames T f i op) :=
 good_bind (good_some (sWord_good T 2 i op)) fun v i' _ h1 h2 h3 => (sNamesLoop_good T f _ i' op).from h1 (fun _ => .inl (h2 rfl)) h3
/-- What stands between a sign that opens a construct and the one that closes it. -/
theorem good_wrap {A : Type} {T : List Tok} {s : Bool} {x y : List UInt8} {i op : Nat} {g : Nat → Nat → OR A} (hg : i < T.length → op < 100 → GoodO T s (i + 1) (op + 1) (g (i + 1) (op + 1))) :
  GoodO T true i op (obind (some (sBegin T x i op)) fun _ i' op' => obind (g i' op') fun v i' op' => obind (some (sEnd T y i' op')) fun _ i' op' => some (.ok v i' op')) := fun q hq => by
 rcases obind_some hq with ⟨v, i1, op1, h1, h2⟩ | ⟨l, e, _, rfl⟩
 ·injection h1 with h1
  obtain ⟨rfl, rfl, ho, hi⟩ := sBegin_ok h1
  rcases obind_some h2 with ⟨w, i2, op2, h3, h4⟩ | ⟨l, e, _, rfl⟩
  ·obtain ⟨g1, _, g3, rfl⟩ := hg hi ho _ h3
   rcases obind_some h4 with ⟨u, i3, op3, h5, h6⟩ | ⟨l, e, _, rfl⟩
   ·injection h5 with h5
    obtain ⟨rfl, rfl, hi2⟩ := sEnd_ok h5
    cases h6
    exact ⟨by omega, fun _ => by omega, fun _ => by omega, by omega⟩
   ·trivial
  ·trivial
 ·trivial
/-- All the functions for expressions. -/
theorem ex_good (T : List Tok) : ∀ f : Nat, (∀ k i op, GoodO T true i op (eLev T f k i op)) ∧ (∀ k e i op, GoodO T false i op (eLoop T f k e i op)) ∧ (∀ i op, GoodO T true i op (eUnary T f i op)) ∧
  (∀ i op, GoodO T true i op (ePrim T f i op)) ∧ (∀ i op, GoodO T true i op (eIndex T f i op)) ∧ (∀ i op, GoodO T true i op (eArgs T f i op)) ∧ (∀ acc i op, GoodO T false i op (eArgsLoop T f acc i op))
 | 0 => ⟨fun _ _ _ => by rw [eLev]; exact good_none, fun _ _ _ _ => by rw [eLoop]; exact good_none, fun _ _ => by rw [eUnary]; exact good_none, fun _ _ => by rw [ePrim]; exact good_none, fun _ _ => by rw [eIndex]; exact good_none, fun _ _ => by rw [eArgs]; exact good_none, fun _ _ _ => by rw [eArgsLoop]; exact good_none⟩
 | f + 1 => by
  obtain ⟨hL, hO, hU, hP, hI, hA, hB⟩ := ex_good T f
  have neg : ∀ (x : List UInt8) (nm : List UInt8) (i op : Nat), GoodO T true i op (obind (some (sBegin T x i op)) fun _ i' op' => obind (eUnary T f i' op') fun e i' op' => some (.ok (Ex.mk nm 0 [] [e]) i' (op' - 1))) := fun x nm i op q hq => by
   rcases obind_some hq with ⟨v, i1, op1, h1, h2⟩ | ⟨l, e, _, rfl⟩
   ·injection h1 with h1
    obtain ⟨rfl, rfl, ho, hi⟩ := sBegin_ok h1
    rcases obind_some h2 with ⟨w, i2, op2, h3, h4⟩ | ⟨l, e, _, rfl⟩
    ·obtain ⟨g1, _, g3, rfl⟩ := hU _ _ _ h3
     cases h4
     exact ⟨by omega, fun _ => by omega, fun _ => g3 (by omega), by omega⟩
    ·trivial
   ·trivial
  refine ⟨fun k i op => ?_, fun k e i op => ?_, fun i op => ?_, fun i op => ?_, fun i op => ?_, fun i op => ?_, fun acc i op => ?_⟩
  ·rw [eLev]
   split
   ·exact hU i op
   ·exact good_bind (hL (k + 1) i op) fun v i' _ h1 h2 h3 => (hO k v i' op).from h1 (fun _ => .inl (h2 rfl)) h3
  ·rw [eLoop]
   split
   ·rename_i h
    have := isTok_lt h
    refine good_bind (hL (k + 1) (i + 1) op) fun v i' _ h1 h2 h3 => ?_
    split
    ·exact good_some ⟨by omega, by simp, fun _ => h3 (by omega), rfl⟩
    ·exact (hO k _ i' op).from (by omega) (by simp) (fun _ => h3 (by omega))
   ·exact good_some ⟨by omega, by simp, fun h => h, rfl⟩
  ·rw [eUnary]
   split
   ·exact neg _ _ _ _
   ·split
    ·exact neg _ _ _ _
    ·exact hP i op
  ·rw [ePrim]
   split
   ·exact good_wrap (g := fun i op => eLev T f 0 i op) fun _ _ => hL 0 _ _
   ·split
    ·exact good_bind (good_some (sNumber_good T i op)) fun v i' _ h1 h2 h3 => good_some ⟨h1, fun _ => h2 rfl, h3, rfl⟩
    ·refine good_bind (good_some (sWord_good T 2 i op)) fun v i' _ h1 h2 h3 => ?_
     split
     ·exact good_bind (hI i' op) fun v i2 _ g1 g2 g3 => good_some ⟨by omega, fun _ => by have := h2 rfl; omega, fun h => g3 (h3 h), rfl⟩
     ·split
      ·exact good_bind (hA i' op) fun v i2 _ g1 g2 g3 => good_some ⟨by omega, fun _ => by have := h2 rfl; omega, fun h => g3 (h3 h), rfl⟩
      ·exact good_some ⟨h1, fun _ => h2 rfl, h3, rfl⟩
  ·rw [eIndex]
   exact good_wrap (g := fun i op => eLev T f 0 i op) fun _ _ => hL 0 _ _
  ·rw [eArgs]
   exact good_wrap (g := fun i op => eArgsLoop T f [] i op) fun _ _ => hB [] _ _
  ·rw [eArgsLoop]
   split
   ·exact good_some ⟨by omega, by simp, fun h => h, rfl⟩
   ·refine good_bind (s := false) (j := i) (op1 := op) ?_ fun v i' _ h1 h2 h3 => ?_
    ·split
     ·exact good_some ⟨by omega, by simp, fun h => h, rfl⟩
     ·exact GoodO.from (good_some (sNeed_good T [44] i op)) (by omega) (by simp) (fun h => h)
    ·exact good_bind (hL 0 i' op) fun v i2 _ g1 g2 g3 => (hB _ i2 op).from (by omega) (by simp) (fun h => g3 (h3 h))
end Go.Stele
/- The parser in plain Lean: where statements end; enough fuel. -/
namespace Go.Stele
theorem st_good (T : List Tok) : ∀ f : Nat, (∀ i op, GoodO T true i op (sBlock T f i op)) ∧ (∀ acc i op, GoodO T false i op (sStmts T f acc i op)) ∧ (∀ i op, GoodO T true i op (sStmt T f i op)) ∧ (∀ i op, GoodO T true i op (sSimple T f i op))
 | 0 => ⟨fun _ _ => by rw [sBlock]; exact good_none, fun _ _ _ => by rw [sStmts]; exact good_none, fun _ _ => by rw [sStmt]; exact good_none, fun _ _ => by rw [sSimple]; exact good_none⟩
 | f + 1 => by
  obtain ⟨hB, hL, hS, hM⟩ := st_good T f
  obtain ⟨gL, _, _, _, gI, gA, _⟩ := ex_good T f
  refine ⟨fun i op => ?_, fun acc i op => ?_, fun i op => ?_, fun i op => ?_⟩
  ·rw [sBlock]
   exact good_wrap (g := fun i op => sStmts T f [] i op) fun _ _ => hL [] _ _
  ·rw [sStmts]
   split
   ·exact good_some ⟨by omega, by simp, fun h => h, rfl⟩
   ·exact good_bind (hS i op) fun v i' _ h1 h2 h3 => (hL _ i' op).from h1 (by simp) h3
  ·rw [sStmt]
   split
   ·rename_i h
    have := isTok_lt h
    refine good_bind (gL 0 (i + 1) op) fun v i' _ h1 h2 h3 => good_bind (hB i' op) fun w i2 _ g1 g2 g3 => ?_
    split
    ·rename_i h4
     have := isTok_lt h4
     refine good_bind (hB (i2 + 1) op) fun x i3 _ k1 k2 k3 => good_some ⟨by omega, fun _ => by omega, fun _ => k3 (by omega), rfl⟩
    ·exact good_some ⟨by omega, fun _ => by omega, fun _ => g3 (h3 (by omega)), rfl⟩
   ·split
    ·rename_i h
     have := isTok_lt h
     exact good_bind (gL 0 (i + 1) op) fun v i' _ h1 h2 h3 => good_bind (hB i' op) fun w i2 _ g1 g2 g3 => good_some ⟨by omega, fun _ => by omega, fun _ => g3 (h3 (by omega)), rfl⟩
    ·exact good_bind (hM i op) fun v i' _ h1 h2 h3 => good_bind (good_some (sNeed_good T [59] i' op)) fun w i2 _ g1 g2 g3 => good_some ⟨by omega, fun _ => by have := h2 rfl; omega, fun hh => g3 (h3 hh), rfl⟩
  ·rw [sSimple]
   split
   ·rename_i h
    have := isTok_lt h
    exact good_bind (gL 0 (i + 1) op) fun v i' _ h1 h2 h3 => good_some ⟨by omega, fun _ => by omega, fun _ => h3 (by omega), rfl⟩
   ·split
    ·rename_i h
     have := isTok_lt h
     exact good_some ⟨by omega, fun _ => by omega, fun _ => by omega, rfl⟩
    ·refine good_bind (good_some (sWord_good T 2 i op)) fun v i' _ h1 h2 h3 => ?_
     split
     ·exact good_bind (gA i' op) fun w i2 _ g1 g2 g3 => good_some ⟨by omega, fun _ => by have := h2 rfl; omega, fun hh => g3 (h3 hh), rfl⟩
     ·split
      ·exact good_bind (gI i' op) fun w i2 _ g1 g2 g3 => good_bind (good_some (sNeed_good T [61] i2 op)) fun u i3 _ k1 k2 k3 => good_bind (gL 0 i3 op) fun x i4 _ m1 m2 m3 =>
        good_some ⟨by omega, fun _ => by have := h2 rfl; omega, fun hh => m3 (k3 (g3 (h3 hh))), rfl⟩
      ·exact good_bind (good_some (sNeed_good T [61] i' op)) fun u i3 _ k1 k2 k3 => good_bind (gL 0 i3 op) fun x i4 _ m1 m2 m3 =>
        good_some ⟨by omega, fun _ => by have := h2 rfl; omega, fun hh => m3 (k3 (h3 hh)), rfl⟩
theorem sVars_good (T : List Tok) : ∀ (f : Nat) (acc : List (List UInt8)) (i op : Nat), GoodO T (isTok T i [kwVar]) i op (sVars T f acc i op)
 | 0, _, _, _ => by rw [sVars]; exact good_none
 | f + 1, acc, i, op => by
  rw [sVars]
  split
  ·rename_i h
   have := isTok_lt h
   exact good_bind (sNames_good T f (i + 1) op) fun v i' _ h1 h2 h3 => good_bind (good_some (sNeed_good T [59] i' op)) fun u i2 _ g1 g2 g3 =>
    (sVars_good T f _ i2 op).from (by omega) (fun _ => .inl (by omega)) (fun _ => g3 (h3 (by omega)))
  ·rename_i h
   exact good_some ⟨by omega, fun hh => absurd hh h, fun h => h, rfl⟩
/-! ### Enough fuel -/
def Ends {A : Type} (r : OR A) : Prop := ∃ q, r = some q
theorem ends_bind {A B : Type} {r : OR A} {f : A → Nat → Nat → OR B} (h : Ends r) (k : ∀ v i op, r = some (.ok v i op) → Ends (f v i op)) : Ends (obind r f) := by
 obtain ⟨q, rfl⟩ := h
 cases q with
 | ok v i op => exact k v i op rfl
 | err l e => exact ⟨_, rfl⟩
theorem ends_some {A : Type} {r : Res A} : Ends (some r) := ⟨_, rfl⟩
theorem ends_begin {B : Type} {T : List Tok} {x : List UInt8} {i op : Nat} {g : Unit → Nat → Nat → OR B} (k : i < T.length → op < 100 → Ends (g () (i + 1) (op + 1))) : Ends (obind (some (sBegin T x i op)) g) :=
 ends_bind ends_some fun v i1 op1 h1 => by
  injection h1 with h1
  obtain ⟨rfl, rfl, ho, hi⟩ := sBegin_ok h1
  exact k hi ho
theorem ex_ends (T : List Tok) : ∀ f : Nat, (∀ k i op, k ≤ 6 → i ≤ T.length → 10 * (T.length - i) + 20 - k ≤ f → Ends (eLev T f k i op)) ∧ (∀ k e i op, k ≤ 5 → i ≤ T.length → 10 * (T.length - i) + 11 ≤ f → Ends (eLoop T f k e i op)) ∧
  (∀ i op, i ≤ T.length → 10 * (T.length - i) + 13 ≤ f → Ends (eUnary T f i op)) ∧ (∀ i op, i ≤ T.length → 10 * (T.length - i) + 12 ≤ f → Ends (ePrim T f i op)) ∧ (∀ i op, i ≤ T.length → 10 * (T.length - i) + 11 ≤ f → Ends (eIndex T f i op)) ∧
  (∀ i op, i ≤ T.length → 10 * (T.length - i) + 12 ≤ f → Ends (eArgs T f i op)) ∧ (∀ acc i op, i ≤ T.length → 10 * (T.length - i) + 21 ≤ f → Ends (eArgsLoop T f acc i op))
 | 0 => ⟨fun _ _ _ _ _ _ => by omega, fun _ _ _ _ _ _ _ => by omega, fun _ _ _ _ => by omega, fun _ _ _ _ => by omega, fun _ _ _ _ => by omega, fun _ _ _ _ => by omega, fun _ _ _ _ _ => by omega⟩
 | f + 1 => by
  obtain ⟨hL, hO, hU, hP, hI, hA, hB⟩ := ex_ends T f
  obtain ⟨gL, gO, gU, gP, gI, gA, gB⟩ := ex_good T f
  have neg : ∀ (x nm : List UInt8) (i op : Nat), 10 * (T.length - i) + 13 ≤ f + 1 → Ends (obind (some (sBegin T x i op)) fun _ i' op' => obind (eUnary T f i' op') fun e i' op' => some (.ok (Ex.mk nm 0 [] [e]) i' (op' - 1))) := fun x nm i op hf =>
   ends_begin fun hi ho => ends_bind (hU _ _ (by omega) (by omega)) fun v i2 op2 _ => ends_some
  refine ⟨fun k i op hk hi hf => ?_, fun k e i op hk hi hf => ?_, fun i op hi hf => ?_, fun i op hi hf => ?_, fun i op hi hf => ?_, fun i op hi hf => ?_, fun acc i op hi hf => ?_⟩
  ·rw [eLev]
   split
   ·exact hU i op hi (by omega)
   ·refine ends_bind (hL (k + 1) i op (by omega) hi (by omega)) fun v i' op' h => ?_
    obtain ⟨g1, g2, g3, rfl⟩ := gL (k + 1) i op _ h
    have := g2 rfl
    exact hO k v i' op' (by omega) (g3 hi) (by have := g3 hi; omega)
  ·rw [eLoop]
   split
   ·rename_i h
    have := isTok_lt h
    refine ends_bind (hL (k + 1) (i + 1) op (by omega) (by omega) (by omega)) fun v i' op' h => ?_
    obtain ⟨g1, g2, g3, rfl⟩ := gL (k + 1) (i + 1) op _ h
    have := g3 (by omega)
    split
    ·exact ends_some
    ·exact hO k _ i' op' hk this (by omega)
   ·exact ends_some
  ·rw [eUnary]
   split
   ·exact neg _ _ _ _ hf
   ·split
    ·exact neg _ _ _ _ hf
    ·exact hP i op hi (by omega)
  ·rw [ePrim]
   split
   ·exact ends_begin fun hlt ho => ends_bind (hL 0 _ _ (by omega) (by omega) (by omega)) fun v i2 op2 _ => ends_bind ends_some fun _ _ _ _ => ends_some
   ·split
    ·exact ends_bind ends_some fun _ _ _ _ => ends_some
    ·refine ends_bind ends_some fun v i' op' h => ?_
     injection h with h
     have hg := sWord_good T 2 i op
     rw [h] at hg
     obtain ⟨h1, h2, h3, rfl⟩ := hg
     have := h2 rfl
     have := h3 hi
     split
     ·exact ends_bind (hI i' _ (by omega) (by omega)) fun _ _ _ _ => ends_some
     ·split
      ·exact ends_bind (hA i' _ (by omega) (by omega)) fun _ _ _ _ => ends_some
      ·exact ends_some
  ·rw [eIndex]
   exact ends_begin fun hlt ho => ends_bind (hL 0 _ _ (by omega) (by omega) (by omega)) fun v i2 op2 _ => ends_bind ends_some fun _ _ _ _ => ends_some
  ·rw [eArgs]
   exact ends_begin fun hlt ho => ends_bind (hB [] _ _ (by omega) (by omega)) fun v i2 op2 _ => ends_bind ends_some fun _ _ _ _ => ends_some
  ·rw [eArgsLoop]
   split
   ·exact ends_some
   ·refine ends_bind ends_some fun v i' op' h => ?_
    have hg : i ≤ i' ∧ i' ≤ T.length := by
     injection h with h
     split at h
     ·cases h; exact ⟨Nat.le_refl _, hi⟩
     ·have hg := sNeed_good T [44] i op
      rw [h] at hg
      exact ⟨hg.1, hg.2.2.1 hi⟩
    refine ends_bind (hL 0 i' op' (by omega) hg.2 (by omega)) fun v2 i2 op2 h2 => ?_
    obtain ⟨g1, g2, g3, rfl⟩ := gL 0 i' op' _ h2
    have := g2 rfl
    have := g3 hg.2
    exact hB _ i2 _ this (by omega)
theorem st_ends (T : List Tok) : ∀ f : Nat, (∀ i op, i ≤ T.length → 10 * (T.length - i) + 5 ≤ f → Ends (sBlock T f i op)) ∧ (∀ acc i op, i ≤ T.length → 10 * (T.length - i) + 14 ≤ f → Ends (sStmts T f acc i op)) ∧
  (∀ i op, i ≤ T.length → 10 * (T.length - i) + 13 ≤ f → Ends (sStmt T f i op)) ∧ (∀ i op, i ≤ T.length → 10 * (T.length - i) + 12 ≤ f → Ends (sSimple T f i op))
 | 0 => ⟨fun _ _ _ _ => by omega, fun _ _ _ _ _ => by omega, fun _ _ _ _ => by omega, fun _ _ _ _ => by omega⟩
 | f + 1 => by
  obtain ⟨hB, hL, hS, hM⟩ := st_ends T f
  obtain ⟨eL, _, _, _, eI, eA, _⟩ := ex_ends T f
  obtain ⟨gL, _, _, _, gI, gA, _⟩ := ex_good T f
  obtain ⟨kB, kL, kS, kM⟩ := st_good T f
  refine ⟨fun i op hi hf => ?_, fun acc i op hi hf => ?_, fun i op hi hf => ?_, fun i op hi hf => ?_⟩
  ·rw [sBlock]
   exact ends_begin fun hlt ho => ends_bind (hL [] _ _ (by omega) (by omega)) fun v i2 op2 _ => ends_bind ends_some fun _ _ _ _ => ends_some
  ·rw [sStmts]
   split
   ·exact ends_some
   ·refine ends_bind (hS i op hi (by omega)) fun v i' op' h => ?_
    obtain ⟨g1, g2, g3, rfl⟩ := kS i op _ h
    have := g2 rfl
    have := g3 hi
    exact hL _ i' _ (by omega) (by omega)
  ·rw [sStmt]
   split
   ·rename_i h
    have := isTok_lt h
    refine ends_bind (eL 0 (i + 1) op (by omega) (by omega) (by omega)) fun v i' op' h => ?_
    obtain ⟨g1, g2, g3, rfl⟩ := gL 0 (i + 1) op _ h
    have := g2 rfl
    have := g3 (by omega)
    refine ends_bind (hB i' _ (by omega) (by omega)) fun v2 i2 op2 h2 => ?_
    obtain ⟨q1, q2, q3, rfl⟩ := kB i' _ _ h2
    have := q3 (by omega)
    split
    ·rename_i h4
     have := isTok_lt h4
     exact ends_bind (hB (i2 + 1) _ (by omega) (by omega)) fun _ _ _ _ => ends_some
    ·exact ends_some
   ·split
    ·rename_i h
     have := isTok_lt h
     refine ends_bind (eL 0 (i + 1) op (by omega) (by omega) (by omega)) fun v i' op' h => ?_
     obtain ⟨g1, g2, g3, rfl⟩ := gL 0 (i + 1) op _ h
     have := g2 rfl
     have := g3 (by omega)
     exact ends_bind (hB i' _ (by omega) (by omega)) fun v2 i2 op2 h2 => ends_some
    ·exact ends_bind (hM i op hi (by omega)) fun _ _ _ _ => ends_bind ends_some fun _ _ _ _ => ends_some
  ·rw [sSimple]
   split
   ·rename_i h
    have := isTok_lt h
    exact ends_bind (eL 0 (i + 1) op (by omega) (by omega) (by omega)) fun _ _ _ _ => ends_some
   ·split
    ·exact ends_some
    ·refine ends_bind ends_some fun v i' op' h => ?_
     injection h with h
     have hg := sWord_good T 2 i op
     rw [h] at hg
     obtain ⟨h1, h2, h3, rfl⟩ := hg
     have := h2 rfl
     have := h3 hi
     split
     ·exact ends_bind (eA i' _ (by omega) (by omega)) fun _ _ _ _ => ends_some
     ·have tail : ∀ (i2 op2 : Nat) (g : Ex → Sm), i' ≤ i2 → i2 ≤ T.length → Ends (obind (some (sNeed T [61] i2 op2)) fun _ i' op' => obind (eLev T f 0 i' op') fun e i' op' => some (.ok (g e) i' op')) := fun i2 op2 g hi1 hi2 => by
       refine ends_bind ends_some fun v i3 op3 h3 => ?_
       injection h3 with h3
       have hg := sNeed_good T [61] i2 op2
       rw [h3] at hg
       have := hg.2.2.1 hi2
       have := hg.1
       exact ends_bind (eL 0 i3 _ (by omega) (by omega) (by omega)) fun _ _ _ _ => ends_some
      split
      ·refine ends_bind (eI i' _ (by omega) (by omega)) fun v2 i2 op2 h2 => ?_
       obtain ⟨q1, q2, q3, rfl⟩ := gI i' _ _ h2
       exact tail i2 _ _ q1 (q3 (by omega))
      ·exact tail i' _ _ (Nat.le_refl _) (by omega)
theorem sNamesLoop_ends (T : List Tok) : ∀ (f : Nat) (acc : List (List UInt8)) (i op : Nat), i ≤ T.length → T.length - i + 1 ≤ f → Ends (sNamesLoop T f acc i op)
 | 0, _, _, _, _, h => by omega
 | f + 1, acc, i, op, hi, hf => by
  rw [sNamesLoop]
  split
  ·rename_i h
   have := isTok_lt h
   refine ends_bind ends_some fun v i' op' h => ?_
   injection h with h
   have hg := sWord_good T 2 (i + 1) op
   rw [h] at hg
   obtain ⟨h1, h2, h3, rfl⟩ := hg
   exact sNamesLoop_ends T f _ i' _ (h3 (by omega)) (by have := h3 (by omega); omega)
  ·exact ends_some
theorem sNames_ends (T : List Tok) (f i op : Nat) (hi : i ≤ T.length) (hf : T.length - i + 1 ≤ f) : Ends (sNames T f i op) :=
 ends_bind ends_some fun v i' op' h => by
  injection h with h
  have hg := sWord_good T 2 i op
  rw [h] at hg
  obtain ⟨h1, h2, h3, rfl⟩ := hg
  exact sNamesLoop_ends T f _ i' _ (h3 hi) (by have := h3 hi; omega)
theorem sVars_ends (T : List Tok) : ∀ (f : Nat) (acc : List (List UInt8)) (i op : Nat), i ≤ T.length → T.length - i + 2 ≤ f → Ends (sVars T f acc i op)
 | 0, _, _, _, _, h => by omega
 | f + 1, acc, i, op, hi, hf => by
  rw [sVars]
  split
  ·rename_i h
   have := isTok_lt h
   refine ends_bind (sNames_ends T f (i + 1) op (by omega) (by omega)) fun v i' op' h => ?_
   obtain ⟨g1, g2, g3, rfl⟩ := sNames_good T f (i + 1) op _ h
   have := g3 (by omega)
   refine ends_bind ends_some fun v i2 op2 h2 => ?_
   injection h2 with h2
   have hg := sNeed_good T [59] i' op'
   rw [h2] at hg
   obtain ⟨h1, h2, h3, rfl⟩ := hg
   have := h3 (by omega)
   exact sVars_ends T f _ i2 _ (by omega) (by omega)
  ·exact ends_some
theorem obind_word {B : Type} {T : List Tok} {k : Int} {i op : Nat} {g : List UInt8 → Nat → Nat → OR B} (h : ∀ s, i < T.length → Ends (g s (i + 1) op)) : Ends (obind (some (sWord T k i op)) g) :=
 ends_bind ends_some fun v i' op' hw => by
  injection hw with hw
  unfold sWord at hw
  split at hw
  ·rename_i t ht
   have := get_lt ht
   split at hw
   ·cases hw; exact h _ this
   ·cases hw
  ·cases hw
theorem obind_end {B : Type} {T : List Tok} {x : List UInt8} {i op : Nat} {g : Unit → Nat → Nat → OR B} (h : i < T.length → Ends (g () (i + 1) (op - 1))) : Ends (obind (some (sEnd T x i op)) g) :=
 ends_bind ends_some fun v i' op' hw => by
  injection hw with hw
  obtain ⟨rfl, rfl, hlt⟩ := sEnd_ok hw
  exact h hlt
theorem sFunc_ends (T : List Tok) (f i op : Nat) (hi : i ≤ T.length) (hf : 10 * (T.length - i) + 14 ≤ f) : Ends (sFunc T f i op) := by
 unfold sFunc
 refine obind_word fun s h1 => ends_begin fun h2 h3 => ends_bind ?_ fun v i2 op2 h4 => obind_end fun h5 => ends_begin fun h6 h7 => ends_bind (sVars_ends T f [] _ _ (by omega) ?_) fun v2 i3 op3 h8 => ends_bind ((st_ends T f).2.1 [] _ _ ?_ ?_) fun v3 i4 op4 h9 => ends_bind ends_some fun _ _ _ _ => ends_some
 ·split
  ·exact ends_some
  ·exact sNames_ends T f _ _ (by omega) (by omega)
 ·have : i + 1 + 1 ≤ i2 := by
   split at h4
   ·cases h4; omega
   ·exact (sNames_good T f _ _ _ h4).1
  omega
 ·exact (sVars_good T f _ _ _ _ h8).2.2.1 (by omega)
 ·have : i + 1 + 1 ≤ i2 := by
   split at h4
   ·cases h4; omega
   ·exact (sNames_good T f _ _ _ h4).1
  have := (sVars_good T f _ _ _ _ h8).1
  omega
theorem sFunc_good (T : List Tok) (f i op : Nat) : GoodO T true i op (sFunc T f i op) := by
 intro q hq0
 unfold sFunc at hq0
 cases q with
 | err l e => trivial
 | ok v i9 op9 =>
  rcases obind_some hq0 with ⟨s, i1, op1, h1, hq1⟩ | ⟨l, e, _, h⟩
  ·injection h1 with h1
   have g1 := sWord_good T 2 i op
   rw [h1] at g1
   obtain ⟨a1, a2, a3, rfl⟩ := g1
   have := a2 rfl
   rcases obind_some hq1 with ⟨_, i2, op2, h2, hq2⟩ | ⟨l, e, _, h⟩
   ·injection h2 with h2
    obtain ⟨rfl, rfl, b1, b2⟩ := sBegin_ok h2
    rcases obind_some hq2 with ⟨ps, i3, op3, h3, hq3⟩ | ⟨l, e, _, h⟩
    ·have c : i1 + 1 ≤ i3 ∧ (i1 + 1 ≤ T.length → i3 ≤ T.length) ∧ op3 = op1 + 1 := by
      split at h3
      ·cases h3; exact ⟨Nat.le_refl _, fun h => h, rfl⟩
      ·obtain ⟨c1, _, c3, c4⟩ := sNames_good T f _ _ _ h3
       exact ⟨c1, c3, c4⟩
     obtain ⟨c1, c2, rfl⟩ := c
     rcases obind_some hq3 with ⟨_, i4, op4, h4, hq4⟩ | ⟨l, e, _, h⟩
     ·injection h4 with h4
      obtain ⟨rfl, rfl, d1⟩ := sEnd_ok h4
      rcases obind_some hq4 with ⟨_, i5, op5, h5, hq5⟩ | ⟨l, e, _, h⟩
      ·injection h5 with h5
       obtain ⟨rfl, rfl, e1, e2⟩ := sBegin_ok h5
       rcases obind_some hq5 with ⟨ls, i6, op6, h6, hq6⟩ | ⟨l, e, _, h⟩
       ·obtain ⟨f1, _, f3, rfl⟩ := sVars_good T f _ _ _ _ h6
        have := f3 (by omega)
        rcases obind_some hq6 with ⟨bs, i7, op7, h7, hq7⟩ | ⟨l, e, _, h⟩
        ·obtain ⟨k1, _, k3, rfl⟩ := (st_good T f).2.1 _ _ _ _ h7
         have := k3 (by omega)
         rcases obind_some hq7 with ⟨_, i8, op8, h8, hq8⟩ | ⟨l, e, _, h⟩
         ·injection h8 with h8
          obtain ⟨rfl, rfl, m1⟩ := sEnd_ok h8
          cases hq8
          exact ⟨by omega, fun _ => by omega, fun _ => by omega, by omega⟩
         ·cases h
        ·cases h
       ·cases h
      ·cases h
     ·cases h
    ·cases h
   ·cases h
  ·cases h
theorem sArray_good (T : List Tok) (i op : Nat) : GoodO T true i op (sArray T i op) := by
 intro q hq0
 unfold sArray at hq0
 cases q with
 | err l e => trivial
 | ok v i9 op9 =>
  rcases obind_some hq0 with ⟨s, i1, op1, h1, hq1⟩ | ⟨l, e, _, h⟩
  ·injection h1 with h1
   have g1 := sWord_good T 2 i op
   rw [h1] at g1
   obtain ⟨a1, a2, a3, rfl⟩ := g1
   have := a2 rfl
   rcases obind_some hq1 with ⟨_, i2, op2, h2, hq2⟩ | ⟨l, e, _, h⟩
   ·injection h2 with h2
    obtain ⟨rfl, rfl, b1, b2⟩ := sBegin_ok h2
    rcases obind_some hq2 with ⟨ps, i3, op3, h3, hq3⟩ | ⟨l, e, _, h⟩
    ·injection h3 with h3
     have g3 := sNumber_good T (i1 + 1) (op1 + 1)
     rw [h3] at g3
     obtain ⟨c1, c2, c3, rfl⟩ := g3
     have := c2 rfl
     rcases obind_some hq3 with ⟨_, i4, op4, h4, hq4⟩ | ⟨l, e, _, h⟩
     ·injection h4 with h4
      obtain ⟨rfl, rfl, d1⟩ := sEnd_ok h4
      rcases obind_some hq4 with ⟨_, i5, op5, h5, hq5⟩ | ⟨l, e, _, h⟩
      ·injection h5 with h5
       have g5 := sNeed_good T [59] (i3 + 1) op4
       rw [h5] at g5
       obtain ⟨e1, e2, e3, rfl⟩ := g5
       have := e2 rfl
       have := e3 (by omega)
       cases hq5
       exact ⟨by omega, fun _ => by omega, fun _ => by omega, by omega⟩
      ·cases h
     ·cases h
    ·cases h
   ·cases h
  ·cases h
theorem sArray_ends (T : List Tok) (i op : Nat) : Ends (sArray T i op) := by
 unfold sArray
 exact obind_word fun s _ => ends_begin fun _ _ => ends_bind ends_some fun _ _ _ _ => ends_bind ends_some fun _ _ _ _ => ends_bind ends_some fun _ _ _ _ => ends_some
theorem sProg_ends (T : List Tok) : ∀ (f : Nat) (p : Pr) (i op : Nat), i ≤ T.length → 10 * (T.length - i) + 20 ≤ f → Ends (sProg T f p i op)
 | 0, _, _, _, _, h => by omega
 | f + 1, p, i, op, hi, hf => by
  rw [sProg]
  split
  ·exact ends_some
  ·split
   ·rename_i h
    have := isTok_lt h
    refine ends_bind (sVars_ends T f _ i op hi (by omega)) fun v i' op' h2 => ?_
    obtain ⟨g1, g2, g3, rfl⟩ := sVars_good T f _ i op _ h2
    have := g2 h
    have := g3 hi
    exact sProg_ends T f _ i' _ (by omega) (by omega)
   ·split
    ·rename_i h
     have := isTok_lt h
     refine ends_bind (sArray_ends T _ _) fun v i' op' h2 => ?_
     obtain ⟨g1, g2, g3, rfl⟩ := sArray_good T _ _ _ h2
     have := g3 (by omega)
     exact sProg_ends T f _ i' _ (by omega) (by omega)
    ·split
     ·rename_i h
      have := isTok_lt h
      refine ends_bind (sFunc_ends T f _ _ (by omega) (by omega)) fun v i' op' h2 => ?_
      obtain ⟨g1, g2, g3, rfl⟩ := sFunc_good T f _ _ _ h2
      have := g3 (by omega)
      exact sProg_ends T f _ i' _ (by omega) (by omega)
     ·exact ends_some
end Go.Stele
namespace Go.Stele
theorem nd_word {T : List Tok} {k : Int} {i op : Nat} {s : List UInt8} {i' op' : Nat} (h : some (sWord T k i op) = some (.ok s i' op')) : i' = i + 1 ∧ op' = op := by
 injection h with h
 unfold sWord at h
 split at h
 ·split at h
  ·cases h; exact ⟨rfl, rfl⟩
  ·cases h
 ·cases h
theorem nd_need {T : List Tok} {x : List UInt8} {i op : Nat} {u : Unit} {i' op' : Nat} (h : some (sNeed T x i op) = some (.ok u i' op')) : i' = i + 1 ∧ op' = op := by
 injection h with h
 unfold sNeed at h
 split at h
 ·cases h; exact ⟨rfl, rfl⟩
 ·cases h
end Go.Stele
namespace Go.Stele
abbrev KT := Int × List UInt8
def sg (c : UInt8) : KT := (4, [c])
def NameOk (x : List UInt8) : Prop := Again ⟨2, x, 0⟩
mutual
/-- The expression, printed at this level: its tokens, and how many constructs are open within. -/
inductive PE : Ex → Nat → List KT → Nat → Prop
 | num {n k : Nat} (h : n < 4294967296) : PE (.mk nNum n [] []) k [(1, Go.Lib.decDigits n)] 0
 | var {s : List UInt8} {k : Nat} (h : NameOk s) : PE (.mk nVar 0 s []) k [(2, s)] 0
 | elem {s : List UInt8} {k : Nat} {a : Ex} {ts : List KT} {d : Nat} (h : NameOk s) (ha : PE a 0 ts d) : PE (.mk nElem 0 s [a]) k ((2, s) :: sg 91 :: (ts ++ [sg 93])) (d + 1)
 | call {s : List UInt8} {k : Nat} {l : List Ex} {ts : List KT} {d : Nat} (h : NameOk s) (hl : PEs l ts d) : PE (.mk nCall 0 s l) k ((2, s) :: sg 40 :: (ts ++ [sg 41])) (d + 1)
 | neg {k : Nat} {a : Ex} {ts : List KT} {d : Nat} (ha : PE a 6 ts d) : PE (.mk nNeg 0 [] [a]) k (sg 45 :: ts) (d + 1)
 | not {k : Nat} {a : Ex} {ts : List KT} {d : Nat} (ha : PE a 6 ts d) : PE (.mk nNot 0 [] [a]) k (sg 33 :: ts) (d + 1)
 | bin {s k : Nat} {op : List UInt8} {a b : Ex} {t1 t2 : List KT} {d1 d2 : Nat} (hs : s < 6) (ho : op ∈ lvOps s) (hk : k ≤ s) (ha : PE a (leftLv s) t1 d1) (hb : PE b (s + 1) t2 d2) : PE (.mk op 0 [] [a, b]) k (t1 ++ (4, op) :: t2) (max d1 d2)
 | par {s k : Nat} {op : List UInt8} {a b : Ex} {t1 t2 : List KT} {d1 d2 : Nat} (hs : s < 6) (ho : op ∈ lvOps s) (hk : s < k) (ha : PE a (leftLv s) t1 d1) (hb : PE b (s + 1) t2 d2) : PE (.mk op 0 [] [a, b]) k (sg 40 :: ((t1 ++ (4, op) :: t2) ++ [sg 41])) (max d1 d2 + 1)
/-- Expressions with commas between them. -/
inductive PEs : List Ex → List KT → Nat → Prop
 | nil : PEs [] [] 0
 | one {a : Ex} {ts : List KT} {d : Nat} (ha : PE a 0 ts d) : PEs [a] ts d
 | more {a b : Ex} {l : List Ex} {t1 t2 : List KT} {d1 d2 : Nat} (ha : PE a 0 t1 d1) (hl : PEs (b :: l) t2 d2) : PEs (a :: b :: l) (t1 ++ sg 44 :: t2) (max d1 d2)
end
theorem PE.weak {e : Ex} {k k' : Nat} {ts : List KT} {d : Nat} (h : PE e k ts d) (hk : k' ≤ k) : ∃ ts' d', PE e k' ts' d' ∧ ts'.length ≤ ts.length ∧ d' ≤ d := by
 cases h with
 | num h => exact ⟨_, _, .num h, Nat.le_refl _, Nat.le_refl _⟩
 | var h => exact ⟨_, _, .var h, Nat.le_refl _, Nat.le_refl _⟩
 | elem h ha => exact ⟨_, _, .elem h ha, Nat.le_refl _, Nat.le_refl _⟩
 | call h ha => exact ⟨_, _, .call h ha, Nat.le_refl _, Nat.le_refl _⟩
 | neg ha => exact ⟨_, _, .neg ha, Nat.le_refl _, Nat.le_refl _⟩
 | not ha => exact ⟨_, _, .not ha, Nat.le_refl _, Nat.le_refl _⟩
 | bin hs ho hk2 ha hb => exact ⟨_, _, .bin hs ho (by omega) ha hb, Nat.le_refl _, Nat.le_refl _⟩
 | par hs ho hk2 ha hb =>
  rename_i s _ _ _ _ _ _ _
  by_cases h2 : k' ≤ s
  ·exact ⟨_, _, .bin hs ho h2 ha hb, by simp only [List.length_append, List.length_cons, List.length_nil]; omega, by omega⟩
  ·exact ⟨_, _, .par hs ho (by omega) ha hb, Nat.le_refl _, Nat.le_refl _⟩
theorem PE.paren {e : Ex} {ts : List KT} {d : Nat} (h : PE e 0 ts d) : ∃ ts' d', PE e 6 ts' d' ∧ ts'.length ≤ ts.length + 2 ∧ d' ≤ d + 1 := by
 cases h with
 | num h => exact ⟨_, _, .num h, by omega, by omega⟩
 | var h => exact ⟨_, _, .var h, by omega, by omega⟩
 | elem h ha => exact ⟨_, _, .elem h ha, by omega, by omega⟩
 | call h ha => exact ⟨_, _, .call h ha, by omega, by omega⟩
 | neg ha => exact ⟨_, _, .neg ha, by omega, by omega⟩
 | not ha => exact ⟨_, _, .not ha, by omega, by omega⟩
 | bin hs ho hk2 ha hb => exact ⟨_, _, .par hs ho hs ha hb, by simp only [List.length_append, List.length_cons, List.length_nil]; omega, by omega⟩
 | par hs ho hk2 ha hb => omega
theorem PEs.snoc : ∀ {l : List Ex} {a : Ex} {t0 t1 : List KT} {d0 d1 : Nat}, PEs l t0 d0 → PE a 0 t1 d1 → ∃ t, PEs (l ++ [a]) t (max d0 d1) ∧ t.length = t0.length + (if l = [] then 0 else 1) + t1.length := by
 intro l
 induction l with
 | nil =>
  intro a t0 t1 d0 d1 h h1
  cases h with
  | nil => exact ⟨t1, by rw [Nat.zero_max]; exact .one h1, by simp⟩
 | cons b l ih =>
  intro a t0 t1 d0 d1 h h1
  cases h with
  | one hb => exact ⟨_, .more hb (.one h1), by simp only [List.length_append, List.length_cons]; simp; omega⟩
  | more hb hl =>
   obtain ⟨t, g1, g2⟩ := ih hl h1
   exact ⟨_, by rw [Nat.max_assoc]; exact .more hb g1, by simp only [List.length_append, List.length_cons, g2]; simp; omega⟩
/-! ### What is read can be printed -/
def Wh {A : Type} (P : A → Nat → Nat → Prop) (r : OR A) : Prop := ∀ v i op, r = some (.ok v i op) → P v i op
theorem wh_bind {A B : Type} {r : OR A} {k : A → Nat → Nat → OR B} {P : A → Nat → Nat → Prop} {Q : B → Nat → Nat → Prop} (hr : Wh P r) (hk : ∀ v i op, P v i op → Wh Q (k v i op)) : Wh Q (obind r k) := fun v i op h => by
 rcases obind_some h with ⟨w, i1, op1, h1, h2⟩ | ⟨_, _, _, h2⟩
 ·exact hk _ _ _ (hr _ _ _ h1) v i op h2
 ·cases h2
theorem wh_any {A B : Type} {r : OR A} {k : A → Nat → Nat → OR B} {Q : B → Nat → Nat → Prop} (hk : ∀ v i op, r = some (.ok v i op) → Wh Q (k v i op)) : Wh Q (obind r k) := wh_bind (fun _ _ _ h => h) hk
theorem wh_ok {A : Type} {P : A → Nat → Nat → Prop} {v : A} {i op : Nat} (h : P v i op) : Wh P (some (.ok v i op)) := fun _ _ _ e => by cases e; exact h
theorem wh_none {A : Type} {P : A → Nat → Nat → Prop} : Wh P none := fun _ _ _ e => by cases e
theorem wh_mono {A : Type} {P Q : A → Nat → Nat → Prop} {r : OR A} (h : Wh P r) (hPQ : ∀ v i op, P v i op → Q v i op) : Wh Q r := fun v i op e => hPQ _ _ _ (h v i op e)
theorem wh_begin {B : Type} {T : List Tok} {x : List UInt8} {i op : Nat} {k : Unit → Nat → Nat → OR B} {Q : B → Nat → Nat → Prop} (hk : op < 100 → Wh Q (k () (i + 1) (op + 1))) : Wh Q (obind (some (sBegin T x i op)) k) := wh_any fun v i1 op1 h => by
 injection h with h
 obtain ⟨rfl, rfl, h3, _⟩ := sBegin_ok h
 exact hk h3
theorem wh_end {B : Type} {T : List Tok} {x : List UInt8} {i op : Nat} {k : Unit → Nat → Nat → OR B} {Q : B → Nat → Nat → Prop} (hk : Wh Q (k () (i + 1) (op - 1))) : Wh Q (obind (some (sEnd T x i op)) k) := wh_any fun v i1 op1 h => by
 injection h with h
 obtain ⟨rfl, rfl, _⟩ := sEnd_ok h
 exact hk
theorem wh_need {B : Type} {T : List Tok} {x : List UInt8} {i op : Nat} {k : Unit → Nat → Nat → OR B} {Q : B → Nat → Nat → Prop} (hk : Wh Q (k () (i + 1) op)) : Wh Q (obind (some (sNeed T x i op)) k) := wh_any fun v i1 op1 h => by
 obtain ⟨rfl, rfl⟩ := nd_need h
 exact hk
theorem word_again {T : List Tok} (hT : ∀ t ∈ T, Again t) {i op i' op' : Nat} {s : List UInt8} (h : sWord T 2 i op = .ok s i' op') : NameOk s ∧ i' = i + 1 ∧ op' = op := by
 unfold sWord at h
 split at h
 ·rename_i t ht
  split at h
  ·rename_i hk
   cases h
   have := hT t (List.mem_of_getElem? ht)
   refine ⟨?_, rfl, rfl⟩
   unfold NameOk
   unfold Again at this ⊢
   rw [hk] at this
   exact this
  ·cases h
 ·cases h
theorem wh_name {B : Type} {T : List Tok} (hT : ∀ t ∈ T, Again t) {i op : Nat} {k : List UInt8 → Nat → Nat → OR B} {Q : B → Nat → Nat → Prop} (hk : ∀ s, NameOk s → Wh Q (k s (i + 1) op)) : Wh Q (obind (some (sWord T 2 i op)) k) := wh_any fun v i1 op1 h => by
 injection h with h
 obtain ⟨h1, rfl, rfl⟩ := word_again hT h
 exact hk v h1
theorem numOf_lt (s : List UInt8) : numOf s < 4294967296 := by
 unfold numOf
 split
 ·rename_i u h
  exact pu32_lt h
 ·decide
theorem wh_number {B : Type} {T : List Tok} {i op : Nat} {k : Nat → Nat → Nat → OR B} {Q : B → Nat → Nat → Prop} (hk : ∀ n, n < 4294967296 → Wh Q (k n (i + 1) op)) : Wh Q (obind (some (sNumber T i op)) k) := wh_any fun v i1 op1 h => by
 injection h with h
 unfold sNumber Res.bind at h
 split at h
 ·rename_i h1
  cases h
  obtain ⟨rfl, rfl⟩ := nd_word (congrArg some h1)
  exact hk _ (numOf_lt _)
 ·cases h
theorem isTok_text {T : List Tok} {i : Nat} {xs : List (List UInt8)} (h : isTok T i xs = true) : textAt T i ∈ xs := by
 unfold isTok at h
 unfold textAt
 split at h
 ·rename_i t ht
  simp only [Bool.and_eq_true] at h
  simpa using h.2
 ·cases h
def SE (k i op : Nat) (e : Ex) (i' op' : Nat) : Prop := op' = op ∧ ∃ ts d, PE e k ts d ∧ ts.length + i ≤ i' ∧ d ≤ 100 - op
def SX (i op : Nat) (e : Ex) (i' op' : Nat) : Prop := op' = op ∧ ∃ ts d, PE e 0 ts d ∧ ts.length + 2 + i ≤ i' ∧ d + 1 ≤ 100 - op
def SA (i op : Nat) (l : List Ex) (i' op' : Nat) : Prop := op' = op ∧ ∃ ts d, PEs l ts d ∧ ts.length + 2 + i ≤ i' ∧ d + 1 ≤ 100 - op
def SL (i op : Nat) (l : List Ex) (i' op' : Nat) : Prop := op' = op ∧ ∃ ts d, PEs l ts d ∧ ts.length + i ≤ i' ∧ d ≤ 100 - op
theorem ex_src {T : List Tok} (hT : ∀ t ∈ T, Again t) : ∀ f : Nat, (∀ k i op, k ≤ 6 → Wh (SE k i op) (eLev T f k i op)) ∧ (∀ k e i0 i op ts d, k < 6 → PE e (leftLv k) ts d → ts.length + i0 ≤ i → d ≤ 100 - op → Wh (SE k i0 op) (eLoop T f k e i op)) ∧
  (∀ i op, Wh (SE 6 i op) (eUnary T f i op)) ∧ (∀ i op, Wh (SE 6 i op) (ePrim T f i op)) ∧ (∀ i op, Wh (SX i op) (eIndex T f i op)) ∧ (∀ i op, Wh (SA i op) (eArgs T f i op)) ∧
  (∀ acc i0 i op ts d, PEs acc ts d → ts.length + i0 ≤ i → d ≤ 100 - op → Wh (SL i0 op) (eArgsLoop T f acc i op))
 | 0 => ⟨fun _ _ _ _ => by rw [eLev]; exact wh_none, fun _ _ _ _ _ _ _ _ _ _ _ => by rw [eLoop]; exact wh_none, fun _ _ => by rw [eUnary]; exact wh_none, fun _ _ => by rw [ePrim]; exact wh_none, fun _ _ => by rw [eIndex]; exact wh_none, fun _ _ => by rw [eArgs]; exact wh_none, fun _ _ _ _ _ _ _ _ _ => by rw [eArgsLoop]; exact wh_none⟩
 | f + 1 => by
  obtain ⟨hL, hO, hU, hP, hI, hA, hB⟩ := ex_src hT f
  refine ⟨fun k i op hk => ?_, fun k e i0 i op ts d hk hP0 hts hd => ?_, fun i op => ?_, fun i op => ?_, fun i op => ?_, fun i op => ?_, fun acc i0 i op ts d hP0 hts hd => ?_⟩
  ·rw [eLev]
   split
   ·rename_i h6
    subst h6
    exact hU i op
   ·refine wh_bind (hL (k + 1) i op (by omega)) fun v i' op' h => ?_
    obtain ⟨rfl, ts, d, h1, h2, h3⟩ := h
    obtain ⟨ts', d', g1, g2, g3⟩ := h1.weak (k' := leftLv k) (by unfold leftLv; split <;> omega)
    exact hO k v i i' _ ts' d' (by omega) g1 (by omega) (by omega)
  ·rw [eLoop]
   split
   ·rename_i ht
    refine wh_bind (hL (k + 1) (i + 1) op (by omega)) fun v i' op' h => ?_
    obtain ⟨rfl, t2, d2, h1, h2, h3⟩ := h
    have hb : PE (.mk (textAt T i) 0 [] [e, v]) k (ts ++ (4, textAt T i) :: t2) (max d d2) := .bin hk (isTok_text ht) (Nat.le_refl _) hP0 h1
    split
    ·exact wh_ok ⟨rfl, _, _, hb, by simp only [List.length_append, List.length_cons]; omega, by omega⟩
    ·rename_i h22
     refine hO k _ i0 i' _ _ _ hk (by rw [leftLv, if_neg h22]; exact hb) (by simp only [List.length_append, List.length_cons]; omega) (by omega)
   ·obtain ⟨ts', d', g1, g2, g3⟩ := hP0.weak (k' := k) (by unfold leftLv; split <;> omega)
    exact wh_ok ⟨rfl, ts', d', g1, by omega, by omega⟩
  ·rw [eUnary]
   split
   ·refine wh_begin fun ho => wh_bind (hU (i + 1) (op + 1)) fun v i' op' h => ?_
    obtain ⟨rfl, ts, d, h1, h2, h3⟩ := h
    exact wh_ok ⟨by omega, _, _, .neg h1, by simp only [List.length_cons]; omega, by omega⟩
   ·split
    ·refine wh_begin fun ho => wh_bind (hU (i + 1) (op + 1)) fun v i' op' h => ?_
     obtain ⟨rfl, ts, d, h1, h2, h3⟩ := h
     exact wh_ok ⟨by omega, _, _, .not h1, by simp only [List.length_cons]; omega, by omega⟩
    ·exact hP i op
  ·rw [ePrim]
   split
   ·refine wh_begin fun ho => wh_bind (hL 0 (i + 1) (op + 1) (by omega)) fun v i' op' h => wh_end ?_
    obtain ⟨rfl, ts, d, h1, h2, h3⟩ := h
    obtain ⟨ts', d', g1, g2, g3⟩ := h1.paren
    exact wh_ok ⟨by omega, ts', d', g1, by omega, by omega⟩
   ·split
    ·exact wh_number fun n hn => wh_ok ⟨rfl, _, _, .num hn, by simp only [List.length_cons, List.length_nil]; omega, by omega⟩
    ·refine wh_name hT fun s hs => ?_
     split
     ·refine wh_bind (hI (i + 1) op) fun v i' op' h => ?_
      obtain ⟨rfl, ts, d, h1, h2, h3⟩ := h
      exact wh_ok ⟨rfl, _, _, .elem hs h1, by simp only [List.length_cons, List.length_append, List.length_nil]; omega, by omega⟩
     ·split
      ·refine wh_bind (hA (i + 1) op) fun v i' op' h => ?_
       obtain ⟨rfl, ts, d, h1, h2, h3⟩ := h
       exact wh_ok ⟨rfl, _, _, .call hs h1, by simp only [List.length_cons, List.length_append, List.length_nil]; omega, by omega⟩
      ·exact wh_ok ⟨rfl, _, _, .var hs, by simp only [List.length_cons, List.length_nil]; omega, by omega⟩
  ·rw [eIndex]
   refine wh_begin fun ho => wh_bind (hL 0 (i + 1) (op + 1) (by omega)) fun v i' op' h => wh_end ?_
   obtain ⟨rfl, ts, d, h1, h2, h3⟩ := h
   exact wh_ok ⟨by omega, ts, d, h1, by omega, by omega⟩
  ·rw [eArgs]
   refine wh_begin fun ho => wh_bind (hB [] (i + 1) (i + 1) (op + 1) [] 0 .nil (by simp) (by omega)) fun v i' op' h => wh_end ?_
   obtain ⟨rfl, ts, d, h1, h2, h3⟩ := h
   exact wh_ok ⟨by omega, ts, d, h1, by omega, by omega⟩
  ·rw [eArgsLoop]
   split
   ·exact wh_ok ⟨rfl, ts, d, hP0, by omega, by omega⟩
   ·refine wh_any fun _ i1 op1 h1 => ?_
    have hi : i1 = i + (if acc = [] then 0 else 1) ∧ op1 = op := by
     injection h1 with h1
     split at h1
     ·rename_i ha
      cases h1
      rw [if_pos ha]
      exact ⟨rfl, rfl⟩
     ·rename_i ha
      rw [if_neg ha]
      exact nd_need (congrArg some h1)
    obtain ⟨rfl, rfl⟩ := hi
    refine wh_bind (hL 0 _ op1 (by omega)) fun v i' op' h => ?_
    obtain ⟨rfl, t2, d2, h1, h2, h3⟩ := h
    obtain ⟨t, g1, g2⟩ := hP0.snoc h1
    exact hB _ i0 i' _ t _ g1 (by omega) (by omega)
/-! ### Statements -/
mutual
inductive PS : Sm → List KT → Nat → Prop
 | assign {s : List UInt8} {e : Ex} {ts : List KT} {d : Nat} (h : NameOk s) (he : PE e 0 ts d) : PS (.mk 1 s [] [e] [] []) ((2, s) :: sg 61 :: (ts ++ [sg 59])) d
 | store {s : List UInt8} {x e : Ex} {t1 t2 : List KT} {d1 d2 : Nat} (h : NameOk s) (hx : PE x 0 t1 d1) (he : PE e 0 t2 d2) : PS (.mk 2 s [x] [e] [] []) ((2, s) :: sg 91 :: (t1 ++ sg 93 :: sg 61 :: (t2 ++ [sg 59]))) (max (d1 + 1) d2)
 | call {s : List UInt8} {l : List Ex} {ts : List KT} {d : Nat} (h : NameOk s) (hl : PEs l ts d) : PS (.mk 6 [] [] [.mk nCall 0 s l] [] []) ((2, s) :: sg 40 :: (ts ++ [sg 41, sg 59])) (d + 1)
 | ret {e : Ex} {ts : List KT} {d : Nat} (he : PE e 0 ts d) : PS (.mk 5 [] [] [e] [] []) ((3, kwReturn) :: (ts ++ [sg 59])) d
 | halt : PS (.mk 7 [] [] [] [] []) [(3, kwHalt), sg 59] 0
 | ifElse {e : Ex} {th el : List Sm} {ts t1 t2 : List KT} {d d1 d2 : Nat} (he : PE e 0 ts d) (h1 : PSs th t1 d1) (h2 : PSs el t2 d2) (hne : el ≠ []) :
   PS (.mk 3 [] [] [e] th el) ((3, kwIf) :: (ts ++ sg 123 :: (t1 ++ sg 125 :: (3, kwElse) :: sg 123 :: (t2 ++ [sg 125])))) (max d (max (d1 + 1) (d2 + 1)))
 | ifThen {e : Ex} {th : List Sm} {ts t1 : List KT} {d d1 : Nat} (he : PE e 0 ts d) (h1 : PSs th t1 d1) : PS (.mk 3 [] [] [e] th []) ((3, kwIf) :: (ts ++ sg 123 :: (t1 ++ [sg 125]))) (max d (d1 + 1))
 | while {e : Ex} {th : List Sm} {ts t1 : List KT} {d d1 : Nat} (he : PE e 0 ts d) (h1 : PSs th t1 d1) : PS (.mk 4 [] [] [e] th []) ((3, kwWhile) :: (ts ++ sg 123 :: (t1 ++ [sg 125]))) (max d (d1 + 1))
inductive PSs : List Sm → List KT → Nat → Prop
 | nil : PSs [] [] 0
 | cons {s : Sm} {l : List Sm} {t1 t2 : List KT} {d1 d2 : Nat} (h : PS s t1 d1) (hl : PSs l t2 d2) : PSs (s :: l) (t1 ++ t2) (max d1 d2)
end
theorem PSs.snoc : ∀ {l : List Sm} {a : Sm} {t0 t1 : List KT} {d0 d1 : Nat}, PSs l t0 d0 → PS a t1 d1 → PSs (l ++ [a]) (t0 ++ t1) (max d0 d1) := by
 intro l
 induction l with
 | nil =>
  intro a t0 t1 d0 d1 h h1
  cases h with
  | nil =>
   have := PSs.cons h1 .nil
   rw [List.append_nil, Nat.max_zero] at this
   rw [Nat.zero_max]
   exact this
 | cons b l ih =>
  intro a t0 t1 d0 d1 h h1
  cases h with
  | cons hb hl =>
   rw [List.append_assoc, Nat.max_assoc]
   exact .cons hb (ih hl h1)
def SS (i op : Nat) (s : Sm) (i' op' : Nat) : Prop := op' = op ∧ ∃ ts d, PS s ts d ∧ ts.length + i ≤ i' ∧ d ≤ 100 - op
/-- A simple statement stands ahead of its semicolon. -/
def SM (i op : Nat) (s : Sm) (i' op' : Nat) : Prop := op' = op ∧ ∃ ts d, PS s ts d ∧ ts.length + i ≤ i' + 1 ∧ d ≤ 100 - op
def SSs (i op : Nat) (s : List Sm) (i' op' : Nat) : Prop := op' = op ∧ ∃ ts d, PSs s ts d ∧ ts.length + i ≤ i' ∧ d ≤ 100 - op
def SB (i op : Nat) (s : List Sm) (i' op' : Nat) : Prop := op' = op ∧ ∃ ts d, PSs s ts d ∧ ts.length + 2 + i ≤ i' ∧ d + 1 ≤ 100 - op
theorem st_src {T : List Tok} (hT : ∀ t ∈ T, Again t) : ∀ f : Nat, (∀ i op, Wh (SB i op) (sBlock T f i op)) ∧ (∀ acc i0 i op ts d, PSs acc ts d → ts.length + i0 ≤ i → d ≤ 100 - op → Wh (SSs i0 op) (sStmts T f acc i op)) ∧
  (∀ i op, Wh (SS i op) (sStmt T f i op)) ∧ (∀ i op, Wh (SM i op) (sSimple T f i op))
 | 0 => ⟨fun _ _ => by rw [sBlock]; exact wh_none, fun _ _ _ _ _ _ _ _ _ => by rw [sStmts]; exact wh_none, fun _ _ => by rw [sStmt]; exact wh_none, fun _ _ => by rw [sSimple]; exact wh_none⟩
 | f + 1 => by
  obtain ⟨hB, hL, hS, hM⟩ := st_src hT f
  obtain ⟨eL, _, _, _, eI, eA, _⟩ := ex_src hT f
  refine ⟨fun i op => ?_, fun acc i0 i op ts d hP0 hts hd => ?_, fun i op => ?_, fun i op => ?_⟩
  ·rw [sBlock]
   refine wh_begin fun ho => wh_bind (hL [] (i + 1) (i + 1) (op + 1) [] 0 .nil (by simp) (by omega)) fun v i' op' h => wh_end ?_
   obtain ⟨rfl, ts, d, h1, h2, h3⟩ := h
   exact wh_ok ⟨by omega, ts, d, h1, by omega, by omega⟩
  ·rw [sStmts]
   split
   ·exact wh_ok ⟨rfl, ts, d, hP0, hts, hd⟩
   ·refine wh_bind (hS i op) fun v i' op' h => ?_
    obtain ⟨rfl, t2, d2, h1, h2, h3⟩ := h
    exact hL _ i0 i' _ _ _ (hP0.snoc h1) (by simp only [List.length_append]; omega) (by omega)
  ·rw [sStmt]
   split
   ·refine wh_bind (eL 0 (i + 1) op (by omega)) fun v i1 op1 h => ?_
    obtain ⟨rfl, t1, d1, g1, g2, g3⟩ := h
    refine wh_bind (hB i1 _) fun th i2 op2 h => ?_
    obtain ⟨rfl, t2, d2, k1, k2, k3⟩ := h
    split
    ·refine wh_bind (hB (i2 + 1) _) fun el i3 op3 h => ?_
     obtain ⟨rfl, t3, d3, l1, l2, l3⟩ := h
     by_cases hne : el = []
     ·subst hne
      exact wh_ok ⟨rfl, _, _, .ifThen g1 k1, by simp only [List.length_cons, List.length_append, List.length_nil]; omega, by omega⟩
     ·exact wh_ok ⟨rfl, _, _, .ifElse g1 k1 l1 hne, by simp only [List.length_cons, List.length_append, List.length_nil]; omega, by omega⟩
    ·exact wh_ok ⟨rfl, _, _, .ifThen g1 k1, by simp only [List.length_cons, List.length_append, List.length_nil]; omega, by omega⟩
   ·split
    ·refine wh_bind (eL 0 (i + 1) op (by omega)) fun v i1 op1 h => ?_
     obtain ⟨rfl, t1, d1, g1, g2, g3⟩ := h
     refine wh_bind (hB i1 _) fun th i2 op2 h => ?_
     obtain ⟨rfl, t2, d2, k1, k2, k3⟩ := h
     exact wh_ok ⟨rfl, _, _, .while g1 k1, by simp only [List.length_cons, List.length_append, List.length_nil]; omega, by omega⟩
    ·refine wh_bind (hM i op) fun v i1 op1 h => wh_need ?_
     obtain ⟨rfl, t1, d1, g1, g2, g3⟩ := h
     exact wh_ok ⟨rfl, _, _, g1, by omega, by omega⟩
  ·rw [sSimple]
   split
   ·refine wh_bind (eL 0 (i + 1) op (by omega)) fun v i1 op1 h => ?_
    obtain ⟨rfl, t1, d1, g1, g2, g3⟩ := h
    exact wh_ok ⟨rfl, _, _, .ret g1, by simp only [List.length_cons, List.length_append, List.length_nil]; omega, by omega⟩
   ·split
    ·exact wh_ok ⟨rfl, _, _, .halt, by simp only [List.length_cons, List.length_append, List.length_nil]; omega, by omega⟩
    ·refine wh_name hT fun s hs => ?_
     split
     ·refine wh_bind (eA (i + 1) op) fun v i1 op1 h => ?_
      obtain ⟨rfl, t1, d1, g1, g2, g3⟩ := h
      exact wh_ok ⟨rfl, _, _, .call hs g1, by simp only [List.length_cons, List.length_append, List.length_nil]; omega, by omega⟩
     ·split
      ·refine wh_bind (eI (i + 1) op) fun v i1 op1 h => wh_need ?_
       obtain ⟨rfl, t1, d1, g1, g2, g3⟩ := h
       refine wh_bind (eL 0 (i1 + 1) _ (by omega)) fun e i2 op2 h => ?_
       obtain ⟨rfl, t2, d2, k1, k2, k3⟩ := h
       exact wh_ok ⟨rfl, _, _, .store hs g1 k1, by simp only [List.length_cons, List.length_append, List.length_nil]; omega, by omega⟩
      ·refine wh_need (wh_bind (eL 0 (i + 1 + 1) op (by omega)) fun e i2 op2 h => ?_)
       obtain ⟨rfl, t2, d2, k1, k2, k3⟩ := h
       exact wh_ok ⟨rfl, _, _, .assign hs k1, by simp only [List.length_cons, List.length_append, List.length_nil]; omega, by omega⟩
/-! ### Declarations -/
/-- Names with commas between them. -/
def commas : List (List UInt8) → List KT
 | [] => []
 | [a] => [(2, a)]
 | a :: b :: l => (2, a) :: sg 44 :: commas (b :: l)
theorem commas_len : ∀ l : List (List UInt8), (commas l).length = 2 * l.length - 1
 | [] => rfl
 | [a] => rfl
 | a :: b :: l => by
  rw [commas, List.length_cons, List.length_cons, commas_len (b :: l)]
  simp only [List.length_cons]
  omega
/-- A row of variables declared, if there are any. -/
def varK (l : List (List UInt8)) : List KT := if l = [] then [] else (3, kwVar) :: (commas l ++ [sg 59])
theorem varK_len (l : List (List UInt8)) : (varK l).length = if l = [] then 0 else 2 * l.length + 1 := by
 unfold varK
 split
 ·rfl
 ·rename_i h
  have : 0 < l.length := List.length_pos_iff.2 h
  simp only [List.length_cons, List.length_append, commas_len, List.length_nil]
  omega
def AllOk (l : List (List UInt8)) : Prop := ∀ x ∈ l, NameOk x
theorem AllOk.app {a b : List (List UInt8)} (ha : AllOk a) (hb : AllOk b) : AllOk (a ++ b) := fun x hx => by
 rcases List.mem_append.1 hx with h | h
 ·exact ha x h
 ·exact hb x h
inductive PF : FnD → List KT → Nat → Prop
 | mk {nm : List UInt8} {ps ls : List (List UInt8)} {b : List Sm} {ts : List KT} {d : Nat} (h : NameOk nm) (hp : AllOk ps) (hl : AllOk ls) (hb : PSs b ts d) :
   PF ⟨nm, ps, ls, b⟩ ((3, kwFunc) :: (2, nm) :: sg 40 :: (commas ps ++ sg 41 :: sg 123 :: (varK ls ++ (ts ++ [sg 125])))) (d + 1)
inductive PFs : List FnD → List KT → Prop
 | nil : PFs [] []
 | cons {f : FnD} {l : List FnD} {t1 t2 : List KT} {d : Nat} (h : PF f t1 d) (hd : d ≤ 100) (hl : PFs l t2) : PFs (f :: l) (t1 ++ t2)
def arK (a : Ar) : List KT := [(3, kwArray), (2, a.name), sg 91, (1, Go.Lib.decDigits a.size), sg 93, sg 59]
def ArsOk (l : List Ar) : Prop := ∀ a ∈ l, NameOk a.name ∧ a.size < 4294967296
/-- A program, printed. -/
inductive PP : Pr → List KT → Prop
 | mk {v : List (List UInt8)} {a : List Ar} {f : List FnD} {ts : List KT} (hv : AllOk v) (ha : ArsOk a) (hf : PFs f ts) : PP ⟨v, a, f⟩ (varK v ++ ((a.map arK).flatten ++ ts))
theorem PFs.snoc : ∀ {l : List FnD} {a : FnD} {t0 t1 : List KT} {d : Nat}, PFs l t0 → PF a t1 d → d ≤ 100 → PFs (l ++ [a]) (t0 ++ t1) := by
 intro l
 induction l with
 | nil =>
  intro a t0 t1 d h h1 hd
  cases h with
  | nil =>
   have := PFs.cons h1 hd .nil
   rw [List.append_nil] at this
   exact this
 | cons b l ih =>
  intro a t0 t1 d h h1 hd
  cases h with
  | cons hb hd' hl =>
   rw [List.append_assoc]
   exact .cons hb hd' (ih hl h1 hd)
theorem namesLoop_src {T : List Tok} (hT : ∀ t ∈ T, Again t) : ∀ (f : Nat) (acc : List (List UInt8)) (i op : Nat), AllOk acc → Wh (fun l i' op' => op' = op ∧ AllOk l ∧ acc.length ≤ l.length ∧ 2 * l.length + i ≤ 2 * acc.length + i') (sNamesLoop T f acc i op)
 | 0, _, _, _, _ => by rw [sNamesLoop]; exact wh_none
 | f + 1, acc, i, op, ha => by
  rw [sNamesLoop]
  split
  ·refine wh_name hT fun s hs => wh_mono (namesLoop_src hT f (acc ++ [s]) (i + 1 + 1) op (ha.app fun x hx => by cases List.mem_singleton.1 hx; exact hs)) fun l i' op' h => ?_
   obtain ⟨rfl, h1, h2, h3⟩ := h
   rw [List.length_append, List.length_singleton] at h2 h3
   exact ⟨rfl, h1, by omega, by omega⟩
  ·exact wh_ok ⟨rfl, ha, Nat.le_refl _, by omega⟩
theorem names_src {T : List Tok} (hT : ∀ t ∈ T, Again t) (f i op : Nat) : Wh (fun l i' op' => op' = op ∧ AllOk l ∧ 0 < l.length ∧ 2 * l.length + i ≤ 1 + i') (sNames T f i op) :=
 wh_name hT fun s hs => wh_mono (namesLoop_src hT f [s] (i + 1) op fun x hx => by cases List.mem_singleton.1 hx; exact hs) fun l i' op' h => by
  obtain ⟨rfl, h1, h2, h3⟩ := h
  rw [List.length_singleton] at h2 h3
  exact ⟨rfl, h1, by omega, by omega⟩
theorem vars_src {T : List Tok} (hT : ∀ t ∈ T, Again t) : ∀ (f : Nat) (acc : List (List UInt8)) (i op : Nat), AllOk acc → Wh (fun l i' op' => op' = op ∧ AllOk l ∧ acc.length ≤ l.length ∧ (if acc.length = l.length then i ≤ i' else 2 * l.length + 1 + i ≤ 2 * acc.length + i')) (sVars T f acc i op)
 | 0, _, _, _, _ => by rw [sVars]; exact wh_none
 | f + 1, acc, i, op, ha => by
  rw [sVars]
  split
  ·refine wh_bind (names_src hT f (i + 1) op) fun l i1 op1 h => wh_need ?_
   obtain ⟨rfl, h1, h2, h3⟩ := h
   refine wh_mono (vars_src hT f (acc ++ l) (i1 + 1) _ (ha.app h1)) fun l2 i' op' h => ?_
   obtain ⟨rfl, g1, g2, g3⟩ := h
   rw [List.length_append] at g2 g3
   refine ⟨rfl, g1, by omega, ?_⟩
   rw [if_neg (by omega)]
   split at g3 <;> omega
  ·exact wh_ok ⟨rfl, ha, Nat.le_refl _, by rw [if_pos rfl]; omega⟩
theorem func_src {T : List Tok} (hT : ∀ t ∈ T, Again t) (f i : Nat) : Wh (fun a i' op' => op' = 0 ∧ ∃ ts d, PF a ts d ∧ d ≤ 100 ∧ ts.length + i ≤ i' + 1) (sFunc T f i 0) := by
 unfold sFunc
 refine wh_name hT fun nm hnm => wh_begin fun _ => wh_bind (P := fun ps i' op' => op' = 1 ∧ AllOk ps ∧ 2 * ps.length - 1 + (i + 1 + 1) ≤ i') ?_ fun ps i1 op1 h => wh_end (wh_begin fun _ => ?_)
 ·split
  ·exact wh_ok ⟨rfl, (fun x hx => by cases hx), by simp⟩
  ·exact wh_mono (names_src hT f _ _) fun l i' op' h => ⟨h.1, h.2.1, by omega⟩
 obtain ⟨rfl, h1, h2⟩ := h
 refine wh_bind (vars_src hT f [] _ _ fun x hx => by cases hx) fun ls i2 op2 h => ?_
 obtain ⟨rfl, g1, _, g3⟩ := h
 refine wh_bind ((st_src hT f).2.1 [] i2 i2 _ [] 0 .nil (by simp) (by omega)) fun b i3 op3 h => wh_end ?_
 obtain ⟨rfl, ts, d, k1, k2, k3⟩ := h
 refine wh_ok ⟨by omega, _, _, .mk hnm h1 g1 k1, by omega, ?_⟩
 simp only [List.length_cons, List.length_append, List.length_nil, commas_len, varK_len] at g3 ⊢
 by_cases hl : ls = []
 ·subst hl
  simp only [List.length_nil, if_pos] at g3 ⊢
  omega
 ·have : ¬ 0 = ls.length := fun h => hl (List.eq_nil_of_length_eq_zero h.symm)
  rw [if_neg this] at g3
  rw [if_neg hl]
  omega
theorem array_src {T : List Tok} (hT : ∀ t ∈ T, Again t) (i : Nat) : Wh (fun a i' op' => op' = 0 ∧ NameOk a.name ∧ a.size < 4294967296 ∧ 5 + i ≤ i') (sArray T i 0) := by
 unfold sArray
 exact wh_name hT fun nm hnm => wh_begin fun _ => wh_number fun n hn => wh_end (wh_need (wh_ok ⟨rfl, hnm, hn, by omega⟩))
/-- How many tokens a program takes at least. -/
def ntK (v : Nat) (a : Nat) (t : Nat) : Nat := (if v = 0 then 0 else 2 * v + 1) + 6 * a + t
theorem prog_src {T : List Tok} (hT : ∀ t ∈ T, Again t) : ∀ (f : Nat) (v : List (List UInt8)) (a : List Ar) (fs : List FnD) (ts : List KT) (i : Nat), AllOk v → ArsOk a → PFs fs ts → ntK v.length a.length ts.length ≤ i → i ≤ T.length →
  Wh (fun q _ _ => ∃ v' a' f' t', q = ⟨v', a', f'⟩ ∧ AllOk v' ∧ ArsOk a' ∧ PFs f' t' ∧ ntK v'.length a'.length t'.length ≤ T.length) (sProg T f ⟨v, a, fs⟩ i 0)
 | 0, _, _, _, _, _, _, _, _, _, _ => by rw [sProg]; exact wh_none
 | f + 1, v, a, fs, ts, i, hv, ha, hf, hi, hT' => by
  rw [sProg]
  split
  ·exact wh_ok ⟨_, _, _, _, rfl, hv, ha, hf, by omega⟩
  rename_i hlt
  split
  ·rename_i hw
   refine wh_any fun l i1 op1 h1 => ?_
   have hg := (sVars_good T f [] i 0 _ h1).2.2.1 hT'
   obtain ⟨rfl, g1, _, g3⟩ := vars_src hT f [] i 0 (fun x hx => by cases hx) _ _ _ h1
   refine prog_src hT f (v ++ l) a fs ts i1 (hv.app g1) ha hf ?_ hg
   rw [List.length_append]
   simp only [List.length_nil] at g3
   unfold ntK at hi ⊢
   split at g3
   ·rename_i h0
    rw [← h0, Nat.add_zero]
    omega
   ·rw [if_neg (by omega)]
    split at hi <;> omega
  ·split
   ·refine wh_any fun l i1 op1 h1 => ?_
    have hg := (sArray_good T (i + 1) 0 _ h1).2.2.1 (by omega)
    obtain ⟨rfl, g1, g2, g3⟩ := array_src hT (i + 1) _ _ _ h1
    refine prog_src hT f v (a ++ [l]) fs ts i1 hv (fun x hx => ?_) hf ?_ hg
    ·rcases List.mem_append.1 hx with h | h
     ·exact ha x h
     ·cases List.mem_singleton.1 h; exact ⟨g1, g2⟩
    ·rw [List.length_append, List.length_singleton]
     unfold ntK at hi ⊢
     omega
   ·split
    ·refine wh_any fun l i1 op1 h1 => ?_
     have hg := (sFunc_good T f (i + 1) 0 _ h1).2.2.1 (by omega)
     obtain ⟨rfl, t1, d, g1, g2, g3⟩ := func_src hT f (i + 1) _ _ _ h1
     refine prog_src hT f v a (fs ++ [l]) (ts ++ t1) i1 hv ha (hf.snoc g1 g2) ?_ hg
     rw [List.length_append]
     unfold ntK at hi ⊢
     omega
    ·exact fun _ _ _ e => by cases e
theorem arK_len : ∀ a : List Ar, ((a.map arK).flatten).length = 6 * a.length
 | [] => rfl
 | a :: l => by
  rw [List.map_cons, List.flatten_cons, List.length_append, arK_len l, List.length_cons]
  simp only [arK, List.length_cons, List.length_nil]
  omega
/-- What is parsed can be printed with no more tokens. -/
theorem src_print {T : List Tok} (hT : ∀ t ∈ T, Again t) {f i op : Nat} {p : Pr} (h : sProg T f ⟨[], [], []⟩ 0 0 = some (.ok p i op)) : ∃ ts, PP p ts ∧ ts.length ≤ T.length := by
 obtain ⟨v, a, fs, t, rfl, h1, h2, h3, h4⟩ := prog_src hT f [] [] [] [] 0 (fun x hx => by cases hx) (fun x hx => by cases hx) .nil (by simp [ntK]) (Nat.zero_le _) _ _ _ h
 refine ⟨_, .mk h1 h2 h3, ?_⟩
 simp only [List.length_append, varK_len, arK_len]
 unfold ntK at h4
 by_cases hv : v = []
 ·subst hv
  simp only [List.length_nil, if_pos] at h4 ⊢
  omega
 ·have : ¬ v.length = 0 := fun h => hv (List.eq_nil_of_length_eq_zero h)
  rw [if_neg this] at h4
  rw [if_neg hv]
  omega
end Go.Stele
set_option maxRecDepth 100000
namespace Go.Stele
/-- With enough fuel the step ends so. -/
def Evt {A : Type} (g : Nat → OR A) (r : Res A) : Prop := ∃ f0, ∀ f, f0 ≤ f → g f = some r
def tokIn (ks : List KT) (xs : List (List UInt8)) : Bool := match ks with
 | [] => false
 | t :: _ => (decide (t.1 = 3) || decide (t.1 = 4)) && xs.contains t.2
/-- From place i on stand these tokens, and no others. -/
def At (T : List Tok) (i : Nat) (ks : List KT) : Prop := (T.map kt).drop i = ks
section
variable {T : List Tok} {i op : Nat} {ks : List KT}
theorem At.get {t : KT} (h : At T i (t :: ks)) : ∃ t', T[i]? = some t' ∧ kt t' = t := by
 have h1 : ((T.map kt).drop i)[0]? = some t := by rw [show (T.map kt).drop i = t :: ks from h]; rfl
 rw [List.getElem?_drop, Nat.add_zero, List.getElem?_map] at h1
 cases h2 : T[i]? with
 | none => rw [h2] at h1; cases h1
 | some t' => rw [h2] at h1; exact ⟨t', rfl, by simpa using h1⟩
theorem At.none (h : At T i []) : T[i]? = none := by
 have h1 : ((T.map kt).drop i).length = 0 := by rw [show (T.map kt).drop i = [] from h]; rfl
 rw [List.length_drop, List.length_map] at h1
 exact List.getElem?_eq_none (by omega)
theorem At.tok (h : At T i ks) (xs : List (List UInt8)) : isTok T i xs = tokIn ks xs := by
 unfold isTok tokIn
 cases ks with
 | nil => rw [h.none]
 | cons t r =>
  obtain ⟨t', h1, h2⟩ := h.get
  rw [h1, ← h2]
  rfl
theorem At.one {t : KT} (h : At T i (t :: ks)) : At T (i + 1) ks := by
 show (T.map kt).drop (i + 1) = ks
 rw [← List.drop_drop, show (T.map kt).drop i = t :: ks from h]
 rfl
theorem At.skip {a : List KT} (h : At T i (a ++ ks)) : At T (i + a.length) ks := by
 show (T.map kt).drop (i + a.length) = ks
 rw [← List.drop_drop, show (T.map kt).drop i = a ++ ks from h, List.drop_left]
theorem At.text {k : Int} {x : List UInt8} (h : At T i ((k, x) :: ks)) : textAt T i = x := by
 obtain ⟨t', h1, h2⟩ := h.get
 unfold textAt
 rw [h1]
 exact congrArg Prod.snd h2
theorem At.kind {k : Int} {x : List UInt8} (h : At T i ((k, x) :: ks)) : kindAt T i = k := by
 obtain ⟨t', h1, h2⟩ := h.get
 unfold kindAt
 rw [h1]
 exact congrArg Prod.fst h2
theorem At.word {k : Int} {x : List UInt8} (h : At T i ((k, x) :: ks)) : sWord T k i op = .ok x (i + 1) op := by
 obtain ⟨t', h1, h2⟩ := h.get
 unfold sWord
 rw [h1]
 have hk : t'.kind = k := congrArg Prod.fst h2
 have hx : t'.text = x := congrArg Prod.snd h2
 show (if t'.kind = k then Res.ok t'.text (i + 1) op else _) = _
 rw [if_pos hk, hx]
theorem numOf_dec {n : Nat} (hn : n < 4294967296) : numOf (Go.Lib.decDigits n) = n := by
 unfold numOf
 rw [pu32_dec n hn]
theorem At.number {n : Nat} (h : At T i ((1, Go.Lib.decDigits n) :: ks)) (hn : n < 4294967296) : sNumber T i op = .ok n (i + 1) op := by
 unfold sNumber
 rw [h.word]
 show Res.ok (numOf (Go.Lib.decDigits n)) (i + 1) op = _
 rw [numOf_dec hn]
theorem tokIn_sg (c : UInt8) : tokIn (sg c :: ks) [[c]] = true := by simp [tokIn, sg]
theorem At.begin {c : UInt8} (h : At T i (sg c :: ks)) (ho : op < 100) : sBegin T [c] i op = .ok () (i + 1) (op + 1) := by
 unfold sBegin
 rw [if_pos (by rw [h.tok, tokIn_sg]), if_neg (by omega)]
theorem At.need {c : UInt8} (h : At T i (sg c :: ks)) : sNeed T [c] i op = .ok () (i + 1) op := by
 unfold sNeed
 rw [if_pos (by rw [h.tok, tokIn_sg])]
theorem At.fin {c : UInt8} (h : At T i (sg c :: ks)) : sEnd T [c] i op = .ok () (i + 1) (op - 1) := by
 unfold sEnd
 rw [h.need]
 rfl
end
/-- What stands behind an expression of this level. -/
structure Fol (ks : List KT) (k : Nat) : Prop where
 par : tokIn ks [[40]] = false
 brk : tokIn ks [[91]] = false
 ops : ∀ j, k ≤ j → j < 6 → tokIn ks (lvOps j) = false
theorem Fol.up {ks : List KT} {k k' : Nat} (h : Fol ks k) (hk : k ≤ k') : Fol ks k' := ⟨h.par, h.brk, fun j h1 h2 => h.ops j (by omega) h2⟩
theorem fol_sg {c : UInt8} (hc : c = 41 ∨ c = 93 ∨ c = 44 ∨ c = 59 ∨ c = 123) (ks : List KT) (k : Nat) : Fol (sg c :: ks) k := by
 have h : ∀ c ∈ ([41, 93, 44, 59, 123] : List UInt8), ([[40]] : List (List UInt8)).contains [c] = false ∧ ([[91]] : List (List UInt8)).contains [c] = false ∧ ∀ j, j < 6 → (lvOps j).contains [c] = false := by decide
 obtain ⟨h1, h2, h3⟩ := h c (by rcases hc with rfl | rfl | rfl | rfl | rfl <;> decide)
 refine ⟨?_, ?_, fun j _ hj => ?_⟩
 ·simp only [tokIn, sg, h1, Bool.and_false]
 ·simp only [tokIn, sg, h2, Bool.and_false]
 ·simp only [tokIn, sg, h3 j hj, Bool.and_false]
theorem fol_op {s : Nat} {o : List UInt8} (hs : s < 6) (ho : o ∈ lvOps s) (ks : List KT) : Fol ((4, o) :: ks) (s + 1) := by
 have h : ∀ s, s < 6 → ∀ o ∈ lvOps s, ([[40]] : List (List UInt8)).contains o = false ∧ ([[91]] : List (List UInt8)).contains o = false ∧ ∀ j, j < 6 → s + 1 ≤ j → (lvOps j).contains o = false := by decide
 obtain ⟨h1, h2, h3⟩ := h s hs o ho
 refine ⟨?_, ?_, fun j hk hj => ?_⟩
 ·simp only [tokIn, h1, Bool.and_false]
 ·simp only [tokIn, h2, Bool.and_false]
 ·simp only [tokIn, h3 j hj hk, Bool.and_false]
section
variable {T : List Tok}
theorem lev_unary {i op : Nat} {r : Res Ex} (h : Evt (fun f => eUnary T f i op) r) : Evt (fun f => eLev T f 6 i op) r := by
 obtain ⟨f0, h⟩ := h
 refine ⟨f0 + 1, fun f hf => ?_⟩
 obtain ⟨g, rfl⟩ : ∃ g, f = g + 1 := ⟨f - 1, by omega⟩
 show eLev T (g + 1) 6 i op = _
 rw [eLev, if_pos rfl]
 exact h g (by omega)
theorem unary_lev {i op : Nat} {r : Res Ex} (h : Evt (fun f => eLev T f 6 i op) r) : Evt (fun f => eUnary T f i op) r := by
 obtain ⟨f0, h⟩ := h
 refine ⟨f0, fun f hf => ?_⟩
 have := h (f + 1) (by omega)
 simp only [eLev, if_pos] at this
 exact this
theorem lev_down {i op i' op' : Nat} {e : Ex} {ks : List KT} (hA : At T i' ks) : ∀ (n k s : Nat), s = k + n → s ≤ 6 → Fol ks k → Evt (fun f => eLev T f s i op) (.ok e i' op') → Evt (fun f => eLev T f k i op) (.ok e i' op')
 | 0, k, s, h, _, _, he => by
  have : s = k := by omega
  subst this
  exact he
 | n + 1, k, s, h, h6, hF, he => by
  obtain ⟨f0, h1⟩ := lev_down hA n (k + 1) s (by omega) h6 (hF.up (by omega)) he
  refine ⟨f0 + 2, fun f hf => ?_⟩
  obtain ⟨g, rfl⟩ : ∃ g, f = g + 2 := ⟨f - 2, by omega⟩
  have h1' := h1 (g + 1) (by omega)
  simp only at h1'
  show eLev T (g + 1 + 1) k i op = _
  rw [eLev, if_neg (by omega), h1']
  show eLoop T (g + 1) k e i' op' = _
  rw [eLoop, if_neg (by rw [hA.tok, hF.ops k (Nat.le_refl _) (by omega)]; decide)]
/-- What is printed of e is read as e. -/
def QE (T : List Tok) (e : Ex) : Prop := ∀ (k : Nat) (ts : List KT) (d i op : Nat) (ks : List KT), k ≤ 6 → PE e k ts d → d ≤ 100 - op → At T i (ts ++ ks) → Fol ks k → Evt (fun f => eLev T f k i op) (.ok e (i + ts.length) op)
/-- What is printed of e at a level of chains begins a chain. -/
def CE (T : List Tok) (e : Ex) : Prop := ∀ (s : Nat) (ts : List KT) (d i op : Nat) (ks : List KT) (r : Res Ex), s < 6 → s ≠ 2 → PE e s ts d → d ≤ 100 - op → At T i (ts ++ ks) → Fol ks (s + 1) → Evt (fun f => eLoop T f s e (i + ts.length) op) r → Evt (fun f => eLev T f s i op) r
theorem bin_lev {s o1 : Nat} {o : List UInt8} {a b : Ex} {t1 t2 ks : List KT} {d1 d2 i op : Nat} (hs : s < 6) (ho : o ∈ lvOps s) (pa : PE a (leftLv s) t1 d1) (pb : PE b (s + 1) t2 d2) (hd : max d1 d2 ≤ 100 - op)
  (hA : At T i (t1 ++ (4, o) :: (t2 ++ ks))) (hF : Fol ks (s + 1)) (qa : QE T a) (ca : CE T a) (qb : QE T b) :
  (s ≠ 2 → ∀ r, Evt (fun f => eLoop T f s (.mk o 0 [] [a, b]) (i + (t1 ++ (4, o) :: t2).length) op) r → Evt (fun f => eLev T f s i op) r) ∧
  (s = 2 → Evt (fun f => eLev T f s i op) (.ok (.mk o 0 [] [a, b]) (i + (t1 ++ (4, o) :: t2).length) op)) := by
 have h1 := hA.skip
 have hlen : i + (t1 ++ (4, o) :: t2).length = i + t1.length + 1 + t2.length := by simp only [List.length_append, List.length_cons]; omega
 have ht : isTok T (i + t1.length) (lvOps s) = true := by
  rw [h1.tok]
  simp only [tokIn]
  simp [ho]
 obtain ⟨fb, hb⟩ := qb (s + 1) t2 d2 (i + t1.length + 1) op ks (by omega) pb (by omega) h1.one hF
 refine ⟨fun h2 r hr => ?_, fun h2 => ?_⟩
 ·rw [leftLv, if_neg h2] at pa
  refine ca s t1 d1 i op _ r hs h2 pa (by omega) hA (fol_op hs ho _) ?_
  obtain ⟨fr, hr⟩ := hr
  refine ⟨fb + fr + 1, fun f hf => ?_⟩
  obtain ⟨g, rfl⟩ : ∃ g, f = g + 1 := ⟨f - 1, by omega⟩
  show eLoop T (g + 1) s a (i + t1.length) op = _
  have hb' := hb g (by omega)
  simp only at hb'
  rw [eLoop, if_pos ht, hb']
  show (if s = 2 then _ else eLoop T g s (.mk (textAt T (i + t1.length)) 0 [] [a, b]) (i + t1.length + 1 + t2.length) op) = _
  rw [if_neg h2, h1.text, ← hlen]
  exact hr g (by omega)
 ·subst h2
  obtain ⟨fa, ha⟩ := qa 3 t1 d1 i op _ (by omega) pa (by omega) hA (fol_op hs ho _)
  refine ⟨fa + fb + 2, fun f hf => ?_⟩
  obtain ⟨g, rfl⟩ : ∃ g, f = g + 2 := ⟨f - 2, by omega⟩
  have ha' := ha (g + 1) (by omega)
  have hb' := hb g (by omega)
  simp only at ha' hb'
  show eLev T (g + 1 + 1) 2 i op = _
  rw [eLev, if_neg (by omega), ha']
  show eLoop T (g + 1) 2 a (i + t1.length) op = _
  rw [eLoop, if_pos ht, hb']
  show (if 2 = 2 then some (Res.ok (Ex.mk (textAt T (i + t1.length)) 0 [] [a, b]) (i + t1.length + 1 + t2.length) op) else eLoop T g 2 (Ex.mk (textAt T (i + t1.length)) 0 [] [a, b]) (i + t1.length + 1 + t2.length) op) = _
  rw [if_pos rfl, h1.text, hlen]
/-- An expression's first token. -/
def Fst (t : KT) : Prop := t.1 = 1 ∨ t.1 = 2 ∨ t = sg 40 ∨ t = sg 45 ∨ t = sg 33
theorem pe_first : ∀ (n : Nat) (e : Ex), nEx e ≤ n → ∀ (k : Nat) (ts : List KT) (d : Nat), PE e k ts d → ∃ t r, ts = t :: r ∧ Fst t
 | 0, .mk _ _ _ _, hn => by rw [nEx] at hn; omega
 | n + 1, e, hn => by
  intro k ts d h
  cases h with
  | num h => exact ⟨_, _, rfl, .inl rfl⟩
  | var h => exact ⟨_, _, rfl, .inr (.inl rfl)⟩
  | elem h ha => exact ⟨_, _, rfl, .inr (.inl rfl)⟩
  | call h ha => exact ⟨_, _, rfl, .inr (.inl rfl)⟩
  | neg ha => exact ⟨_, _, rfl, .inr (.inr (.inr (.inl rfl)))⟩
  | not ha => exact ⟨_, _, rfl, .inr (.inr (.inr (.inr rfl)))⟩
  | par hs ho hk2 ha hb => exact ⟨_, _, rfl, .inr (.inr (.inl rfl))⟩
  | bin hs ho hk2 ha hb =>
   simp only [nEx, nExs] at hn
   obtain ⟨t, r, rfl, h⟩ := pe_first n _ (by omega) _ _ _ ha
   exact ⟨t, _, rfl, h⟩
theorem PE.first {e : Ex} {k : Nat} {ts : List KT} {d : Nat} (h : PE e k ts d) : ∃ t r, ts = t :: r ∧ Fst t := pe_first _ e (Nat.le_refl _) _ _ _ h
theorem Fst.no41 {t : KT} (h : Fst t) (r : List KT) : tokIn (t :: r) [[41]] = false := by
 rcases h with h | h | rfl | rfl | rfl
 ·simp [tokIn, h]
 ·simp [tokIn, h]
 ·simp [tokIn, sg]
 ·simp [tokIn, sg]
 ·simp [tokIn, sg]
theorem args_more : ∀ (l acc : List Ex) (ts ks : List KT) (d i op : Nat), (∀ x ∈ l, QE T x) → acc ≠ [] → l ≠ [] → PEs l ts d → d ≤ 100 - op → At T i (sg 44 :: (ts ++ sg 41 :: ks)) → Evt (fun f => eArgsLoop T f acc i op) (.ok (acc ++ l) (i + 1 + ts.length) op)
 | [], _, _, _, _, _, _, _, _, h, _, _, _ => absurd rfl h
 | a :: l, acc, ts, ks, d, i, op, hq, hacc, _, hp, hd, hA => by
  have hn41 : isTok T i [[41]] = false := by rw [hA.tok]; simp [tokIn, sg]
  cases hp with
  | one ha =>
   obtain ⟨f1, h1⟩ := hq a (List.mem_cons_self ..) 0 ts d (i + 1) op _ (by omega) ha hd hA.one (fol_sg (.inl rfl) _ _)
   have h41 : isTok T (i + 1 + ts.length) [[41]] = true := by rw [hA.one.skip.tok, tokIn_sg]
   refine ⟨f1 + 2, fun f hf => ?_⟩
   obtain ⟨g, rfl⟩ : ∃ g, f = g + 2 := ⟨f - 2, by omega⟩
   have h1' := h1 (g + 1) (by omega)
   simp only at h1'
   show eArgsLoop T (g + 1 + 1) acc i op = _
   rw [eArgsLoop, if_neg (by rw [hn41]; decide), if_neg hacc, hA.need]
   show obind (eLev T (g + 1) 0 (i + 1) op) _ = _
   rw [h1']
   show eArgsLoop T (g + 1) (acc ++ [a]) (i + 1 + ts.length) op = _
   rw [eArgsLoop, if_pos h41]
  | @more _ b l t1 t2 d1 d2 ha hl =>
   have hA1 : At T (i + 1) (t1 ++ sg 44 :: (t2 ++ sg 41 :: ks)) := by
    have := hA.one
    rw [List.append_assoc, List.cons_append] at this
    exact this
   obtain ⟨f1, h1⟩ := hq a (List.mem_cons_self ..) 0 t1 d1 (i + 1) op _ (by omega) ha (by omega) hA1 (fol_sg (.inr (.inr (.inl rfl))) _ _)
   obtain ⟨f2, h2⟩ := args_more (b :: l) (acc ++ [a]) t2 ks d2 (i + 1 + t1.length) op (fun x hx => hq x (List.mem_cons_of_mem _ hx)) (by simp) (by simp) hl (by omega) hA1.skip
   refine ⟨f1 + f2 + 1, fun f hf => ?_⟩
   obtain ⟨g, rfl⟩ : ∃ g, f = g + 1 := ⟨f - 1, by omega⟩
   have h1' := h1 g (by omega)
   simp only at h1'
   show eArgsLoop T (g + 1) acc i op = _
   rw [eArgsLoop, if_neg (by rw [hn41]; decide), if_neg hacc, hA.need]
   show obind (eLev T g 0 (i + 1) op) _ = _
   rw [h1']
   show eArgsLoop T g (acc ++ [a]) (i + 1 + t1.length) op = _
   have h2' := h2 g (by omega)
   simp only at h2'
   rw [h2', List.append_assoc]
   congr 2
   simp only [List.length_append, List.length_cons]
   omega
theorem args_parse {l : List Ex} {ts ks : List KT} {d i op : Nat} (hq : ∀ x ∈ l, QE T x) (hp : PEs l ts d) (hd : d + 1 ≤ 100 - op) (hA : At T i (sg 40 :: (ts ++ sg 41 :: ks))) : Evt (fun f => eArgs T f i op) (.ok l (i + 2 + ts.length) op) := by
 have key : Evt (fun f => eArgsLoop T f [] (i + 1) (op + 1)) (.ok l (i + 1 + ts.length) (op + 1)) := by
  cases hp with
  | nil =>
   refine ⟨1, fun f hf => ?_⟩
   obtain ⟨g, rfl⟩ : ∃ g, f = g + 1 := ⟨f - 1, by omega⟩
   show eArgsLoop T (g + 1) [] (i + 1) (op + 1) = _
   rw [eArgsLoop, if_pos (by rw [hA.one.tok]; exact tokIn_sg 41)]
   rfl
  | one ha =>
   rename_i a
   have hA1 := hA.one
   have hn41 : isTok T (i + 1) [[41]] = false := by
    obtain ⟨t, r, rfl, hf⟩ := ha.first
    rw [hA1.tok]
    exact hf.no41 _
   obtain ⟨f1, h1⟩ := hq a (List.mem_cons_self ..) 0 ts d (i + 1) (op + 1) _ (by omega) ha (by omega) hA1 (fol_sg (.inl rfl) _ _)
   have h41 : isTok T (i + 1 + ts.length) [[41]] = true := by rw [hA1.skip.tok, tokIn_sg]
   refine ⟨f1 + 2, fun f hf => ?_⟩
   obtain ⟨g, rfl⟩ : ∃ g, f = g + 2 := ⟨f - 2, by omega⟩
   have h1' := h1 (g + 1) (by omega)
   simp only at h1'
   show eArgsLoop T (g + 1 + 1) [] (i + 1) (op + 1) = _
   rw [eArgsLoop, if_neg (by rw [hn41]; decide), if_pos rfl]
   show obind (eLev T (g + 1) 0 (i + 1) (op + 1)) _ = _
   rw [h1']
   show eArgsLoop T (g + 1) ([] ++ [a]) (i + 1 + ts.length) (op + 1) = _
   rw [eArgsLoop, if_pos h41]
   rfl
  | @more a b l t1 t2 d1 d2 ha hl =>
   have hA1 : At T (i + 1) (t1 ++ sg 44 :: (t2 ++ sg 41 :: ks)) := by
    have := hA.one
    rw [List.append_assoc, List.cons_append] at this
    exact this
   have hn41 : isTok T (i + 1) [[41]] = false := by
    obtain ⟨t, r, rfl, hf⟩ := ha.first
    rw [hA1.tok]
    exact hf.no41 _
   obtain ⟨f1, h1⟩ := hq a (List.mem_cons_self ..) 0 t1 d1 (i + 1) (op + 1) _ (by omega) ha (by omega) hA1 (fol_sg (.inr (.inr (.inl rfl))) _ _)
   obtain ⟨f2, h2⟩ := args_more (b :: l) [a] t2 ks d2 (i + 1 + t1.length) (op + 1) (fun x hx => hq x (List.mem_cons_of_mem _ hx)) (by simp) (by simp) hl (by omega) hA1.skip
   refine ⟨f1 + f2 + 1, fun f hf => ?_⟩
   obtain ⟨g, rfl⟩ : ∃ g, f = g + 1 := ⟨f - 1, by omega⟩
   have h1' := h1 g (by omega)
   simp only at h1'
   show eArgsLoop T (g + 1) [] (i + 1) (op + 1) = _
   rw [eArgsLoop, if_neg (by rw [hn41]; decide), if_pos rfl]
   show obind (eLev T g 0 (i + 1) (op + 1)) _ = _
   rw [h1']
   show eArgsLoop T g ([] ++ [a]) (i + 1 + t1.length) (op + 1) = _
   have h2' := h2 g (by omega)
   simp only at h2'
   rw [List.nil_append, h2']
   congr 2
   simp only [List.length_append, List.length_cons]
   omega
 obtain ⟨f1, h1⟩ := key
 refine ⟨f1 + 1, fun f hf => ?_⟩
 obtain ⟨g, rfl⟩ : ∃ g, f = g + 1 := ⟨f - 1, by omega⟩
 have h1' := h1 g (by omega)
 simp only at h1'
 show eArgs T (g + 1) i op = _
 rw [eArgs, hA.begin (by omega)]
 show obind (eArgsLoop T g [] (i + 1) (op + 1)) _ = _
 rw [h1']
 show obind (some (sEnd T [41] (i + 1 + ts.length) (op + 1))) _ = _
 rw [hA.one.skip.fin]
 show some (Res.ok l (i + 1 + ts.length + 1) (op + 1 - 1)) = _
 congr 2
 omega
theorem unary_prim {i op : Nat} {ks : List KT} {r : Res Ex} (hA : At T i ks) (h1 : tokIn ks [[45]] = false) (h2 : tokIn ks [[33]] = false) (h : Evt (fun f => ePrim T f i op) r) : Evt (fun f => eUnary T f i op) r := by
 obtain ⟨f0, h⟩ := h
 refine ⟨f0 + 1, fun f hf => ?_⟩
 obtain ⟨g, rfl⟩ : ∃ g, f = g + 1 := ⟨f - 1, by omega⟩
 show eUnary T (g + 1) i op = _
 rw [eUnary, if_neg (by rw [hA.tok, h1]; decide), if_neg (by rw [hA.tok, h2]; decide)]
 exact h g (by omega)
theorem unary_op {c : UInt8} {nm : List UInt8} (hc : c = 45 ∧ nm = nNeg ∨ c = 33 ∧ nm = nNot) {i op i' : Nat} {e : Ex} {ks : List KT} (hA : At T i (sg c :: ks)) (ho : op < 100) (h : Evt (fun f => eUnary T f (i + 1) (op + 1)) (.ok e i' (op + 1))) :
  Evt (fun f => eUnary T f i op) (.ok (.mk nm 0 [] [e]) i' op) := by
 obtain ⟨f0, h⟩ := h
 refine ⟨f0 + 1, fun f hf => ?_⟩
 obtain ⟨g, rfl⟩ : ∃ g, f = g + 1 := ⟨f - 1, by omega⟩
 have h' := h g (by omega)
 simp only at h'
 show eUnary T (g + 1) i op = _
 rcases hc with ⟨rfl, rfl⟩ | ⟨rfl, rfl⟩
 ·rw [eUnary, if_pos (by rw [hA.tok, tokIn_sg]), hA.begin ho]
  show obind (eUnary T g (i + 1) (op + 1)) _ = _
  rw [h']
  rfl
 ·rw [eUnary, if_neg (by rw [hA.tok]; simp [tokIn, sg]), if_pos (by rw [hA.tok, tokIn_sg]), hA.begin ho]
  show obind (eUnary T g (i + 1) (op + 1)) _ = _
  rw [h']
  rfl
theorem prim_paren {i op i' : Nat} {e : Ex} {ks ks' : List KT} (hA : At T i (sg 40 :: ks)) (hA' : At T i' (sg 41 :: ks')) (ho : op < 100) (h : Evt (fun f => eLev T f 0 (i + 1) (op + 1)) (.ok e i' (op + 1))) : Evt (fun f => ePrim T f i op) (.ok e (i' + 1) op) := by
 obtain ⟨f0, h⟩ := h
 refine ⟨f0 + 1, fun f hf => ?_⟩
 obtain ⟨g, rfl⟩ : ∃ g, f = g + 1 := ⟨f - 1, by omega⟩
 have h' := h g (by omega)
 simp only at h'
 show ePrim T (g + 1) i op = _
 rw [ePrim, if_pos (by rw [hA.tok, tokIn_sg]), hA.begin ho]
 show obind (eLev T g 0 (i + 1) (op + 1)) _ = _
 rw [h']
 show obind (some (sEnd T [41] i' (op + 1))) _ = _
 rw [hA'.fin]
 rfl
theorem no_name (s : List UInt8) (ks : List KT) (xs : List (List UInt8)) : tokIn ((2, s) :: ks) xs = false := by simp [tokIn]
theorem no_num (s : List UInt8) (ks : List KT) (xs : List (List UInt8)) : tokIn ((1, s) :: ks) xs = false := by simp [tokIn]
theorem prim_name {i op i' : Nat} {s : List UInt8} {e : Ex} {ks : List KT} (hA : At T i ((2, s) :: ks))
  (h : Evt (fun f => if isTok T (i + 1) [[91]] then obind (eIndex T f (i + 1) op) fun e i' op' => some (.ok (.mk nElem 0 s [e]) i' op')
   else if isTok T (i + 1) [[40]] then obind (eArgs T f (i + 1) op) fun l i' op' => some (.ok (.mk nCall 0 s l) i' op')
   else some (.ok (.mk nVar 0 s []) (i + 1) op)) (.ok e i' op)) : Evt (fun f => ePrim T f i op) (.ok e i' op) := by
 obtain ⟨f0, h⟩ := h
 refine ⟨f0 + 1, fun f hf => ?_⟩
 obtain ⟨g, rfl⟩ : ∃ g, f = g + 1 := ⟨f - 1, by omega⟩
 show ePrim T (g + 1) i op = _
 rw [ePrim, if_neg (by rw [hA.tok, no_name]; decide), if_neg (by rw [hA.kind]; decide), hA.word]
 exact h g (by omega)
theorem index_parse {a : Ex} {ts ks : List KT} {d i op : Nat} (hq : QE T a) (hp : PE a 0 ts d) (hd : d + 1 ≤ 100 - op) (hA : At T i (sg 91 :: (ts ++ sg 93 :: ks))) : Evt (fun f => eIndex T f i op) (.ok a (i + 2 + ts.length) op) := by
 obtain ⟨f1, h1⟩ := hq 0 ts d (i + 1) (op + 1) _ (by omega) hp (by omega) hA.one (fol_sg (.inr (.inl rfl)) _ _)
 refine ⟨f1 + 1, fun f hf => ?_⟩
 obtain ⟨g, rfl⟩ : ∃ g, f = g + 1 := ⟨f - 1, by omega⟩
 have h1' := h1 g (by omega)
 simp only at h1'
 show eIndex T (g + 1) i op = _
 rw [eIndex, hA.begin (by omega)]
 show obind (eLev T g 0 (i + 1) (op + 1)) _ = _
 rw [h1']
 show obind (some (sEnd T [93] (i + 1 + ts.length) (op + 1))) _ = _
 rw [hA.one.skip.fin]
 show some (Res.ok a (i + 1 + ts.length + 1) (op + 1 - 1)) = _
 congr 2
 omega
theorem PE.more {e : Ex} {s : Nat} {ts : List KT} {d : Nat} (h : PE e s ts d) : PE e (s + 1) ts d ∨ ∃ o a b t1 t2 d1 d2, s < 6 ∧ o ∈ lvOps s ∧ e = .mk o 0 [] [a, b] ∧ ts = t1 ++ (4, o) :: t2 ∧ d = max d1 d2 ∧ PE a (leftLv s) t1 d1 ∧ PE b (s + 1) t2 d2 := by
 cases h with
 | num h => exact .inl (.num h)
 | var h => exact .inl (.var h)
 | elem h ha => exact .inl (.elem h ha)
 | call h ha => exact .inl (.call h ha)
 | neg ha => exact .inl (.neg ha)
 | not ha => exact .inl (.not ha)
 | par hs ho hk2 ha hb => exact .inl (.par hs ho (by omega) ha hb)
 | bin hs ho hk2 ha hb =>
  rename_i s0 o a b t1 t2 d1 d2
  by_cases h : s + 1 ≤ s0
  ·exact .inl (.bin hs ho h ha hb)
  ·have : s0 = s := by omega
   subst this
   exact .inr ⟨o, a, b, t1, t2, d1, d2, hs, ho, rfl, rfl, rfl, ha, hb⟩
theorem ex_parse : ∀ (n : Nat) (e : Ex), nEx e ≤ n → QE T e ∧ CE T e
 | 0, .mk _ _ _ _, hn => by rw [nEx] at hn; omega
 | n + 1, e, hn => by
  have hQ : QE T e := by
   intro k ts d i op ks hk hp hd hA hF
   have bin : ∀ {s k i op : Nat} {o : List UInt8} {a b : Ex} {t1 t2 ks : List KT} {d1 d2 : Nat}, nEx (.mk o 0 [] [a, b]) ≤ n + 1 → s < 6 → o ∈ lvOps s → k ≤ s → PE a (leftLv s) t1 d1 → PE b (s + 1) t2 d2 → max d1 d2 ≤ 100 - op → At T i (t1 ++ (4, o) :: (t2 ++ ks)) → Fol ks k →
     Evt (fun f => eLev T f k i op) (.ok (.mk o 0 [] [a, b]) (i + (t1 ++ (4, o) :: t2).length) op) := by
    intro s k i op o a b t1 t2 ks d1 d2 hn hs ho hk pa pb hd hA hF
    simp only [nEx, nExs] at hn
    obtain ⟨qa, ca⟩ := ex_parse n a (by omega)
    obtain ⟨qb, _⟩ := ex_parse n b (by omega)
    have hA2 : At T (i + (t1 ++ (4, o) :: t2).length) ks := by
     have h : At T i ((t1 ++ (4, o) :: t2) ++ ks) := by rw [List.append_assoc, List.cons_append]; exact hA
     exact h.skip
    obtain ⟨b1, b2⟩ := bin_lev (o1 := 0) hs ho pa pb hd hA (hF.up (by omega)) qa ca qb
    have h0 : Evt (fun f => eLev T f s i op) (.ok (.mk o 0 [] [a, b]) (i + (t1 ++ (4, o) :: t2).length) op) := by
     by_cases h2 : s = 2
     ·exact b2 h2
     ·refine b1 h2 _ ⟨1, fun f hf => ?_⟩
      obtain ⟨g, rfl⟩ : ∃ g, f = g + 1 := ⟨f - 1, by omega⟩
      show eLoop T (g + 1) s _ _ op = _
      rw [eLoop, if_neg (by rw [hA2.tok, hF.ops s hk hs]; decide)]
    exact lev_down hA2 (s - k) k s (by omega) (by omega) hF h0
   have un : Evt (fun f => eUnary T f i op) (.ok e (i + ts.length) op) → Evt (fun f => eLev T f k i op) (.ok e (i + ts.length) op) := fun h =>
    lev_down hA.skip (6 - k) k 6 (by omega) (by omega) hF (lev_unary h)
   cases hp with
   | num h =>
    refine un (unary_prim hA (no_num _ _ _) (no_num _ _ _) ⟨1, fun f hf => ?_⟩)
    obtain ⟨g, rfl⟩ : ∃ g, f = g + 1 := ⟨f - 1, by omega⟩
    show ePrim T (g + 1) i op = _
    rw [ePrim, if_neg (by rw [hA.tok]; simp [tokIn]), if_pos hA.kind, At.number hA h]
    rfl
   | var h =>
    refine un (unary_prim hA (no_name _ _ _) (no_name _ _ _) (prim_name hA ⟨0, fun f _ => ?_⟩))
    have hA1 : At T (i + 1) ks := hA.one
    simp only
    rw [if_neg (by rw [hA1.tok, hF.brk]; decide), if_neg (by rw [hA1.tok, hF.par]; decide)]
    rfl
   | elem h ha =>
    rename_i s a t1 d1
    simp only [nEx, nExs] at hn
    have hA1 : At T i ((2, s) :: sg 91 :: (t1 ++ sg 93 :: ks)) := by
     simpa only [List.cons_append, List.append_assoc, List.nil_append] using hA
    refine un (unary_prim hA1 (no_name _ _ _) (no_name _ _ _) (prim_name hA1 ?_))
    obtain ⟨f1, h1⟩ := index_parse (ex_parse n a (by omega)).1 ha hd hA1.one
    refine ⟨f1, fun f hf => ?_⟩
    have h1' := h1 f hf
    simp only at h1' ⊢
    rw [if_pos (by rw [hA1.one.tok, tokIn_sg]), h1']
    show some (Res.ok (Ex.mk nElem 0 s [a]) (i + 1 + 2 + t1.length) op) = _
    congr 2
    simp only [List.length_cons, List.length_append, List.length_nil]
    omega
   | call h hl =>
    rename_i s l t1 d1
    simp only [nEx] at hn
    have hA1 : At T i ((2, s) :: sg 40 :: (t1 ++ sg 41 :: ks)) := by
     simpa only [List.cons_append, List.append_assoc, List.nil_append] using hA
    refine un (unary_prim hA1 (no_name _ _ _) (no_name _ _ _) (prim_name hA1 ?_))
    obtain ⟨f1, h1⟩ := args_parse (fun x hx => (ex_parse n x (by have := nExs_mem hx; omega)).1) hl hd hA1.one
    refine ⟨f1, fun f hf => ?_⟩
    have h1' := h1 f hf
    simp only at h1' ⊢
    rw [if_neg (by rw [hA1.one.tok]; simp [tokIn, sg]), if_pos (by rw [hA1.one.tok, tokIn_sg]), h1']
    show some (Res.ok (Ex.mk nCall 0 s l) (i + 1 + 2 + t1.length) op) = _
    congr 2
    simp only [List.length_cons, List.length_append, List.length_nil]
    omega
   | neg ha =>
    rename_i a t1 d1
    simp only [nEx, nExs] at hn
    have h1 := (ex_parse n a (by omega)).1 6 t1 d1 (i + 1) (op + 1) ks (by omega) ha (by omega) hA.one (hF.up hk)
    have e1 : i + (sg 45 :: t1).length = i + 1 + t1.length := by simp only [List.length_cons]; omega
    rw [e1] at un ⊢
    exact un (unary_op (.inl ⟨rfl, rfl⟩) hA (by omega) (unary_lev h1))
   | not ha =>
    rename_i a t1 d1
    simp only [nEx, nExs] at hn
    have h1 := (ex_parse n a (by omega)).1 6 t1 d1 (i + 1) (op + 1) ks (by omega) ha (by omega) hA.one (hF.up hk)
    have e1 : i + (sg 33 :: t1).length = i + 1 + t1.length := by simp only [List.length_cons]; omega
    rw [e1] at un ⊢
    exact un (unary_op (.inr ⟨rfl, rfl⟩) hA (by omega) (unary_lev h1))
   | bin hs ho hk2 ha hb => exact bin hn hs ho hk2 ha hb hd (by simpa only [List.append_assoc, List.cons_append] using hA) hF
   | par hs ho hk2 ha hb =>
    rename_i s o a b t1 t2 d1 d2
    have hA1 : At T i (sg 40 :: (t1 ++ (4, o) :: (t2 ++ sg 41 :: ks))) := by
     simpa only [List.append_assoc, List.cons_append, List.nil_append] using hA
    have h1 := bin (k := 0) (op := op + 1) hn hs ho (by omega) ha hb (by omega) hA1.one (fol_sg (.inl rfl) _ _)
    have hA2 : At T (i + 1 + (t1 ++ (4, o) :: t2).length) (sg 41 :: ks) := by
     have h : At T (i + 1) ((t1 ++ (4, o) :: t2) ++ sg 41 :: ks) := by rw [List.append_assoc, List.cons_append]; exact hA1.one
     exact h.skip
    have e1 : i + (sg 40 :: ((t1 ++ (4, o) :: t2) ++ [sg 41])).length = i + 1 + (t1 ++ (4, o) :: t2).length + 1 := by simp only [List.length_cons, List.length_append, List.length_nil]; omega
    rw [e1] at un ⊢
    exact un (unary_prim hA1 (by simp [tokIn, sg]) (by simp [tokIn, sg]) (prim_paren hA1 hA2 (by omega) h1))
  refine ⟨hQ, ?_⟩
  intro s ts d i op ks r hs h2 hp hd hA hF hr
  rcases hp.more with hp' | ⟨o, a, b, t1, t2, d1, d2, _, ho, rfl, rfl, rfl, pa, pb⟩
  ·obtain ⟨f1, h1⟩ := hQ (s + 1) ts d i op ks (by omega) hp' hd hA hF
   obtain ⟨f2, h2⟩ := hr
   refine ⟨f1 + f2 + 1, fun f hf => ?_⟩
   obtain ⟨g, rfl⟩ : ∃ g, f = g + 1 := ⟨f - 1, by omega⟩
   have h1' := h1 g (by omega)
   simp only at h1'
   show eLev T (g + 1) s i op = _
   rw [eLev, if_neg (by omega), h1']
   exact h2 g (by omega)
  ·simp only [nEx, nExs] at hn
   obtain ⟨qa, ca⟩ := ex_parse n a (by omega)
   obtain ⟨qb, _⟩ := ex_parse n b (by omega)
   exact (bin_lev (o1 := 0) hs ho pa pb hd (by simpa only [List.append_assoc, List.cons_append] using hA) hF qa ca qb).1 h2 r hr
theorem qe (e : Ex) : QE T e := (ex_parse _ e (Nat.le_refl _)).1
end
end Go.Stele
namespace Go.Stele
/-- Nothing changes but that more is told. -/
def LeO {A : Type} (r r' : OR A) : Prop := ∀ q, r = some q → r' = some q
theorem LeO.rfl' {A : Type} {r : OR A} : LeO r r := fun _ h => h
theorem LeO.none {A : Type} {r : OR A} : LeO none r := fun _ h => by cases h
theorem LeO.bind {A B : Type} {r r' : OR A} {f f' : A → Nat → Nat → OR B} (h : LeO r r') (hf : ∀ v i op, LeO (f v i op) (f' v i op)) : LeO (obind r f) (obind r' f') := fun q hq => by
 rcases obind_some hq with ⟨v, i, op, h1, h2⟩ | ⟨l, e, h1, rfl⟩
 ·rw [h _ h1]
  exact hf _ _ _ _ h2
 ·rw [h _ h1]
  rfl
theorem LeO.ite {A : Type} {c : Prop} [Decidable c] {a b a' b' : OR A} (h1 : LeO a a') (h2 : LeO b b') : LeO (if c then a else b) (if c then a' else b') := by
 split
 ·exact h1
 ·exact h2
theorem namesLoop_le (T : List Tok) : ∀ (f g : Nat) (acc : List (List UInt8)) (i op : Nat), f ≤ g → LeO (sNamesLoop T f acc i op) (sNamesLoop T g acc i op)
 | 0, _, _, _, _, _ => LeO.none
 | f + 1, 0, _, _, _, h => by omega
 | f + 1, g + 1, acc, i, op, h => by
  rw [sNamesLoop, sNamesLoop]
  exact LeO.ite (LeO.bind LeO.rfl' fun v i op => namesLoop_le T f g _ i op (by omega)) LeO.rfl'
theorem names_le (T : List Tok) (f g i op : Nat) (h : f ≤ g) : LeO (sNames T f i op) (sNames T g i op) := LeO.bind LeO.rfl' fun v i op => namesLoop_le T f g _ i op h
theorem ex_le (T : List Tok) : ∀ f g : Nat, f ≤ g → (∀ k i op, LeO (eLev T f k i op) (eLev T g k i op)) ∧ (∀ k e i op, LeO (eLoop T f k e i op) (eLoop T g k e i op)) ∧ (∀ i op, LeO (eUnary T f i op) (eUnary T g i op)) ∧
  (∀ i op, LeO (ePrim T f i op) (ePrim T g i op)) ∧ (∀ i op, LeO (eIndex T f i op) (eIndex T g i op)) ∧ (∀ i op, LeO (eArgs T f i op) (eArgs T g i op)) ∧ (∀ acc i op, LeO (eArgsLoop T f acc i op) (eArgsLoop T g acc i op))
 | 0, g, _ => ⟨fun _ _ _ => by rw [eLev]; exact LeO.none, fun _ _ _ _ => by rw [eLoop]; exact LeO.none, fun _ _ => by rw [eUnary]; exact LeO.none, fun _ _ => by rw [ePrim]; exact LeO.none, fun _ _ => by rw [eIndex]; exact LeO.none, fun _ _ => by rw [eArgs]; exact LeO.none, fun _ _ _ => by rw [eArgsLoop]; exact LeO.none⟩
 | f + 1, 0, h => by omega
 | f + 1, g + 1, h => by
  obtain ⟨hL, hO, hU, hP, hI, hA, hB⟩ := ex_le T f g (by omega)
  refine ⟨fun k i op => ?_, fun k e i op => ?_, fun i op => ?_, fun i op => ?_, fun i op => ?_, fun i op => ?_, fun acc i op => ?_⟩
  ·rw [eLev, eLev]
   exact LeO.ite (hU _ _) (LeO.bind (hL _ _ _) fun _ _ _ => hO _ _ _ _)
  ·rw [eLoop, eLoop]
   exact LeO.ite (LeO.bind (hL _ _ _) fun _ _ _ => LeO.ite LeO.rfl' (hO _ _ _ _)) LeO.rfl'
  ·rw [eUnary, eUnary]
   exact LeO.ite (LeO.bind LeO.rfl' fun _ _ _ => LeO.bind (hU _ _) fun _ _ _ => LeO.rfl') (LeO.ite (LeO.bind LeO.rfl' fun _ _ _ => LeO.bind (hU _ _) fun _ _ _ => LeO.rfl') (hP _ _))
  ·rw [ePrim, ePrim]
   exact LeO.ite (LeO.bind LeO.rfl' fun _ _ _ => LeO.bind (hL _ _ _) fun _ _ _ => LeO.rfl') (LeO.ite LeO.rfl' (LeO.bind LeO.rfl' fun _ _ _ => LeO.ite (LeO.bind (hI _ _) fun _ _ _ => LeO.rfl') (LeO.ite (LeO.bind (hA _ _) fun _ _ _ => LeO.rfl') LeO.rfl')))
  ·rw [eIndex, eIndex]
   exact LeO.bind LeO.rfl' fun _ _ _ => LeO.bind (hL _ _ _) fun _ _ _ => LeO.rfl'
  ·rw [eArgs, eArgs]
   exact LeO.bind LeO.rfl' fun _ _ _ => LeO.bind (hB _ _ _) fun _ _ _ => LeO.rfl'
  ·rw [eArgsLoop, eArgsLoop]
   exact LeO.ite LeO.rfl' (LeO.bind LeO.rfl' fun _ _ _ => LeO.bind (hL _ _ _) fun _ _ _ => hB _ _ _)
theorem st_le (T : List Tok) : ∀ f g : Nat, f ≤ g → (∀ i op, LeO (sBlock T f i op) (sBlock T g i op)) ∧ (∀ acc i op, LeO (sStmts T f acc i op) (sStmts T g acc i op)) ∧ (∀ i op, LeO (sStmt T f i op) (sStmt T g i op)) ∧ (∀ i op, LeO (sSimple T f i op) (sSimple T g i op))
 | 0, g, _ => ⟨fun _ _ => by rw [sBlock]; exact LeO.none, fun _ _ _ => by rw [sStmts]; exact LeO.none, fun _ _ => by rw [sStmt]; exact LeO.none, fun _ _ => by rw [sSimple]; exact LeO.none⟩
 | f + 1, 0, h => by omega
 | f + 1, g + 1, h => by
  obtain ⟨hB, hS, hT, hM⟩ := st_le T f g (by omega)
  obtain ⟨hL, _, _, _, hI, hA, _⟩ := ex_le T f g (by omega)
  refine ⟨fun i op => ?_, fun acc i op => ?_, fun i op => ?_, fun i op => ?_⟩
  ·rw [sBlock, sBlock]
   exact LeO.bind LeO.rfl' fun _ _ _ => LeO.bind (hS _ _ _) fun _ _ _ => LeO.rfl'
  ·rw [sStmts, sStmts]
   exact LeO.ite LeO.rfl' (LeO.bind (hT _ _) fun _ _ _ => hS _ _ _)
  ·rw [sStmt, sStmt]
   exact LeO.ite (LeO.bind (hL _ _ _) fun _ _ _ => LeO.bind (hB _ _) fun _ _ _ => LeO.ite (LeO.bind (hB _ _) fun _ _ _ => LeO.rfl') LeO.rfl') (LeO.ite (LeO.bind (hL _ _ _) fun _ _ _ => LeO.bind (hB _ _) fun _ _ _ => LeO.rfl') (LeO.bind (hM _ _) fun _ _ _ => LeO.rfl'))
  ·rw [sSimple, sSimple]
   exact LeO.ite (LeO.bind (hL _ _ _) fun _ _ _ => LeO.rfl') (LeO.ite LeO.rfl' (LeO.bind LeO.rfl' fun _ _ _ => LeO.ite (LeO.bind (hA _ _) fun _ _ _ => LeO.rfl') (LeO.ite (LeO.bind (hI _ _) fun _ _ _ => LeO.bind LeO.rfl' fun _ _ _ => LeO.bind (hL _ _ _) fun _ _ _ => LeO.rfl') (LeO.bind LeO.rfl' fun _ _ _ => LeO.bind (hL _ _ _) fun _ _ _ => LeO.rfl'))))
theorem vars_le (T : List Tok) : ∀ (f g : Nat) (acc : List (List UInt8)) (i op : Nat), f ≤ g → LeO (sVars T f acc i op) (sVars T g acc i op)
 | 0, _, _, _, _, _ => LeO.none
 | f + 1, 0, _, _, _, h => by omega
 | f + 1, g + 1, acc, i, op, h => by
  rw [sVars, sVars]
  exact LeO.ite (LeO.bind (names_le T f g _ _ (by omega)) fun _ _ _ => LeO.bind LeO.rfl' fun _ _ _ => vars_le T f g _ _ _ (by omega)) LeO.rfl'
theorem func_le (T : List Tok) (f g i op : Nat) (h : f ≤ g) : LeO (sFunc T f i op) (sFunc T g i op) := by
 unfold sFunc
 exact LeO.bind LeO.rfl' fun _ _ _ => LeO.bind LeO.rfl' fun _ _ _ => LeO.bind (LeO.ite LeO.rfl' (names_le T f g _ _ h)) fun _ _ _ => LeO.bind LeO.rfl' fun _ _ _ => LeO.bind LeO.rfl' fun _ _ _ =>
  LeO.bind (vars_le T f g _ _ _ h) fun _ _ _ => LeO.bind ((st_le T f g h).2.1 _ _ _) fun _ _ _ => LeO.rfl'
theorem prog_le (T : List Tok) : ∀ (f g : Nat) (p : Pr) (i op : Nat), f ≤ g → LeO (sProg T f p i op) (sProg T g p i op)
 | 0, _, _, _, _, _ => LeO.none
 | f + 1, 0, _, _, _, h => by omega
 | f + 1, g + 1, p, i, op, h => by
  rw [sProg, sProg]
  exact LeO.ite LeO.rfl' (LeO.ite (LeO.bind (vars_le T f g _ _ _ (by omega)) fun _ _ _ => prog_le T f g _ _ _ (by omega)) (LeO.ite (LeO.bind LeO.rfl' fun _ _ _ => prog_le T f g _ _ _ (by omega))
   (LeO.ite (LeO.bind (func_le T f g _ _ (by omega)) fun _ _ _ => prog_le T f g _ _ _ (by omega)) LeO.rfl')))
section
variable {T T' : List Tok} {d m : Nat}
end
end Go.Stele
