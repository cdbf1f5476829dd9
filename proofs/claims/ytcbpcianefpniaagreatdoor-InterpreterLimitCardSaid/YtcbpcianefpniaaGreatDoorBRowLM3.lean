/- Texts joined: InpBnd, InpNodup, InpValid, InpAwake, InpOut, InpShort, InpSmall, InpW1, InpW2, InpW3, InpW4, InpW5, GlPair, GlPart, InpW6, InpW7. -/
import Derived.KernelRfl
import Derived.Deep.WholeRow
import Derived.DeepKeys
import Derived.Test.YtcbpcianefpniaaGreatDoorBRowLM1
import Derived.Test.YtcbpcianefpniaaGreatDoorBRowLM2
set_option linter.unusedVariables false
set_option linter.unusedSimpArgs false
namespace Go.Stele
def Lt (v : Nat) : Prop := v < 4294967296
mutual
def numE : Ex → Prop
 | .mk op num name args => Lt num ∧ numEs args
def numEs : List Ex → Prop
 | [] => True
 | x :: l => numE x ∧ numEs l
end
mutual
def numS : Sm → Prop
 | .mk kind name index value thn els => numEs index ∧ numEs value ∧ numSs thn ∧ numSs els
def numSs : List Sm → Prop
 | [] => True
 | x :: l => numS x ∧ numSs l
end
theorem numEs_mem : ∀ {l : List Ex} {x : Ex}, numEs l → x ∈ l → numE x
 | a :: l, x, h, hx => by
  rcases List.mem_cons.1 hx with rfl | hx
  ·exact h.1
  ·exact numEs_mem h.2 hx
theorem numSs_mem : ∀ {l : List Sm} {x : Sm}, numSs l → x ∈ l → numS x
 | a :: l, x, h, hx => by
  rcases List.mem_cons.1 hx with rfl | hx
  ·exact h.1
  ·exact numSs_mem h.2 hx
theorem numE_head {l : List Ex} (h : numEs l) : numE (l.headD default) := by
 cases l with
 | nil => exact ⟨by unfold Lt; decide, trivial⟩
 | cons a l => exact h.1
/-- All values of the state are below 2^32. -/
structure Bnd (s : IS) : Prop where
 sc : ∀ k, Lt (s.sc k)
 ar : ∀ x, ∀ v ∈ s.ar x, Lt v
 inp : ∀ v ∈ s.inp, Lt v
def Bd {A : Type} (P : A → Prop) : IR A → Prop
 | .ok v s => P v ∧ Bnd s
 | .stop _ _ => True
theorem Bd.bind {A B : Type} {P : A → Prop} {Q : B → Prop} {r : IR A} {f : A → IS → IR B} (h : Bd P r) (hf : ∀ v s, P v → Bnd s → Bd Q (f v s)) : Bd Q (r.bind f) := by
 cases r with
 | ok v s => exact hf v s h.1 h.2
 | stop e s => trivial
def OptLt (r : Option Nat) : Prop := ∀ v, r = some v → Lt v
theorem OptLt.none : OptLt none := fun _ h => by cases h
theorem OptLt.some {v : Nat} (h : Lt v) : OptLt (some v) := fun _ e => by cases e; exact h
theorem tick_bd {s : IS} (h : Bnd s) : Bd (fun _ => True) (tick s) := by
 unfold tick
 split
 ·trivial
 ·exact ⟨trivial, h.sc, h.ar, h.inp⟩
theorem mapR_bd {A : Type} {g : A → IS → IR Nat} : ∀ (l : List A) (s : IS), (∀ a ∈ l, ∀ s, Bnd s → Bd Lt (g a s)) → Bnd s → Bd (fun vs => ∀ v ∈ vs, Lt v) (mapR g l s)
 | [], s, _, hs => ⟨fun v hv => (List.not_mem_nil hv).elim, hs⟩
 | a :: l, s, h, hs => by
  unfold mapR
  refine (h a (List.mem_cons_self ..) s hs).bind fun v s hv hs => (mapR_bd l s (fun b hb => h b (List.mem_cons_of_mem _ hb)) hs).bind fun vs s hvs hs => ⟨fun x hx => ?_, hs⟩
  rcases List.mem_cons.1 hx with rfl | hx
  ·exact hv
  ·exact hvs x hx
theorem blkR_bd {g : Sm → IS → IR (Option Nat)} : ∀ (l : List Sm) (s : IS), (∀ a ∈ l, ∀ s, Bnd s → Bd OptLt (g a s)) → Bnd s → Bd OptLt (blkR g l s)
 | [], s, _, hs => ⟨OptLt.none, hs⟩
 | a :: l, s, h, hs => by
  unfold blkR
  refine (h a (List.mem_cons_self ..) s hs).bind fun r s hr hs => ?_
  cases r with
  | some v => exact ⟨hr, hs⟩
  | none => exact blkR_bd l s (fun b hb => h b (List.mem_cons_of_mem _ hb)) hs
theorem whlR_bd {c : IS → IR Nat} {b : IS → IR (Option Nat)} (hc : ∀ s, Bnd s → Bd Lt (c s)) (hb : ∀ s, Bnd s → Bd OptLt (b s)) : ∀ (m v : Nat) (s : IS), Bnd s → Bd OptLt (whlR c b m v s)
 | 0, v, s, hs => by
  unfold whlR
  split
  ·exact ⟨OptLt.none, hs⟩
  ·trivial
 | m + 1, v, s, hs => by
  unfold whlR
  split
  ·exact ⟨OptLt.none, hs⟩
  ·refine (hb s hs).bind fun r s hr hs => ?_
   cases r with
   | some x => exact ⟨hr, hs⟩
   | none => exact (hc s hs).bind fun v s _ hs => whlR_bd hc hb m v s hs
theorem b2n_lt (b : Bool) : Lt (b2n b) := by unfold b2n Lt; split <;> decide
theorem binI_lt {op : List UInt8} {a b v : Nat} (ha : Lt a) (hb : Lt b) (h : binI op a b = some v) : Lt v := by
 have hm : ∀ n : Nat, Lt (n % 4294967296) := fun n => Nat.mod_lt _ (by decide)
 have hx : Lt (a ^^^ b) := Nat.xor_lt_two_pow (n := 32) ha hb
 have hi : ∀ {c : Prop} [Decidable c] {x y : Option Nat}, OptLt x → OptLt y → OptLt (if c then x else y) := fun h1 h2 => by
  split
  ·exact h1
  ·exact h2
 have hB : ∀ b, OptLt (some (b2n b)) := fun b => OptLt.some (b2n_lt b)
 have : OptLt (binI op a b) := hi (OptLt.some (hm _)) (hi (OptLt.some (hm _)) (hi (OptLt.some (hm _)) (hi (OptLt.some hx) (hi (hB _) (hi (hB _) (hi (hB _) (hi (hB _) (hi (hB _) (hi (hB _) (hi (hB _) (hi (hB _) (hi OptLt.none
  (hi (OptLt.some (Nat.lt_of_le_of_lt (Nat.div_le_self _ _) ha)) (OptLt.some (Nat.lt_of_le_of_lt (Nat.mod_le _ _) ha)))))))))))))))
 exact this v h
theorem setPs_bd (f : FnD) : ∀ (ps : List (List UInt8)) (vs : List Nat) (s : IS), (∀ v ∈ vs, Lt v) → Bnd s → Bnd (setPs f ps vs s)
 | p :: ps, v :: vs, s, hv, hs => by
  unfold setPs
  refine setPs_bd f ps vs _ (fun x hx => hv x (List.mem_cons_of_mem _ hx)) ⟨fun k => ?_, hs.ar, hs.inp⟩
  show Lt (if k = keyI f p then v else s.sc k)
  split
  ·exact hv v (List.mem_cons_self ..)
  ·exact hs.sc k
 | [], _, s, _, hs => by unfold setPs; exact hs
 | _ :: _, [], s, _, hs => by unfold setPs; exact hs
theorem head_lt {l : List Nat} (h : ∀ v ∈ l, Lt v) : Lt (l.headD 0) := by
 cases l with
 | nil => unfold Lt; decide
 | cons a l => exact h a (List.mem_cons_self ..)
theorem opI_bd {P : Pr} {g : FnD → Sm → IS → IR (Option Nat)} (hP : ∀ f ∈ P.funcs, numSs f.body) (hg : ∀ f x s, numS x → Bnd s → Bd OptLt (g f x s)) (f : FnD) (op : List UInt8) {num : Nat} (hn : Lt num) (name : List UInt8) {vs : List Nat} (hv : ∀ v ∈ vs, Lt v) {s : IS} (hs : Bnd s) : Bd Lt (opI P g f op num name vs s) := by
 have ht : Lt (vs.tail.headD 0) := head_lt fun v h => hv v (List.mem_of_mem_tail h)
 unfold opI
 split
 ·exact ⟨hn, hs⟩
 split
 ·exact ⟨hs.sc _, hs⟩
 split
 ·split
  ·rename_i v h
   exact ⟨hs.ar _ v (List.mem_of_getElem? h), hs⟩
  ·trivial
 split
 ·exact ⟨Nat.mod_lt _ (by decide), hs⟩
 split
 ·exact ⟨b2n_lt _, hs⟩
 split
 ·unfold callI
  split
  ·split
   ·exact ⟨by unfold Lt; decide, hs⟩
   ·rename_i v r h
    exact ⟨hs.inp v (by rw [h]; exact List.mem_cons_self ..), hs.sc, hs.ar, fun x hx => hs.inp x (by rw [h]; exact List.mem_cons_of_mem _ hx)⟩
  split
  ·exact ⟨by unfold Lt; decide, hs.sc, hs.ar, hs.inp⟩
  ·refine (blkR_bd _ _ (fun x hx s hs => hg _ x s ?_ hs) (setPs_bd _ _ _ _ hv hs)).bind fun r s hr hs => ⟨?_, hs⟩
   ·unfold fnI at hx
    cases hf : P.funcs.find? fun f => decide (f.name = name) with
    | none => rw [hf] at hx; cases hx
    | some f' =>
     rw [hf] at hx
     exact numSs_mem (hP f' (List.mem_of_find?_eq_some hf)) hx
   ·cases r with
    | none => show Lt 0; unfold Lt; decide
    | some v => exact hr v rfl
 ·split
  ·rename_i v h
   exact ⟨binI_lt (head_lt hv) ht h, hs⟩
  ·trivial
/-- What is evaluated is below 2^32. -/
theorem bd_all {P : Pr} (hP : ∀ f ∈ P.funcs, numSs f.body) : ∀ n : Nat, (∀ f x s, numE x → Bnd s → Bd Lt (evI P n f x s)) ∧ ∀ f x s, numS x → Bnd s → Bd OptLt (stI P n f x s)
 | 0 => ⟨fun f x s _ _ => by unfold evI; trivial, fun f x s _ _ => by unfold stI; trivial⟩
 | n + 1 => by
  obtain ⟨i1, i2⟩ := bd_all hP n
  refine ⟨fun f x s hx hs => ?_, fun f x s hx hs => ?_⟩
  ·obtain ⟨op, num, name, args⟩ := x
   unfold evI
   exact (tick_bd hs).bind fun _ s _ hs => (mapR_bd args s (fun a ha s hs => i1 f a s (numEs_mem hx.2 ha) hs) hs).bind fun vs s hvs hs => opI_bd hP i2 f op hx.1 name hvs hs
  ·obtain ⟨kind, name, index, value, thn, els⟩ := x
   obtain ⟨h1, h2, h3, h4⟩ := hx
   unfold stI
   refine (tick_bd hs).bind fun _ s _ hs => ?_
   split
   ·trivial
   refine (i1 f _ s (numE_head h2) hs).bind fun v s hv hs => ?_
   split
   ·refine ⟨OptLt.none, fun k => ?_, hs.ar, hs.inp⟩
    show Lt (if k = keyI f name then v else s.sc k)
    split
    ·exact hv
    ·exact hs.sc k
   split
   ·refine (i1 f _ s (numE_head h1) hs).bind fun i s hi hs => ?_
    split
    ·refine ⟨OptLt.none, hs.sc, fun x w hw => ?_, hs.inp⟩
     have hw' : w ∈ (if x = name then (s.ar name).set i v else s.ar x) := hw
     split at hw'
     ·rcases List.mem_or_eq_of_mem_set hw' with g | rfl
      ·exact hs.ar name w g
      ·exact hv
     ·exact hs.ar x w hw'
    ·trivial
   split
   ·exact ⟨OptLt.some hv, hs⟩
   split
   ·split
    ·exact blkR_bd _ _ (fun a ha s hs => i2 f a s (numSs_mem h3 ha) hs) hs
    ·exact blkR_bd _ _ (fun a ha s hs => i2 f a s (numSs_mem h4 ha) hs) hs
   split
   ·exact whlR_bd (fun s hs => i1 f _ s (numE_head h2) hs) (fun s hs => blkR_bd _ _ (fun a ha s hs => i2 f a s (numSs_mem h3 ha) hs) hs) n v s hs
   ·exact ⟨OptLt.none, hs⟩
end Go.Stele
namespace Go.Stele
theorem errFs_own {vars arrays later : List Nm} : ∀ (fs : List FnD) (known : List FSum), errFs vars arrays later known fs = 0 → ∀ f ∈ fs, (f.params ++ f.locals).Nodup ∧ ∀ x ∈ f.params ++ f.locals, x ∉ vars ++ arrays ++ later
 | [], known, _, f, hf => (List.not_mem_nil hf).elim
 | g :: l, known, h, f, hf => by
  rw [errFs] at h
  obtain ⟨h1, h2⟩ := orE_zero.1 h
  rcases List.mem_cons.1 hf with rfl | hf
  ·obtain ⟨g1, g2⟩ := fresh_zero _ _ (orE_zero.1 h1).1
   exact ⟨g1, fun x hx => (g2 x hx).1⟩
  ·exact errFs_own l _ h2 f hf
theorem nodup_map {A B : Type} {g : A → B} (hg : ∀ x y, g x = g y → x = y) : ∀ {l : List A}, l.Nodup → (l.map g).Nodup
 | [], _ => List.nodup_nil
 | a :: l, h => by
  rw [List.nodup_cons] at h
  rw [List.map_cons, List.nodup_cons]
  refine ⟨fun hm => ?_, nodup_map hg h.2⟩
  obtain ⟨b, hb, he⟩ := List.mem_map.1 hm
  exact h.1 (hg _ _ he ▸ hb)
theorem own_nodup {fs : List FnD} : (fs.map (·.name)).Nodup → (∀ f ∈ fs, (46 : UInt8) ∉ f.name) → (∀ f ∈ fs, (f.params ++ f.locals).Nodup) → ((fs.map fun f => (f.params ++ f.locals).map fun x => f.name ++ [46] ++ x).flatten).Nodup := by
 induction fs with
 | nil => intro _ _ _; exact List.nodup_nil
 | cons f l ih =>
  intro h1 h2 h3
  rw [List.map_cons, List.nodup_cons] at h1
  rw [List.map_cons, List.flatten_cons, List.nodup_append]
  refine ⟨?_, ih h1.2 (fun g hg => h2 g (List.mem_cons_of_mem _ hg)) (fun g hg => h3 g (List.mem_cons_of_mem _ hg)), ?_⟩
  ·exact nodup_map (fun x y hxy => List.append_cancel_left hxy) (h3 f (List.mem_cons_self ..))
  ·intro a ha b hb he
   subst he
   obtain ⟨x, _, rfl⟩ := List.mem_map.1 ha
   obtain ⟨L, g1, g2⟩ := List.mem_flatten.1 hb
   obtain ⟨g, g3, rfl⟩ := List.mem_map.1 g1
   obtain ⟨y, _, g5⟩ := List.mem_map.1 g2
   have g6 : g.name ++ 46 :: y = f.name ++ 46 :: x := by simpa using g5
   obtain ⟨e1, _⟩ := split_dot _ _ _ _ (h2 g (List.mem_cons_of_mem _ g3)) (h2 f (List.mem_cons_self ..)) g6
   exact h1.1 (List.mem_map.2 ⟨g, g3, e1⟩)
/-- The keys of a valid program's scalars are different. -/
theorem scal_nodup {vars arrays : List Nm} {fs : List FnD} (h : freshE [] (vars ++ arrays ++ fs.map (·.name)) = 0) (hf : errFs vars arrays (fs.map (·.name)) [] fs = 0) : (scalarsP vars fs).Nodup := by
 obtain ⟨h1, h2⟩ := fresh_zero _ _ h
 have ho := errFs_own fs [] hf
 unfold scalarsP
 rw [List.nodup_append]
 refine ⟨(List.nodup_append.1 (List.nodup_append.1 h1).1).1, own_nodup (List.nodup_append.1 h1).2.1 (fun f hf => noDot (h2 _ (List.mem_append.2 (.inr (List.mem_map.2 ⟨f, hf, rfl⟩)))).2) fun f hf => (ho f hf).1, ?_⟩
 intro a ha b hb he
 subst he
 obtain ⟨L, g1, g2⟩ := List.mem_flatten.1 hb
 obtain ⟨g, g3, rfl⟩ := List.mem_map.1 g1
 obtain ⟨y, _, g5⟩ := List.mem_map.1 g2
 have := noDot (h2 _ (List.mem_append.2 (.inl (List.mem_append.2 (.inl ha))))).2
 rw [← g5] at this
 exact absurd (by simp) this
end Go.Stele
namespace Go.Stele
/-- Known functions are functions of the program. -/
def Known (fs : List FnD) (known : List FSum) : Prop := ∀ k ∈ known, ∃ g ∈ fs, g.name = k.name ∧ g.params.length = k.params
theorem body_valid {vars arrays later : List Nm} {all : List FnD} : ∀ (fs : List FnD) (known : List FSum), errFs vars arrays later known fs = 0 → Known all known → (∀ f ∈ fs, f ∈ all) → ∀ f ∈ fs, ∃ kn, errSs (envF vars arrays later kn f) f.body = 0 ∧ Known all kn
 | [], known, _, _, _, f, hf => (List.not_mem_nil hf).elim
 | g :: l, known, h, hk, ha, f, hf => by
  rw [errFs] at h
  obtain ⟨h1, h2⟩ := orE_zero.1 h
  rcases List.mem_cons.1 hf with rfl | hf
  ·exact ⟨known, (orE_zero.1 h1).2, hk⟩
  ·refine body_valid l _ h2 (fun k hk' => ?_) (fun x hx => ha x (List.mem_cons_of_mem _ hx)) f hf
   rcases List.mem_append.1 hk' with g1 | g1
   ·exact hk k g1
   ·rw [List.mem_singleton.1 g1]
    exact ⟨g, ha g (List.mem_cons_self ..), rfl, rfl⟩
theorem sizes_valid : ∀ (l : List Int) (t : Int), 0 ≤ t → sizesE t l = 0 → ∀ n ∈ l, 0 < n ∧ t + n ≤ 150000
 | [], t, _, _, n, hn => (List.not_mem_nil hn).elim
 | a :: l, t, ht, h, n, hn => by
  rw [sizesE] at h
  split at h
  ·cases h
  split at h
  ·cases h
  rcases List.mem_cons.1 hn with rfl | hn
  ·constructor <;> omega
  ·have := sizes_valid l (t + a) (by omega) h n hn
   constructor <;> omega
/-- A program without a violated rule. -/
structure Valid (p : Pr) : Prop where
 names : freshE [] (p.vars ++ p.arrays.map (·.name) ++ p.funcs.map (·.name)) = 0
 sizes : ∀ a ∈ p.arrays, 0 < a.size ∧ a.size ≤ 150000
 own : ∀ f ∈ p.funcs, (f.params ++ f.locals).Nodup ∧ ∀ x ∈ f.params ++ f.locals, x ∉ p.vars ++ p.arrays.map (·.name) ++ p.funcs.map (·.name)
 bodies : ∀ f ∈ p.funcs, ∃ kn, errSs (envF p.vars (p.arrays.map (·.name)) (p.funcs.map (·.name)) kn f) f.body = 0 ∧ Known p.funcs kn
 keys : (scalarsP p.vars p.funcs).Nodup
 main : mainI p ∈ p.funcs ∧ (mainI p).name = [109, 97, 105, 110] ∧ (mainI p).params = []
 few : (scalarsP p.vars p.funcs).length ≤ 8000
theorem valid_of {p : Pr} (h : checkPr p = 0) : Valid p := by
 unfold checkPr checkP at h
 have e1 : (p.arrays.map fun a => (a.name, (a.size : Int))).map (·.1) = p.arrays.map (·.name) := by rw [List.map_map]; rfl
 rw [e1] at h
 obtain ⟨h1, h⟩ := orE_zero.1 h
 obtain ⟨h2, h⟩ := orE_zero.1 h
 obtain ⟨h3, h4⟩ := orE_zero.1 h
 have hm : mainI p ∈ p.funcs ∧ (mainI p).name = [109, 97, 105, 110] ∧ (mainI p).params = [] ∧ (scalarsP p.vars p.funcs).length ≤ 8000 := by
  unfold mainE at h4
  split at h4
  ·rename_i f m hf hms
   split at h4
   ·rename_i h5
    split at h4
    ·rename_i h6
     have e : mainI p = f := by unfold mainI; rw [hf]; rfl
     rw [e]
     exact ⟨List.mem_of_getLast? hf, h5.1, h5.2, h6.1⟩
    ·cases h4
   ·cases h4
  ·cases h4
 refine ⟨h1, fun a ha => ?_, errFs_own _ _ h3, body_valid _ _ h3 (fun k hk => (List.not_mem_nil hk).elim) (fun f hf => hf), scal_nodup h1 h3, ⟨hm.1, hm.2.1, hm.2.2.1⟩, hm.2.2.2⟩
 have := sizes_valid _ 0 (by decide) h2 (a.size : Int) (by
  rw [List.map_map]
  exact List.mem_map.2 ⟨a, ha, rfl⟩)
 constructor <;> omega
/-- A call that the checker lets through, of a function of the program. -/
theorem call_valid {p : Pr} {f : FnD} {kn : List FSum} (hv : Valid p) (hk : Known p.funcs kn) {name : Nm} {n : Nat} (h : callE (envF p.vars (p.arrays.map (·.name)) (p.funcs.map (·.name)) kn f) name n = 0) (h1 : name ≠ [105, 110]) (h2 : name ≠ [111, 117, 116]) : fnI p name ∈ p.funcs ∧ (fnI p name).name = name ∧ (fnI p name).params.length = n := by
 unfold callE at h
 rw [if_neg h1, if_neg h2] at h
 unfold CEnv.fn at h
 rw [show (envF p.vars (p.arrays.map (·.name)) (p.funcs.map (·.name)) kn f).funcs = kn from rfl] at h
 cases hf : kn.find? fun f => decide (f.name = name) with
 | none =>
  rw [hf] at h
  simp only at h
  split at h <;> cases h
 | some k =>
  rw [hf] at h
  simp only at h
  split at h
  ·rename_i hn
   obtain ⟨g, g1, g2, g3⟩ := hk k (List.mem_of_find?_eq_some hf)
   have hkn : k.name = name := of_decide_eq_true (List.find?_some (p := fun g : FSum => decide (g.name = name)) hf)
   have e := fnI_mem (P := p) (List.nodup_append.1 (fresh_zero _ _ hv.names).1).2.1 g1
   rw [g2, hkn] at e
   rw [e]
   exact ⟨g1, g2.trans hkn, by rw [g3, hn]⟩
  ·cases h
end Go.Stele
set_option maxRecDepth 100000
namespace Go.Stele
/-- `func main() { out(2 + 40); }` -/
def awakeS : List UInt8 := [102, 117, 110, 99, 32, 109, 97, 105, 110, 40, 41, 32, 123, 32, 111, 117, 116, 40, 50, 32, 43, 32, 52, 48, 41, 59, 32, 125]
def awakeP : Pr := ⟨[], [], [⟨[109, 97, 105, 110], [], [], [.mk 6 [] [] [.mk nCall 0 [111, 117, 116] [.mk [43] 0 [] [.mk nNum 2 [] [], .mk nNum 40 [] []]]] [] []]⟩]⟩
theorem awake_parse : parseQ awakeS = (awakeP, 0) := by kernel_rfl
theorem awake_check : checkPr awakeP = 0 := by decide +kernel
theorem awake_run : runI awakeP [] 100 = ⟨[42], 0, 5⟩ := by kernel_rfl
/-- The example of the chapter. -/
theorem awake_law : sourceI awakeS [] 100 = ⟨[42], 0, 5⟩ := by
 rw [source_ok awake_parse awake_check]
 exact awake_run
end Go.Stele
namespace Go.Stele
/-- Output and steps that are left grow by k at most. -/
def Few {A : Type} (k : Nat) (s : IS) (r : IR A) : Prop := r.st.out.length + r.st.left ≤ s.out.length + s.left + k
theorem Few.bind {A B : Type} {k : Nat} {s : IS} {r : IR A} {f : A → IS → IR B} (h : Few 0 s r) (hf : ∀ v s', Few k s' (f v s')) : Few k s (r.bind f) := by
 cases r with
 | ok v s' => exact Nat.le_trans (hf v s') (Nat.add_le_add_right h k)
 | stop e s' => exact Nat.le_trans h (Nat.le_add_right _ _)
theorem Few.bind' {A B : Type} {k : Nat} {s : IS} {r : IR A} {f : A → IS → IR B} (h : Few k s r) (hf : ∀ v s', Few 0 s' (f v s')) : Few k s (r.bind f) := by
 cases r with
 | ok v s' => exact Nat.le_trans (hf v s') h
 | stop e s' => exact h
theorem Few.refl {A : Type} {k : Nat} {v : A} {s : IS} : Few k s (.ok v s) := Nat.le_add_right _ _
theorem Few.reflS {A : Type} {k : Nat} {e : Int} {s : IS} : Few (A := A) k s (.stop e s) := Nat.le_add_right _ _
theorem Few.tick {B : Type} {s : IS} {f : Unit → IS → IR B} (hf : ∀ s', Few 1 s' (f () s')) : Few 0 s ((tick s).bind f) := by
 unfold Go.Stele.tick
 split
 ·exact Few.reflS
 ·rename_i h
  have := hf { s with left := s.left - 1 }
  unfold Few at this ⊢
  simp only at this
  show (f () { s with left := s.left - 1 }).st.out.length + (f () { s with left := s.left - 1 }).st.left ≤ _
  omega
theorem Few.up {A : Type} {s : IS} {r : IR A} (h : Few 0 s r) : Few 1 s r := Nat.le_trans h (Nat.le_add_right _ _)
theorem mapR_few {A : Type} {g : A → IS → IR Nat} (h : ∀ a s, Few 0 s (g a s)) : ∀ (l : List A) (s : IS), Few 0 s (mapR g l s)
 | [], s => Few.refl
 | a :: l, s => (h a s).bind fun v s => (mapR_few h l s).bind fun vs s => Few.refl
theorem blkR_few {g : Sm → IS → IR (Option Nat)} (h : ∀ a s, Few 0 s (g a s)) : ∀ (l : List Sm) (s : IS), Few 0 s (blkR g l s)
 | [], s => Few.refl
 | a :: l, s => (h a s).bind fun r s => by
  cases r with
  | none => exact blkR_few h l s
  | some v => exact Few.refl
theorem whlR_few {c : IS → IR Nat} {b : IS → IR (Option Nat)} (hc : ∀ s, Few 0 s (c s)) (hb : ∀ s, Few 0 s (b s)) : ∀ (m v : Nat) (s : IS), Few 0 s (whlR c b m v s)
 | 0, v, s => by
  unfold whlR
  split
  ·exact Few.refl
  ·exact Few.reflS
 | m + 1, v, s => by
  unfold whlR
  split
  ·exact Few.refl
  ·refine (hb s).bind fun r s => ?_
   cases r with
   | some x => exact Few.refl
   | none => exact (hc s).bind fun v s => whlR_few hc hb m v s
theorem opI_few {P : Pr} {g : FnD → Sm → IS → IR (Option Nat)} (h : ∀ f a s, Few 0 s (g f a s)) (f : FnD) (op : List UInt8) (num : Nat) (name : List UInt8) (vs : List Nat) (s : IS) : Few 1 s (opI P g f op num name vs s) := by
 unfold opI
 split
 ·exact Few.refl
 split
 ·exact Few.refl
 split
 ·split
  ·exact Few.refl
  ·exact Few.reflS
 split
 ·exact Few.refl
 split
 ·exact Few.refl
 split
 ·unfold callI
  split
  ·split
   ·exact Few.refl
   ·exact Nat.le_add_right _ _
  split
  ·unfold Few
   simp only [IR.st, List.length_append, List.length_cons, List.length_nil]
   omega
  ·refine Few.bind' (Few.up ?_) fun r s => Few.refl
   have := blkR_few (h (fnI P name)) (fnI P name).body (setPs (fnI P name) (fnI P name).params vs s)
   unfold Few at this ⊢
   rwa [(setPs_same _ _ _ _).1, (setPs_same _ _ _ _).2.1] at this
 ·split
  ·exact Few.refl
  ·exact Few.reflS
theorem few_all (P : Pr) : ∀ n : Nat, (∀ f x s, Few 0 s (evI P n f x s)) ∧ ∀ f x s, Few 0 s (stI P n f x s)
 | 0 => ⟨fun f x s => by unfold evI; exact Few.reflS, fun f x s => by unfold stI; exact Few.reflS⟩
 | n + 1 => by
  obtain ⟨h1, h2⟩ := few_all P n
  refine ⟨fun f x s => ?_, fun f x s => ?_⟩
  ·obtain ⟨op, num, name, args⟩ := x
   unfold evI
   exact Few.tick fun s => (mapR_few (h1 f) args s).bind fun vs s => opI_few h2 f op num name vs s
  ·obtain ⟨kind, name, index, value, thn, els⟩ := x
   unfold stI
   refine Few.tick fun s => Few.up ?_
   split
   ·exact Few.reflS
   refine (h1 f _ s).bind fun v s => ?_
   split
   ·exact Few.refl
   split
   ·refine (h1 f _ s).bind fun i s => ?_
    split
    ·exact Few.refl
    ·exact Few.reflS
   split
   ·exact Few.refl
   split
   ·split
    ·exact blkR_few (h2 f) _ _
    ·exact blkR_few (h2 f) _ _
   split
   ·exact whlR_few (h1 f _) (blkR_few (h2 f) _) _ _ _
   ·exact Few.refl
end Go.Stele
namespace Go.Stele
theorem nm_short {s : Nm} (h : isNm s = true) : s.length ≤ 24 := by
 unfold isNm at h
 simp only [Bool.and_eq_true, decide_eq_true_eq] at h
 exact h.1.1
theorem errFs_nm {vars arrays later : List Nm} : ∀ (fs : List FnD) (known : List FSum), errFs vars arrays later known fs = 0 → ∀ f ∈ fs, ∀ x ∈ f.params ++ f.locals, isNm x = true
 | [], known, _, f, hf => (List.not_mem_nil hf).elim
 | g :: l, known, h, f, hf => by
  rw [errFs] at h
  obtain ⟨h1, h2⟩ := orE_zero.1 h
  rcases List.mem_cons.1 hf with rfl | hf
  ·obtain ⟨g1, g2⟩ := fresh_zero _ _ (orE_zero.1 h1).1
   exact fun x hx => (g2 x hx).2
  ·exact errFs_nm l _ h2 f hf
theorem short_of {p : Pr} (h : checkPr p = 0) : (∀ f ∈ p.funcs, f.name.length ≤ 24) ∧ ∀ k ∈ scalarsP p.vars p.funcs, k.length ≤ 49 := by
 unfold checkPr checkP at h
 have e1 : (p.arrays.map fun a => (a.name, (a.size : Int))).map (·.1) = p.arrays.map (·.name) := by rw [List.map_map]; rfl
 rw [e1] at h
 obtain ⟨h1, h⟩ := orE_zero.1 h
 obtain ⟨h2, h⟩ := orE_zero.1 h
 obtain ⟨h3, h4⟩ := orE_zero.1 h
 have hn := (fresh_zero _ _ h1).2
 have hf : ∀ f ∈ p.funcs, f.name.length ≤ 24 := fun f hf => nm_short (hn _ (List.mem_append.2 (.inr (List.mem_map.2 ⟨f, hf, rfl⟩)))).2
 refine ⟨hf, fun k hk => ?_⟩
 unfold scalarsP at hk
 rcases List.mem_append.1 hk with g | g
 ·have := nm_short (hn k (List.mem_append.2 (.inl (List.mem_append.2 (.inl g))))).2
  omega
 ·obtain ⟨l, g1, g2⟩ := List.mem_flatten.1 g
  obtain ⟨f, g3, rfl⟩ := List.mem_map.1 g1
  obtain ⟨x, g4, rfl⟩ := List.mem_map.1 g2
  have a1 := hf f g3
  have a2 := nm_short (errFs_nm _ _ h3 f g3 x g4)
  simp only [List.length_append, List.length_cons, List.length_nil]
  omega
theorem own_short {p : Pr} (h : checkPr p = 0) : ∀ f ∈ p.funcs, f.name.length ≤ 1000 ∧ ∀ x ∈ f.params ++ f.locals, x.length ≤ 1000 := by
 have h0 := (short_of h).1
 unfold checkPr checkP at h
 have e1 : (p.arrays.map fun a => (a.name, (a.size : Int))).map (·.1) = p.arrays.map (·.name) := by rw [List.map_map]; rfl
 rw [e1] at h
 have h3 := (orE_zero.1 (orE_zero.1 (orE_zero.1 h).2).2).1
 exact fun f hf => ⟨Nat.le_trans (h0 f hf) (by decide), fun x hx => Nat.le_trans (nm_short (errFs_nm _ _ h3 f hf x hx)) (by decide)⟩
/-- What an execution asks of a program. -/
theorem key_short {p : Pr} {f : FnD} {name : Nm} (h : ∀ k ∈ scalarsP p.vars p.funcs, k.length ≤ 49) (hk : keyI f name ∈ scalarsP p.vars p.funcs) : name.length ≤ 49 := by
 have := h _ hk
 unfold keyI at this
 split at this
 ·simp only [List.length_append, List.length_cons, List.length_nil] at this
  omega
 ·exact this
end Go.Stele
namespace Go.Stele
def Few6 (n : Nat) : Prop := n ≤ 1000000
mutual
def smE : Ex → Prop
 | .mk op num name args => Few6 args.length ∧ smEs args
def smEs : List Ex → Prop
 | [] => True
 | x :: l => smE x ∧ smEs l
end
mutual
def smS : Sm → Prop
 | .mk kind name index value thn els => Few6 index.length ∧ Few6 value.length ∧ Few6 thn.length ∧ Few6 els.length ∧ smEs index ∧ smEs value ∧ smSs thn ∧ smSs els
def smSs : List Sm → Prop
 | [] => True
 | x :: l => smS x ∧ smSs l
end
structure SmF (f : FnD) : Prop where
 params : Few6 f.params.length
 locals : Few6 f.locals.length
 body : Few6 f.body.length
 stmts : smSs f.body
structure SmP (p : Pr) : Prop where
 vars : Few6 p.vars.length
 arrays : Few6 p.arrays.length
 funcs : Few6 p.funcs.length
 each : ∀ f ∈ p.funcs, SmF f
end Go.Stele
namespace Go.Proofs.YtcbpcianefpniaaGreatDoor.Inp
open Go.GL Go.RowKit Go.Stele
set_option maxRecDepth 100000
set_option maxHeartbeats 4000000
@[reducible] def u32 (n : Nat) : LV := int .u32 (n : Int)
def unitV : Unit → LV := fun _ => .tuple []
def retV : Option Nat → LV := fun r => .tuple [u32 (r.getD 0), bool r.isSome]
@[reducible] def fnV (f : FuncId) : LV := .atom (.func (.func f) #[] #[])
/-- The binary operators' functions; the divisor's cell is db. -/
def opsKV (db : Nat) : KV := [([43], fnV 58), ([45], fnV 59), ([42], fnV 60), ([47], .atom (.func (.func 61) #[] #[.pointer (some ⟨db, 0, none⟩)])), ([37], .atom (.func (.func 62) #[] #[.pointer (some ⟨db, 0, none⟩)])),
 ([94], fnV 63), ([61, 61], fnV 64), ([33, 61], fnV 66), ([60], fnV 67), ([62], fnV 68), ([60, 61], fnV 69), ([62, 61], fnV 70), ([38, 38], fnV 71), ([124, 124], fnV 72)]
/-- Where an execution's blocks lie. -/
structure Cfg where
 p : Pr
 rb : Nat
 db : Nat
 om : Nat
 sm : Nat
 am : Nat
 fm : Nat
 oc : Nat
 sc : Nat
 ac : Nat
 fc : Nat
 sb : List (List UInt8 × Nat)
 ab : List (List UInt8 × Nat × Nat)
 lim : Nat
def scKV (sb : List (List UInt8 × Nat)) : KV := sb.map fun q => (q.1, ptr q.2 0)
def arKV (ab : List (List UInt8 × Nat × Nat)) : KV := ab.map fun q => (q.1, rowV q.2.1 q.2.2)
def fnKV (fs : List FnD) : KV := fs.map fun f => (f.name, encFn f)
def runC (c : Cfg) (s : IS) (v : LV) : List LV := [.list (c.p.vars.map str), .list (c.p.arrays.map encAr), .list (c.p.funcs.map encFn), .atom (.map (some c.om)), .list (s.inp.map u32), v, int .i64 ((c.lim - s.left : Nat) : Int), int .i64 (s.left : Int), .atom (.map (some c.sm)), .atom (.map (some c.am)), .atom (.map (some c.fm))]
def scH (sb : List (List UInt8 × Nat)) (s : IS) : Heap := sb.map fun q => (q.2, LObj.cells 43 [u32 (s.sc q.1)])
def arH (ab : List (List UInt8 × Nat × Nat)) (s : IS) : Heap := ab.map fun q => (q.2.1, LObj.cells 43 ((s.ar q.1).map u32))
@[reducible] def divH (db : Nat) : Nat × LObj := (db, .cells 132 [fnV 57])
def stH (c : Cfg) (s : IS) (v : LV) (Ha : Heap) : Heap := (c.rb, .cells 72 (runC c s v)) :: (c.sm, .map (kvs (scKV c.sb)) c.sc) :: (c.am, .map (kvs (arKV c.ab)) c.ac) :: (c.fm, .map (kvs (fnKV c.p.funcs)) c.fc) :: (c.om, .map (kvs (opsKV c.db)) c.oc) :: divH c.db :: (scH c.sb s ++ (arH c.ab s ++ Ha))
/-- The state in memory. -/
def St (c : Cfg) (s : IS) (H : Heap) : Prop := (∀ q ∈ c.ab, (s.ar q.1).length = q.2.2) ∧ s.left ≤ c.lim ∧ ∃ v Ha, Acc 1 v (byts s.out) Ha [] ∧ H = stH c s v Ha
/-- What is the same in all states of a run. -/
structure CfgOk (c : Cfg) : Prop where
 valid : Valid c.p
 nums : ∀ f ∈ c.p.funcs, numSs f.body
 sbk : c.sb.map (·.1) = scalarsP c.p.vars c.p.funcs
 abk : c.ab.map (·.1) = c.p.arrays.map (·.name)
 small : SmP c.p
 asz : ∀ q ∈ c.ab, q.2.2 ≤ 150000
 lim : c.lim ≤ 100000000
 fshort : ∀ f ∈ c.p.funcs, f.name.length ≤ 24
 short : ∀ k ∈ scalarsP c.p.vars c.p.funcs, k.length ≤ 49
def panI (e : Int) : List PanicEntry := [{ v := .iface 131 (.agg #[.int .i64 e]), recovered := false }]
/-- A call that hands back a value or ends the execution. -/
def PostI {A : Type} (c : Cfg) (enc : A → LV) (r : IR A) (res : LRes) (H : Heap) : Prop := match r with
 | .ok v s => res = .ret (enc v) ∧ St c s H
 | .stop e s => res = .panic (panI e) ∧ St c s H
/-- A call that hands back this and leaves the heap as it was. -/
@[reducible] def Same (v : LV) (H : Heap) : LRes → Heap → Prop := fun r H' => r = .ret v ∧ H' = H
section steps
variable {C : Ctx} {n : Nat} {e : Env} {H : Heap} {dst : Option Nat} {ty : TypeId} {pos : String} {aft : Array Edge} {g : Option (Nat × Bool)} {K : LV → Heap → Prop} {X : List PanicEntry → Heap → Prop}
theorem S.callS {f : FuncId} [TEnter C.P f] (args : List Operand) {ats : Array TypeId} {av : List LV} {lv : LV} {H1 F : Heap} (has : args.map e.ev = av) (hp : H.Perm (H1 ++ F)) (hc : LCalls C f av H1 (Same lv H1)) (hk : K lv (H1 ++ F)) :
  LStep C ⟨dst, .call { callee := .value (.func f), args := args.toArray, argTypes := ats }, ty, pos, aft, g⟩ e H K X :=
 S.callH args has hp hc (by rintro v H' ⟨h, rfl⟩; cases h; exact hk) (by rintro ch H' ⟨h, _⟩; cases h)
theorem S.callI {A : Type} {c : Cfg} {enc : A → LV} {r : IR A} {f : FuncId} [TEnter C.P f] (args : List Operand) {ats : Array TypeId} {av : List LV} {H1 F : Heap} (has : args.map e.ev = av) (hp : H.Perm (H1 ++ F))
  (hc : LCalls C f av H1 (PostI c enc r)) (hk : ∀ v s H', r = .ok v s → St c s H' → K (enc v) (H' ++ F)) (hx : ∀ er s H', r = .stop er s → St c s H' → X (panI er) (H' ++ F)) :
  LStep C ⟨dst, .call { callee := .value (.func f), args := args.toArray, argTypes := ats }, ty, pos, aft, g⟩ e H K X := by
 refine S.callH args has hp hc ?_ ?_
 ·intro v H' h
  cases hr : r with
  | ok u s =>
   rw [hr] at h
   obtain ⟨h1, h2⟩ := h
   cases h1
   exact hk _ _ _ hr h2
  | stop er s =>
   rw [hr] at h
   obtain ⟨h1, _⟩ := h
   cases h1
 ·intro ch H' h
  cases hr : r with
  | ok u s =>
   rw [hr] at h
   obtain ⟨h1, _⟩ := h
   cases h1
  | stop er s =>
   rw [hr] at h
   obtain ⟨h1, h2⟩ := h
   cases h1
   exact hx _ _ _ hr h2
theorem retI {A : Type} {c : Cfg} {enc : A → LV} {r : IR A} {rs : List ResultVar} {vs : List LV} {v : A} {s : IS} {H' : Heap} (hd : e.ds = []) (h : AllRes C n e H rs vs) (hr : r = .ok v s) (hv : resLV vs = enc v) (hH : HSub H' H) (hs : St c s H') :
  RetPost C n rs (PostI c enc r) .ret e H := RetPost.ret hd h hH (by rw [hr]; exact ⟨by rw [hv], hs⟩)
theorem retIn {A : Type} {c : Cfg} {enc : A → LV} {r : IR A} {rs : List ResultVar} {vs : List LV} {v : A} {s : IS} {H' : Heap} (hd : e.ds = []) (h : AllRes C n e H rs vs) (hr : r = .ok v s) (hv : resLV vs = enc v) (hH : HSub H' H) (hs : St c s H') :
  RetPost C n rs (PostI c enc r) .normal e H := RetPost.normal hd h hH (by rw [hr]; exact ⟨by rw [hv], hs⟩)
theorem panI_ {A : Type} {c : Cfg} {enc : A → LV} {r : IR A} {rs : List ResultVar} {er : Int} {s : IS} {H' : Heap} (hd : e.ds = []) (hr : r = .stop er s) (hH : HSub H' H) (hs : St c s H') :
  RetPost C n rs (PostI c enc r) (.panic (panI er)) e H := RetPost.panic hd hH (by rw [hr]; exact ⟨rfl, hs⟩)
theorem retS {rs : List ResultVar} {vs : List LV} {lv : LV} {H0 : Heap} (hd : e.ds = []) (h : AllRes C n e H rs vs) (hv : resLV vs = lv) (hH : HSub H0 H) : RetPost C n rs (Same lv H0) .ret e H :=
 RetPost.ret hd h hH ⟨by rw [hv], rfl⟩
end steps
instance : TMap Tryz.prog 68 74 (.pointer none) (.atom (.pointer none)) := ⟨⟨9, by kernel_rfl, by kernel_rfl⟩, fun w => (Go.zero_of_info (P := Tryz.prog) (n := 1) (by kernel_rfl)).1 w, fun _ _ => rep_atom⟩
instance : TMap Tryz.prog 69 22 (.slice none 0 0) nilSlice := ⟨⟨9, by kernel_rfl, by kernel_rfl⟩, fun w => (Go.zero_of_info (P := Tryz.prog) (n := 1) (by kernel_rfl)).1 w, fun _ _ => rep_atom⟩
instance : TMap Tryz.prog 70 63 (.agg [.string ⟨#[]⟩, .slice none 0 0, .slice none 0 0, .slice none 0 0].toArray) (.agg ([.string ⟨#[]⟩, .slice none 0 0, .slice none 0 0, .slice none 0 0].map .atom)) := ⟨⟨9, by kernel_rfl, by kernel_rfl⟩, fun w => (Go.zero_of_info (P := Tryz.prog) (n := 4) (by kernel_rfl)).1 w, fun w L => rep_aggs w L _⟩
instance : TMap Tryz.prog 66 133 .nilFunc (.atom .nilFunc) := ⟨⟨9, by kernel_rfl, by kernel_rfl⟩, fun w => (Go.zero_of_info (P := Tryz.prog) (n := 1) (by kernel_rfl)).1 w, fun _ _ => rep_atom⟩
attribute [local irreducible] LOps LCode LStep LCalls Go.GL.Pure QThen QBlock RetPost LQ LAny LLate LLateOp
section
variable {B0 : Nat} {w0 : World} {H : Heap}
theorem step_spec {c : Cfg} (hC : CfgOk c) {s : IS} (hs : St c s H) : LCalls (KC B0 w0) 157 [ptr c.rb 0] H (PostI c unitV (tick s)) := by
 have hs0 := hs
 have hlim := hC.lim
 obtain ⟨hl, hle, v, Ha, hacc, rfl⟩ := hs
 refine LCalls.intro Tryz.func157 rfl (n := 23) rfl rfl rfl ?_
 repeat first | refine LOps.nil ?_ | refine LCode.seq ?_ | refine LCode.region ?_ | refine QThen.normal ?_ | refine LOps.pure (Pure.mv (lv := .atom _) rfl) rfl ?_ | refine LOps.pure (Pure.nilCheckH rfl) rfl ?_ | refine LOps.pure (Pure.fieldH rfl) rfl ?_ | refine LOps.pure (Pure.loadH (c := .atom _) rfl (List.Mem.head _) rfl) rfl ?_ | refine LOps.pure (Pure.eql rfl rfl) rfl ?_
 refine LCode.cond rfl (fun hc => ?_) (fun hc => ?_)
 ·repeat first | refine LCode.region ?_ | refine LOps.pure (Pure.bld _ (cs := [_]) rfl) rfl ?_ | refine LOps.pure (Pure.makeInterfaceAgg (vs := [_]) rfl) rfl ?_
  refine LOps.step (LStep.panic rfl fun e' he' => ?_) rfl
  repeat first | refine QThen.panic ?_
  have h0 : s.left = 0 := by have := of_decide_eq_true hc; omega
  exact panI_ (he'.trans rfl) (by rw [tick, if_pos h0]) (HSub.refl _) hs0
 ·have h0 : ¬ s.left = 0 := by have := of_decide_eq_false hc; omega
  repeat first | refine LOps.nil ?_ | refine LCode.seq ?_ | refine LCode.region ?_ | refine LCode.skip ?_ | refine QThen.normal ?_ | refine LOps.pure (Pure.mv (lv := .atom _) rfl) rfl ?_ | refine LOps.pure (Pure.nilCheckH rfl) rfl ?_ | refine LOps.pure (Pure.fieldH rfl) rfl ?_ | refine LOps.pure (Pure.loadH (c := .atom _) rfl (List.Mem.head _) rfl) rfl ?_ | refine LOps.pure (Pure.sub rfl rfl (by omega)) rfl ?_ | refine LOps.pure (Pure.add rfl rfl (by omega)) rfl ?_ | refine LOps.step (S.store (cs' := [_, _, _, _, _, _, _, _, _, _, _]) rfl Pick.here rfl rfl rfl rfl rfl ?_) rfl
  have e1 : (s.left : Int) - 1 = ((s.left - 1 : Nat) : Int) := by omega
  have e2 : ((c.lim - s.left : Nat) : Int) + 1 = ((c.lim - (s.left - 1) : Nat) : Int) := by omega
  rw [e1, e2]
  exact retIn rfl AllRes.nil (v := ()) (s := { s with left := s.left - 1 }) (by rw [tick, if_neg h0]) rfl (HSub.refl _) ⟨hl, by show s.left - 1 ≤ c.lim; omega, v, Ha, hacc, rfl⟩
theorem truth_spec (b : Bool) : LCalls (KC B0 w0) 65 [bool b] H (Same (u32 (b2n b)) H) := by
 refine LCalls.intro Tryz.func65 rfl (n := 4) rfl rfl rfl ?_
 repeat first | refine LOps.nil ?_ | refine LCode.seq ?_ | refine LCode.region ?_ | refine QThen.normal ?_ | refine LOps.pure (Pure.as (lv := .atom _) rfl) rfl ?_ | refine LOps.pure (Pure.mv (lv := .atom _) rfl) rfl ?_
 refine LCode.cond rfl (fun hc => ?_) (fun hc => ?_)
 ·repeat first | refine LOps.nil ?_ | refine LCode.seq ?_ | refine LCode.region ?_ | refine LCode.ret ?_ | refine QThen.normal ?_ | refine QThen.ret ?_ | refine LOps.pure (Pure.as (lv := .atom _) rfl) rfl ?_
  exact retS rfl (AllRes.cons (ResIs.tmp (v := .atom _) rfl (LV.Sub.refl _)) AllRes.nil) (by rw [hc]; rfl) (HSub.refl _)
 ·repeat first | refine LOps.nil ?_ | refine LCode.seq ?_ | refine LCode.region ?_ | refine LCode.skip ?_ | refine LCode.ret ?_ | refine QThen.normal ?_ | refine LOps.pure (Pure.as (lv := .atom _) rfl) rfl ?_
  exact retS rfl (AllRes.cons (ResIs.tmp (v := .atom _) rfl (LV.Sub.refl _)) AllRes.nil) (by rw [hc]; rfl) (HSub.refl _)
end
end Go.Proofs.YtcbpcianefpniaaGreatDoor.Inp
namespace Go.Proofs.YtcbpcianefpniaaGreatDoor.Inp
open Go.GL Go.RowKit Go.Stele
set_option maxRecDepth 100000
set_option maxHeartbeats 4000000
theorem wrapU (n : Int) : IntKind.u32.wrap n = n % 4294967296 := by
 simp only [IntKind.wrap, IntKind.bits, IntKind.signed, Bool.false_and]
 rfl
theorem u32_eq {a : Int} {b : Nat} (h : a = b) : int .u32 a = u32 b := by rw [h]
theorem b2n_dec {p q : Prop} [Decidable p] [Decidable q] (h : p ↔ q) : b2n (decide p) = b2n (decide q) := by rw [decide_eq_decide.2 h]
attribute [local irreducible] LOps LCode LStep LCalls Go.GL.Pure QThen QBlock RetPost LQ LAny LLate LLateOp
section
variable {B0 : Nat} {w0 : World} {H : Heap} {a b : Nat}
theorem xor_u32 (ha : a < 4294967296) (hb : b < 4294967296) : IntKind.u32.wrap ((BitVec.ofInt IntKind.u32.bits a ^^^ BitVec.ofInt IntKind.u32.bits b).toNat : Nat) = ((a ^^^ b : Nat) : Int) := by
 rw [wrapU, BitVec.toNat_xor]
 have h1 : ∀ n : Nat, n < 4294967296 → (BitVec.ofInt IntKind.u32.bits (n : Int)).toNat = n := fun n hn => by
  rw [BitVec.ofInt_natCast, BitVec.toNat_ofNat]
  exact Nat.mod_eq_of_lt hn
 rw [h1 a ha, h1 b hb]
 have : a ^^^ b < 4294967296 := Nat.xor_lt_two_pow (n := 32) ha hb
 omega
theorem op2_spec (ha : a < 4294967296) (hb : b < 4294967296) : LCalls (KC B0 w0) 58 [u32 a, u32 b] H (Same (u32 ((a + b) % 4294967296)) H) := by
 refine LCalls.intro Tryz.func58 rfl (n := 8) rfl rfl rfl ?_
 repeat first | refine LOps.nil ?_ | refine LCode.seq ?_ | refine LCode.region ?_ | refine QThen.normal ?_ | refine LOps.pure (Pure.as (lv := .atom _) rfl) rfl ?_ | refine LOps.pure (Pure.mv (lv := .atom _) rfl) rfl ?_
 refine LOps.pure (Pure.addW rfl rfl) rfl ?_
 repeat first | refine LOps.nil ?_ | refine LCode.ret ?_ | refine QThen.normal ?_ | refine LOps.pure (Pure.as (lv := .atom _) rfl) rfl ?_
 exact retS rfl (AllRes.cons (ResIs.tmp (v := .atom _) rfl (LV.Sub.refl _)) AllRes.nil) (u32_eq (by rw [wrapU]; omega)) (HSub.refl _)
theorem op3_spec (ha : a < 4294967296) (hb : b < 4294967296) : LCalls (KC B0 w0) 59 [u32 a, u32 b] H (Same (u32 ((a + 4294967296 - b) % 4294967296)) H) := by
 refine LCalls.intro Tryz.func59 rfl (n := 8) rfl rfl rfl ?_
 repeat first | refine LOps.nil ?_ | refine LCode.seq ?_ | refine LCode.region ?_ | refine QThen.normal ?_ | refine LOps.pure (Pure.as (lv := .atom _) rfl) rfl ?_ | refine LOps.pure (Pure.mv (lv := .atom _) rfl) rfl ?_
 refine LOps.pure (Pure.subW rfl rfl) rfl ?_
 repeat first | refine LOps.nil ?_ | refine LCode.ret ?_ | refine QThen.normal ?_ | refine LOps.pure (Pure.as (lv := .atom _) rfl) rfl ?_
 exact retS rfl (AllRes.cons (ResIs.tmp (v := .atom _) rfl (LV.Sub.refl _)) AllRes.nil) (u32_eq (by rw [wrapU]; omega)) (HSub.refl _)
theorem op4_spec (ha : a < 4294967296) (hb : b < 4294967296) : LCalls (KC B0 w0) 60 [u32 a, u32 b] H (Same (u32 (a * b % 4294967296)) H) := by
 refine LCalls.intro Tryz.func60 rfl (n := 8) rfl rfl rfl ?_
 repeat first | refine LOps.nil ?_ | refine LCode.seq ?_ | refine LCode.region ?_ | refine QThen.normal ?_ | refine LOps.pure (Pure.as (lv := .atom _) rfl) rfl ?_ | refine LOps.pure (Pure.mv (lv := .atom _) rfl) rfl ?_
 refine LOps.pure (Pure.mulW rfl rfl) rfl ?_
 repeat first | refine LOps.nil ?_ | refine LCode.ret ?_ | refine QThen.normal ?_ | refine LOps.pure (Pure.as (lv := .atom _) rfl) rfl ?_
 exact retS rfl (AllRes.cons (ResIs.tmp (v := .atom _) rfl (LV.Sub.refl _)) AllRes.nil) (u32_eq (by rw [wrapU, ← Int.natCast_mul]; generalize a * b = q; omega)) (HSub.refl _)
theorem op7_spec (ha : a < 4294967296) (hb : b < 4294967296) : LCalls (KC B0 w0) 63 [u32 a, u32 b] H (Same (u32 (a ^^^ b)) H) := by
 refine LCalls.intro Tryz.func63 rfl (n := 8) rfl rfl rfl ?_
 repeat first | refine LOps.nil ?_ | refine LCode.seq ?_ | refine LCode.region ?_ | refine QThen.normal ?_ | refine LOps.pure (Pure.as (lv := .atom _) rfl) rfl ?_ | refine LOps.pure (Pure.mv (lv := .atom _) rfl) rfl ?_
 refine LOps.pure (Pure.xorW rfl rfl) rfl ?_
 repeat first | refine LOps.nil ?_ | refine LCode.ret ?_ | refine QThen.normal ?_ | refine LOps.pure (Pure.as (lv := .atom _) rfl) rfl ?_
 exact retS rfl (AllRes.cons (ResIs.tmp (v := .atom _) rfl (LV.Sub.refl _)) AllRes.nil) (u32_eq (xor_u32 ha hb)) (HSub.refl _)
theorem op8_spec : LCalls (KC B0 w0) 64 [u32 a, u32 b] H (Same (u32 (b2n (decide (a = b)))) H) := by
 refine LCalls.intro Tryz.func64 rfl (n := 9) rfl rfl rfl ?_
 repeat first | refine LOps.nil ?_ | refine LCode.seq ?_ | refine LCode.region ?_ | refine QThen.normal ?_ | refine LOps.pure (Pure.as (lv := .atom _) rfl) rfl ?_ | refine LOps.pure (Pure.mv (lv := .atom _) rfl) rfl ?_ | refine LOps.pure (Pure.eql rfl rfl) rfl ?_
 refine LOps.step (S.callS (H1 := H) (F := []) [_] rfl (by rw [List.append_nil]) (truth_spec _) ?_) rfl
 rw [List.append_nil]
 repeat first | refine LOps.nil ?_ | refine LCode.ret ?_ | refine QThen.normal ?_ | refine LOps.pure (Pure.as (lv := .atom _) rfl) rfl ?_
 exact retS rfl (AllRes.cons (ResIs.tmp (v := .atom _) rfl (LV.Sub.refl _)) AllRes.nil) (congrArg u32 (b2n_dec (by omega))) (HSub.refl _)
theorem b2n_not : b2n (!decide ((a : Int) = b)) = b2n (decide (a ≠ b)) := by
 by_cases h : a = b
 ·simp [h, b2n]
 ·have : ¬ (a : Int) = b := by omega
  simp [h, this, b2n]
theorem op9_spec : LCalls (KC B0 w0) 66 [u32 a, u32 b] H (Same (u32 (b2n (decide (a ≠ b)))) H) := by
 refine LCalls.intro Tryz.func66 rfl (n := 9) rfl rfl rfl ?_
 repeat first | refine LOps.nil ?_ | refine LCode.seq ?_ | refine LCode.region ?_ | refine QThen.normal ?_ | refine LOps.pure (Pure.as (lv := .atom _) rfl) rfl ?_ | refine LOps.pure (Pure.mv (lv := .atom _) rfl) rfl ?_ | refine LOps.pure (Pure.neq rfl rfl) rfl ?_
 refine LOps.step (S.callS (H1 := H) (F := []) [_] rfl (by rw [List.append_nil]) (truth_spec _) ?_) rfl
 rw [List.append_nil]
 repeat first | refine LOps.nil ?_ | refine LCode.ret ?_ | refine QThen.normal ?_ | refine LOps.pure (Pure.as (lv := .atom _) rfl) rfl ?_
 exact retS rfl (AllRes.cons (ResIs.tmp (v := .atom _) rfl (LV.Sub.refl _)) AllRes.nil) (congrArg u32 (b2n_not)) (HSub.refl _)
theorem op10_spec : LCalls (KC B0 w0) 67 [u32 a, u32 b] H (Same (u32 (b2n (decide (a < b)))) H) := by
 refine LCalls.intro Tryz.func67 rfl (n := 9) rfl rfl rfl ?_
 repeat first | refine LOps.nil ?_ | refine LCode.seq ?_ | refine LCode.region ?_ | refine QThen.normal ?_ | refine LOps.pure (Pure.as (lv := .atom _) rfl) rfl ?_ | refine LOps.pure (Pure.mv (lv := .atom _) rfl) rfl ?_ | refine LOps.pure (Pure.lss rfl rfl) rfl ?_
 refine LOps.step (S.callS (H1 := H) (F := []) [_] rfl (by rw [List.append_nil]) (truth_spec _) ?_) rfl
 rw [List.append_nil]
 repeat first | refine LOps.nil ?_ | refine LCode.ret ?_ | refine QThen.normal ?_ | refine LOps.pure (Pure.as (lv := .atom _) rfl) rfl ?_
 exact retS rfl (AllRes.cons (ResIs.tmp (v := .atom _) rfl (LV.Sub.refl _)) AllRes.nil) (congrArg u32 (b2n_dec (by omega))) (HSub.refl _)
theorem op11_spec : LCalls (KC B0 w0) 68 [u32 a, u32 b] H (Same (u32 (b2n (decide (b < a)))) H) := by
 refine LCalls.intro Tryz.func68 rfl (n := 9) rfl rfl rfl ?_
 repeat first | refine LOps.nil ?_ | refine LCode.seq ?_ | refine LCode.region ?_ | refine QThen.normal ?_ | refine LOps.pure (Pure.as (lv := .atom _) rfl) rfl ?_ | refine LOps.pure (Pure.mv (lv := .atom _) rfl) rfl ?_ | refine LOps.pure (Pure.gtr rfl rfl) rfl ?_
 refine LOps.step (S.callS (H1 := H) (F := []) [_] rfl (by rw [List.append_nil]) (truth_spec _) ?_) rfl
 rw [List.append_nil]
 repeat first | refine LOps.nil ?_ | refine LCode.ret ?_ | refine QThen.normal ?_ | refine LOps.pure (Pure.as (lv := .atom _) rfl) rfl ?_
 exact retS rfl (AllRes.cons (ResIs.tmp (v := .atom _) rfl (LV.Sub.refl _)) AllRes.nil) (congrArg u32 (b2n_dec (by omega))) (HSub.refl _)
theorem op12_spec : LCalls (KC B0 w0) 69 [u32 a, u32 b] H (Same (u32 (b2n (decide (a ≤ b)))) H) := by
 refine LCalls.intro Tryz.func69 rfl (n := 9) rfl rfl rfl ?_
 repeat first | refine LOps.nil ?_ | refine LCode.seq ?_ | refine LCode.region ?_ | refine QThen.normal ?_ | refine LOps.pure (Pure.as (lv := .atom _) rfl) rfl ?_ | refine LOps.pure (Pure.mv (lv := .atom _) rfl) rfl ?_ | refine LOps.pure (Pure.leq rfl rfl) rfl ?_
 refine LOps.step (S.callS (H1 := H) (F := []) [_] rfl (by rw [List.append_nil]) (truth_spec _) ?_) rfl
 rw [List.append_nil]
 repeat first | refine LOps.nil ?_ | refine LCode.ret ?_ | refine QThen.normal ?_ | refine LOps.pure (Pure.as (lv := .atom _) rfl) rfl ?_
 exact retS rfl (AllRes.cons (ResIs.tmp (v := .atom _) rfl (LV.Sub.refl _)) AllRes.nil) (congrArg u32 (b2n_dec (by omega))) (HSub.refl _)
theorem op13_spec : LCalls (KC B0 w0) 70 [u32 a, u32 b] H (Same (u32 (b2n (decide (b ≤ a)))) H) := by
 refine LCalls.intro Tryz.func70 rfl (n := 9) rfl rfl rfl ?_
 repeat first | refine LOps.nil ?_ | refine LCode.seq ?_ | refine LCode.region ?_ | refine QThen.normal ?_ | refine LOps.pure (Pure.as (lv := .atom _) rfl) rfl ?_ | refine LOps.pure (Pure.mv (lv := .atom _) rfl) rfl ?_ | refine LOps.pure (Pure.geq rfl rfl) rfl ?_
 refine LOps.step (S.callS (H1 := H) (F := []) [_] rfl (by rw [List.append_nil]) (truth_spec _) ?_) rfl
 rw [List.append_nil]
 repeat first | refine LOps.nil ?_ | refine LCode.ret ?_ | refine QThen.normal ?_ | refine LOps.pure (Pure.as (lv := .atom _) rfl) rfl ?_
 exact retS rfl (AllRes.cons (ResIs.tmp (v := .atom _) rfl (LV.Sub.refl _)) AllRes.nil) (congrArg u32 (b2n_dec (by omega))) (HSub.refl _)
theorem op14_spec : LCalls (KC B0 w0) 71 [u32 a, u32 b] H (Same (u32 (b2n (decide (a ≠ 0 ∧ b ≠ 0)))) H) := by
 refine LCalls.intro Tryz.func71 rfl (n := 12) rfl rfl rfl ?_
 repeat first | refine LOps.nil ?_ | refine LCode.seq ?_ | refine LCode.region ?_ | refine QThen.normal ?_ | refine LOps.pure (Pure.as (lv := .atom _) rfl) rfl ?_ | refine LOps.pure (Pure.mv (lv := .atom _) rfl) rfl ?_ | refine LOps.pure (Pure.neq rfl rfl) rfl ?_
 refine LOps.bcase 7 rfl (fun ht => ?_) (fun ht => ?_)
 ·have h1 : a ≠ 0 := by
   intro h
   rw [h] at ht
   exact absurd ht (by decide)
  repeat first | refine LOps.pure (Pure.mv (lv := .atom _) rfl) rfl ?_ | refine LOps.pure (Pure.neq rfl rfl) rfl ?_ | refine LOps.pure (Pure.pickT (lv := .atom _) rfl rfl) rfl ?_ | refine LOps.want rfl rfl ?_
  refine LOps.step (S.callS (H1 := H) (F := []) [_] rfl (by rw [List.append_nil]) (truth_spec _) ?_) rfl
  rw [List.append_nil]
  repeat first | refine LOps.nil ?_ | refine LCode.ret ?_ | refine QThen.normal ?_ | refine LOps.pure (Pure.as (lv := .atom _) rfl) rfl ?_
  exact retS rfl (AllRes.cons (ResIs.tmp (v := .atom _) rfl (LV.Sub.refl _)) AllRes.nil) (congrArg u32 (by simp [b2n, h1])) (HSub.refl _)
 ·have h1 : a = 0 := by
   have : (a : Int) = 0 := by simpa using ht
   omega
  repeat first | refine LOps.pure (Pure.pickF (lv := .atom _) rfl rfl) rfl ?_ | refine LOps.skip rfl rfl rfl rfl ?_
  refine LOps.step (S.callS (H1 := H) (F := []) [_] rfl (by rw [List.append_nil]) (truth_spec _) ?_) rfl
  rw [List.append_nil]
  repeat first | refine LOps.nil ?_ | refine LCode.ret ?_ | refine QThen.normal ?_ | refine LOps.pure (Pure.as (lv := .atom _) rfl) rfl ?_
  exact retS rfl (AllRes.cons (ResIs.tmp (v := .atom _) rfl (LV.Sub.refl _)) AllRes.nil) (congrArg u32 (by simp [b2n, h1])) (HSub.refl _)
theorem op15_spec : LCalls (KC B0 w0) 72 [u32 a, u32 b] H (Same (u32 (b2n (decide (a ≠ 0 ∨ b ≠ 0)))) H) := by
 refine LCalls.intro Tryz.func72 rfl (n := 12) rfl rfl rfl ?_
 repeat first | refine LOps.nil ?_ | refine LCode.seq ?_ | refine LCode.region ?_ | refine QThen.normal ?_ | refine LOps.pure (Pure.as (lv := .atom _) rfl) rfl ?_ | refine LOps.pure (Pure.mv (lv := .atom _) rfl) rfl ?_ | refine LOps.pure (Pure.neq rfl rfl) rfl ?_
 refine LOps.bcase 7 rfl (fun ht => ?_) (fun ht => ?_)
 ·have h1 : a ≠ 0 := by
   intro h
   rw [h] at ht
   exact absurd ht (by decide)
  repeat first | refine LOps.pure (Pure.pickT (lv := .atom _) rfl rfl) rfl ?_ | refine LOps.skip rfl rfl rfl rfl ?_
  refine LOps.step (S.callS (H1 := H) (F := []) [_] rfl (by rw [List.append_nil]) (truth_spec _) ?_) rfl
  rw [List.append_nil]
  repeat first | refine LOps.nil ?_ | refine LCode.ret ?_ | refine QThen.normal ?_ | refine LOps.pure (Pure.as (lv := .atom _) rfl) rfl ?_
  exact retS rfl (AllRes.cons (ResIs.tmp (v := .atom _) rfl (LV.Sub.refl _)) AllRes.nil) (congrArg u32 (by simp [b2n, h1])) (HSub.refl _)
 ·have h1 : a = 0 := by
   have : (a : Int) = 0 := by simpa using ht
   omega
  repeat first | refine LOps.pure (Pure.mv (lv := .atom _) rfl) rfl ?_ | refine LOps.pure (Pure.neq rfl rfl) rfl ?_ | refine LOps.pure (Pure.pickF (lv := .atom _) rfl rfl) rfl ?_ | refine LOps.want rfl rfl ?_
  refine LOps.step (S.callS (H1 := H) (F := []) [_] rfl (by rw [List.append_nil]) (truth_spec _) ?_) rfl
  rw [List.append_nil]
  repeat first | refine LOps.nil ?_ | refine LCode.ret ?_ | refine QThen.normal ?_ | refine LOps.pure (Pure.as (lv := .atom _) rfl) rfl ?_
  exact retS rfl (AllRes.cons (ResIs.tmp (v := .atom _) rfl (LV.Sub.refl _)) AllRes.nil) (congrArg u32 (by simp [b2n, h1])) (HSub.refl _)
/-- The divisor: zero ends the execution. -/
theorem divisor_spec : LCalls (KC B0 w0) 57 [u32 b] H (fun r H' => H' = H ∧ r = if b = 0 then .panic (panI 12) else .ret (u32 b)) := by
 refine LCalls.intro Tryz.func57 rfl (n := 8) rfl rfl rfl ?_
 repeat first | refine LOps.nil ?_ | refine LCode.seq ?_ | refine LCode.region ?_ | refine QThen.normal ?_ | refine LOps.pure (Pure.as (lv := .atom _) rfl) rfl ?_ | refine LOps.pure (Pure.mv (lv := .atom _) rfl) rfl ?_ | refine LOps.pure (Pure.eql rfl rfl) rfl ?_
 refine LCode.cond rfl (fun hc => ?_) (fun hc => ?_)
 ·have h0 : b = 0 := by have := of_decide_eq_true hc; omega
  repeat first | refine LCode.region ?_ | refine LOps.pure (Pure.bld _ (cs := [_]) rfl) rfl ?_ | refine LOps.pure (Pure.makeInterfaceAgg (vs := [_]) rfl) rfl ?_
  refine LOps.step (LStep.panic rfl fun e' he' => ?_) rfl
  repeat first | refine QThen.panic ?_
  exact RetPost.panic (he'.trans rfl) (HSub.refl _) ⟨rfl, by rw [if_pos h0]; rfl⟩
 ·have h0 : ¬ b = 0 := by have := of_decide_eq_false hc; omega
  repeat first | refine LOps.nil ?_ | refine LCode.seq ?_ | refine LCode.region ?_ | refine LCode.skip ?_ | refine LCode.ret ?_ | refine QThen.normal ?_ | refine LOps.pure (Pure.as (lv := .atom _) rfl) rfl ?_ | refine LOps.pure (Pure.mv (lv := .atom _) rfl) rfl ?_
  exact RetPost.ret rfl (AllRes.cons (ResIs.tmp (v := .atom _) rfl (LV.Sub.refl _)) AllRes.nil) (HSub.refl _) ⟨rfl, by rw [if_neg h0]; rfl⟩
theorem op5_spec {db : Nat} (ha : a < 4294967296) : LCalls (KC B0 w0) 61 [u32 a, u32 b, ptr db 0] [divH db] (fun r H' => H' = [divH db] ∧ r = if b = 0 then .panic (panI 12) else .ret (u32 (a / b))) := by
 refine LCalls.intro Tryz.func61 rfl (n := 11) rfl rfl rfl ?_
 repeat first | refine LOps.nil ?_ | refine LCode.seq ?_ | refine LCode.region ?_ | refine QThen.normal ?_ | refine LOps.pure (Pure.as (lv := .atom _) rfl) rfl ?_ | refine LOps.pure (Pure.mv (lv := .atom _) rfl) rfl ?_ | refine LOps.pure (Pure.loadH (c := .atom _) rfl (List.Mem.head _) rfl) rfl ?_
 by_cases h0 : b = 0
 ·refine LOps.step (S.callV (f := 57) (first := #[]) (caps := #[]) (H1 := [divH db]) (F := []) [_] rfl rfl (by simp) divisor_spec ?_ ?_) rfl
  ·rintro v H' ⟨rfl, h⟩
   rw [if_pos h0] at h
   cases h
  ·rintro ch H' ⟨rfl, h⟩ e' he'
   rw [if_pos h0] at h
   cases h
   repeat first | refine QThen.panic ?_
   exact RetPost.panic (he'.trans rfl) (HSub.refl _) ⟨rfl, by rw [if_pos h0]⟩
 ·refine LOps.step (S.callV (f := 57) (first := #[]) (caps := #[]) (H1 := [divH db]) (F := []) [_] rfl rfl (by simp) divisor_spec ?_ ?_) rfl
  ·rintro v H' ⟨rfl, h⟩
   rw [if_neg h0] at h
   cases h
   refine LOps.pure (Pure.quoW rfl rfl (by omega)) rfl ?_
   repeat first | refine LOps.nil ?_ | refine LCode.ret ?_ | refine QThen.normal ?_ | refine LOps.pure (Pure.as (lv := .atom _) rfl) rfl ?_
   refine RetPost.ret rfl (AllRes.cons (ResIs.tmp (v := .atom _) rfl (LV.Sub.refl _)) AllRes.nil) (HSub.refl _) ⟨rfl, ?_⟩
   rw [if_neg h0]
   exact congrArg LRes.ret (u32_eq (by rw [wrapU, Int.tdiv_eq_ediv_of_nonneg (by omega), ← Int.natCast_ediv]; have hq : a / b < 4294967296 := Nat.lt_of_le_of_lt (Nat.div_le_self a b) ha; generalize a / b = q at hq ⊢; omega))
  ·rintro ch H' ⟨rfl, h⟩
   rw [if_neg h0] at h
   cases h
theorem op6_spec {db : Nat} (ha : a < 4294967296) : LCalls (KC B0 w0) 62 [u32 a, u32 b, ptr db 0] [divH db] (fun r H' => H' = [divH db] ∧ r = if b = 0 then .panic (panI 12) else .ret (u32 (a % b))) := by
 refine LCalls.intro Tryz.func62 rfl (n := 11) rfl rfl rfl ?_
 repeat first | refine LOps.nil ?_ | refine LCode.seq ?_ | refine LCode.region ?_ | refine QThen.normal ?_ | refine LOps.pure (Pure.as (lv := .atom _) rfl) rfl ?_ | refine LOps.pure (Pure.mv (lv := .atom _) rfl) rfl ?_ | refine LOps.pure (Pure.loadH (c := .atom _) rfl (List.Mem.head _) rfl) rfl ?_
 by_cases h0 : b = 0
 ·refine LOps.step (S.callV (f := 57) (first := #[]) (caps := #[]) (H1 := [divH db]) (F := []) [_] rfl rfl (by simp) divisor_spec ?_ ?_) rfl
  ·rintro v H' ⟨rfl, h⟩
   rw [if_pos h0] at h
   cases h
  ·rintro ch H' ⟨rfl, h⟩ e' he'
   rw [if_pos h0] at h
   cases h
   repeat first | refine QThen.panic ?_
   exact RetPost.panic (he'.trans rfl) (HSub.refl _) ⟨rfl, by rw [if_pos h0]⟩
 ·refine LOps.step (S.callV (f := 57) (first := #[]) (caps := #[]) (H1 := [divH db]) (F := []) [_] rfl rfl (by simp) divisor_spec ?_ ?_) rfl
  ·rintro v H' ⟨rfl, h⟩
   rw [if_neg h0] at h
   cases h
   refine LOps.pure (Pure.remW rfl rfl (by omega)) rfl ?_
   repeat first | refine LOps.nil ?_ | refine LCode.ret ?_ | refine QThen.normal ?_ | refine LOps.pure (Pure.as (lv := .atom _) rfl) rfl ?_
   refine RetPost.ret rfl (AllRes.cons (ResIs.tmp (v := .atom _) rfl (LV.Sub.refl _)) AllRes.nil) (HSub.refl _) ⟨rfl, ?_⟩
   rw [if_neg h0]
   exact congrArg LRes.ret (u32_eq (by rw [Int.tmod_eq_emod_of_nonneg (by omega), ← Int.natCast_emod]))
  ·rintro ch H' ⟨rfl, h⟩
   rw [if_neg h0] at h
   cases h
def resB (o : Option Nat) : LRes := match o with
 | some v => .ret (u32 v)
 | none => .panic (panI 12)
/-- A binary operator: its function, and what that computes. -/
theorem binop_spec {db : Nat} {op : List UInt8} (hop : op ∈ binOps) (ha : a < 4294967296) (hb : b < 4294967296) : ∃ (f : FuncId) (caps : Array Value), GL.kvGet (opsKV db) op = some (.atom (.func (.func f) #[] caps)) ∧ TEnter Tryz.prog f ∧
  LCalls (KC B0 w0) f ([u32 a, u32 b] ++ caps.toList.map .atom) [divH db] (fun r H' => H' = [divH db] ∧ r = resB (binI op a b)) := by
 simp only [binOps, List.mem_cons, List.not_mem_nil, or_false] at hop
 rcases hop with rfl | rfl | rfl | rfl | rfl | rfl | rfl | rfl | rfl | rfl | rfl | rfl | rfl | rfl
 ·exact ⟨72, #[], rfl, inferInstance, LCalls.mono (op15_spec) fun r H' ⟨h1, h2⟩ => ⟨h2, h1⟩⟩
 ·exact ⟨71, #[], rfl, inferInstance, LCalls.mono (op14_spec) fun r H' ⟨h1, h2⟩ => ⟨h2, h1⟩⟩
 ·exact ⟨64, #[], rfl, inferInstance, LCalls.mono (op8_spec) fun r H' ⟨h1, h2⟩ => ⟨h2, h1⟩⟩
 ·exact ⟨66, #[], rfl, inferInstance, LCalls.mono (op9_spec) fun r H' ⟨h1, h2⟩ => ⟨h2, h1⟩⟩
 ·exact ⟨67, #[], rfl, inferInstance, LCalls.mono (op10_spec) fun r H' ⟨h1, h2⟩ => ⟨h2, h1⟩⟩
 ·exact ⟨68, #[], rfl, inferInstance, LCalls.mono (op11_spec) fun r H' ⟨h1, h2⟩ => ⟨h2, h1⟩⟩
 ·exact ⟨69, #[], rfl, inferInstance, LCalls.mono (op12_spec) fun r H' ⟨h1, h2⟩ => ⟨h2, h1⟩⟩
 ·exact ⟨70, #[], rfl, inferInstance, LCalls.mono (op13_spec) fun r H' ⟨h1, h2⟩ => ⟨h2, h1⟩⟩
 ·exact ⟨63, #[], rfl, inferInstance, LCalls.mono (op7_spec ha hb) fun r H' ⟨h1, h2⟩ => ⟨h2, h1⟩⟩
 ·exact ⟨58, #[], rfl, inferInstance, LCalls.mono (op2_spec ha hb) fun r H' ⟨h1, h2⟩ => ⟨h2, h1⟩⟩
 ·exact ⟨59, #[], rfl, inferInstance, LCalls.mono (op3_spec ha hb) fun r H' ⟨h1, h2⟩ => ⟨h2, h1⟩⟩
 ·exact ⟨60, #[], rfl, inferInstance, LCalls.mono (op4_spec ha hb) fun r H' ⟨h1, h2⟩ => ⟨h2, h1⟩⟩
 ·refine ⟨61, #[.pointer (some ⟨db, 0, none⟩)], rfl, inferInstance, LCalls.mono (op5_spec ha) fun r H' ⟨h1, h2⟩ => ⟨h1, h2.trans ?_⟩⟩
  by_cases h0 : b = 0
  ·rw [if_pos h0, h0]
   rfl
  ·rw [if_neg h0]
   show _ = resB (if b = 0 then none else _)
   rw [if_neg h0]
   rfl
 ·refine ⟨62, #[.pointer (some ⟨db, 0, none⟩)], rfl, inferInstance, LCalls.mono (op6_spec ha) fun r H' ⟨h1, h2⟩ => ⟨h1, h2.trans ?_⟩⟩
  by_cases h0 : b = 0
  ·rw [if_pos h0, h0]
   rfl
  ·rw [if_neg h0]
   show _ = resB (if b = 0 then none else _)
   rw [if_neg h0]
   rfl
end
end Go.Proofs.YtcbpcianefpniaaGreatDoor.Inp
namespace Go.Proofs.YtcbpcianefpniaaGreatDoor.Inp
open Go.GL Go.RowKit Go.Stele
set_option maxRecDepth 100000
set_option maxHeartbeats 4000000
theorem CfgOk.keys {c : Cfg} (hC : CfgOk c) : (c.sb.map (·.1)).Nodup := by rw [hC.sbk]; exact hC.valid.keys
/-- A placed scalar's block. -/
theorem CfgOk.block {c : Cfg} (hC : CfgOk c) {k : List UInt8} (hk : k ∈ scalarsP c.p.vars c.p.funcs) : ∃ b, (k, b) ∈ c.sb ∧ GL.kvGet (scKV c.sb) k = some (ptr b 0) := by
 rw [← hC.sbk] at hk
 obtain ⟨⟨k', b⟩, h1, rfl⟩ := List.mem_map.1 hk
 exact ⟨b, h1, kv_hit (A := List UInt8 × Nat) (·.1) (fun q => ptr q.2 0) hC.keys h1⟩
theorem CfgOk.miss {c : Cfg} (hC : CfgOk c) {k : List UInt8} (hk : k ∉ scalarsP c.p.vars c.p.funcs) : GL.kvGet (scKV c.sb) k = none := by
 rw [← hC.sbk] at hk
 exact kv_miss (A := List UInt8 × Nat) (·.1) (fun q => ptr q.2 0) hk
theorem CfgOk.akeys {c : Cfg} (hC : CfgOk c) : (c.ab.map (·.1)).Nodup := by
 rw [hC.abk]
 exact (List.nodup_append.1 (List.nodup_append.1 (fresh_zero _ _ hC.valid.names).1).1).2.1
/-- A declared array's block. -/
theorem CfgOk.arr {c : Cfg} (hC : CfgOk c) {k : List UInt8} (hk : k ∈ c.p.arrays.map (·.name)) : ∃ b n, (k, b, n) ∈ c.ab ∧ GL.kvGet (arKV c.ab) k = some (rowV b n) := by
 rw [← hC.abk] at hk
 obtain ⟨⟨k', b, n⟩, h1, rfl⟩ := List.mem_map.1 hk
 exact ⟨b, n, h1, kv_hit (A := List UInt8 × Nat × Nat) (·.1) (fun q => rowV q.2.1 q.2.2) hC.akeys h1⟩
attribute [local irreducible] LOps LCode LStep LCalls Go.GL.Pure QThen QBlock RetPost LQ LAny LLate LLateOp
section
variable {B0 : Nat} {w0 : World} {H : Heap}
theorem scalar_spec {c : Cfg} (hC : CfgOk c) {s : IS} (hs : St c s H) {f : FnD} (hf : f ∈ c.p.funcs) {name : List UInt8} (hk : keyI f name ∈ scalarsP c.p.vars c.p.funcs) {b : Nat} (hb : GL.kvGet (scKV c.sb) (keyI f name) = some (ptr b 0)) :
  LCalls (KC B0 w0) 159 [ptr c.rb 0, encFn f, str name] H (Same (ptr b 0) H) := by
 have hke := key_eq hC.valid.names hf name
 have hfl := hC.fshort f hf
 have hnl := key_short hC.short hk
 obtain ⟨hl, hle, v, Ha, hacc, rfl⟩ := hs
 refine LCalls.intro Tryz.func159 rfl (n := 30) rfl rfl rfl ?_
 repeat first | refine LCode.seq ?_ | refine LCode.region ?_
 refine LOps.step (S.box rfl fun b4 => ?_) rfl
 repeat first | refine LOps.nil ?_ | refine LCode.seq ?_ | refine QThen.normal ?_ | refine LOps.pure (Pure.as (lv := .atom _) rfl) rfl ?_
 refine LCode.quiet (by kernel_rfl) ?_
 repeat first | refine LQ.pure (Pure.mv (lv := .atom _) rfl) rfl ?_ | refine LQ.pure (Pure.nilCheckH rfl) rfl ?_ | refine LQ.pure (Pure.fieldH rfl) rfl ?_ | refine LQ.pure (Pure.loadH (c := .atom _) rfl (List.Mem.head _) rfl) rfl ?_ | refine LQ.pure (Pure.loadH (c := .atom _) rfl (List.Mem.tail _ (List.Mem.head _)) rfl) rfl ?_ | refine LQ.pure (Pure.sadd rfl rfl (by first | omega | (simp only [List.length_append, List.length_cons, List.length_nil]; omega))) rfl ?_
 by_cases hin : f.name ++ [46] ++ name ∈ scalarsP c.p.vars c.p.funcs
 ·rw [if_pos hin] at hke
  rw [← hke] at hb
  refine LQ.pure (Pure.kvHit2 rfl rfl (List.Mem.tail _ (List.Mem.tail _ (List.Mem.head _))) hb) rfl ?_
  repeat first | refine LQ.pure (Pure.as (lv := .atom _) rfl) rfl ?_ | refine LQ.pure (Pure.mv (lv := .tuple _) rfl) rfl ?_ | refine LQ.pure (Pure.extract (c := .atom _) rfl rfl) rfl ?_ | refine LQ.nil ?_ | refine QThen.normal ?_
  refine LCode.seq ?_
  repeat first | refine LOps.nil ?_ | refine LCode.region ?_ | refine QThen.normal ?_ | refine LOps.pure (Pure.mv (lv := .atom _) rfl) rfl ?_
  refine LCode.cond rfl (fun hc => ?_) (fun hc => ?_)
  ·repeat first | refine LOps.nil ?_ | refine LCode.seq ?_ | refine LCode.region ?_ | refine LCode.ret ?_ | refine QThen.normal ?_ | refine QThen.ret ?_ | refine LOps.pure (Pure.as (lv := .atom _) rfl) rfl ?_ | refine LOps.pure (Pure.mv (lv := .atom _) rfl) rfl ?_
   exact retS rfl (AllRes.cons (ResIs.tmp (v := .atom _) rfl (LV.Sub.refl _)) AllRes.nil) rfl (HSub.drop (HSub.refl _))
  ·cases hc
 ·rw [if_neg hin] at hke
  rw [← hke] at hb
  refine LQ.pure (Pure.kvMiss2 rfl rfl (List.Mem.tail _ (List.Mem.tail _ (List.Mem.head _))) (hC.miss hin)) rfl ?_
  repeat first | refine LQ.pure (Pure.as (lv := .atom _) rfl) rfl ?_ | refine LQ.pure (Pure.mv (lv := .tuple _) rfl) rfl ?_ | refine LQ.pure (Pure.extract (c := .atom _) rfl rfl) rfl ?_ | refine LQ.nil ?_ | refine QThen.normal ?_
  refine LCode.seq ?_
  repeat first | refine LOps.nil ?_ | refine LCode.region ?_ | refine QThen.normal ?_ | refine LOps.pure (Pure.mv (lv := .atom _) rfl) rfl ?_
  refine LCode.cond rfl (fun hc => ?_) (fun hc => ?_)
  ·cases hc
  ·repeat first | refine LCode.seq ?_ | refine LCode.region ?_ | refine LCode.skip ?_ | refine QThen.normal ?_ | refine LOps.pure (Pure.mv (lv := .atom _) rfl) rfl ?_ | refine LOps.pure (Pure.nilCheckH rfl) rfl ?_ | refine LOps.pure (Pure.fieldH rfl) rfl ?_ | refine LOps.pure (Pure.loadH (c := .atom _) rfl (List.Mem.tail _ (List.Mem.head _)) rfl) rfl ?_
   refine LOps.pure (Pure.kvHit rfl rfl (List.Mem.tail _ (List.Mem.tail _ (List.Mem.head _))) hb) rfl ?_
   repeat first | refine LOps.nil ?_ | refine LCode.ret ?_ | refine QThen.normal ?_ | refine LOps.pure (Pure.as (lv := .atom _) rfl) rfl ?_
   exact retS rfl (AllRes.cons (ResIs.tmp (v := .atom _) rfl (LV.Sub.refl _)) AllRes.nil) rfl (HSub.drop (HSub.refl _))
theorem wrapU64 {n : Nat} (h : n < 18446744073709551616) : IntKind.u64.wrap (n : Int) = n := by
 have : IntKind.u64.wrap (n : Int) = (n : Int) % 18446744073709551616 := by
  simp only [IntKind.wrap, IntKind.bits, IntKind.signed, Bool.false_and]
  rfl
 rw [this]
 omega
theorem element_spec {c : Cfg} (hC : CfgOk c) {s : IS} (hs : St c s H) {name : List UInt8} {b n i : Nat} (hb : (name, b, n) ∈ c.ab) (hg : GL.kvGet (arKV c.ab) name = some (rowV b n)) (hi : i < 4294967296) :
  LCalls (KC B0 w0) 160 [ptr c.rb 0, str name, u32 i] H (fun r H' => H' = H ∧ r = if i < n then .ret (ptr b i) else .panic (panI 2)) := by
 have hn := hC.asz _ hb
 simp only at hn
 obtain ⟨hl, hle, v, Ha, hacc, rfl⟩ := hs
 refine LCalls.intro Tryz.func160 rfl (n := 25) rfl rfl rfl ?_
 repeat first | refine LOps.nil ?_ | refine LCode.seq ?_ | refine LCode.region ?_ | refine QThen.normal ?_ | refine LOps.pure (Pure.as (lv := .atom _) rfl) rfl ?_ | refine LOps.pure (Pure.mv (lv := .atom _) rfl) rfl ?_ | refine LOps.pure (Pure.nilCheckH rfl) rfl ?_ | refine LOps.pure (Pure.fieldH rfl) rfl ?_ | refine LOps.pure (Pure.loadH (c := .atom _) rfl (List.Mem.head _) rfl) rfl ?_
 refine LOps.pure (Pure.kvHit rfl rfl (List.Mem.tail _ (List.Mem.tail _ (List.Mem.head _))) hg) rfl ?_
 repeat first | refine LOps.nil ?_ | refine LCode.seq ?_ | refine LCode.region ?_ | refine QThen.normal ?_ | refine LOps.pure (Pure.as (lv := .atom _) rfl) rfl ?_ | refine LOps.pure (Pure.mv (lv := .atom _) rfl) rfl ?_ | refine LOps.pure (Pure.cvt rfl) rfl ?_
 refine LOps.pure (Pure.rowLen rfl) rfl ?_
 repeat first | refine LOps.nil ?_ | refine QThen.normal ?_ | refine LOps.pure (Pure.cvt rfl) rfl ?_ | refine LOps.pure (Pure.geq rfl rfl) rfl ?_
 have e1 := wrapU64 (n := i) (by omega)
 have e2 := wrapU64 (n := n) (by omega)
 refine LCode.cond rfl (fun hc => ?_) (fun hc => ?_)
 ·have h0 : ¬ i < n := by
   have := of_decide_eq_true hc
   rw [e1, e2] at this
   omega
  repeat first | refine LCode.region ?_ | refine LOps.pure (Pure.bld _ (cs := [_]) rfl) rfl ?_ | refine LOps.pure (Pure.makeInterfaceAgg (vs := [_]) rfl) rfl ?_
  refine LOps.step (LStep.panic rfl fun e' he' => ?_) rfl
  repeat first | refine QThen.panic ?_
  exact RetPost.panic (he'.trans rfl) (HSub.refl _) ⟨rfl, by rw [if_neg h0]; rfl⟩
 ·have h0 : i < n := by
   have := of_decide_eq_false hc
   rw [e1, e2] at this
   omega
  repeat first | refine LCode.seq ?_ | refine LCode.region ?_ | refine LCode.skip ?_ | refine QThen.normal ?_ | refine LOps.pure (Pure.mv (lv := .atom _) rfl) rfl ?_
  refine LOps.pure (Pure.indexRow rfl rfl (by omega) (by omega)) rfl ?_
  repeat first | refine LOps.nil ?_ | refine LCode.ret ?_ | refine QThen.normal ?_ | refine LOps.pure (Pure.as (lv := .atom _) rfl) rfl ?_
  refine RetPost.ret rfl (AllRes.cons (ResIs.tmp (v := .atom _) rfl (LV.Sub.refl _)) AllRes.nil) (HSub.refl _) ⟨rfl, ?_⟩
  rw [if_pos h0]
  show LRes.ret (ptr b (0 + (i : Int).toNat * 1)) = _
  rw [Int.toNat_natCast, Nat.mul_one, Nat.zero_add]
end
end Go.Proofs.YtcbpcianefpniaaGreatDoor.Inp
namespace Go.Proofs.YtcbpcianefpniaaGreatDoor.Inp
open Go.GL Go.RowKit Go.Stele
set_option maxRecDepth 100000
theorem sc_pick {sb : List (List UInt8 × Nat)} {k : List UInt8} {b : Nat} (s : IS) : (sb.map (·.1)).Nodup → (k, b) ∈ sb → ∃ F, (scH sb s).Perm ((b, .cells 43 [u32 (s.sc k)]) :: F) ∧ ∀ x, (scH sb (setSc s k x)).Perm ((b, .cells 43 [u32 x]) :: F) := by
 induction sb with
 | nil => intro _ h; cases h
 | cons q l ih =>
  intro hn h
  rw [List.map_cons, List.nodup_cons] at hn
  have same : ∀ (l : List (List UInt8 × Nat)) x, k ∉ l.map (·.1) → scH l (setSc s k x) = scH l s := fun l x hk => by
   unfold scH
   refine List.map_congr_left fun p hp => ?_
   show (p.2, LObj.cells 43 [u32 (if p.1 = k then x else s.sc p.1)]) = _
   rw [if_neg (fun he => hk (by rw [← he]; exact List.mem_map_of_mem hp))]
  rcases List.mem_cons.1 h with rfl | h
  ·refine ⟨scH l s, List.Perm.refl _, fun x => ?_⟩
   show List.Perm ((b, LObj.cells 43 [u32 (if k = k then x else s.sc k)]) :: scH l (setSc s k x)) _
   rw [if_pos rfl, same l x hn.1]
  ·obtain ⟨F, h1, h2⟩ := ih hn.2 h
   have hne : ¬ q.1 = k := fun he => hn.1 (by rw [he]; exact List.mem_map_of_mem h)
   refine ⟨(q.2, .cells 43 [u32 (s.sc q.1)]) :: F, (List.Perm.cons _ h1).trans (List.Perm.swap _ _ _), fun x => ?_⟩
   show List.Perm ((q.2, LObj.cells 43 [u32 (if q.1 = k then x else s.sc q.1)]) :: scH l (setSc s k x)) _
   rw [if_neg hne]
   exact (List.Perm.cons _ (h2 x)).trans (List.Perm.swap _ _ _)
/-- The blocks that stand ahead. -/
def hdH (c : Cfg) (s : IS) (v : LV) : Heap := [(c.rb, .cells 72 (runC c s v)), (c.sm, .map (kvs (scKV c.sb)) c.sc), (c.am, .map (kvs (arKV c.ab)) c.ac), (c.fm, .map (kvs (fnKV c.p.funcs)) c.fc), (c.om, .map (kvs (opsKV c.db)) c.oc), divH c.db]
theorem stH_eq (c : Cfg) (s : IS) (v : LV) (Ha : Heap) : stH c s v Ha = hdH c s v ++ (scH c.sb s ++ (arH c.ab s ++ Ha)) := rfl
theorem fst_inj {A B : Type} : ∀ (L : List (A × B)), (L.map (·.1)).Nodup → ∀ {x y : A × B}, x ∈ L → y ∈ L → x.1 = y.1 → x = y
 | [], _, x, y, hx, _, _ => by cases hx
 | z :: L, hn, x, y, hx, hy, he => by
  rw [List.map_cons, List.nodup_cons] at hn
  rcases List.mem_cons.1 hx with hx1 | hx1
  ·rcases List.mem_cons.1 hy with hy1 | hy1
   ·rw [hx1, hy1]
   ·exact absurd (by rw [← hx1, he]; exact List.mem_map_of_mem (f := Prod.fst) hy1) hn.1
  ·rcases List.mem_cons.1 hy with hy1 | hy1
   ·exact absurd (by rw [← hy1, ← he]; exact List.mem_map_of_mem (f := Prod.fst) hx1) hn.1
   ·exact fst_inj L hn.2 hx1 hy1 he
def setAr (s : IS) (name : List UInt8) (l : List Nat) : IS := { s with ar := fun x => if x = name then l else s.ar x }
theorem ar_pick {ab : List (List UInt8 × Nat × Nat)} {k : List UInt8} {b n : Nat} (s : IS) : (ab.map (·.1)).Nodup → (k, b, n) ∈ ab → ∃ F, (arH ab s).Perm ((b, .cells 43 ((s.ar k).map u32)) :: F) ∧ ∀ l, (arH ab (setAr s k l)).Perm ((b, .cells 43 (l.map u32)) :: F) := by
 induction ab with
 | nil => intro _ h; cases h
 | cons q r ih =>
  intro hn h
  rw [List.map_cons, List.nodup_cons] at hn
  have same : ∀ (r : List (List UInt8 × Nat × Nat)) l, k ∉ r.map (·.1) → arH r (setAr s k l) = arH r s := fun r l hk => by
   unfold arH
   refine List.map_congr_left fun p hp => ?_
   show (p.2.1, LObj.cells 43 ((if p.1 = k then l else s.ar p.1).map u32)) = _
   rw [if_neg (fun he => hk (by rw [← he]; exact List.mem_map_of_mem hp))]
  rcases List.mem_cons.1 h with rfl | h
  ·refine ⟨arH r s, List.Perm.refl _, fun l => ?_⟩
   show List.Perm ((b, LObj.cells 43 ((if k = k then l else s.ar k).map u32)) :: arH r (setAr s k l)) _
   rw [if_pos rfl, same r l hn.1]
  ·obtain ⟨F, h1, h2⟩ := ih hn.2 h
   have hne : ¬ q.1 = k := fun he => hn.1 (by rw [he]; exact List.mem_map_of_mem (f := Prod.fst) h)
   refine ⟨(q.2.1, .cells 43 ((s.ar q.1).map u32)) :: F, (List.Perm.cons _ h1).trans (List.Perm.swap _ _ _), fun l => ?_⟩
   show List.Perm ((q.2.1, LObj.cells 43 ((if q.1 = k then l else s.ar q.1).map u32)) :: arH r (setAr s k l)) _
   rw [if_neg hne]
   exact (List.Perm.cons _ (h2 l)).trans (List.Perm.swap _ _ _)
/-- A scalar's cell, and what a store into it makes. -/
theorem st_sc {c : Cfg} (hC : CfgOk c) {s : IS} {H : Heap} {k : List UInt8} {b : Nat} (hb : (k, b) ∈ c.sb) (hs : St c s H) :
  ∃ G, H.Perm ((b, .cells 43 [u32 (s.sc k)]) :: G) ∧ ∀ x, ∃ H', St c (setSc s k x) H' ∧ List.Perm ((b, .cells 43 [u32 x]) :: G) H' := by
 obtain ⟨hl, hle, v, Ha, hacc, rfl⟩ := hs
 obtain ⟨F, h1, h2⟩ := sc_pick s hC.keys hb
 have key : ∀ (X S R : Heap) (p : Nat × LObj), S.Perm (p :: F) → List.Perm (X ++ (S ++ R)) (p :: (X ++ (F ++ R))) := fun X S R p h => ((h.append_right R).append_left X).trans List.perm_middle
 refine ⟨_, key (hdH c s v) _ _ _ h1, fun x => ⟨stH c (setSc s k x) v Ha, ⟨hl, hle, v, Ha, hacc, rfl⟩, (key (hdH c s v) _ _ _ (h2 x)).symm⟩⟩
/-- An array's cells, and what a store into them makes. -/
theorem st_ar {c : Cfg} (hC : CfgOk c) {s : IS} {H : Heap} {k : List UInt8} {b n : Nat} (hb : (k, b, n) ∈ c.ab) (hs : St c s H) :
  (s.ar k).length = n ∧ ∃ G, H.Perm ((b, .cells 43 ((s.ar k).map u32)) :: G) ∧ ∀ l, l.length = n → ∃ H', St c (setAr s k l) H' ∧ List.Perm ((b, .cells 43 (l.map u32)) :: G) H' := by
 obtain ⟨hl, hle, v, Ha, hacc, rfl⟩ := hs
 have hn := hl _ hb
 simp only at hn
 refine ⟨hn, ?_⟩
 obtain ⟨F, h1, h2⟩ := ar_pick s hC.akeys hb
 have key : ∀ (X S R : Heap) (p : Nat × LObj), S.Perm (p :: F) → List.Perm (X ++ (S ++ R)) (p :: (X ++ (F ++ R))) := fun X S R p h => ((h.append_right R).append_left X).trans List.perm_middle
 have asc : ∀ (X S A R : Heap), X ++ (S ++ (A ++ R)) = (X ++ S) ++ (A ++ R) := fun X S A R => (List.append_assoc X S _).symm
 refine ⟨(hdH c s v ++ scH c.sb s) ++ (F ++ Ha), ?_, fun l hln => ⟨stH c (setAr s k l) v Ha, ⟨fun q hq => ?_, hle, v, Ha, hacc, rfl⟩, ?_⟩⟩
 ·have := key (hdH c s v ++ scH c.sb s) _ Ha _ h1
  rw [← asc] at this
  exact this
 ·show ((if q.1 = k then l else s.ar q.1)).length = q.2.2
  split
  ·rename_i he
   have : q = (k, b, n) := by
    have h3 := hC.akeys
    exact fst_inj c.ab h3 hq hb he
   rw [this]
   exact hln
  ·exact hl q hq
 ·have := key (hdH c s v ++ scH c.sb s) _ Ha _ (h2 l)
  rw [← asc] at this
  exact this.symm
theorem pick_in {p : Nat × LObj} {X H G : Heap} (h : H.Perm (p :: G)) : Pick p (X ++ H) (X ++ G) := (h.append_left X).trans List.perm_middle
theorem back_in {p : Nat × LObj} {X H G : Heap} (h : List.Perm (p :: G) H) : List.Perm (p :: (X ++ G)) (X ++ H) := List.perm_middle.symm.trans (h.append_left X)
theorem setL_one : ∀ (cs : List LV) (i : Nat) (v : LV), i < cs.length → setL cs i [v] = cs.set i v := fun cs i v h => by
 rw [setL_eq cs i [v] (by simp; omega), List.set_eq_take_append_cons_drop]
 rw [if_pos h]
 simp
/-- What the steps that are left allow. -/
def Good (c : Cfg) (n : Nat) (s : IS) : Prop := Bnd s ∧ s.left ≤ n ∧ s.out.length + s.left ≤ c.lim
theorem ev_good {c : Cfg} (hC : CfgOk c) {n m : Nat} {f : FnD} {x : Ex} {s s' : IS} {v : Nat} (hx : numE x) (hg : Good c m s) (h : evI c.p n f x s = .ok v s') : Good c m s' ∧ v < 4294967296 ∧ s'.left < s.left := by
 have h1 := (bd_all hC.nums n).1 f x s hx hg.1
 have h2 := (few_all c.p n).1 f x s
 have h3 := ev_less c.p n f x s s' v h
 rw [h] at h1 h2
 unfold Few at h2
 simp only [IR.st] at h2
 exact ⟨⟨h1.2, Nat.le_trans (Nat.le_of_lt h3) hg.2.1, by have := hg.2.2; omega⟩, h1.1, h3⟩
theorem st_good {c : Cfg} (hC : CfgOk c) {n m : Nat} {f : FnD} {x : Sm} {s s' : IS} {r : Option Nat} (hx : numS x) (hg : Good c m s) (h : stI c.p n f x s = .ok r s') : Good c m s' ∧ OptLt r := by
 have h1 := (bd_all hC.nums n).2 f x s hx hg.1
 have h2 := (few_all c.p n).2 f x s
 have h3 := ((grow_all c.p n).2 f x s).2
 rw [h] at h1 h2 h3
 unfold Few at h2
 simp only [IR.st] at h2 h3
 exact ⟨⟨h1.2, Nat.le_trans h3 hg.2.1, by have := hg.2.2; omega⟩, h1.1⟩
theorem blk_good {c : Cfg} (hC : CfgOk c) {n m : Nat} {f : FnD} {l : List Sm} {s s' : IS} {r : Option Nat} (hx : numSs l) (hg : Good c m s) (h : blkR (stI c.p n f) l s = .ok r s') : Good c m s' ∧ OptLt r := by
 have h1 := blkR_bd l s (fun a ha s hs => (bd_all hC.nums n).2 f a s (numSs_mem hx ha) hs) hg.1
 have h2 := blkR_few ((few_all c.p n).2 f) l s
 have h3 := (blkR_grow ((grow_all c.p n).2 f) l s).2
 rw [h] at h1 h2 h3
 unfold Few at h2
 simp only [IR.st] at h2 h3
 exact ⟨⟨h1.2, Nat.le_trans h3 hg.2.1, by have := hg.2.2; omega⟩, h1.1⟩
theorem mapR_step {A B : Type} (g : A → IS → IR Nat) (a : A) (l : List A) (s : IS) (F : List Nat → IS → IR B) : (mapR g (a :: l) s).bind F = (g a s).bind fun v s => (mapR g l s).bind fun vs s => F (v :: vs) s := by
 rw [mapR]
 cases g a s with
 | stop e s => rfl
 | ok v s =>
  show ((mapR g l s).bind _).bind F = _
  cases hm : mapR g l s with
  | stop e s => show _ = (mapR g l _).bind _; rw [hm]; rfl
  | ok vs s => show _ = (mapR g l _).bind _; rw [hm]; rfl
end Go.Proofs.YtcbpcianefpniaaGreatDoor.Inp
namespace Go.Proofs.YtcbpcianefpniaaGreatDoor.Inp
open Go.GL Go.RowKit Go.Stele
set_option maxRecDepth 100000
set_option maxHeartbeats 4000000
abbrev cenv (c : Cfg) (kn : List FSum) (f : FnD) : CEnv := envF c.p.vars (c.p.arrays.map (·.name)) (c.p.funcs.map (·.name)) kn f
def EvalH (B0 : Nat) (w0 : World) (c : Cfg) (n : Nat) : Prop := ∀ (f : FnD) (kn : List FSum) (x : Ex) (s : IS) (H : Heap), f ∈ c.p.funcs → Known c.p.funcs kn → errE (cenv c kn f) x = 0 → numE x → smE x → Good c n s → St c s H →
 LCalls (KC B0 w0) 158 [ptr c.rb 0, encFn f, encE x] H (PostI c u32 (evI c.p n f x s))
def ExecH (B0 : Nat) (w0 : World) (c : Cfg) (n : Nat) : Prop := ∀ (f : FnD) (kn : List FSum) (x : Sm) (s : IS) (H : Heap), f ∈ c.p.funcs → Known c.p.funcs kn → errS (cenv c kn f) x = 0 → numS x → smS x → Good c n s → St c s H →
 LCalls (KC B0 w0) 109 [ptr c.rb 0, encFn f, encS x] H (PostI c retV (stI c.p n f x s))
def BlkH (B0 : Nat) (w0 : World) (c : Cfg) (n : Nat) : Prop := ∀ (f : FnD) (kn : List FSum) (l : List Sm) (s : IS) (H : Heap), f ∈ c.p.funcs → Known c.p.funcs kn → errSs (cenv c kn f) l = 0 → numSs l → Few6 l.length → smSs l → Good c n s → St c s H →
 LCalls (KC B0 w0) 76 [ptr c.rb 0, encFn f, .list (l.map encS)] H (PostI c retV (blkR (stI c.p n f) l s))
theorem swap1 {x : Nat × LObj} {H : Heap} : (x :: H).Perm (H ++ [x]) := List.perm_append_comm (l₁ := [x])
theorem swap2 {x y : Nat × LObj} {H : Heap} : (x :: y :: H).Perm (H ++ [x, y]) := List.perm_append_comm (l₁ := [x, y])
theorem hsub_left {H F : Heap} : HSub H (H ++ F) := ⟨F, List.Perm.refl _⟩
theorem hsub_keep {H : Heap} {x y : Nat × LObj} : HSub (y :: H) (H ++ [x, y]) := ⟨[x], by
 refine (List.perm_append_comm (l₂ := [x, y])).trans ?_
 exact (List.Perm.swap y x H).trans (List.Perm.cons y swap1)⟩
theorem get_mid {A B : Type} (g : A → B) (pre : List A) (a : A) (l : List A) : ((pre ++ a :: l).map g)[((pre.length : Nat) : Int).toNat]? = some (g a) := by
 rw [Int.toNat_natCast, List.getElem?_map, List.getElem?_append_right (Nat.le_refl _), Nat.sub_self]
 rfl
attribute [local irreducible] LOps LCode LStep LCalls Go.GL.Pure QThen QBlock RetPost LQ LAny LLate LLateOp
section
variable {B0 : Nat} {w0 : World}
theorem block_spec {c : Cfg} (hC : CfgOk c) {n : Nat} (hX : ExecH B0 w0 c n) : BlkH B0 w0 c n := by
 intro f kn l s H hf hk hv hnum hlen6 hsm hg hs
 refine LCalls.intro Tryz.func76 rfl (n := 28) rfl rfl rfl ?_
 repeat first | refine LCode.seq ?_ | refine LCode.region ?_
 refine LOps.step (S.box rfl fun b4 => ?_) rfl
 repeat first | refine LOps.nil ?_ | refine LCode.seq ?_ | refine LCode.region ?_ | refine LCode.block ?_ | refine QThen.normal ?_ | refine LOps.pure (Pure.as (lv := .atom _) rfl) rfl ?_ | refine LOps.pure (Pure.mv (lv := .list _) rfl) rfl ?_ | refine LOps.pure (Pure.mv (lv := .atom _) rfl) rfl ?_ | refine LOps.pure (Pure.llen rfl) rfl ?_
 refine LCode.loopI (fun k ls H' => ∃ (pre l1 : List Sm) (s1 : IS) (Hs : Heap), l = pre ++ l1 ∧ k = l1.length ∧ ls = [(0, ptr c.rb 0), (4, ptr b4 0), (12, .list (l.map encS)), (13, int .i64 ((l.map encS).length : Int)), (14, int .i64 (pre.length : Int))] ∧ H' = (b4, .cells 63 [str f.name, .list (f.params.map str), .list (f.locals.map str), .list (f.body.map encS)]) :: Hs ∧ St c s1 Hs ∧ Good c n s1 ∧ errSs (cenv c kn f) l1 = 0 ∧ numSs l1 ∧ smSs l1 ∧ blkR (stI c.p n f) l s = blkR (stI c.p n f) l1 s1)
  ⟨l.length, _, _, ⟨[], l, s, H, rfl, rfl, rfl, rfl, hs, hg, hv, hnum, hsm, rfl⟩, ⟨rfl, rfl, rfl, rfl, rfl, trivial⟩, HSub.refl _⟩ ?_
 rintro k ls H' ⟨pre, l1, s1, Hs, hl, rfl, rfl, rfl, hs1, hg1, hv1, hn1, hm1, hI⟩ j hj
 have hl6 : pre.length ≤ 1000000 := by
  have h6 : l.length ≤ 1000000 := hlen6
  rw [hl, List.length_append] at h6
  omega
 repeat first | refine LOps.nil ?_ | refine LCode.seq ?_ | refine LCode.region ?_ | refine QThen.normal ?_ | refine LOps.pure (Pure.lss rfl rfl) rfl ?_
 refine LCode.cond rfl (fun hc => ?_) (fun hc => ?_)
 ·have hlen := of_decide_eq_true hc
  rw [List.length_map, hl, List.length_append] at hlen
  obtain ⟨a, l2, rfl⟩ : ∃ a l2, l1 = a :: l2 := by
   cases l1 with
   | nil => simp at hlen
   | cons a l2 => exact ⟨a, l2, rfl⟩
  rw [errSs] at hv1
  obtain ⟨hva, hvl⟩ := orE_zero.1 hv1
  rw [blkR] at hI
  repeat first | refine LCode.seq ?_ | refine LCode.region ?_ | refine LCode.skip ?_ | refine LCode.block ?_ | refine QThen.normal ?_
  refine LOps.pure (Pure.ixRef (el' := encS a) (cs := [_, _, _, _, _, _]) rfl rfl (by omega) (by rw [hl]; exact get_mid encS pre a l2) rfl rfl) rfl ?_
  repeat first | refine LOps.pure (Pure.ldRefAgg (cs' := [_, _, _, _, _, _]) rfl rfl rfl) rfl ?_
  refine LOps.step (S.alloc fun b9 => ?_) rfl
  repeat first | refine LOps.nil ?_ | refine LCode.seq ?_ | refine LCode.region ?_ | refine QThen.normal ?_ | refine LOps.pure (Pure.mv (lv := .atom _) rfl) rfl ?_ | refine LOps.pure (Pure.ldHAgg (cs' := [_, _, _, _, _, _]) rfl (List.Mem.head _) rfl rfl) rfl ?_ | refine LOps.pure (Pure.ldHAgg (cs' := [_, _, _, _]) rfl (List.Mem.tail _ (List.Mem.head _)) rfl rfl) rfl ?_ | refine LOps.step (S.store (cs' := [_, _, _, _, _, _]) rfl Pick.here rfl rfl rfl rfl rfl ?_) rfl
  refine LOps.step (S.callI [_, _, _] rfl swap2 (hX f kn a s1 Hs hf hk hva hn1.1 hm1.1 hg1 hs1) (fun r s2 H2 hr hs2 => ?_) (fun er s2 H2 hr hs2 e' he' => ?_)) rfl
  ·obtain ⟨hg2, _⟩ := st_good hC hn1.1 hg1 hr
   rw [hr] at hI
   cases r with
   | none =>
    repeat first | refine LOps.nil ?_ | refine LCode.seq ?_ | refine LCode.region ?_ | refine QThen.normal ?_ | refine LOps.pure (Pure.as (lv := .atom _) rfl) rfl ?_ | refine LOps.pure (Pure.mv (lv := .atom _) rfl) rfl ?_ | refine LOps.pure (Pure.mv (lv := .tuple _) rfl) rfl ?_ | refine LOps.pure (Pure.extract (c := .atom _) rfl rfl) rfl ?_
    refine LCode.cond rfl (fun hd => ?_) (fun hd => ?_)
    ·cases hd
    ·repeat first | refine LOps.nil ?_ | refine LCode.region ?_ | refine LCode.skip ?_ | refine QThen.normal ?_ | refine QBlock.normal ?_ | refine LOps.pure (Pure.mv (lv := .atom _) rfl) rfl ?_ | refine LOps.pure (Pure.add rfl rfl (by omega)) rfl ?_
     exact ⟨l2.length, _, _, Nat.lt_succ_self _, ⟨pre ++ [a], l2, s2, H2, by rw [hl]; simp, rfl, rfl, rfl, hs2, hg2, hvl, hn1.2, hm1.2, hI⟩, ⟨rfl, rfl, rfl, rfl, int_eq (by simp), trivial⟩, hsub_keep, hj⟩
   | some v =>
    repeat first | refine LOps.nil ?_ | refine LCode.seq ?_ | refine LCode.region ?_ | refine QThen.normal ?_ | refine LOps.pure (Pure.as (lv := .atom _) rfl) rfl ?_ | refine LOps.pure (Pure.mv (lv := .atom _) rfl) rfl ?_ | refine LOps.pure (Pure.mv (lv := .tuple _) rfl) rfl ?_ | refine LOps.pure (Pure.extract (c := .atom _) rfl rfl) rfl ?_
    refine LCode.cond rfl (fun hd => ?_) (fun hd => ?_)
    ·repeat first | refine LOps.nil ?_ | refine LCode.seq ?_ | refine LCode.region ?_ | refine LCode.ret ?_ | refine QThen.normal ?_ | refine QThen.ret ?_ | refine QBlock.ret ?_ | refine LOps.pure (Pure.as (lv := .atom _) rfl) rfl ?_ | refine LOps.pure (Pure.mv (lv := .atom _) rfl) rfl ?_
     exact retI (v := some v) hj (AllRes.cons (ResIs.tmp (v := .atom _) rfl (LV.Sub.refl _)) (AllRes.cons (ResIs.tmp (v := .atom _) rfl (LV.Sub.refl _)) AllRes.nil)) hI rfl hsub_left hs2
    ·cases hd
  ·repeat first | refine QThen.panic ?_ | refine QBlock.panic ?_
   rw [hr] at hI
   exact panI_ (he'.trans hj) hI hsub_left hs2
 ·have hlen := of_decide_eq_false hc
  rw [List.length_map, hl, List.length_append] at hlen
  obtain rfl : l1 = [] := by
   cases l1 with
   | nil => rfl
   | cons a l2 => simp at hlen; omega
  repeat first | refine LOps.nil ?_ | refine LCode.seq ?_ | refine LCode.region ?_ | refine LCode.ret ?_ | refine LCode.exit ?_ | refine QThen.normal ?_ | refine QThen.exit ?_ | refine QBlock.hit ?_ | refine LOps.pure (Pure.as (lv := .atom _) rfl) rfl ?_
  exact retI (v := none) hj (AllRes.cons (ResIs.tmp (v := .atom _) rfl (LV.Sub.refl _)) (AllRes.cons (ResIs.tmp (v := .atom _) rfl (LV.Sub.refl _)) AllRes.nil)) (hI.trans rfl) rfl (HSub.drop (HSub.refl _)) hs1
end
end Go.Proofs.YtcbpcianefpniaaGreatDoor.Inp
namespace Go.GL
open Go.RowKit
section
variable {C : Ctx} {n : Nat} {Q : Post} {e : Env} {H : Heap} {k : Env → Heap → Prop}
theorem LCode.mid {A : Type} {c : Code} (l : A → List (Nat × LV)) (H1 : A → Heap) (F : A → Prop) (hx : LCode C n c (QThen (fun e' H' => ∃ a, F a ∧ At (l a) (H1 a) e.ds e' H') Q) e H) (hy : ∀ a, F a → ∀ j : Env, j.ds = e.ds → k (Env.slots j (l a)) (H1 a)) : LCode C n c (QThen k Q) e H := by
 refine LCode.conseq hx ?_
 rintro ex e' H' hq
 cases ex with
 | normal =>
  obtain ⟨a, hF, h1, rfl, h3⟩ := hq
  have := hy a hF e' h3
  rw [Env.slots_self h1.mem] at this
  exact this
 | exit id => exact hq
 | goto id => exact hq
 | ret => exact hq
 | panic ch => exact hq
 | outgrown => exact hq
/-- The same, where the heap is met in whatever order, and code follows. -/
theorem LCode.midC {A : Type} {c c2 : Code} {Q2 : Post} (l : A → List (Nat × LV)) (H1 : A → Heap) (F : A → Prop) (hx : LCode C n c (QThen (fun e' H' => ∃ a, F a ∧ AllSlots e' (l a) ∧ HSub (H1 a) H' ∧ e'.ds = e.ds) Q) e H) (hy : ∀ a, F a → ∀ j : Env, j.ds = e.ds → LCode C n c2 Q2 (Env.slots j (l a)) (H1 a)) : LCode C n c (QThen (fun e H => LCode C n c2 Q2 e H) Q) e H := by
 refine LCode.conseq hx ?_
 rintro ex e' H' hq
 cases ex with
 | normal =>
  obtain ⟨a, hF, h1, h2, h3⟩ := hq
  have := hy a hF e' h3
  rw [Env.slots_self h1.mem] at this
  exact LCode.weak h2 this
 | exit id => exact hq
 | goto id => exact hq
 | ret => exact hq
 | panic ch => exact hq
 | outgrown => exact hq
theorem cells_sub {w : World} {L : Live} {b ty : Nat} {cs cs' : List LV} {F : Heap} (hp : Pick (b, .cells ty cs) H F) (hs : SubL cs cs') (hH : RelH C w L H) : RelH C w L ((b, .cells ty cs') :: F) := by
 have h1 := hH.perm hp
 refine ⟨h1.base, h1.lbase, h1.b0, h1.wf, h1.nodup, fun p hp => ?_⟩
 rcases List.mem_cons.1 hp with rfl | hp
 ·obtain ⟨r1, r2, r3, xs, r4, r5⟩ := h1.objs _ List.mem_cons_self
  exact ⟨r1, r2, r3, xs, r4, hs.repL r5⟩
 ·exact h1.objs p (List.mem_cons_of_mem _ hp)
theorem pick_keys {b ty : Nat} {cs cs' : List LV} {F : Heap} (hp : Pick (b, .cells ty cs) H F) : ∀ x, x ∈ keys ((b, LObj.cells ty cs') :: F) → x ∈ keys H := fun x hx => by
 have : keys ((b, LObj.cells ty cs') :: F) = keys ((b, LObj.cells ty cs) :: F) := rfl
 rw [this] at hx
 exact ((hp.map (·.1)).mem_iff).2 hx
/-- A cell's content is read more weakly. -/
theorem LCode.cellSub {c : Code} {b ty : Nat} {cs cs' : List LV} {F : Heap} (hp : Pick (b, .cells ty cs) H F) (hs : SubL cs cs') (h : LCode C n c Q e ((b, .cells ty cs') :: F)) : LCode C n c Q e H := fun a w L hE hH =>
 Go.wp_mono (h a w L hE (cells_sub hp hs hH)) fun _ _ _ => lift_weak (pick_keys hp)
theorem LOps.perm {ops : Array Oper} {rest : List Oper} {H' : Heap} (s : H.Perm H') (h : LOps C n ops Q rest e H') : LOps C n ops Q rest e H := LOps.weak ⟨[], by simpa using s⟩ h
end
section
variable {C : Ctx} {e : Env} {H : Heap} {dst : Option Nat} {ty : TypeId} {pos : String} {aft : Array Edge} {g : Option (Nat × Bool)} {x : Operand}
/-- A type assertion with two results that holds. -/
theorem Pure.assertOk {t xT : TypeId} [ht : TConcrete C.P t] {vs : List Value} (hx : e.ev x = .atom (.iface t (.agg vs.toArray))) : Pure C ⟨dst, .typeAssert x xT t true, ty, pos, aft, g⟩ e H (.tuple [.agg (vs.map .atom), bool true]) :=
 .of_any fun ρ w L h => ⟨.tuple #[.agg vs.toArray, .bool true], by
  simp only [Rep]
  exact ⟨[.agg vs.toArray, .bool true], rfl, by simp only [RepL, Rep]; exact ⟨_, _, rfl, ⟨vs, rfl, repL_atoms vs⟩, _, _, rfl, rfl, rfl⟩⟩, fun w' => by
  obtain ⟨d, hd, hm⟩ := ht.out
  have h3 : execOp ρ ⟨dst, .typeAssert x xT t true, ty, pos, aft, g⟩ = (do Pure.pure (.value (← Instr.typeAssert (ρ x) xT t true))) := rfl
  rw [h3, atom_of h hx]
  simp only [Instr.typeAssert, Sem.run_bind, run_underlying' hd, Result.andThen_ok]
  cases d <;> simp_all⟩
end
theorem LLate.three {C : Ctx} {n : Nat} {ops : Array Oper} {Q : Post} {HF : Heap} {fuel : Nat} {listed : Array Bool} {e : Env} {H : Heap} {i j k : Nat} (hr : Region.ready .any ops listed = [i, j, k]) (h1 : LLateOp C n ops Q HF fuel listed e H i) (h2 : LLateOp C n ops Q HF fuel listed e H j) (h3 : LLateOp C n ops Q HF fuel listed e H k) : LLate C n ops Q HF (fuel + 1) listed e H :=
 LLate.all hr (by simp) fun q hq => by
  simp only [List.mem_cons, List.not_mem_nil, or_false] at hq
  rcases hq with rfl | rfl | rfl
  ·exact h1
  ·exact h2
  ·exact h3
theorem LLate.four {C : Ctx} {n : Nat} {ops : Array Oper} {Q : Post} {HF : Heap} {fuel : Nat} {listed : Array Bool} {e : Env} {H : Heap} {i j k l : Nat} (hr : Region.ready .any ops listed = [i, j, k, l]) (h1 : LLateOp C n ops Q HF fuel listed e H i) (h2 : LLateOp C n ops Q HF fuel listed e H j) (h3 : LLateOp C n ops Q HF fuel listed e H k) (h4 : LLateOp C n ops Q HF fuel listed e H l) : LLate C n ops Q HF (fuel + 1) listed e H :=
 LLate.all hr (by simp) fun q hq => by
  simp only [List.mem_cons, List.not_mem_nil, or_false] at hq
  rcases hq with rfl | rfl | rfl | rfl
  ·exact h1
  ·exact h2
  ·exact h3
  ·exact h4
theorem strs_len (l : List (List UInt8)) : ∀ v ∈ l.map str, v.cells.length = 1 := fun v hv => by
 obtain ⟨x, _, rfl⟩ := List.mem_map.1 hv
 rfl
theorem strs_ok : ∀ l : List (List UInt8), ((l.map str).flatMap LV.cells).all cellOk = true
 | [] => rfl
 | x :: l => by
  rw [List.map_cons, List.flatMap_cons, List.all_append, strs_ok l]
  rfl
end Go.GL
/- A small logic over the walk's 'Code.wp': structs of a string and an int, compared. -/
namespace Go.GL
open Go.RowKit
section
variable {C : Ctx} {e : Env} {H : Heap} {dst : Option Nat} {ty : TypeId} {pos : String} {aft : Array Edge} {g : Option (Nat × Bool)} {xT yT : TypeId} {x y : Operand}
end
end Go.GL
namespace Go.GL
open Go.RowKit
section
variable {C : Ctx} {n : Nat} {ops : Array Oper} {Q : Post} {HF : Heap} {fuel : Nat} {listed : Array Bool} {e : Env} {H F : Heap} {i : Nat} {dst : Option Nat} {op : Op} {ty : TypeId} {pos : String} {aft : Array Edge}
theorem LLate.weakH {H' : Heap} (s : HSub H' H) (h : LLate C n ops Q HF fuel listed e H') : LLate C n ops Q HF fuel listed e H := fun w0 L0 a w L hL hA hsz hE hH =>
 wpAnyH_mono (fun _ _ _ => lift_weak s.keys) _ _ _ _ (h w0 L0 a w L hL hA hsz hE (hH.weak s))
end
end Go.GL
namespace Go.Proofs.YtcbpcianefpniaaGreatDoor.Inp
open Go.GL Go.RowKit Go.Stele
set_option maxRecDepth 100000
set_option maxHeartbeats 4000000
theorem bind_ok {A B : Type} {v : A} {s : IS} {f : A → IS → IR B} : (IR.ok v s).bind f = f v s := rfl
theorem bind_stop {A B : Type} {e : Int} {s : IS} {f : A → IS → IR B} : (IR.stop e s).bind f = .stop e s := rfl
theorem errS_parts {c : CEnv} {kind : Int} {name : List UInt8} {index value : List Ex} {thn els : List Sm} (h : errS c (.mk kind name index value thn els) = 0) :
  formS (.mk kind name index value thn els) = true ∧ errEs c value = 0 ∧ errEs c index = 0 ∧ (if kind = 1 then scalarE c name else if kind = 2 then arrayE c name else 0) = 0 ∧ errSs c thn = 0 ∧ errSs c els = 0 := by
 rw [errS] at h
 split at h
 ·cases h
 ·rename_i hf
  obtain ⟨h1, h⟩ := orE_zero.1 h
  obtain ⟨h2, h⟩ := orE_zero.1 h
  obtain ⟨h3, h⟩ := orE_zero.1 h
  obtain ⟨h4, h5⟩ := orE_zero.1 h
  exact ⟨by simpa using hf, h1, h2, h3, h4, h5⟩
theorem form_value {kind : Int} {name : List UInt8} {index value : List Ex} {thn els : List Sm} (h : formS (.mk kind name index value thn els) = true) (h7 : ¬ kind = 7) : ∃ x, value = [x] := by
 have h1 : value.length = 1 := by
  simp only [formS] at h
  repeat' (split at h)
  all_goals first
   | (simp only [decide_eq_true_eq] at h; omega)
   | cases h
   | contradiction
 cases value with
 | nil => cases h1
 | cons x l =>
  cases l with
  | nil => exact ⟨x, rfl⟩
  | cons y l => simp at h1
theorem form_index {name : List UInt8} {index value : List Ex} {thn els : List Sm} (h : formS (.mk 2 name index value thn els) = true) : ∃ x, index = [x] := by
 have h1 : index.length = 1 := by
  simp only [formS] at h
  simp only [show ¬ ((2 : Int) = 1) by decide, if_false, if_true, decide_eq_true_eq] at h
  exact h.2.1
 cases index with
 | nil => cases h1
 | cons x l =>
  cases l with
  | nil => exact ⟨x, rfl⟩
  | cons y l => simp at h1
/-- One round of a loop. -/
theorem whl_step {P : Pr} {n m v : Nat} {f : FnD} {x : Ex} {thn : List Sm} {s : IS} (hm : s.left ≤ m) (hv : ¬ v = 0) : whlR (evI P n f x) (blkR (stI P n f) thn) m v s = (blkR (stI P n f) thn s).bind fun r s => match r with
  | some y => .ok (some y) s
  | none => (evI P n f x s).bind fun v s => whlR (evI P n f x) (blkR (stI P n f) thn) (m - 1) v s := by
 cases m with
 | succ m => rw [whlR, if_neg hv]; rfl
 | zero =>
  have h0 : s.left = 0 := by omega
  have ht : tick s = .stop 13 s := by rw [tick, if_pos h0]
  have he : evI P n f x s = .stop 13 s := by
   cases n with
   | zero => rw [evI]
   | succ n =>
    obtain ⟨op, num, name, args⟩ := x
    rw [evI, ht, bind_stop]
  rw [whlR, if_neg hv]
  cases thn with
  | nil =>
   rw [blkR, bind_ok]
   show _ = (evI P n f x s).bind _
   rw [he, bind_stop]
  | cons a l =>
   have hs : stI P n f a s = .stop 13 s := by
    cases n with
    | zero => rw [stI]
    | succ n =>
     obtain ⟨k, nm, i, va, t, e⟩ := a
     rw [stI, ht, bind_stop]
   rw [blkR, hs, bind_stop, bind_stop]
section steps
variable {C : Ctx} {n : Nat} {e : Env} {H : Heap} {dst : Option Nat} {ty : TypeId} {pos : String} {aft : Array Edge} {g : Option (Nat × Bool)} {K : LV → Heap → Prop} {X : List PanicEntry → Heap → Prop}
theorem LStep.callI {A : Type} {c : Cfg} {enc : A → LV} {r : IR A} {f : FuncId} [TEnter C.P f] (args : List Operand) {ats : Array TypeId} {av : List LV} (has : args.map e.ev = av)
  (hc : LCalls C f av H (PostI c enc r)) (hk : ∀ v s H', r = .ok v s → St c s H' → K (enc v) H') (hx : ∀ er s H', r = .stop er s → St c s H' → X (panI er) H') :
  LStep C ⟨dst, .call { callee := .value (.func f), args := args.toArray, argTypes := ats }, ty, pos, aft, g⟩ e H K X := by
 refine LStep.conseq (S.callI (F := []) (K := fun lv H' => K lv H') (X := X) args has (by rw [List.append_nil]) hc (fun v s H' h1 h2 => by rw [List.append_nil]; exact hk v s H' h1 h2) (fun er s H' h1 h2 => by rw [List.append_nil]; exact hx er s H' h1 h2)) (fun lv H' h => ⟨lv, H', LV.Sub.refl _, HSub.refl _, h⟩)
end steps
attribute [local irreducible] LOps LCode LStep LCalls Go.GL.Pure QThen QBlock RetPost LQ LAny LLate LLateOp LS
section
variable {B0 : Nat} {w0 : World}
theorem execute_spec {c : Cfg} (hC : CfgOk c) {n : Nat} (hE : EvalH B0 w0 c n) (hB : BlkH B0 w0 c n) : ExecH B0 w0 c (n + 1) := by
 intro f kn x s H hf hk hv hnum hsm hg hs
 obtain ⟨kind, name, index, value, thn, els⟩ := x
 obtain ⟨hform, hval, hidx, hname, hthn, hels⟩ := errS_parts hv
 obtain ⟨hn1, hn2, hn3, hn4⟩ := hnum
 obtain ⟨hm1, hm2, hm3, hm4, hm5, hm6, hm7, hm8⟩ := hsm
 generalize hI : stI c.p (n + 1) f (Sm.mk kind name index value thn els) s = R
 rw [stI] at hI
 rw [encS_mk]
 refine LCalls.intro Tryz.func109 rfl (n := 93) rfl rfl rfl ?_
 repeat first | refine LCode.seq ?_ | refine LCode.region ?_
 refine LOps.step (S.box rfl fun b4 => ?_) rfl
 refine LOps.step (S.box rfl fun b5 => ?_) rfl
 repeat first | refine LOps.nil ?_ | refine LCode.seq ?_ | refine LCode.region ?_ | refine QThen.normal ?_ | refine LOps.pure (Pure.as (lv := .atom _) rfl) rfl ?_ | refine LOps.pure (Pure.mv (lv := .atom _) rfl) rfl ?_
 refine LOps.step (S.callI [_] rfl swap2 (step_spec hC hs) (fun u s1 H1 hr hs1 => ?_) (fun er s1 H1 hr hs1 e' he' => ?_)) rfl
 rotate_left
 ·repeat first | refine QThen.panic ?_
  rw [hr, bind_stop] at hI
  exact panI_ (he'.trans rfl) hI.symm hsub_left hs1
 have hg1 : Good c n s1 := by
  have h1 := tick_less hr
  have h2 := tick_bd hg.1
  rw [hr] at h2
  have h3 : s1.out = s.out := by
   unfold tick at hr
   split at hr
   ·cases hr
   ·cases hr; rfl
  exact ⟨h2.2, by have := hg.2.1; omega, by rw [h3]; have := hg.2.2; omega⟩
 rw [hr, bind_ok] at hI
 refine LOps.perm (swap2 (H := H1)).symm ?_
 repeat first | refine LOps.nil ?_ | refine LCode.seq ?_ | refine LCode.region ?_ | refine QThen.normal ?_ | refine LOps.pure (Pure.fieldH rfl) rfl ?_ | refine LOps.pure (Pure.loadH (c := .atom _) rfl (List.Mem.head _) rfl) rfl ?_ | refine LOps.pure (Pure.eql rfl rfl) rfl ?_
 refine LCode.cond rfl (fun hc => ?_) (fun hc => ?_)
 ·have h7 : kind = 7 := of_decide_eq_true hc
  rw [if_pos h7] at hI
  repeat first | refine LCode.region ?_ | refine LOps.pure (Pure.bld _ (cs := [_]) rfl) rfl ?_ | refine LOps.pure (Pure.makeInterfaceAgg (vs := [_]) rfl) rfl ?_
  refine LOps.step (LStep.panic rfl fun e' he' => ?_) rfl
  repeat first | refine QThen.panic ?_
  exact panI_ (he'.trans rfl) hI.symm (HSub.drop (HSub.drop (HSub.refl _))) hs1
 have h7 : ¬ kind = 7 := of_decide_eq_false hc
 rw [if_neg h7] at hI
 obtain ⟨x0, rfl⟩ := form_value hform h7
 rw [errEs] at hval
 obtain ⟨hv0, _⟩ := orE_zero.1 hval
 repeat first | refine LCode.seq ?_ | refine LCode.skip ?_ | refine QThen.normal ?_
 refine LCode.tail 6 (by kernel_rfl) ?_
 repeat first | refine LS.pure (Pure.mv (lv := .atom _) rfl) rfl ?_ | refine LS.pure (Pure.fieldH rfl) rfl ?_ | refine LS.pure (Pure.ldHAgg (cs' := [_, _, _, _]) rfl (List.Mem.tail _ (List.Mem.head _)) rfl rfl) rfl ?_ | refine LS.pure (Pure.loadH (c := .list _) rfl (List.Mem.head _) rfl) rfl ?_
 refine LS.pure (Pure.ixRef (el' := encE x0) (cs := [_, _, _, _]) rfl rfl (by omega) rfl rfl rfl) rfl ?_
 repeat first | refine LS.pure (Pure.ldRefAgg (cs' := [_, _, _, _]) rfl rfl rfl) rfl ?_ | refine LS.nil ?_
 refine LOps.step (S.callI [_, _, _] rfl swap2 (hE f kn x0 s1 H1 hf hk hv0 hn2.1 hm6.1 hg1 hs1) (fun v s2 H2 hr2 hs2 => ?_) (fun er s2 H2 hr2 hs2 e' he' => ?_)) rfl
 rotate_left
 ·repeat first | refine QThen.panic ?_
  rw [show ([x0] : List Ex).headD default = x0 from rfl, hr2, bind_stop] at hI
  exact panI_ (he'.trans rfl) hI.symm hsub_left hs2
 obtain ⟨hg2, hv2, hlt2⟩ := ev_good hC hn2.1 hg1 hr2
 rw [show ([x0] : List Ex).headD default = x0 from rfl, hr2, bind_ok] at hI
 refine LOps.perm (swap2 (H := H2)).symm ?_
 repeat first | refine LOps.nil ?_ | refine LCode.seq ?_ | refine LCode.region ?_ | refine LCode.block ?_ | refine QThen.normal ?_ | refine LOps.pure (Pure.as (lv := .atom _) rfl) rfl ?_ | refine LOps.pure (Pure.fieldH rfl) rfl ?_ | refine LOps.pure (Pure.loadH (c := .atom _) rfl (List.Mem.head _) rfl) rfl ?_ | refine LOps.pure (Pure.eql rfl rfl) rfl ?_
 by_cases hk1 : kind = 1
 ·subst hk1
  rw [if_pos rfl] at hI
  rw [if_pos rfl] at hname
  have hpl := key_placed hf hname
  obtain ⟨b, hb1, hb2⟩ := hC.block hpl
  obtain ⟨G, hG1, hG2⟩ := st_sc hC hb1 hs2
  obtain ⟨H3, hs3, hp3⟩ := hG2 v
  refine LCode.cond rfl (fun hc => ?_) (fun hc => by cases hc)
  repeat first | refine LCode.region ?_ | refine LOps.pure (Pure.mv (lv := .atom _) rfl) rfl ?_ | refine LOps.pure (Pure.fieldH rfl) rfl ?_ | refine LOps.pure (Pure.loadH (c := .atom _) rfl (List.Mem.head _) rfl) rfl ?_ | refine LOps.pure (Pure.ldHAgg (cs' := [_, _, _, _]) rfl (List.Mem.tail _ (List.Mem.head _)) rfl rfl) rfl ?_
  refine LOps.step (S.callS [_, _, _] rfl swap2 (scalar_spec hC hs2 hf hpl hb2) ?_) rfl
  refine LOps.perm (swap2 (H := H2)).symm ?_
  repeat first | refine LOps.pure (Pure.mv (lv := .atom _) rfl) rfl ?_ | refine LOps.pure (Pure.nilCheckH rfl) rfl ?_
  refine LOps.step (S.store (cs' := [u32 v]) rfl (pick_in (X := [_, _]) hG1) rfl rfl rfl rfl rfl ?_) rfl
  refine LOps.perm (back_in (X := [_, _]) hp3) ?_
  repeat first | refine LOps.nil ?_ | refine LCode.seq ?_ | refine LCode.region ?_ | refine LCode.ret ?_ | refine QThen.normal ?_ | refine QBlock.normal ?_ | refine LOps.pure (Pure.as (lv := .atom _) rfl) rfl ?_
  exact retI (v := none) rfl (AllRes.cons (ResIs.tmp (v := .atom _) rfl (LV.Sub.refl _)) (AllRes.cons (ResIs.tmp (v := .atom _) rfl (LV.Sub.refl _)) AllRes.nil)) hI.symm rfl (HSub.drop (HSub.drop (HSub.refl _))) hs3
 refine LCode.cond rfl (fun hc => absurd (of_decide_eq_true hc) hk1) (fun _ => ?_)
 rw [if_neg hk1] at hI hname
 repeat first | refine LOps.nil ?_ | refine LCode.seq ?_ | refine LCode.region ?_ | refine QThen.normal ?_ | refine LOps.pure (Pure.as (lv := .atom _) rfl) rfl ?_ | refine LOps.pure (Pure.eql rfl rfl) rfl ?_
 by_cases hk2 : kind = 2
 ·subst hk2
  rw [if_pos rfl] at hI hname
  obtain ⟨i0, rfl⟩ := form_index hform
  rw [errEs] at hidx
  obtain ⟨hi0, _⟩ := orE_zero.1 hidx
  have hpl : name ∈ c.p.arrays.map (·.name) := by
   unfold arrayE at hname
   split at hname
   ·rename_i h
    exact h
   ·split at hname <;> cases hname
  obtain ⟨b, m, hb1, hb2⟩ := hC.arr hpl
  refine LCode.cond rfl (fun hc => ?_) (fun hc => by cases hc)
  refine LCode.draw (m := 14) rfl [(b5, .cells 128 [int .i64 2, str name, .list ([i0].map encE), .list ([x0].map encE), .list (thn.map encS), .list (els.map encS)]), (b4, .cells 63 [str f.name, .list (f.params.map str), .list (f.locals.map str), .list (f.body.map encS)])] ?_
  refine LAny.take (i := 0) (by first | exact HSub.nil _ | exact HSub.refl _ | exact HSub.drop (HSub.refl _) | exact HSub.pick Pick.here (HSub.nil _) | exact HSub.pick (Pick.there Pick.here) (HSub.nil _) | exact HSub.pick (Pick.there (Pick.there Pick.here)) (HSub.nil _) | exact HSub.pick Pick.here (HSub.pick Pick.here (HSub.nil _))) rfl (by kernel_rfl) (by kernel_rfl) (by kernel_rfl) rfl (Pure.mv (lv := .atom _) rfl) ?_
  refine LAny.take (i := 1) (by first | exact HSub.nil _ | exact HSub.refl _ | exact HSub.drop (HSub.refl _) | exact HSub.pick Pick.here (HSub.nil _) | exact HSub.pick (Pick.there Pick.here) (HSub.nil _) | exact HSub.pick (Pick.there (Pick.there Pick.here)) (HSub.nil _) | exact HSub.pick Pick.here (HSub.pick Pick.here (HSub.nil _))) rfl (by kernel_rfl) (by kernel_rfl) (by kernel_rfl) rfl (Pure.fieldH rfl) ?_
  refine LAny.take (i := 2) (by first | exact HSub.nil _ | exact HSub.refl _ | exact HSub.drop (HSub.refl _) | exact HSub.pick Pick.here (HSub.nil _) | exact HSub.pick (Pick.there Pick.here) (HSub.nil _) | exact HSub.pick (Pick.there (Pick.there Pick.here)) (HSub.nil _) | exact HSub.pick Pick.here (HSub.pick Pick.here (HSub.nil _))) rfl (by kernel_rfl) (by kernel_rfl) (by kernel_rfl) rfl (Pure.loadH (c := .atom _) rfl (List.Mem.head _) rfl) ?_
  refine LAny.take (i := 3) (by first | exact HSub.nil _ | exact HSub.refl _ | exact HSub.drop (HSub.refl _) | exact HSub.pick Pick.here (HSub.nil _) | exact HSub.pick (Pick.there Pick.here) (HSub.nil _) | exact HSub.pick (Pick.there (Pick.there Pick.here)) (HSub.nil _) | exact HSub.pick Pick.here (HSub.pick Pick.here (HSub.nil _))) rfl (by kernel_rfl) (by kernel_rfl) (by kernel_rfl) rfl (Pure.mv (lv := .atom _) rfl) ?_
  refine LAny.take (i := 4) (by first | exact HSub.nil _ | exact HSub.refl _ | exact HSub.drop (HSub.refl _) | exact HSub.pick Pick.here (HSub.nil _) | exact HSub.pick (Pick.there Pick.here) (HSub.nil _) | exact HSub.pick (Pick.there (Pick.there Pick.here)) (HSub.nil _) | exact HSub.pick Pick.here (HSub.pick Pick.here (HSub.nil _))) rfl (by kernel_rfl) (by kernel_rfl) (by kernel_rfl) rfl (Pure.ldHAgg (cs' := [_, _, _, _]) rfl (List.Mem.tail _ (List.Mem.head _)) rfl rfl) ?_
  refine LAny.take (i := 5) (by first | exact HSub.nil _ | exact HSub.refl _ | exact HSub.drop (HSub.refl _) | exact HSub.pick Pick.here (HSub.nil _) | exact HSub.pick (Pick.there Pick.here) (HSub.nil _) | exact HSub.pick (Pick.there (Pick.there Pick.here)) (HSub.nil _) | exact HSub.pick Pick.here (HSub.pick Pick.here (HSub.nil _))) rfl (by kernel_rfl) (by kernel_rfl) (by kernel_rfl) rfl (Pure.fieldH rfl) ?_
  refine LAny.take (i := 6) (by first | exact HSub.nil _ | exact HSub.refl _ | exact HSub.drop (HSub.refl _) | exact HSub.pick Pick.here (HSub.nil _) | exact HSub.pick (Pick.there Pick.here) (HSub.nil _) | exact HSub.pick (Pick.there (Pick.there Pick.here)) (HSub.nil _) | exact HSub.pick Pick.here (HSub.pick Pick.here (HSub.nil _))) rfl (by kernel_rfl) (by kernel_rfl) (by kernel_rfl) rfl (Pure.loadH (c := .list _) rfl (List.Mem.head _) rfl) ?_
  refine LAny.take (i := 7) (HSub.pick Pick.here (HSub.pick Pick.here (HSub.nil _))) rfl (by kernel_rfl) (by kernel_rfl) (by kernel_rfl) rfl (Pure.ixRef (el' := encE i0) (cs := [_, _, _, _]) rfl rfl (by omega) rfl rfl rfl) ?_
  refine LAny.take (i := 8) (by first | exact HSub.nil _ | exact HSub.refl _ | exact HSub.drop (HSub.refl _) | exact HSub.pick Pick.here (HSub.nil _) | exact HSub.pick (Pick.there Pick.here) (HSub.nil _) | exact HSub.pick (Pick.there (Pick.there Pick.here)) (HSub.nil _) | exact HSub.pick Pick.here (HSub.pick Pick.here (HSub.nil _))) rfl (by kernel_rfl) (by kernel_rfl) (by kernel_rfl) rfl (Pure.ldRefAgg (cs' := [_, _, _, _]) rfl rfl rfl) ?_
  refine LAny.take (i := 11) (by first | exact HSub.nil _ | exact HSub.refl _ | exact HSub.drop (HSub.refl _) | exact HSub.pick Pick.here (HSub.nil _) | exact HSub.pick (Pick.there Pick.here) (HSub.nil _) | exact HSub.pick (Pick.there (Pick.there Pick.here)) (HSub.nil _) | exact HSub.pick Pick.here (HSub.pick Pick.here (HSub.nil _))) rfl (by kernel_rfl) (by kernel_rfl) (by kernel_rfl) rfl (Pure.mv (lv := .atom _) rfl) ?_
  refine LAny.late ?_ (HSub.pick Pick.here (HSub.pick Pick.here (HSub.nil _)))
  refine LLate.o 9 (LLateOp.step (H1 := H2) rfl (.inl rfl) rfl swap2 (HSub.refl _) (LStep.callI [_, _, _] rfl (hE f kn i0 s2 H2 hf hk hi0 hn1.1 hm5.1 hg2 hs2) (fun i s3 H3 hr3 hs3 => ?_) (fun er s3 H3 hr3 hs3 e' he' => ?_)))
  rotate_left
  ·repeat first | refine QThen.panic ?_ | refine QBlock.panic ?_
   rw [show ([i0] : List Ex).headD default = i0 from rfl, hr3, bind_stop] at hI
   exact panI_ (he'.trans rfl) hI.symm hsub_left hs3
  obtain ⟨hg3, hv3, _⟩ := ev_good hC hn1.1 hg2 hr3
  rw [show ([i0] : List Ex).headD default = i0 from rfl, hr3, bind_ok] at hI
  obtain ⟨hlen, G, hG1, hG2⟩ := st_ar hC hb1 hs3
  by_cases hin : i < m
  ·have hget : (s3.ar name)[i]? = some (s3.ar name)[i] := List.getElem?_eq_getElem (by omega)
   rw [hget] at hI
   refine LLate.o 10 (LLateOp.step (H1 := H3) rfl (.inl rfl) rfl (List.Perm.refl _) (HSub.refl _) (LStep.call (args := [_, _, _]) (element_spec hC hs3 hb1 hb2 hv3) ?_ ?_))
   ·rintro lv H' ⟨rfl, h⟩
    rw [if_pos hin] at h
    cases h
    refine LLate.o 12 (LLateOp.pureH rfl rfl (Pure.nilCheckH rfl) ?_)
    obtain ⟨H4, hs4, hp4⟩ := hG2 ((s3.ar name).set i v) (by rw [List.length_set]; exact hlen)
    refine LLate.o 13 (LLateOp.step (H1 := H') rfl (.inl rfl) rfl (List.Perm.refl _) (HSub.refl _) (S.store (cs' := ((s3.ar name).set i v).map u32) rfl hG1 rfl rfl ?_ rfl ?_ ?_))
    ·rw [List.length_map, hlen]
     simp
     omega
    ·rw [setL_one _ _ _ (by rw [List.length_map]; omega), List.map_set]
    ·refine LLate.weakH (H' := H4 ++ _) ⟨[], by rw [List.append_nil]; exact hp4.append_right _⟩ ?_
     refine LLate.done (by kernel_rfl) ?_
     repeat first | refine LOps.nil ?_ | refine LCode.seq ?_ | refine LCode.region ?_ | refine LCode.ret ?_ | refine QThen.normal ?_ | refine QBlock.normal ?_ | refine LOps.pure (Pure.as (lv := .atom _) rfl) rfl ?_
     exact retI (v := none) rfl (AllRes.cons (ResIs.tmp (v := .atom _) rfl (LV.Sub.refl _)) (AllRes.cons (ResIs.tmp (v := .atom _) rfl (LV.Sub.refl _)) AllRes.nil)) hI.symm rfl hsub_left hs4
   ·rintro ch H' ⟨rfl, h⟩
    rw [if_pos hin] at h
    cases h
  ·have hget : (s3.ar name)[i]? = none := List.getElem?_eq_none (by omega)
   rw [hget] at hI
   refine LLate.o 10 (LLateOp.step (H1 := H3) rfl (.inl rfl) rfl (List.Perm.refl _) (HSub.refl _) (LStep.call (args := [_, _, _]) (element_spec hC hs3 hb1 hb2 hv3) ?_ ?_))
   ·rintro lv H' ⟨rfl, h⟩
    rw [if_neg hin] at h
    cases h
   ·rintro ch H' ⟨rfl, h⟩ e' he'
    rw [if_neg hin] at h
    cases h
    repeat first | refine QThen.panic ?_ | refine QBlock.panic ?_
    exact panI_ (he'.trans rfl) hI.symm hsub_left hs3
 refine LCode.cond rfl (fun hc => absurd (of_decide_eq_true hc) hk2) (fun _ => ?_)
 rw [if_neg hk2] at hI
 repeat first | refine LOps.nil ?_ | refine LCode.seq ?_ | refine LCode.region ?_ | refine QThen.normal ?_ | refine LOps.pure (Pure.as (lv := .atom _) rfl) rfl ?_ | refine LOps.pure (Pure.eql rfl rfl) rfl ?_
 by_cases hk5 : kind = 5
 ·subst hk5
  rw [if_pos rfl] at hI
  refine LCode.cond rfl (fun hc => ?_) (fun hc => by cases hc)
  repeat first | refine LOps.nil ?_ | refine LCode.seq ?_ | refine LCode.region ?_ | refine LCode.ret ?_ | refine QThen.normal ?_ | refine QThen.ret ?_ | refine QBlock.ret ?_ | refine LOps.pure (Pure.as (lv := .atom _) rfl) rfl ?_ | refine LOps.pure (Pure.mv (lv := .atom _) rfl) rfl ?_
  exact retI (v := some v) rfl (AllRes.cons (ResIs.tmp (v := .atom _) rfl (LV.Sub.refl _)) (AllRes.cons (ResIs.tmp (v := .atom _) rfl (LV.Sub.refl _)) AllRes.nil)) hI.symm rfl (HSub.drop (HSub.drop (HSub.refl _))) hs2
 refine LCode.cond rfl (fun hc => absurd (of_decide_eq_true hc) hk5) (fun _ => ?_)
 rw [if_neg hk5] at hI
 repeat first | refine LOps.nil ?_ | refine LCode.seq ?_ | refine LCode.region ?_ | refine QThen.normal ?_ | refine LOps.pure (Pure.as (lv := .atom _) rfl) rfl ?_ | refine LOps.pure (Pure.eql rfl rfl) rfl ?_
 by_cases hk3 : kind = 3
 ·subst hk3
  rw [if_pos rfl] at hI
  refine LCode.cond rfl (fun hc => ?_) (fun hc => by cases hc)
  repeat first | refine LOps.nil ?_ | refine LCode.seq ?_ | refine LCode.region ?_ | refine QThen.normal ?_ | refine LOps.pure (Pure.mv (lv := .atom _) rfl) rfl ?_ | refine LOps.pure (Pure.neq rfl rfl) rfl ?_
  refine LCode.cond rfl (fun hd => ?_) (fun hd => ?_)
  ·have hv0' : v ≠ 0 := by
    intro h
    subst h
    cases hd
   rw [if_pos hv0'] at hI
   repeat first | refine LCode.seq ?_ | refine LCode.region ?_ | refine LOps.pure (Pure.mv (lv := .atom _) rfl) rfl ?_ | refine LOps.pure (Pure.fieldH rfl) rfl ?_ | refine LOps.pure (Pure.ldHAgg (cs' := [_, _, _, _]) rfl (List.Mem.tail _ (List.Mem.head _)) rfl rfl) rfl ?_ | refine LOps.pure (Pure.loadH (c := .list _) rfl (List.Mem.head _) rfl) rfl ?_
   refine LOps.step (S.callI [_, _, _] rfl swap2 (hB f kn thn s2 H2 hf hk hthn hn3 hm3 hm7 hg2 hs2) (fun r s3 H3 hr3 hs3 => ?_) (fun er s3 H3 hr3 hs3 e' he' => ?_)) rfl
   ·rw [hr3] at hI
    repeat first | refine LOps.nil ?_ | refine LCode.ret ?_ | refine QThen.normal ?_ | refine QThen.ret ?_ | refine QBlock.ret ?_ | refine LOps.pure (Pure.as (lv := .atom _) rfl) rfl ?_ | refine LOps.pure (Pure.extract (c := .atom _) rfl rfl) rfl ?_
    exact retI (v := r) rfl (AllRes.cons (ResIs.tmp (v := .atom _) rfl (LV.Sub.refl _)) (AllRes.cons (ResIs.tmp (v := .atom _) rfl (LV.Sub.refl _)) AllRes.nil)) hI.symm rfl hsub_left hs3
   ·repeat first | refine QThen.panic ?_ | refine QBlock.panic ?_
    rw [hr3] at hI
    exact panI_ (he'.trans rfl) hI.symm hsub_left hs3
  ·have hv0' : ¬ v ≠ 0 := by
    intro h
    have h2 : (!decide ((v : Int) = 0)) = false := hd
    simp at h2
    omega
   rw [if_neg hv0'] at hI
   repeat first | refine LCode.seq ?_ | refine LCode.region ?_ | refine LCode.skip ?_ | refine QThen.normal ?_ | refine LOps.pure (Pure.mv (lv := .atom _) rfl) rfl ?_ | refine LOps.pure (Pure.fieldH rfl) rfl ?_ | refine LOps.pure (Pure.ldHAgg (cs' := [_, _, _, _]) rfl (List.Mem.tail _ (List.Mem.head _)) rfl rfl) rfl ?_ | refine LOps.pure (Pure.loadH (c := .list _) rfl (List.Mem.head _) rfl) rfl ?_
   refine LOps.step (S.callI [_, _, _] rfl swap2 (hB f kn els s2 H2 hf hk hels hn4 hm4 hm8 hg2 hs2) (fun r s3 H3 hr3 hs3 => ?_) (fun er s3 H3 hr3 hs3 e' he' => ?_)) rfl
   ·rw [hr3] at hI
    repeat first | refine LOps.nil ?_ | refine LCode.ret ?_ | refine QThen.normal ?_ | refine QThen.ret ?_ | refine QBlock.ret ?_ | refine LOps.pure (Pure.as (lv := .atom _) rfl) rfl ?_ | refine LOps.pure (Pure.extract (c := .atom _) rfl rfl) rfl ?_
    exact retI (v := r) rfl (AllRes.cons (ResIs.tmp (v := .atom _) rfl (LV.Sub.refl _)) (AllRes.cons (ResIs.tmp (v := .atom _) rfl (LV.Sub.refl _)) AllRes.nil)) hI.symm rfl hsub_left hs3
   ·repeat first | refine QThen.panic ?_ | refine QBlock.panic ?_
    rw [hr3] at hI
    exact panI_ (he'.trans rfl) hI.symm hsub_left hs3
 refine LCode.cond rfl (fun hc => absurd (of_decide_eq_true hc) hk3) (fun _ => ?_)
 rw [if_neg hk3] at hI
 repeat first | refine LOps.nil ?_ | refine LCode.seq ?_ | refine LCode.region ?_ | refine QThen.normal ?_ | refine LOps.pure (Pure.as (lv := .atom _) rfl) rfl ?_ | refine LOps.pure (Pure.eql rfl rfl) rfl ?_
 by_cases hk4 : kind = 4
 ·subst hk4
  rw [if_pos rfl] at hI
  refine LCode.cond rfl (fun hc => ?_) (fun hc => by cases hc)
  repeat first | refine LCode.block ?_
  refine LCode.loopI (fun k ls H' => ∃ (m : Nat) (v1 : Nat) (s3 : IS) (Hs : Heap), k = s3.left ∧ s3.left ≤ m ∧ v1 < 4294967296 ∧ ls = [(0, ptr c.rb 0), (4, ptr b4 0), (5, ptr b5 0), (8, u32 v1)] ∧ H' = (b5, .cells 128 [int .i64 4, str name, .list (index.map encE), .list ([x0].map encE), .list (thn.map encS), .list (els.map encS)]) :: (b4, .cells 63 [str f.name, .list (f.params.map str), .list (f.locals.map str), .list (f.body.map encS)]) :: Hs ∧ St c s3 Hs ∧ Good c n s3 ∧ whlR (evI c.p n f x0) (blkR (stI c.p n f) thn) m v1 s3 = R)
   ⟨_, _, _, ⟨n, v, s2, H2, rfl, hg2.2.1, hv2, rfl, rfl, hs2, hg2, hI⟩, ⟨rfl, rfl, rfl, rfl, trivial⟩, HSub.refl _⟩ ?_
  rintro k ls H' ⟨m, v1, s3, Hs, rfl, hm, hv1, rfl, rfl, hs3, hg3, hI3⟩ j hj
  repeat first | refine LOps.nil ?_ | refine LCode.seq ?_ | refine LCode.region ?_ | refine QThen.normal ?_ | refine LOps.pure (Pure.mv (lv := .atom _) rfl) rfl ?_ | refine LOps.pure (Pure.neq rfl rfl) rfl ?_
  by_cases hv0' : v1 = 0
  ·subst hv0'
   rw [whlR_zero] at hI3
   refine LCode.cond rfl (fun hc => by cases hc) (fun _ => ?_)
   repeat first | refine LOps.nil ?_ | refine LCode.seq ?_ | refine LCode.region ?_ | refine LCode.ret ?_ | refine LCode.exit ?_ | refine QThen.normal ?_ | refine QThen.exit ?_ | refine QBlock.hit ?_ | refine QBlock.normal ?_ | refine LOps.pure (Pure.as (lv := .atom _) rfl) rfl ?_
   exact retI (v := none) hj (AllRes.cons (ResIs.tmp (v := .atom _) rfl (LV.Sub.refl _)) (AllRes.cons (ResIs.tmp (v := .atom _) rfl (LV.Sub.refl _)) AllRes.nil)) hI3.symm rfl (HSub.drop (HSub.drop (HSub.refl _))) hs3
  ·rw [whl_step hm hv0'] at hI3
   refine LCode.cond rfl (fun _ => ?_) (fun hd => ?_)
   rotate_left
   ·have h2 : (!decide ((v1 : Int) = 0)) = false := hd
    simp at h2
    omega
   repeat first | refine LCode.seq ?_ | refine LCode.region ?_ | refine LCode.skip ?_ | refine LCode.block ?_ | refine QThen.normal ?_ | refine LOps.pure (Pure.mv (lv := .atom _) rfl) rfl ?_ | refine LOps.pure (Pure.fieldH rfl) rfl ?_ | refine LOps.pure (Pure.ldHAgg (cs' := [_, _, _, _]) rfl (List.Mem.tail _ (List.Mem.head _)) rfl rfl) rfl ?_ | refine LOps.pure (Pure.loadH (c := .list _) rfl (List.Mem.head _) rfl) rfl ?_
   refine LOps.step (S.callI [_, _, _] rfl swap2 (hB f kn thn s3 Hs hf hk hthn hn3 hm3 hm7 hg3 hs3) (fun r s4 H4 hr4 hs4 => ?_) (fun er s4 H4 hr4 hs4 e' he' => ?_)) rfl
   rotate_left
   ·repeat first | refine QThen.panic ?_ | refine QBlock.panic ?_
    rw [hr4, bind_stop] at hI3
    exact panI_ (he'.trans hj) hI3.symm hsub_left hs4
   rw [hr4, bind_ok] at hI3
   obtain ⟨hg4, _⟩ := blk_good hC hn3 hg3 hr4
   have hlt4 := (blkR_grow ((grow_all c.p n).2 f) thn s3).2
   rw [hr4] at hlt4
   refine LOps.perm (swap2 (H := H4)).symm ?_
   cases r with
   | some y =>
    repeat first | refine LOps.nil ?_ | refine LCode.seq ?_ | refine LCode.region ?_ | refine QThen.normal ?_ | refine LOps.pure (Pure.as (lv := .atom _) rfl) rfl ?_ | refine LOps.pure (Pure.mv (lv := .atom _) rfl) rfl ?_ | refine LOps.pure (Pure.extract (c := .atom _) rfl rfl) rfl ?_ | refine LOps.pure (Pure.mv (lv := .tuple _) rfl) rfl ?_
    refine LCode.cond rfl (fun _ => ?_) (fun hd => by cases hd)
    repeat first | refine LOps.nil ?_ | refine LCode.seq ?_ | refine LCode.region ?_ | refine LCode.ret ?_ | refine QThen.normal ?_ | refine QThen.ret ?_ | refine QBlock.ret ?_ | refine LOps.pure (Pure.as (lv := .atom _) rfl) rfl ?_ | refine LOps.pure (Pure.mv (lv := .atom _) rfl) rfl ?_
    exact retI (v := some y) hj (AllRes.cons (ResIs.tmp (v := .atom _) rfl (LV.Sub.refl _)) (AllRes.cons (ResIs.tmp (v := .atom _) rfl (LV.Sub.refl _)) AllRes.nil)) hI3.symm rfl (HSub.drop (HSub.drop (HSub.refl _))) hs4
   | none =>
    repeat first | refine LOps.nil ?_ | refine LCode.seq ?_ | refine LCode.region ?_ | refine QThen.normal ?_ | refine LOps.pure (Pure.as (lv := .atom _) rfl) rfl ?_ | refine LOps.pure (Pure.mv (lv := .atom _) rfl) rfl ?_ | refine LOps.pure (Pure.extract (c := .atom _) rfl rfl) rfl ?_ | refine LOps.pure (Pure.mv (lv := .tuple _) rfl) rfl ?_
    refine LCode.cond rfl (fun hd => by cases hd) (fun _ => ?_)
    repeat first | refine LCode.skip ?_ | refine QThen.normal ?_ | refine QBlock.normal ?_
    refine LCode.tail 6 (by kernel_rfl) ?_
    repeat first | refine LS.pure (Pure.mv (lv := .atom _) rfl) rfl ?_ | refine LS.pure (Pure.fieldH rfl) rfl ?_ | refine LS.pure (Pure.ldHAgg (cs' := [_, _, _, _]) rfl (List.Mem.tail _ (List.Mem.head _)) rfl rfl) rfl ?_ | refine LS.pure (Pure.loadH (c := .list _) rfl (List.Mem.head _) rfl) rfl ?_
    refine LS.pure (Pure.ixRef (el' := encE x0) (cs := [_, _, _, _]) rfl rfl (by omega) rfl rfl rfl) rfl ?_
    repeat first | refine LS.pure (Pure.ldRefAgg (cs' := [_, _, _, _]) rfl rfl rfl) rfl ?_ | refine LS.nil ?_
    refine LOps.step (S.callI [_, _, _] rfl swap2 (hE f kn x0 s4 H4 hf hk hv0 hn2.1 hm6.1 hg4 hs4) (fun v5 s5 H5 hr5 hs5 => ?_) (fun er s5 H5 hr5 hs5 e' he' => ?_)) rfl
    ·obtain ⟨hg5, hv5, hlt5⟩ := ev_good hC hn2.1 hg4 hr5
     rw [hr5, bind_ok] at hI3
     repeat first | refine LOps.nil ?_ | refine QThen.normal ?_ | refine LOps.pure (Pure.as (lv := .atom _) rfl) rfl ?_
     have hlt4' : s4.left ≤ s3.left := hlt4
     exact ⟨s5.left, _, _, by omega, ⟨m - 1, v5, s5, H5, rfl, by omega, hv5, rfl, rfl, hs5, hg5, hI3⟩, ⟨rfl, rfl, rfl, rfl, trivial⟩, ⟨[], by rw [List.append_nil]; exact swap2.symm⟩, hj⟩
    ·repeat first | refine QThen.panic ?_ | refine QBlock.panic ?_
     rw [hr5, bind_stop] at hI3
     exact panI_ (he'.trans hj) hI3.symm hsub_left hs5
 refine LCode.cond rfl (fun hc => absurd (of_decide_eq_true hc) hk4) (fun _ => ?_)
 rw [if_neg hk4] at hI
 repeat first | refine LOps.nil ?_ | refine LCode.seq ?_ | refine LCode.region ?_ | refine LCode.skip ?_ | refine LCode.ret ?_ | refine QThen.normal ?_ | refine QBlock.normal ?_ | refine LOps.pure (Pure.as (lv := .atom _) rfl) rfl ?_
 exact retI (v := none) rfl (AllRes.cons (ResIs.tmp (v := .atom _) rfl (LV.Sub.refl _)) (AllRes.cons (ResIs.tmp (v := .atom _) rfl (LV.Sub.refl _)) AllRes.nil)) hI.symm rfl (HSub.drop (HSub.drop (HSub.refl _))) hs2
end
end Go.Proofs.YtcbpcianefpniaaGreatDoor.Inp
namespace Go.Proofs.YtcbpcianefpniaaGreatDoor.Inp
open Go.GL Go.RowKit Go.Stele
set_option maxRecDepth 100000
set_option maxHeartbeats 4000000
section
variable {C : Ctx} {e : Env} {H : Heap} {dst : Option Nat} {ty : TypeId} {pos : String} {aft : Array Edge} {g : Option (Nat × Bool)} {x : Operand}
/-- A list without its first element. -/
theorem Pure.ltail {t el s : Nat} [ht : TSlice C.P t el s] {lo : Operand} {k : IntKind} {a : LV} {es : List LV} (hx : elems (e.ev x) = some (a :: es)) (hlo : e.ev lo = int k 1) (hs : ∀ v ∈ a :: es, v.cells.length = s) : Pure C ⟨dst, .slice t x (some lo) none none, ty, pos, aft, g⟩ e H (.list es) := by
 have := Pure.lslice (t := t) (C := C) (H := H) (dst := dst) (ty := ty) (pos := pos) (aft := aft) (g := g) (lo := some lo) (hi := none) (i := 1) (j := (((a :: es).length : Nat) : Int)) hx ⟨k, hlo⟩ rfl (by decide) (by simp only [List.length_cons]; omega) (Int.le_refl _) hs
 have h2 : ((a :: es).take (((a :: es).length : Nat) : Int).toNat).drop (1 : Int).toNat = es := by
  rw [Int.toNat_natCast, List.take_length]
  rfl
 rwa [h2] at this
end
theorem wrap_u8 (n : Nat) : IntKind.u8.wrap (n : Int) = ((UInt8.ofNat n).toNat : Int) := by
 have h : IntKind.u8.wrap (n : Int) = (n : Int) % 256 := by
  simp only [IntKind.wrap, IntKind.bits, IntKind.signed, Bool.false_and]
  rfl
 rw [h]
 have h2 : (UInt8.ofNat n).toNat = n % 256 := by simp
 rw [h2]
 omega
theorem acc_one {s : Nat} {v : LV} {es : List LV} {H F : Heap} (h : GL.Acc s v es H F) : v.cells? = some [v] ∧ ([v].all cellOk) = true := by
 cases h <;> exact ⟨rfl, rfl⟩
theorem u32_cells (l : List Nat) : ∀ v ∈ l.map u32, v.cells.length = 1 := fun v hv => by
 obtain ⟨a, _, rfl⟩ := List.mem_map.1 hv
 rfl
theorem out_perm (c : Cfg) (s : IS) (v : LV) (Ha : Heap) : (stH c s v Ha).Perm (Ha ++ (hdH c s v ++ (scH c.sb s ++ arH c.ab s))) := by
 rw [stH_eq]
 have : hdH c s v ++ (scH c.sb s ++ (arH c.ab s ++ Ha)) = (hdH c s v ++ (scH c.sb s ++ arH c.ab s)) ++ Ha := by simp only [List.append_assoc]
 rw [this]
 exact List.perm_append_comm
theorem out_eq (c : Cfg) (s : IS) (v : LV) (Ha : Heap) : (hdH c s v ++ (scH c.sb s ++ arH c.ab s)) ++ Ha = stH c s v Ha := by
 rw [stH_eq]
 simp only [List.append_assoc]
theorem own_placed {c : Cfg} (hC : CfgOk c) {f : FnD} (hf : f ∈ c.p.funcs) {p : List UInt8} (hp : p ∈ f.params) : keyI f p ∈ scalarsP c.p.vars c.p.funcs := by
 unfold keyI
 rw [if_pos (.inl hp)]
 exact (own_key hC.valid.names hf p).2 (List.mem_append.2 (.inl hp))
theorem CfgOk.fn {c : Cfg} (hC : CfgOk c) {f : FnD} (hf : f ∈ c.p.funcs) : GL.kvGet (fnKV c.p.funcs) f.name = some (encFn f) :=
 kv_hit (A := FnD) (·.name) encFn (List.nodup_append.1 (fresh_zero _ _ hC.valid.names).1).2.1 hf
attribute [local irreducible] LOps LCode LStep LCalls Go.GL.Pure QThen QBlock RetPost LQ LAny LLate LLateOp LS
section
variable {B0 : Nat} {w0 : World}
theorem call_spec {c : Cfg} (hC : CfgOk c) {n : Nat} (hB : BlkH B0 w0 c n) {f0 : FnD} {kn : List FSum} (hk0 : Known c.p.funcs kn) {name : List UInt8} {vs : List Nat} {s : IS} {H : Heap} (hv : callE (cenv c kn f0) name vs.length = 0) (hvs : ∀ v ∈ vs, Lt v)
  (hbd : Bnd s) (hleft : s.left ≤ n) (hroom : s.out.length + s.left + 1 ≤ c.lim) (hs : St c s H) : LCalls (KC B0 w0) 187 [ptr c.rb 0, str name, .list (vs.map u32)] H (PostI c u32 (callI c.p (stI c.p n) name vs s)) := by
 have hs0 := hs
 have hlim := hC.lim
 generalize hI : callI c.p (stI c.p n) name vs s = R
 unfold callI at hI
 refine LCalls.intro Tryz.func187 rfl (n := 85) rfl rfl rfl ?_
 repeat first | refine LOps.nil ?_ | refine LCode.seq ?_ | refine LCode.region ?_ | refine LCode.block ?_ | refine QThen.normal ?_ | refine LOps.pure (Pure.as (lv := .atom _) rfl) rfl ?_ | refine LOps.pure (Pure.mv (lv := .atom _) rfl) rfl ?_ | refine LOps.pure (Pure.seq rfl rfl) rfl ?_
 by_cases hin : name = [105, 110]
 ·subst hin
  rw [if_pos rfl] at hI
  obtain ⟨hl, hle, v, Ha, hacc, rfl⟩ := hs
  refine LCode.cond rfl (fun hc => ?_) (fun hc => by cases hc)
  repeat first | refine LOps.nil ?_ | refine LCode.seq ?_ | refine LCode.region ?_ | refine QThen.normal ?_ | refine LOps.pure (Pure.mv (lv := .atom _) rfl) rfl ?_ | refine LOps.pure (Pure.nilCheckH rfl) rfl ?_ | refine LOps.pure (Pure.fieldH rfl) rfl ?_ | refine LOps.pure (Pure.loadH (c := .list _) rfl (List.Mem.head _) rfl) rfl ?_ | refine LOps.pure (Pure.llen rfl) rfl ?_ | refine LOps.pure (Pure.eql rfl rfl) rfl ?_
  cases hinp : s.inp with
  | nil =>
   rw [hinp] at hI
   refine LCode.cond rfl (fun hc => ?_) (fun hc => ?_)
   ·repeat first | refine LOps.nil ?_ | refine LCode.seq ?_ | refine LCode.region ?_ | refine LCode.ret ?_ | refine QThen.normal ?_ | refine QThen.ret ?_ | refine QBlock.ret ?_ | refine LOps.pure (Pure.as (lv := .atom _) rfl) rfl ?_
    exact retI (v := 4294967295) rfl (AllRes.cons (ResIs.tmp (v := .atom _) rfl (LV.Sub.refl _)) AllRes.nil) hI.symm rfl (HSub.refl _) hs0
   ·cases hc
  | cons a r =>
   rw [hinp] at hI
   refine LCode.cond rfl (fun hc => ?_) (fun hc => ?_)
   ·have := of_decide_eq_true hc
    simp at this
    omega
   ·repeat first | refine LCode.seq ?_ | refine LCode.region ?_ | refine LCode.skip ?_ | refine QThen.normal ?_ | refine LOps.pure (Pure.mv (lv := .atom _) rfl) rfl ?_ | refine LOps.pure (Pure.nilCheckH rfl) rfl ?_ | refine LOps.pure (Pure.fieldH rfl) rfl ?_ | refine LOps.pure (Pure.loadH (c := .list _) rfl (List.Mem.head _) rfl) rfl ?_
    refine LOps.pure (Pure.ixRef (el' := u32 a) (cs := [u32 a]) rfl rfl (by omega) (by rw [hinp]; rfl) rfl rfl) rfl ?_
    repeat first | refine LOps.nil ?_ | refine LCode.seq ?_ | refine LCode.region ?_ | refine QThen.normal ?_ | refine LOps.pure (Pure.as (lv := .atom _) rfl) rfl ?_ | refine LOps.pure (Pure.mv (lv := .atom _) rfl) rfl ?_ | refine LOps.pure (Pure.nilCheckH rfl) rfl ?_ | refine LOps.pure (Pure.fieldH rfl) rfl ?_ | refine LOps.pure (Pure.loadH (c := .list _) rfl (List.Mem.head _) rfl) rfl ?_ | refine LOps.pure (Pure.loadRef (c := .atom _) rfl rfl) rfl ?_
    refine LOps.pure (Pure.ltail (a := u32 a) (es := r.map u32) (by rw [show elems _ = some (s.inp.map u32) from rfl, hinp]; rfl) rfl (u32_cells (a :: r))) rfl ?_
    repeat first | refine LOps.nil ?_ | refine LCode.seq ?_ | refine LCode.region ?_ | refine LCode.ret ?_ | refine QThen.normal ?_ | refine QThen.ret ?_ | refine QBlock.ret ?_ | refine LOps.pure (Pure.as (lv := .atom _) rfl) rfl ?_ | refine LOps.pure (Pure.mv (lv := .atom _) rfl) rfl ?_ | refine LOps.pure (Pure.nilCheckH rfl) rfl ?_ | refine LOps.pure (Pure.fieldH rfl) rfl ?_ | refine LOps.step (S.store (cs' := [_, _, _, _, _, _, _, _, _, _, _]) rfl Pick.here rfl rfl rfl rfl rfl ?_) rfl
    exact retI (v := a) rfl (AllRes.cons (ResIs.tmp (v := .atom _) rfl (LV.Sub.refl _)) AllRes.nil) hI.symm rfl (HSub.refl _) ⟨hl, hle, v, Ha, hacc, rfl⟩
 refine LCode.cond rfl (fun hc => absurd (of_decide_eq_true hc) hin) (fun _ => ?_)
 rw [if_neg hin] at hI
 unfold callE at hv
 rw [if_neg hin] at hv
 repeat first | refine LOps.nil ?_ | refine LCode.seq ?_ | refine LCode.region ?_ | refine QThen.normal ?_ | refine LOps.pure (Pure.as (lv := .atom _) rfl) rfl ?_ | refine LOps.pure (Pure.seq rfl rfl) rfl ?_
 by_cases hout : name = [111, 117, 116]
 ·subst hout
  rw [if_pos rfl] at hI hv
  obtain ⟨a, rfl⟩ : ∃ a, vs = [a] := by
   match vs, hv with
   | [], hv => cases hv
   | [a], _ => exact ⟨a, rfl⟩
   | _ :: _ :: _, hv =>
    split at hv
    ·rename_i h
     simp at h
    ·cases hv
  obtain ⟨hl, hle, v, Ha, hacc, rfl⟩ := hs
  refine LCode.cond rfl (fun hc => ?_) (fun hc => by cases hc)
  repeat first | refine LCode.seq ?_
  refine LCode.draw (m := 14) rfl [] ?_
  refine LAny.take (i := 0) (by first | exact HSub.nil _ | exact HSub.refl _ | exact HSub.drop (HSub.refl _) | exact HSub.pick Pick.here (HSub.nil _) | exact HSub.pick (Pick.there Pick.here) (HSub.nil _) | exact HSub.pick (Pick.there (Pick.there Pick.here)) (HSub.nil _) | exact HSub.pick Pick.here (HSub.pick Pick.here (HSub.nil _))) rfl (by kernel_rfl) (by kernel_rfl) (by kernel_rfl) rfl (Pure.mv (lv := .atom _) rfl) ?_
  refine LAny.take (i := 1) (by first | exact HSub.nil _ | exact HSub.refl _ | exact HSub.drop (HSub.refl _) | exact HSub.pick Pick.here (HSub.nil _) | exact HSub.pick (Pick.there Pick.here) (HSub.nil _) | exact HSub.pick (Pick.there (Pick.there Pick.here)) (HSub.nil _) | exact HSub.pick Pick.here (HSub.pick Pick.here (HSub.nil _))) rfl (by kernel_rfl) (by kernel_rfl) (by kernel_rfl) rfl (Pure.mv (lv := .atom _) rfl) ?_
  refine LAny.take (i := 2) (by first | exact HSub.nil _ | exact HSub.refl _ | exact HSub.drop (HSub.refl _) | exact HSub.pick Pick.here (HSub.nil _) | exact HSub.pick (Pick.there Pick.here) (HSub.nil _) | exact HSub.pick (Pick.there (Pick.there Pick.here)) (HSub.nil _) | exact HSub.pick Pick.here (HSub.pick Pick.here (HSub.nil _))) rfl (by kernel_rfl) (by kernel_rfl) (by kernel_rfl) rfl (Pure.nilCheckH rfl) ?_
  refine LAny.take (i := 3) (by first | exact HSub.nil _ | exact HSub.refl _ | exact HSub.drop (HSub.refl _) | exact HSub.pick Pick.here (HSub.nil _) | exact HSub.pick (Pick.there Pick.here) (HSub.nil _) | exact HSub.pick (Pick.there (Pick.there Pick.here)) (HSub.nil _) | exact HSub.pick Pick.here (HSub.pick Pick.here (HSub.nil _))) rfl (by kernel_rfl) (by kernel_rfl) (by kernel_rfl) rfl (Pure.fieldH rfl) ?_
  refine LAny.take (i := 5) (by first | exact HSub.nil _ | exact HSub.refl _ | exact HSub.drop (HSub.refl _) | exact HSub.pick Pick.here (HSub.nil _) | exact HSub.pick (Pick.there Pick.here) (HSub.nil _) | exact HSub.pick (Pick.there (Pick.there Pick.here)) (HSub.nil _) | exact HSub.pick Pick.here (HSub.pick Pick.here (HSub.nil _))) rfl (by kernel_rfl) (by kernel_rfl) (by kernel_rfl) rfl (Pure.mv (lv := .list _) rfl) ?_
  refine LAny.take (i := 6) (HSub.nil _) rfl (by kernel_rfl) (by kernel_rfl) (by kernel_rfl) rfl (Pure.ixRef (el' := u32 a) (cs := [u32 a]) rfl rfl (by omega) rfl rfl rfl) ?_
  refine LAny.take (i := 7) (by first | exact HSub.nil _ | exact HSub.refl _ | exact HSub.drop (HSub.refl _) | exact HSub.pick Pick.here (HSub.nil _) | exact HSub.pick (Pick.there Pick.here) (HSub.nil _) | exact HSub.pick (Pick.there (Pick.there Pick.here)) (HSub.nil _) | exact HSub.pick Pick.here (HSub.pick Pick.here (HSub.nil _))) rfl (by kernel_rfl) (by kernel_rfl) (by kernel_rfl) rfl (Pure.loadRef (c := .atom _) rfl rfl) ?_
  refine LAny.take (i := 8) (by first | exact HSub.nil _ | exact HSub.refl _ | exact HSub.drop (HSub.refl _) | exact HSub.pick Pick.here (HSub.nil _) | exact HSub.pick (Pick.there Pick.here) (HSub.nil _) | exact HSub.pick (Pick.there (Pick.there Pick.here)) (HSub.nil _) | exact HSub.pick Pick.here (HSub.pick Pick.here (HSub.nil _))) rfl (by kernel_rfl) (by kernel_rfl) (by kernel_rfl) rfl (Pure.cvt rfl) ?_
  refine LAny.late ?_ (HSub.nil _)
  have e1 : byts s.out ++ [int .u8 (IntKind.u8.wrap (a : Int))] = byts (s.out ++ [UInt8.ofNat a]) := by
   rw [byts_app, wrap_u8]
   rfl
  have hroom2 : ((byts s.out).length + [int .u8 (IntKind.u8.wrap (a : Int))].length) * 1 ≤ 140737488355328 := by
   simp only [byts_len, List.length_cons, List.length_nil]
   omega
  refine LLate.two (i := 4) (j := 9) (by kernel_rfl) ?_ ?_
  ·refine LLateOp.pureH rfl rfl (Pure.loadH (c := v) rfl (List.Mem.head _) rfl) ?_
   refine LLate.one (i := 9) (by kernel_rfl) ?_
   refine LLateOp.whole rfl (.inl rfl) rfl (S.lit (es := [int .u8 (IntKind.u8.wrap (a : Int))]) [_] rfl (elemsOk.cons rfl rfl elemsOk.nil) rfl rfl rfl ?_)
   refine LLate.one (i := 10) (by kernel_rfl) ?_
   refine LLateOp.whole rfl (.inl rfl) rfl (S.accF (out_perm c s v Ha) rfl hacc rfl (fun v hv => by rw [List.mem_singleton.1 hv]; rfl) rfl hroom2 fun v' H' hacc' => ?_)
   rw [out_eq]
   rw [e1] at hacc'
   refine LLate.one (i := 11) (by kernel_rfl) ?_
   refine LLateOp.pureH rfl rfl (Pure.nilCheckH rfl) ?_
   refine LLate.one (i := 12) (by kernel_rfl) ?_
   refine LLateOp.pureH rfl rfl (Pure.fieldH rfl) ?_
   refine LLate.one (i := 13) (by kernel_rfl) ?_
   refine LLateOp.whole rfl (.inl rfl) rfl (S.store (n := 1) (vs := [v']) (cs' := [_, _, _, _, _, v', _, _, _, _, _]) rfl Pick.here (acc_one hacc').1 rfl rfl (acc_one hacc').2 rfl ?_)
   refine LLate.done (by kernel_rfl) ?_
   repeat first | refine LOps.nil ?_ | refine LCode.seq ?_ | refine LCode.region ?_ | refine LCode.ret ?_ | refine QThen.normal ?_ | refine QThen.ret ?_ | refine QBlock.ret ?_ | refine LOps.pure (Pure.as (lv := .atom _) rfl) rfl ?_
   refine RetPost.ret (H' := stH c { s with out := s.out ++ [UInt8.ofNat a] } v' H') rfl (AllRes.cons (ResIs.tmp (v := .atom _) rfl (LV.Sub.refl _)) AllRes.nil) (HSub.refl _) ?_
   rw [← hI]
   exact ⟨rfl, hl, hle, v', H', hacc', rfl⟩
  ·refine LLateOp.whole rfl (.inl rfl) rfl (S.lit (es := [int .u8 (IntKind.u8.wrap (a : Int))]) [_] rfl (elemsOk.cons rfl rfl elemsOk.nil) rfl rfl rfl ?_)
   refine LLate.one (i := 4) (by kernel_rfl) ?_
   refine LLateOp.pureH rfl rfl (Pure.loadH (c := v) rfl (List.Mem.head _) rfl) ?_
   refine LLate.one (i := 10) (by kernel_rfl) ?_
   refine LLateOp.whole rfl (.inl rfl) rfl (S.accF (out_perm c s v Ha) rfl hacc rfl (fun v hv => by rw [List.mem_singleton.1 hv]; rfl) rfl hroom2 fun v' H' hacc' => ?_)
   rw [out_eq]
   rw [e1] at hacc'
   refine LLate.one (i := 11) (by kernel_rfl) ?_
   refine LLateOp.pureH rfl rfl (Pure.nilCheckH rfl) ?_
   refine LLate.one (i := 12) (by kernel_rfl) ?_
   refine LLateOp.pureH rfl rfl (Pure.fieldH rfl) ?_
   refine LLate.one (i := 13) (by kernel_rfl) ?_
   refine LLateOp.whole rfl (.inl rfl) rfl (S.store (n := 1) (vs := [v']) (cs' := [_, _, _, _, _, v', _, _, _, _, _]) rfl Pick.here (acc_one hacc').1 rfl rfl (acc_one hacc').2 rfl ?_)
   refine LLate.done (by kernel_rfl) ?_
   repeat first | refine LOps.nil ?_ | refine LCode.seq ?_ | refine LCode.region ?_ | refine LCode.ret ?_ | refine QThen.normal ?_ | refine QThen.ret ?_ | refine QBlock.ret ?_ | refine LOps.pure (Pure.as (lv := .atom _) rfl) rfl ?_
   refine RetPost.ret (H' := stH c { s with out := s.out ++ [UInt8.ofNat a] } v' H') rfl (AllRes.cons (ResIs.tmp (v := .atom _) rfl (LV.Sub.refl _)) AllRes.nil) (HSub.refl _) ?_
   rw [← hI]
   exact ⟨rfl, hl, hle, v', H', hacc', rfl⟩
 refine LCode.cond rfl (fun hc => absurd (of_decide_eq_true hc) hout) (fun _ => ?_)
 rw [if_neg hout] at hI
 have hcv := call_valid (p := c.p) (f := f0) (kn := kn) hC.valid hk0 (name := name) (n := vs.length) (by unfold callE; rw [if_neg hin]; exact hv) hin hout
 generalize fnI c.p name = gf at hI hcv
 obtain ⟨hgm, hgn, hgl⟩ := hcv
 subst hgn
 obtain ⟨kn2, hvb, hk2⟩ := hC.valid.bodies gf hgm
 have hsm := hC.small.each gf hgm
 have hpl : gf.params.length ≤ 1000000 := hsm.params
 repeat first | refine LCode.seq ?_ | refine LCode.region ?_ | refine LCode.skip ?_ | refine QThen.normal ?_ | refine QBlock.normal ?_ | refine LOps.pure (Pure.mv (lv := .atom _) rfl) rfl ?_ | refine LOps.pure (Pure.nilCheckH rfl) rfl ?_ | refine LOps.pure (Pure.fieldH rfl) rfl ?_
 have hs1 := hs
 obtain ⟨hl, hle, v, Ha, hacc, rfl⟩ := hs
 repeat first | refine LOps.pure (Pure.mv (lv := .atom _) rfl) rfl ?_ | refine LOps.pure (Pure.loadH (c := .atom _) rfl (List.Mem.head _) rfl) rfl ?_
 refine LOps.pure (Pure.kvHit rfl rfl (List.Mem.tail _ (List.Mem.tail _ (List.Mem.tail _ (List.Mem.head _)))) (hC.fn hgm)) rfl ?_
 refine LOps.step (S.alloc fun b8 => ?_) rfl
 repeat first | refine LOps.nil ?_ | refine LCode.seq ?_ | refine LCode.region ?_ | refine LCode.block ?_ | refine QThen.normal ?_ | refine LOps.pure (Pure.mv (lv := .atom _) rfl) rfl ?_ | refine LOps.pure (Pure.fieldH rfl) rfl ?_ | refine LOps.pure (Pure.loadH (c := .list _) rfl (List.Mem.head _) rfl) rfl ?_ | refine LOps.pure (Pure.llen rfl) rfl ?_ | refine LOps.step (S.store (cs' := [_, _, _, _]) rfl Pick.here rfl rfl rfl rfl rfl ?_) rfl
 generalize stH c s v Ha = Hs0 at hs0 hs1 ⊢
 refine LCode.loopI (fun k ls H' => ∃ (pre ps : List (List UInt8)) (vpre vs1 : List Nat) (s1 : IS) (Hs : Heap), gf.params = pre ++ ps ∧ vs = vpre ++ vs1 ∧ vpre.length = pre.length ∧ k = ps.length ∧ ls = [(0, ptr c.rb 0), (2, .list (vs.map u32)), (8, ptr b8 0), (59, .list (gf.params.map str)), (60, int .i64 ((gf.params.map str).length : Int)), (61, int .i64 (pre.length : Int))] ∧ H' = (b8, .cells 63 [str gf.name, .list (gf.params.map str), .list (gf.locals.map str), .list (gf.body.map encS)]) :: Hs ∧ St c s1 Hs ∧ setPs gf gf.params vs s = setPs gf ps vs1 s1)
  ⟨_, _, _, ⟨[], gf.params, [], vs, s, Hs0, rfl, rfl, rfl, rfl, rfl, rfl, hs1, rfl⟩, ⟨rfl, rfl, rfl, rfl, rfl, rfl, trivial⟩, HSub.refl _⟩ ?_
 rintro k ls H' ⟨pre, ps, vpre, vs1, s1, Hs, hps, hvs1, hvl, rfl, rfl, rfl, hst1, hset⟩ j hj
 have hl6 : pre.length ≤ 1000000 := by
  rw [hps, List.length_append] at hpl
  omega
 have hpl2 : ps.length = vs1.length := by
  rw [hps, hvs1, List.length_append, List.length_append] at hgl
  omega
 repeat first | refine LOps.nil ?_ | refine LCode.seq ?_ | refine LCode.region ?_ | refine QThen.normal ?_ | refine LOps.pure (Pure.lss rfl rfl) rfl ?_
 refine LCode.cond rfl (fun hc => ?_) (fun hc => ?_)
 ·have hlen := of_decide_eq_true hc
  rw [List.length_map, hps, List.length_append] at hlen
  obtain ⟨p, ps, rfl⟩ : ∃ a l, ps = a :: l := by
   cases ps with
   | nil => simp at hlen
   | cons a l2 => exact ⟨a, l2, rfl⟩
  obtain ⟨x, vs1, rfl⟩ : ∃ a l, vs1 = a :: l := by
   cases vs1 with
   | nil => simp at hpl2
   | cons a l2 => exact ⟨a, l2, rfl⟩
  rw [setPs] at hset
  have hkp := own_placed hC hgm (p := p) (by rw [hps]; exact List.mem_append_right _ (List.mem_cons_self ..))
  obtain ⟨b, hb1, hb2⟩ := hC.block hkp
  obtain ⟨G, hG1, hG2⟩ := st_sc hC hb1 hst1
  obtain ⟨H3, hs3, hp3⟩ := hG2 x
  repeat first | refine LCode.seq ?_ | refine LCode.region ?_ | refine LCode.skip ?_ | refine LCode.block ?_ | refine QThen.normal ?_ | refine LOps.pure (Pure.mv (lv := .atom _) rfl) rfl ?_
  refine LOps.pure (Pure.ixRef (el' := str p) (cs := [str p]) rfl rfl (by omega) (by rw [hps]; exact get_mid str pre p ps) rfl rfl) rfl ?_
  repeat first | refine LOps.nil ?_ | refine QThen.normal ?_ | refine LOps.pure (Pure.as (lv := .atom _) rfl) rfl ?_ | refine LOps.pure (Pure.loadRef (c := .atom _) rfl rfl) rfl ?_
  refine LCode.draw (m := 10) rfl [(b8, .cells 63 [str gf.name, .list (gf.params.map str), .list (gf.locals.map str), .list (gf.body.map encS)])] ?_
  refine LAny.take (i := 0) (by first | exact HSub.nil _ | exact HSub.refl _ | exact HSub.drop (HSub.refl _) | exact HSub.pick Pick.here (HSub.nil _) | exact HSub.pick (Pick.there Pick.here) (HSub.nil _) | exact HSub.pick (Pick.there (Pick.there Pick.here)) (HSub.nil _) | exact HSub.pick Pick.here (HSub.pick Pick.here (HSub.nil _))) rfl (by kernel_rfl) (by kernel_rfl) (by kernel_rfl) rfl (Pure.mv (lv := .atom _) rfl) ?_
  refine LAny.take (i := 1) (by first | exact HSub.nil _ | exact HSub.refl _ | exact HSub.drop (HSub.refl _) | exact HSub.pick Pick.here (HSub.nil _) | exact HSub.pick (Pick.there Pick.here) (HSub.nil _) | exact HSub.pick (Pick.there (Pick.there Pick.here)) (HSub.nil _) | exact HSub.pick Pick.here (HSub.pick Pick.here (HSub.nil _))) rfl (by kernel_rfl) (by kernel_rfl) (by kernel_rfl) rfl (Pure.ldHAgg (cs' := [_, _, _, _]) rfl (List.Mem.head _) rfl rfl) ?_
  refine LAny.take (i := 2) (by first | exact HSub.nil _ | exact HSub.refl _ | exact HSub.drop (HSub.refl _) | exact HSub.pick Pick.here (HSub.nil _) | exact HSub.pick (Pick.there Pick.here) (HSub.nil _) | exact HSub.pick (Pick.there (Pick.there Pick.here)) (HSub.nil _) | exact HSub.pick Pick.here (HSub.pick Pick.here (HSub.nil _))) rfl (by kernel_rfl) (by kernel_rfl) (by kernel_rfl) rfl (Pure.mv (lv := .atom _) rfl) ?_
  refine LAny.take (i := 4) (by first | exact HSub.nil _ | exact HSub.refl _ | exact HSub.drop (HSub.refl _) | exact HSub.pick Pick.here (HSub.nil _) | exact HSub.pick (Pick.there Pick.here) (HSub.nil _) | exact HSub.pick (Pick.there (Pick.there Pick.here)) (HSub.nil _) | exact HSub.pick Pick.here (HSub.pick Pick.here (HSub.nil _))) rfl (by kernel_rfl) (by kernel_rfl) (by kernel_rfl) rfl (Pure.mv (lv := .list _) rfl) ?_
  refine LAny.take (i := 5) (by first | exact HSub.nil _ | exact HSub.refl _ | exact HSub.drop (HSub.refl _) | exact HSub.pick Pick.here (HSub.nil _) | exact HSub.pick (Pick.there Pick.here) (HSub.nil _) | exact HSub.pick (Pick.there (Pick.there Pick.here)) (HSub.nil _) | exact HSub.pick Pick.here (HSub.pick Pick.here (HSub.nil _))) rfl (by kernel_rfl) (by kernel_rfl) (by kernel_rfl) rfl (Pure.mv (lv := .atom _) rfl) ?_
  refine LAny.take (i := 6) (HSub.pick Pick.here (HSub.nil _)) rfl (by kernel_rfl) (by kernel_rfl) (by kernel_rfl) rfl (Pure.ixRef (el' := u32 x) (cs := [u32 x]) rfl rfl (by omega) (by rw [hvs1, ← hvl]; exact get_mid u32 vpre x vs1) rfl rfl) ?_
  refine LAny.take (i := 7) (by first | exact HSub.nil _ | exact HSub.refl _ | exact HSub.drop (HSub.refl _) | exact HSub.pick Pick.here (HSub.nil _) | exact HSub.pick (Pick.there Pick.here) (HSub.nil _) | exact HSub.pick (Pick.there (Pick.there Pick.here)) (HSub.nil _) | exact HSub.pick Pick.here (HSub.pick Pick.here (HSub.nil _))) rfl (by kernel_rfl) (by kernel_rfl) (by kernel_rfl) rfl (Pure.loadRef (c := .atom _) rfl rfl) ?_
  refine LAny.late ?_ (HSub.pick Pick.here (HSub.nil _))
  refine LLate.o 3 (LLateOp.step (H1 := Hs) rfl (.inl rfl) rfl swap1 (HSub.refl _) (LStep.call (args := [_, _, _]) (scalar_spec hC hst1 hgm hkp hb2) ?_ ?_))
  ·rintro lv H' ⟨h, rfl⟩
   cases h
   refine LLate.o 8 (LLateOp.pureH rfl rfl (Pure.nilCheckH rfl) ?_)
   refine LLate.o 9 (LLateOp.step (H1 := H') rfl (.inl rfl) rfl (List.Perm.refl _) (HSub.refl _) (S.store (cs' := [u32 x]) rfl hG1 rfl rfl rfl rfl rfl ?_))
   refine LLate.weakH (H' := H3 ++ _) ⟨[], by rw [List.append_nil]; exact hp3.append_right _⟩ ?_
   refine LLate.done (by kernel_rfl) ?_
   repeat first | refine LOps.nil ?_ | refine LCode.region ?_ | refine QThen.normal ?_ | refine QBlock.normal ?_ | refine LOps.pure (Pure.mv (lv := .atom _) rfl) rfl ?_ | refine LOps.pure (Pure.add rfl rfl (by omega)) rfl ?_
   exact ⟨ps.length, _, _, Nat.lt_succ_self _, ⟨pre ++ [p], ps, vpre ++ [x], vs1, _, H3, by rw [hps]; simp, by rw [hvs1]; simp, by simp [hvl], rfl, rfl, rfl, hs3, hset⟩, ⟨rfl, rfl, rfl, rfl, rfl, int_eq (by simp), trivial⟩, ⟨[], by rw [List.append_nil]; exact swap1.symm⟩, hj⟩
  ·rintro ch H' ⟨h, rfl⟩
   cases h
 ·have hlen := of_decide_eq_false hc
  rw [List.length_map, hps, List.length_append] at hlen
  obtain rfl : ps = [] := by
   cases ps with
   | nil => rfl
   | cons a l2 => simp at hlen; omega
  obtain rfl : vs1 = [] := List.length_eq_zero_iff.1 hpl2.symm
  replace hset : setPs gf gf.params vs s = s1 := hset.trans rfl
  have hb1 := setPs_bd gf gf.params vs s hvs hbd
  obtain ⟨ho, hlf, _⟩ := setPs_same gf gf.params vs s
  rw [hset] at hI hb1 ho hlf
  have hg1 : Good c n s1 := ⟨hb1, by rw [hlf]; exact hleft, by rw [ho, hlf]; omega⟩
  repeat first | refine LCode.seq ?_ | refine LCode.region ?_ | refine LCode.exit ?_ | refine QThen.normal ?_ | refine QThen.exit ?_ | refine QBlock.hit ?_ | refine LOps.pure (Pure.mv (lv := .atom _) rfl) rfl ?_ | refine LOps.pure (Pure.fieldH rfl) rfl ?_ | refine LOps.pure (Pure.loadH (c := .list _) rfl (List.Mem.head _) rfl) rfl ?_ | refine LOps.pure (Pure.ldHAgg (cs' := [_, _, _, _]) rfl (List.Mem.head _) rfl rfl) rfl ?_
  refine LOps.step (S.callI [_, _, _] rfl swap1 (hB gf kn2 gf.body s1 Hs hgm hk2 hvb (hC.nums gf hgm) hsm.body hsm.stmts hg1 hst1) (fun r s3 H3 hr3 hs3 => ?_) (fun er s3 H3 hr3 hs3 e' he' => ?_)) rfl
  ·rw [hr3, bind_ok] at hI
   repeat first | refine LOps.nil ?_ | refine LCode.seq ?_ | refine LCode.region ?_ | refine LCode.ret ?_ | refine QThen.normal ?_ | refine LOps.pure (Pure.as (lv := .atom _) rfl) rfl ?_ | refine LOps.pure (Pure.mv (lv := .atom _) rfl) rfl ?_ | refine LOps.pure (Pure.mv (lv := .tuple _) rfl) rfl ?_ | refine LOps.pure (Pure.extract (c := .atom _) rfl rfl) rfl ?_
   exact retI (v := r.getD 0) hj (AllRes.cons (ResIs.tmp (v := .atom _) rfl (LV.Sub.refl _)) AllRes.nil) hI.symm rfl hsub_left hs3
  ·repeat first | refine QThen.panic ?_
   rw [hr3, bind_stop] at hI
   exact panI_ (he'.trans hj) hI.symm hsub_left hs3
end
end Go.Proofs.YtcbpcianefpniaaGreatDoor.Inp
