/- A parsed program is not greater than its source: plain Lean. -/
import Derived.Test.YtfodkbchknknjaaDoorParFuel
import Derived.Test.YtfodkbchknknjaaDoorParEq
import Derived.Test.YtfodkbchknknjaaDoorParTok
namespace Go.Stele
/-- What a step hands back has at most as many nodes as it has read tokens; m stood before. -/
def Nd {A : Type} (f : A → Nat) (m i : Nat) (r : OR A) : Prop := ∀ v i' op', r = some (.ok v i' op') → f v + i ≤ m + i'
theorem nd_bind {A B : Type} {f : A → Nat} {g : B → Nat} {m m' i j : Nat} {r : OR A} {k : A → Nat → Nat → OR B} (hr : Nd f m j r) (hk : ∀ v i' op', r = some (.ok v i' op') → f v + j ≤ m + i' → Nd g m' i (k v i' op')) : Nd g m' i (obind r k) := fun v i' op' h => by
  rcases obind_some h with ⟨u, i1, op1, h1, h2⟩ | ⟨l, e, _, h⟩
  · exact hk u i1 op1 h1 (hr u i1 op1 h1) v i' op' h2
  · cases h
theorem nd_ok {A : Type} {f : A → Nat} {m i : Nat} {v : A} {i' op' : Nat} (h : f v + i ≤ m + i') : Nd f m i (some (.ok v i' op')) := fun u j o hu => by cases hu; exact h
theorem nd_none {A : Type} {f : A → Nat} {m i : Nat} : Nd f m i none := fun _ _ _ h => by cases h
theorem nd_err {A : Type} {f : A → Nat} {m i : Nat} {l e : Int} : Nd f m i (some (.err l e)) := fun _ _ _ h => by cases h
def zN {A : Type} : A → Nat := fun _ => 0
theorem nd_word {T : List Tok} {k : Int} {i op : Nat} {s : List UInt8} {i' op' : Nat} (h : some (sWord T k i op) = some (.ok s i' op')) : i' = i + 1 ∧ op' = op := by
  injection h with h
  unfold sWord at h
  split at h
  · split at h
    · cases h; exact ⟨rfl, rfl⟩
    · cases h
  · cases h
theorem nd_need {T : List Tok} {x : List UInt8} {i op : Nat} {u : Unit} {i' op' : Nat} (h : some (sNeed T x i op) = some (.ok u i' op')) : i' = i + 1 ∧ op' = op := by
  injection h with h
  unfold sNeed at h
  split at h
  · cases h; exact ⟨rfl, rfl⟩
  · cases h
theorem nd_begin {T : List Tok} {x : List UInt8} {i op : Nat} {u : Unit} {i' op' : Nat} (h : some (sBegin T x i op) = some (.ok u i' op')) : i' = i + 1 := by
  injection h with h
  exact (sBegin_ok h).1
theorem nd_end {T : List Tok} {x : List UInt8} {i op : Nat} {u : Unit} {i' op' : Nat} (h : some (sEnd T x i op) = some (.ok u i' op')) : i' = i + 1 := by
  injection h with h
  exact (sEnd_ok h).1
theorem any_nd {A : Type} {r : OR A} : Nd (zN : A → Nat) 1000000000000 0 r → True := fun _ => trivial
theorem nd_any {A B : Type} {g : B → Nat} {m i : Nat} {r : OR A} {k : A → Nat → Nat → OR B} (hk : ∀ v i' op', r = some (.ok v i' op') → Nd g m i (k v i' op')) : Nd g m i (obind r k) := fun v i' op' h => by
  rcases obind_some h with ⟨u, i1, op1, h1, h2⟩ | ⟨l, e, _, h⟩
  · exact hk u i1 op1 h1 v i' op' h2
  · cases h
theorem nExs_app (a b : List Ex) : nExs (a ++ b) = nExs a + nExs b := by
  induction a with
  | nil => simp [nExs]
  | cons x a ih => rw [List.cons_append, nExs, nExs, ih]; omega
theorem nSms_app (a b : List Sm) : nSms (a ++ b) = nSms a + nSms b := by
  induction a with
  | nil => simp [nSms]
  | cons x a ih => rw [List.cons_append, nSms, nSms, ih]; omega
theorem nFns_app (a b : List FnD) : nFns (a ++ b) = nFns a + nFns b := by
  induction a with
  | nil => simp [nFns]
  | cons x a ih => rw [List.cons_append, nFns, nFns, ih]; omega
theorem ex_nd (T : List Tok) : ∀ f : Nat, (∀ k i op, Nd nEx 0 i (eLev T f k i op)) ∧ (∀ k e i op, Nd nEx (nEx e) i (eLoop T f k e i op)) ∧ (∀ i op, Nd nEx 0 i (eUnary T f i op)) ∧ (∀ i op, Nd nEx 0 i (ePrim T f i op)) ∧ (∀ i op, Nd nEx 0 i (eIndex T f i op)) ∧
    (∀ i op, Nd (fun v => nExs v + 2) 0 i (eArgs T f i op)) ∧ (∀ acc i op, Nd nExs (nExs acc) i (eArgsLoop T f acc i op))
  | 0 => ⟨fun _ _ _ => by rw [eLev]; exact nd_none, fun _ _ _ _ => by rw [eLoop]; exact nd_none, fun _ _ => by rw [eUnary]; exact nd_none, fun _ _ => by rw [ePrim]; exact nd_none, fun _ _ => by rw [eIndex]; exact nd_none, fun _ _ => by rw [eArgs]; exact nd_none, fun _ _ _ => by rw [eArgsLoop]; exact nd_none⟩
  | f + 1 => by
    obtain ⟨hL, hO, hU, hP, hI, hA, hB⟩ := ex_nd T f
    have neg : ∀ (x nm : List UInt8) (i op : Nat), Nd nEx 0 i (obind (some (sBegin T x i op)) fun _ i' op' => obind (eUnary T f i' op') fun e i' op' => some (.ok (Ex.mk nm 0 [] [e]) i' (op' - 1))) := fun x nm i op =>
      nd_any fun _ i1 op1 h1 => nd_bind (hU i1 op1) fun v i2 op2 _ h2 => nd_ok (by
        have := nd_begin h1
        simp only [nEx, nExs]
        omega)
    refine ⟨fun k i op => ?_, fun k e i op => ?_, fun i op => ?_, fun i op => ?_, fun i op => ?_, fun i op => ?_, fun acc i op => ?_⟩
    · rw [eLev]
      split
      · exact hU i op
      · exact nd_bind (hL (k + 1) i op) fun v i' op' _ h1 w j o hw => by
          have := hO k v i' op' w j o hw
          omega
    · rw [eLoop]
      split
      · refine nd_bind (hL (k + 1) (i + 1) op) fun v i' op' _ h1 => ?_
        split
        · exact nd_ok (by simp only [nEx, nExs]; omega)
        · intro w j o hw
          have := hO k _ i' op' w j o hw
          simp only [nEx, nExs] at this
          omega
      · exact nd_ok (Nat.le_refl _)
    · rw [eUnary]
      split
      · exact neg _ _ _ _
      · split
        · exact neg _ _ _ _
        · exact hP i op
    · rw [ePrim]
      split
      · exact nd_any fun _ i1 op1 h1 => nd_bind (hL 0 i1 op1) fun v i2 op2 _ h2 => nd_any fun _ i3 op3 h3 => nd_ok (by
          have := nd_begin h1
          have := nd_end h3
          omega)
      · split
        · exact nd_any fun n i1 op1 h1 => nd_ok (by
            have : i1 = i + 1 := by
              injection h1 with h1
              unfold sNumber Res.bind at h1
              split at h1
              · rename_i h
                cases h1
                exact (nd_word (congrArg some h)).1
              · cases h1
            simp only [nEx, nExs]
            omega)
        · refine nd_any fun s i1 op1 h1 => ?_
          have h1' := (nd_word h1).1
          split
          · exact nd_bind (hI i1 op1) fun v i2 op2 _ h2 => nd_ok (by simp only [nEx, nExs]; omega)
          · split
            · exact nd_bind (hA i1 op1) fun v i2 op2 _ h2 => nd_ok (by simp only [nEx]; omega)
            · exact nd_ok (by simp only [nEx, nExs]; omega)
    · rw [eIndex]
      exact nd_any fun _ i1 op1 h1 => nd_bind (hL 0 i1 op1) fun v i2 op2 _ h2 => nd_any fun _ i3 op3 h3 => nd_ok (by
        have := nd_begin h1
        have := nd_end h3
        omega)
    · rw [eArgs]
      exact nd_any fun _ i1 op1 h1 => nd_bind (hB [] i1 op1) fun v i2 op2 _ h2 => nd_any fun _ i3 op3 h3 => nd_ok (by
        have := nd_begin h1
        have := nd_end h3
        simp only [nExs] at h2
        omega)
    · rw [eArgsLoop]
      split
      · exact nd_ok (Nat.le_refl _)
      · refine nd_any fun _ i1 op1 h1 => nd_bind (hL 0 i1 op1) fun v i2 op2 _ h2 w j o hw => ?_
        have : i ≤ i1 := by
          injection h1 with h1
          split at h1
          · cases h1; exact Nat.le_refl _
          · have := (nd_need (congrArg some h1)).1; omega
        have := hB _ i2 op2 w j o hw
        rw [nExs_app] at this
        simp only [nExs] at this
        omega
theorem st_nd (T : List Tok) : ∀ f : Nat, (∀ i op, Nd nSms 0 i (sBlock T f i op)) ∧ (∀ acc i op, Nd nSms (nSms acc) i (sStmts T f acc i op)) ∧ (∀ i op, Nd nSm 0 i (sStmt T f i op)) ∧ (∀ i op, Nd nSm 0 i (sSimple T f i op))
  | 0 => ⟨fun _ _ => by rw [sBlock]; exact nd_none, fun _ _ _ => by rw [sStmts]; exact nd_none, fun _ _ => by rw [sStmt]; exact nd_none, fun _ _ => by rw [sSimple]; exact nd_none⟩
  | f + 1 => by
    obtain ⟨hB, hL, hS, hM⟩ := st_nd T f
    obtain ⟨eL, _, _, _, eI, eA, _⟩ := ex_nd T f
    refine ⟨fun i op => ?_, fun acc i op => ?_, fun i op => ?_, fun i op => ?_⟩
    · rw [sBlock]
      exact nd_any fun _ i1 op1 h1 => nd_bind (hL [] i1 op1) fun v i2 op2 _ h2 => nd_any fun _ i3 op3 h3 => nd_ok (by
        have := nd_begin h1
        have := nd_end h3
        simp only [nSms] at h2
        omega)
    · rw [sStmts]
      split
      · exact nd_ok (Nat.le_refl _)
      · refine nd_bind (hS i op) fun v i1 op1 _ h1 w j o hw => ?_
        have := hL _ i1 op1 w j o hw
        rw [nSms_app] at this
        simp only [nSms] at this
        omega
    · rw [sStmt]
      split
      · refine nd_bind (eL 0 (i + 1) op) fun v i1 op1 _ h1 => nd_bind (hB i1 op1) fun th i2 op2 _ h2 => ?_
        split
        · exact nd_bind (hB (i2 + 1) op2) fun el i3 op3 _ h3 => nd_ok (by simp only [nSm, nExs]; omega)
        · exact nd_ok (by simp only [nSm, nExs, nSms]; omega)
      · split
        · exact nd_bind (eL 0 (i + 1) op) fun v i1 op1 _ h1 => nd_bind (hB i1 op1) fun th i2 op2 _ h2 => nd_ok (by simp only [nSm, nExs, nSms]; omega)
        · exact nd_bind (hM i op) fun v i1 op1 _ h1 => nd_any fun _ i2 op2 h2 => nd_ok (by have := (nd_need h2).1; omega)
    · rw [sSimple]
      split
      · exact nd_bind (eL 0 (i + 1) op) fun v i1 op1 _ h1 => nd_ok (by simp only [nSm, nExs, nSms]; omega)
      · split
        · exact nd_ok (by simp only [nSm, nExs, nSms]; omega)
        · refine nd_any fun s i1 op1 h1 => ?_
          have h1' := (nd_word h1).1
          split
          · exact nd_bind (eA i1 op1) fun l i2 op2 _ h2 => nd_ok (by simp only [nSm, nExs, nSms, nEx]; omega)
          · split
            · exact nd_bind (eI i1 op1) fun x i2 op2 _ h2 => nd_any fun _ i3 op3 h3 => nd_bind (eL 0 i3 op3) fun v i4 op4 _ h4 => nd_ok (by have := (nd_need h3).1; simp only [nSm, nExs, nSms]; omega)
            · exact nd_any fun _ i3 op3 h3 => nd_bind (eL 0 i3 op3) fun v i4 op4 _ h4 => nd_ok (by have := (nd_need h3).1; simp only [nSm, nExs, nSms]; omega)
theorem namesLoop_nd (T : List Tok) : ∀ (f : Nat) (acc : List (List UInt8)) (i op : Nat), Nd List.length acc.length i (sNamesLoop T f acc i op)
  | 0, _, _, _ => by rw [sNamesLoop]; exact nd_none
  | f + 1, acc, i, op => by
    rw [sNamesLoop]
    split
    · refine nd_any fun s i1 op1 h1 w j o hw => ?_
      have := (nd_word h1).1
      have := namesLoop_nd T f _ i1 op1 w j o hw
      rw [List.length_append, List.length_singleton] at this
      omega
    · exact nd_ok (Nat.le_refl _)
theorem names_nd (T : List Tok) (f i op : Nat) : Nd List.length 0 i (sNames T f i op) := nd_any fun s i1 op1 h1 w j o hw => by
  have := (nd_word h1).1
  have := namesLoop_nd T f _ i1 op1 w j o hw
  rw [List.length_singleton] at this
  omega
theorem vars_nd (T : List Tok) : ∀ (f : Nat) (acc : List (List UInt8)) (i op : Nat), Nd List.length acc.length i (sVars T f acc i op)
  | 0, _, _, _ => by rw [sVars]; exact nd_none
  | f + 1, acc, i, op => by
    rw [sVars]
    split
    · refine nd_bind (names_nd T f (i + 1) op) fun l i1 op1 _ h1 => nd_any fun _ i2 op2 h2 w j o hw => ?_
      have := (nd_need h2).1
      have := vars_nd T f _ i2 op2 w j o hw
      rw [List.length_append] at this
      omega
    · exact nd_ok (Nat.le_refl _)
theorem func_nd (T : List Tok) (f i op : Nat) : Nd nFn 0 i (sFunc T f i op) := by
  unfold sFunc
  refine nd_any fun s i1 op1 h1 => nd_any fun _ i2 op2 h2 => nd_bind (f := List.length) (m := 0) (j := i2) ?_ fun ps i3 op3 _ h3 => nd_any fun _ i4 op4 h4 => nd_any fun _ i5 op5 h5 => nd_bind (vars_nd T f [] i5 op5) fun ls i6 op6 _ h6 => nd_bind ((st_nd T f).2.1 [] i6 op6) fun b i7 op7 _ h7 => nd_any fun _ i8 op8 h8 => nd_ok ?_
  · split
    · exact nd_ok (by simp)
    · exact names_nd T f i2 op2
  · have := (nd_word h1).1
    have := nd_begin h2
    have := nd_end h4
    have := nd_begin h5
    have := nd_end h8
    simp only [nSms, List.length_nil] at h6 h7
    simp only [nFn]
    omega
/-- Arrays have names and sizes out of the tokens. -/
def ArOk (a : Ar) : Prop := a.name.length ≤ 1000000000 ∧ a.size ≤ 4294967296
theorem array_nd {T : List Tok} (hT : ∀ t ∈ T, TokOk t) {i op : Nat} {a : Ar} {i' op' : Nat} (h : sArray T i op = some (.ok a i' op')) : i < i' ∧ ArOk a := by
  unfold sArray at h
  rcases obind_some h with ⟨s, i1, op1, h1, h⟩ | ⟨l, e, _, h⟩
  · rcases obind_some h with ⟨_, i2, op2, h2, h⟩ | ⟨l, e, _, h⟩
    · rcases obind_some h with ⟨n, i3, op3, h3, h⟩ | ⟨l, e, _, h⟩
      · rcases obind_some h with ⟨_, i4, op4, h4, h⟩ | ⟨l, e, _, h⟩
        · rcases obind_some h with ⟨_, i5, op5, h5, h⟩ | ⟨l, e, _, h⟩
          · cases h
            have e1 := (nd_word h1).1
            have e2 := nd_begin h2
            have e4 := nd_end h4
            have e5 := (nd_need h5).1
            injection h3 with h3
            unfold sNumber Res.bind at h3
            split at h3
            · rename_i t i6 op6 h6
              cases h3
              have e6 := (nd_word (congrArg some h6)).1
              refine ⟨by omega, ?_, ?_⟩
              · injection h1 with h1
                unfold sWord at h1
                split at h1
                · rename_i t1 ht1
                  split at h1
                  · cases h1
                    have := (hT t1 (List.mem_of_getElem? ht1)).1
                    show t1.text.length ≤ _
                    omega
                  · cases h1
                · cases h1
              · unfold sWord at h6
                split at h6
                · rename_i t1 ht1
                  split at h6
                  · rename_i hk
                    cases h6
                    obtain ⟨u, hu, hp, _⟩ := (hT t1 (List.mem_of_getElem? ht1)).2 hk
                    show numOf t1.text ≤ _
                    rw [numOf, hp]
                    simp only
                    omega
                  · cases h6
                · cases h6
            · cases h3
          · cases h
        · cases h
      · cases h
    · cases h
  · cases h
theorem prog_nd {T : List Tok} (hT : ∀ t ∈ T, TokOk t) : ∀ (f : Nat) (p : Pr) (i op : Nat) (q : Pr) (i' op' : Nat), (∀ a ∈ p.arrays, ArOk a) → sProg T f p i op = some (.ok q i' op') → nPr q + i ≤ nPr p + i' ∧ ∀ a ∈ q.arrays, ArOk a
  | 0, _, _, _, _, _, _, _, h => by rw [sProg] at h; cases h
  | f + 1, p, i, op, q, i', op', ha, h => by
    rw [sProg] at h
    split at h
    · cases h
      exact ⟨Nat.le_refl _, ha⟩
    · split at h
      · rcases obind_some h with ⟨l, i1, op1, h1, h⟩ | ⟨l, e, _, h⟩
        · have e1 := vars_nd T f [] i op _ _ _ h1
          obtain ⟨e2, e3⟩ := prog_nd hT f _ i1 op1 q i' op' (by exact ha) h
          refine ⟨?_, e3⟩
          simp only [nPr, List.length_append, List.length_nil] at e1 e2 ⊢
          omega
        · cases h
      · split at h
        · rcases obind_some h with ⟨a, i1, op1, h1, h⟩ | ⟨l, e, _, h⟩
          · obtain ⟨e1, e0⟩ := array_nd hT h1
            obtain ⟨e2, e3⟩ := prog_nd hT f _ i1 op1 q i' op' (by
              intro b hb
              rcases List.mem_append.1 hb with hb | hb
              · exact ha b hb
              · rw [List.mem_singleton.1 hb]; exact e0) h
            refine ⟨?_, e3⟩
            simp only [nPr, List.length_append, List.length_singleton] at e2 ⊢
            omega
          · cases h
        · split at h
          · rcases obind_some h with ⟨a, i1, op1, h1, h⟩ | ⟨l, e, _, h⟩
            · have e1 := func_nd T f _ _ _ _ _ h1
              obtain ⟨e2, e3⟩ := prog_nd hT f _ i1 op1 q i' op' (by exact ha) h
              refine ⟨?_, e3⟩
              simp only [nPr, nFns_app, nFns] at e2 ⊢
              omega
            · cases h
          · cases h
end Go.Stele
