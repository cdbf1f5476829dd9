/- The parser in plain Lean: what it reads of its tokens; more fuel. -/
import Derived.Test.YtfodkbchknknjaaDoorParFuel
set_option linter.unusedVariables false
set_option linter.unusedSimpArgs false
namespace Go.Stele
/-- Nothing changes but that more is told. -/
def LeO {A : Type} (r r' : OR A) : Prop := ∀ q, r = some q → r' = some q
theorem LeO.rfl' {A : Type} {r : OR A} : LeO r r := fun _ h => h
theorem LeO.none {A : Type} {r : OR A} : LeO none r := fun _ h => by cases h
theorem LeO.bind {A B : Type} {r r' : OR A} {f f' : A → Nat → Nat → OR B} (h : LeO r r') (hf : ∀ v i op, LeO (f v i op) (f' v i op)) : LeO (obind r f) (obind r' f') := fun q hq => by
  rcases obind_some hq with ⟨v, i, op, h1, h2⟩ | ⟨l, e, h1, rfl⟩
  · rw [h _ h1]
    exact hf _ _ _ _ h2
  · rw [h _ h1]
    rfl
theorem LeO.ite {A : Type} {c : Prop} [Decidable c] {a b a' b' : OR A} (h1 : LeO a a') (h2 : LeO b b') : LeO (if c then a else b) (if c then a' else b') := by
  split
  · exact h1
  · exact h2
theorem namesLoop_le (T : List Tok) : ∀ (f g : Nat) (acc : List (List UInt8)) (i op : Nat), f ≤ g → LeO (sNamesLoop T f acc i op) (sNamesLoop T g acc i op)
  | 0, _, _, _, _, _ => LeO.none
  | f + 1, 0, _, _, _, h => by omega
  | f + 1, g + 1, acc, i, op, h => by
    rw [sNamesLoop, sNamesLoop]
    exact LeO.ite (LeO.bind LeO.rfl' fun v i op => namesLoop_le T f g _ i op (by omega)) LeO.rfl'
theorem names_le (T : List Tok) (f g i op : Nat) (h : f ≤ g) : LeO (sNames T f i op) (sNames T g i op) := LeO.bind LeO.rfl' fun v i op => namesLoop_le T f g _ i op h
theorem ex_le (T : List Tok) : ∀ f g : Nat, f ≤ g → (∀ k i op, LeO (eLev T f k i op) (eLev T g k i op)) ∧ (∀ k e i op, LeO (eLoop T f k e i op) (eLoop T g k e i op)) ∧ (∀ i op, LeO (eUnary T f i op) (eUnary T g i op)) ∧
    (∀ i op, LeO (ePrim T f i op) (ePrim T g i op)) ∧ (∀ i op, LeO (eIndex T f i op) (eIndex T g i op)) ∧ (∀ i op, LeO (eArgs T f i op) (eArgs T g i op)) ∧ (∀ acc i op, LeO (eArgsLoop T f acc i op) (eArgsLoop T g acc i op))
  | 0, g, _ => ⟨fun _ _ _ => by rw [eLev]; exact LeO.none, fun _ _ _ _ => by rw [eLoop]; exact LeO.none, fun _ _ => by rw [eUnary]; exact LeO.none, fun _ _ => by rw [ePrim]; exact LeO.none, fun _ _ => by rw [eIndex]; exact LeO.none, fun _ _ => by rw [eArgs]; exact LeO.none, fun _ _ _ => by rw [eArgsLoop]; exact LeO.none⟩
  | f + 1, 0, h => by omega
  | f + 1, g + 1, h => by
    obtain ⟨hL, hO, hU, hP, hI, hA, hB⟩ := ex_le T f g (by omega)
    refine ⟨fun k i op => ?_, fun k e i op => ?_, fun i op => ?_, fun i op => ?_, fun i op => ?_, fun i op => ?_, fun acc i op => ?_⟩
    · rw [eLev, eLev]
      exact LeO.ite (hU _ _) (LeO.bind (hL _ _ _) fun _ _ _ => hO _ _ _ _)
    · rw [eLoop, eLoop]
      exact LeO.ite (LeO.bind (hL _ _ _) fun _ _ _ => LeO.ite LeO.rfl' (hO _ _ _ _)) LeO.rfl'
    · rw [eUnary, eUnary]
      exact LeO.ite (LeO.bind LeO.rfl' fun _ _ _ => LeO.bind (hU _ _) fun _ _ _ => LeO.rfl') (LeO.ite (LeO.bind LeO.rfl' fun _ _ _ => LeO.bind (hU _ _) fun _ _ _ => LeO.rfl') (hP _ _))
    · rw [ePrim, ePrim]
      exact LeO.ite (LeO.bind LeO.rfl' fun _ _ _ => LeO.bind (hL _ _ _) fun _ _ _ => LeO.rfl') (LeO.ite LeO.rfl' (LeO.bind LeO.rfl' fun _ _ _ => LeO.ite (LeO.bind (hI _ _) fun _ _ _ => LeO.rfl') (LeO.ite (LeO.bind (hA _ _) fun _ _ _ => LeO.rfl') LeO.rfl')))
    · rw [eIndex, eIndex]
      exact LeO.bind LeO.rfl' fun _ _ _ => LeO.bind (hL _ _ _) fun _ _ _ => LeO.rfl'
    · rw [eArgs, eArgs]
      exact LeO.bind LeO.rfl' fun _ _ _ => LeO.bind (hB _ _ _) fun _ _ _ => LeO.rfl'
    · rw [eArgsLoop, eArgsLoop]
      exact LeO.ite LeO.rfl' (LeO.bind LeO.rfl' fun _ _ _ => LeO.bind (hL _ _ _) fun _ _ _ => hB _ _ _)
theorem st_le (T : List Tok) : ∀ f g : Nat, f ≤ g → (∀ i op, LeO (sBlock T f i op) (sBlock T g i op)) ∧ (∀ acc i op, LeO (sStmts T f acc i op) (sStmts T g acc i op)) ∧ (∀ i op, LeO (sStmt T f i op) (sStmt T g i op)) ∧ (∀ i op, LeO (sSimple T f i op) (sSimple T g i op))
  | 0, g, _ => ⟨fun _ _ => by rw [sBlock]; exact LeO.none, fun _ _ _ => by rw [sStmts]; exact LeO.none, fun _ _ => by rw [sStmt]; exact LeO.none, fun _ _ => by rw [sSimple]; exact LeO.none⟩
  | f + 1, 0, h => by omega
  | f + 1, g + 1, h => by
    obtain ⟨hB, hS, hT, hM⟩ := st_le T f g (by omega)
    obtain ⟨hL, _, _, _, hI, hA, _⟩ := ex_le T f g (by omega)
    refine ⟨fun i op => ?_, fun acc i op => ?_, fun i op => ?_, fun i op => ?_⟩
    · rw [sBlock, sBlock]
      exact LeO.bind LeO.rfl' fun _ _ _ => LeO.bind (hS _ _ _) fun _ _ _ => LeO.rfl'
    · rw [sStmts, sStmts]
      exact LeO.ite LeO.rfl' (LeO.bind (hT _ _) fun _ _ _ => hS _ _ _)
    · rw [sStmt, sStmt]
      exact LeO.ite (LeO.bind (hL _ _ _) fun _ _ _ => LeO.bind (hB _ _) fun _ _ _ => LeO.ite (LeO.bind (hB _ _) fun _ _ _ => LeO.rfl') LeO.rfl') (LeO.ite (LeO.bind (hL _ _ _) fun _ _ _ => LeO.bind (hB _ _) fun _ _ _ => LeO.rfl') (LeO.bind (hM _ _) fun _ _ _ => LeO.rfl'))
    · rw [sSimple, sSimple]
      exact LeO.ite (LeO.bind (hL _ _ _) fun _ _ _ => LeO.rfl') (LeO.ite LeO.rfl' (LeO.bind LeO.rfl' fun _ _ _ => LeO.ite (LeO.bind (hA _ _) fun _ _ _ => LeO.rfl') (LeO.ite (LeO.bind (hI _ _) fun _ _ _ => LeO.bind LeO.rfl' fun _ _ _ => LeO.bind (hL _ _ _) fun _ _ _ => LeO.rfl') (LeO.bind LeO.rfl' fun _ _ _ => LeO.bind (hL _ _ _) fun _ _ _ => LeO.rfl'))))
theorem vars_le (T : List Tok) : ∀ (f g : Nat) (acc : List (List UInt8)) (i op : Nat), f ≤ g → LeO (sVars T f acc i op) (sVars T g acc i op)
  | 0, _, _, _, _, _ => LeO.none
  | f + 1, 0, _, _, _, h => by omega
  | f + 1, g + 1, acc, i, op, h => by
    rw [sVars, sVars]
    exact LeO.ite (LeO.bind (names_le T f g _ _ (by omega)) fun _ _ _ => LeO.bind LeO.rfl' fun _ _ _ => vars_le T f g _ _ _ (by omega)) LeO.rfl'
theorem func_le (T : List Tok) (f g i op : Nat) (h : f ≤ g) : LeO (sFunc T f i op) (sFunc T g i op) := by
  unfold sFunc
  exact LeO.bind LeO.rfl' fun _ _ _ => LeO.bind LeO.rfl' fun _ _ _ => LeO.bind (LeO.ite LeO.rfl' (names_le T f g _ _ h)) fun _ _ _ => LeO.bind LeO.rfl' fun _ _ _ => LeO.bind LeO.rfl' fun _ _ _ =>
    LeO.bind (vars_le T f g _ _ _ h) fun _ _ _ => LeO.bind ((st_le T f g h).2.1 _ _ _) fun _ _ _ => LeO.rfl'
theorem prog_le (T : List Tok) : ∀ (f g : Nat) (p : Pr) (i op : Nat), f ≤ g → LeO (sProg T f p i op) (sProg T g p i op)
  | 0, _, _, _, _, _ => LeO.none
  | f + 1, 0, _, _, _, h => by omega
  | f + 1, g + 1, p, i, op, h => by
    rw [sProg, sProg]
    exact LeO.ite LeO.rfl' (LeO.ite (LeO.bind (vars_le T f g _ _ _ (by omega)) fun _ _ _ => prog_le T f g _ _ _ (by omega)) (LeO.ite (LeO.bind LeO.rfl' fun _ _ _ => prog_le T f g _ _ _ (by omega))
      (LeO.ite (LeO.bind (func_le T f g _ _ (by omega)) fun _ _ _ => prog_le T f g _ _ _ (by omega)) LeO.rfl')))
/-- Up to place m, T's tokens stand in T' too, d places later. -/
def Ag (T T' : List Tok) (d m : Nat) : Prop := ∀ j, j < m → ∃ t t', T[j]? = some t ∧ T'[j + d]? = some t' ∧ t'.kind = t.kind ∧ t'.text = t.text
section
variable {T T' : List Tok} {d m : Nat}
theorem Ag.isTok (h : Ag T T' d m) {i : Nat} (hi : i < m) (xs : List (List UInt8)) : isTok T' (i + d) xs = isTok T i xs := by
  obtain ⟨t, t', h1, h2, h3, h4⟩ := h i hi
  unfold Go.Stele.isTok
  rw [h1, h2]
  simp only [h3, h4]
theorem Ag.text (h : Ag T T' d m) {i : Nat} (hi : i < m) : textAt T' (i + d) = textAt T i := by
  obtain ⟨t, t', h1, h2, h3, h4⟩ := h i hi
  unfold textAt
  rw [h1, h2]
  exact h4
theorem Ag.kind (h : Ag T T' d m) {i : Nat} (hi : i < m) : kindAt T' (i + d) = kindAt T i := by
  obtain ⟨t, t', h1, h2, h3, h4⟩ := h i hi
  unfold kindAt
  rw [h1, h2]
  exact h3
/-- What r computes, starting at i, r' computes d places later, where the place that r comes to lies ahead of m (at m, if r reads nothing behind what it takes). -/
def Ext {A : Type} (d m : Nat) (b : Bool) (i : Nat) (r r' : OR A) : Prop := ∀ v i' op', r = some (.ok v i' op') → i ≤ i' ∧ (b = true → i < i') ∧ (i' < m ∨ (b = true ∧ i' ≤ m) → r' = some (.ok v (i' + d) op'))
theorem Ext.none {A : Type} {b : Bool} {i : Nat} {r' : OR A} : Ext d m b i none r' := fun _ _ _ h => by cases h
theorem Ext.ok {A : Type} {i op : Nat} {v : A} : Ext d m false i (some (.ok v i op)) (some (.ok v (i + d) op)) := fun _ _ _ h => by
  cases h
  exact ⟨Nat.le_refl _, by simp, fun _ => rfl⟩
theorem Ext.bind {A B : Type} {b1 b : Bool} {i : Nat} {r r' : OR A} {f f' : A → Nat → Nat → OR B} (hr : Ext d m b1 i r r') (hf : ∀ v i1 op1, i ≤ i1 → (b1 = true → i < i1) → Ext d m b i1 (f v i1 op1) (f' v (i1 + d) op1)) :
    Ext d m b i (obind r f) (obind r' f') := fun v i' op' h => by
  rcases obind_some h with ⟨w, i1, op1, h1, h2⟩ | ⟨l, e, _, h1⟩
  · obtain ⟨g1, g2, g3⟩ := hr _ _ _ h1
    obtain ⟨k1, k2, k3⟩ := hf _ _ op1 g1 g2 _ _ _ h2
    refine ⟨by omega, fun hb => by have := k2 hb; omega, fun hm => ?_⟩
    rw [g3 (.inl (by
      rcases hm with hm | ⟨hb, hm⟩
      · omega
      · have := k2 hb; omega))]
    exact k3 hm
  · cases h1
theorem Ext.weak {A : Type} {b : Bool} {i j : Nat} {r r' : OR A} (h : Ext d m b j r r') (hij : i ≤ j) : Ext d m b i r r' := fun v i' op' hv => by
  obtain ⟨g1, g2, g3⟩ := h _ _ _ hv
  exact ⟨by omega, fun hb => by have := g2 hb; omega, g3⟩
theorem Ext.soft {A : Type} {b : Bool} {i : Nat} {r r' : OR A} (h : Ext d m true i r r') : Ext d m b i r r' := fun v i' op' hv => by
  obtain ⟨g1, g2, g3⟩ := h _ _ _ hv
  exact ⟨g1, fun _ => g2 rfl, fun hm => g3 (.inr ⟨rfl, by rcases hm with hm | hm <;> omega⟩)⟩
theorem Ext.eq {A : Type} {b : Bool} {i : Nat} {r r' r2 : OR A} (h : Ext d m b i r r') (he : i < m → r2 = r') : Ext d m b i r r2 := fun v i' op' hv => by
  obtain ⟨g1, g2, g3⟩ := h _ _ _ hv
  refine ⟨g1, g2, fun hm => ?_⟩
  rw [he (by
    rcases hm with hm | ⟨hb, hm⟩
    · omega
    · have := g2 hb; omega)]
  exact g3 hm
theorem Ext.ite {A : Type} {b : Bool} {i : Nat} {c c' : Prop} [Decidable c] [Decidable c'] {x y x' y' : OR A} (hc : i < m → (c' ↔ c)) (hx : c → Ext d m b i x x') (hy : ¬c → Ext d m b i y y') :
    Ext d m b i (if c then x else y) (if c' then x' else y') := by
  by_cases h : c
  · refine Ext.eq (r' := x') ?_ fun hi => by rw [if_pos ((hc hi).2 h)]
    rw [if_pos h]
    exact hx h
  · refine Ext.eq (r' := y') ?_ fun hi => by rw [if_neg (fun hh => h ((hc hi).1 hh))]
    rw [if_neg h]
    exact hy h
theorem Ext.tok {A : Type} {b : Bool} (hA : Ag T T' d m) {i : Nat} {xs : List (List UInt8)} {x y x' y' : OR A} (hx : Ext d m b i x x') (hy : Ext d m b i y y') :
    Ext d m b i (if isTok T i xs then x else y) (if isTok T' (i + d) xs then x' else y') := Ext.ite (fun hi => by rw [hA.isTok hi]) (fun _ => hx) (fun _ => hy)
theorem word_ext (hA : Ag T T' d m) (k : Int) (i op : Nat) : Ext d m true i (some (sWord T k i op)) (some (sWord T' k (i + d) op)) := fun v i' op' h => by
  unfold sWord at h
  split at h
  · rename_i t ht
    split at h
    · rename_i hk
      cases h
      refine ⟨by omega, fun _ => by omega, fun hm => ?_⟩
      obtain ⟨t1, t', h1, h2, h3, h4⟩ := hA i (by omega)
      rw [ht] at h1
      cases h1
      unfold sWord
      rw [h2]
      simp only [h3, h4, if_pos hk]
      rw [show i + d + 1 = i + 1 + d by omega]
    · cases h
  · cases h
theorem need_ext (hA : Ag T T' d m) (x : List UInt8) (i op : Nat) : Ext d m true i (some (sNeed T x i op)) (some (sNeed T' x (i + d) op)) := fun v i' op' h => by
  unfold sNeed at h
  split at h
  · rename_i ht
    cases h
    refine ⟨by omega, fun _ => by omega, fun hm => ?_⟩
    unfold sNeed
    rw [hA.isTok (by omega), if_pos ht, show i + d + 1 = i + 1 + d by omega]
  · cases h
theorem begin_ext (hA : Ag T T' d m) (x : List UInt8) (i op : Nat) : Ext d m true i (some (sBegin T x i op)) (some (sBegin T' x (i + d) op)) := fun v i' op' h => by
  unfold sBegin at h
  split at h
  · rename_i ht
    split at h
    · cases h
    · rename_i ho
      cases h
      refine ⟨by omega, fun _ => by omega, fun hm => ?_⟩
      unfold sBegin
      rw [hA.isTok (by omega), if_pos ht, if_neg ho, show i + d + 1 = i + 1 + d by omega]
  · cases h
theorem end_ext (hA : Ag T T' d m) (x : List UInt8) (i op : Nat) : Ext d m true i (some (sEnd T x i op)) (some (sEnd T' x (i + d) op)) := fun v i' op' h => by
  unfold sEnd sNeed at h
  split at h
  · rename_i ht
    cases h
    refine ⟨by omega, fun _ => by omega, fun hm => ?_⟩
    unfold sEnd sNeed
    rw [hA.isTok (by omega), if_pos ht, show i + d + 1 = i + 1 + d by omega]
    rfl
  · cases h
theorem number_ext (hA : Ag T T' d m) (i op : Nat) : Ext d m true i (some (sNumber T i op)) (some (sNumber T' (i + d) op)) := fun v i' op' h => by
  have h0 := word_ext hA 1 i op
  unfold sNumber at h
  cases hw : sWord T 1 i op with
  | err l e => rw [hw] at h; cases h
  | ok s i1 op1 =>
    rw [hw] at h
    cases h
    obtain ⟨g1, g2, g3⟩ := h0 _ _ _ (congrArg some hw)
    refine ⟨g1, g2, fun hm => ?_⟩
    have := g3 hm
    injection this with this
    unfold sNumber
    rw [this]
    rfl
theorem namesLoop_ext (hA : Ag T T' d m) : ∀ (f g : Nat) (acc : List (List UInt8)) (i op : Nat), f ≤ g → Ext d m false i (sNamesLoop T f acc i op) (sNamesLoop T' g acc (i + d) op)
  | 0, _, _, _, _, _ => Ext.none
  | f + 1, 0, _, _, _, h => by omega
  | f + 1, g + 1, acc, i, op, h => by
    rw [sNamesLoop, sNamesLoop]
    refine Ext.tok hA (Ext.bind (b1 := true) ?_ fun v i1 op1 _ _ => namesLoop_ext hA f g _ _ _ (by omega)) Ext.ok
    rw [show i + d + 1 = i + 1 + d by omega]
    exact (word_ext hA 2 (i + 1) op).weak (by omega)
theorem names_ext (hA : Ag T T' d m) (f g i op : Nat) (h : f ≤ g) : Ext d m false i (sNames T f i op) (sNames T' g (i + d) op) :=
  Ext.bind (word_ext hA 2 i op) fun v i1 op1 _ _ => namesLoop_ext hA f g _ _ _ h
/-- What stands between two signs. -/
theorem wrap_ext (hA : Ag T T' d m) {A B : Type} {x y : List UInt8} {i op : Nat} {g g' : Nat → Nat → OR A} {k : A → B} {b : Bool} (hg : ∀ i1 op1, i ≤ i1 → Ext d m b i1 (g i1 op1) (g' (i1 + d) op1)) :
    Ext d m true i (obind (some (sBegin T x i op)) fun _ i' op' => obind (g i' op') fun v i' op' => obind (some (sEnd T y i' op')) fun _ i' op' => some (.ok (k v) i' op'))
      (obind (some (sBegin T' x (i + d) op)) fun _ i' op' => obind (g' i' op') fun v i' op' => obind (some (sEnd T' y i' op')) fun _ i' op' => some (.ok (k v) i' op')) := by
  refine Ext.bind (begin_ext hA x i op) fun _ i1 op1 h1 _ => Ext.bind (hg i1 op1 h1) fun v i2 op2 h2 _ => ?_
  intro w i' op' h
  rcases obind_some h with ⟨u, i3, op3, h3, h4⟩ | ⟨l, e, _, h4⟩
  · cases h4
    obtain ⟨g1, g2, g3⟩ := end_ext hA y i2 op2 _ _ _ h3
    refine ⟨g1, g2, fun hm => ?_⟩
    rw [g3 hm]
    rfl
  · cases h4
theorem ex_ext (hA : Ag T T' d m) : ∀ f g : Nat, f ≤ g → (∀ k i op, Ext d m false i (eLev T f k i op) (eLev T' g k (i + d) op)) ∧ (∀ k e i op, Ext d m false i (eLoop T f k e i op) (eLoop T' g k e (i + d) op)) ∧
    (∀ i op, Ext d m false i (eUnary T f i op) (eUnary T' g (i + d) op)) ∧ (∀ i op, Ext d m false i (ePrim T f i op) (ePrim T' g (i + d) op)) ∧ (∀ i op, Ext d m true i (eIndex T f i op) (eIndex T' g (i + d) op)) ∧
    (∀ i op, Ext d m true i (eArgs T f i op) (eArgs T' g (i + d) op)) ∧ (∀ acc i op, Ext d m false i (eArgsLoop T f acc i op) (eArgsLoop T' g acc (i + d) op))
  | 0, g, _ => ⟨fun _ _ _ => by rw [eLev]; exact Ext.none, fun _ _ _ _ => by rw [eLoop]; exact Ext.none, fun _ _ => by rw [eUnary]; exact Ext.none, fun _ _ => by rw [ePrim]; exact Ext.none, fun _ _ => by rw [eIndex]; exact Ext.none, fun _ _ => by rw [eArgs]; exact Ext.none, fun _ _ _ => by rw [eArgsLoop]; exact Ext.none⟩
  | f + 1, 0, h => by omega
  | f + 1, g + 1, h => by
    obtain ⟨hL, hO, hU, hP, hI, hR, hB⟩ := ex_ext hA f g (by omega)
    refine ⟨fun k i op => ?_, fun k e i op => ?_, fun i op => ?_, fun i op => ?_, fun i op => ?_, fun i op => ?_, fun acc i op => ?_⟩
    · rw [eLev, eLev]
      exact Ext.ite (fun _ => Iff.rfl) (fun _ => hU _ _) (fun _ => Ext.bind (hL _ _ _) fun _ _ _ _ _ => hO _ _ _ _)
    · rw [eLoop, eLoop]
      refine Ext.tok hA ?_ Ext.ok
      refine Ext.eq (r' := obind (eLev T' g (k + 1) (i + d + 1) op) fun e2 i' op' => if k = 2 then some (.ok (.mk (textAt T i) 0 [] [e, e2]) i' op') else eLoop T' g k (.mk (textAt T i) 0 [] [e, e2]) i' op') ?_ fun hi => by rw [hA.text hi]
      rw [show i + d + 1 = i + 1 + d by omega]
      exact Ext.bind ((hL _ _ _).weak (by omega)) fun _ _ _ _ _ => Ext.ite (fun _ => Iff.rfl) (fun _ => Ext.ok) (fun _ => hO _ _ _ _)
    · rw [eUnary, eUnary]
      exact Ext.tok hA (Ext.bind (begin_ext hA _ _ _) fun _ _ _ _ _ => Ext.bind (hU _ _) fun _ _ _ _ _ => Ext.ok) (Ext.tok hA (Ext.bind (begin_ext hA _ _ _) fun _ _ _ _ _ => Ext.bind (hU _ _) fun _ _ _ _ _ => Ext.ok) (hP _ _))
    · rw [ePrim, ePrim]
      refine Ext.tok hA (wrap_ext (k := fun e => e) (g := eLev T f 0) (g' := eLev T' g 0) hA fun _ _ _ => hL 0 _ _).soft ?_
      refine Ext.ite (fun hi => by rw [hA.kind hi]) (fun _ => Ext.bind (number_ext hA _ _) fun _ _ _ _ _ => Ext.ok) (fun _ => ?_)
      exact Ext.bind (word_ext hA 2 _ _) fun _ _ _ _ _ => Ext.tok hA (Ext.bind (hI _ _) fun _ _ _ _ _ => Ext.ok) (Ext.tok hA (Ext.bind (hR _ _) fun _ _ _ _ _ => Ext.ok) Ext.ok)
    · rw [eIndex, eIndex]
      exact wrap_ext (k := fun e => e) (g := eLev T f 0) (g' := eLev T' g 0) hA fun _ _ _ => hL 0 _ _
    · rw [eArgs, eArgs]
      exact wrap_ext (k := fun e => e) (g := eArgsLoop T f []) (g' := eArgsLoop T' g []) hA fun _ _ _ => hB [] _ _
    · rw [eArgsLoop, eArgsLoop]
      refine Ext.tok hA Ext.ok (Ext.bind (b1 := false) ?_ fun _ _ _ _ _ => Ext.bind (hL _ _ _) fun _ _ _ _ _ => hB _ _ _)
      split
      · exact Ext.ok
      · exact (need_ext hA _ _ _).soft
theorem st_ext (hA : Ag T T' d m) : ∀ f g : Nat, f ≤ g → (∀ i op, Ext d m true i (sBlock T f i op) (sBlock T' g (i + d) op)) ∧ (∀ acc i op, Ext d m false i (sStmts T f acc i op) (sStmts T' g acc (i + d) op)) ∧
    (∀ i op, Ext d m false i (sStmt T f i op) (sStmt T' g (i + d) op)) ∧ (∀ i op, Ext d m false i (sSimple T f i op) (sSimple T' g (i + d) op))
  | 0, g, _ => ⟨fun _ _ => by rw [sBlock]; exact Ext.none, fun _ _ _ => by rw [sStmts]; exact Ext.none, fun _ _ => by rw [sStmt]; exact Ext.none, fun _ _ => by rw [sSimple]; exact Ext.none⟩
  | f + 1, 0, h => by omega
  | f + 1, g + 1, h => by
    obtain ⟨hB, hS, hT, hM⟩ := st_ext hA f g (by omega)
    obtain ⟨hL, _, _, _, hI, hR, _⟩ := ex_ext hA f g (by omega)
    refine ⟨fun i op => ?_, fun acc i op => ?_, fun i op => ?_, fun i op => ?_⟩
    · rw [sBlock, sBlock]
      exact wrap_ext (k := fun e => e) (g := sStmts T f []) (g' := sStmts T' g []) hA fun _ _ _ => hS [] _ _
    · rw [sStmts, sStmts]
      exact Ext.tok hA Ext.ok (Ext.bind (hT _ _) fun _ _ _ _ _ => hS _ _ _)
    · rw [sStmt, sStmt]
      rw [show i + d + 1 = i + 1 + d by omega]
      refine Ext.tok hA (Ext.bind ((hL _ _ _).weak (by omega)) fun _ i1 _ _ _ => Ext.bind (hB _ _) fun _ i2 _ _ _ => ?_) (Ext.tok hA (Ext.bind ((hL _ _ _).weak (by omega)) fun _ _ _ _ _ => Ext.bind (hB _ _) fun _ _ _ _ _ => Ext.ok) (Ext.bind (hM _ _) fun _ _ _ _ _ => Ext.bind (need_ext hA _ _ _) fun _ _ _ _ _ => Ext.ok))
      rw [show i2 + d + 1 = i2 + 1 + d by omega]
      exact Ext.tok hA (Ext.bind ((hB _ _).weak (by omega)) fun _ _ _ _ _ => Ext.ok) Ext.ok
    · rw [sSimple, sSimple]
      rw [show i + d + 1 = i + 1 + d by omega]
      exact Ext.tok hA (Ext.bind ((hL _ _ _).weak (by omega)) fun _ _ _ _ _ => Ext.ok) (Ext.tok hA (Ext.weak (Ext.ok (i := i + 1)) (by omega)) (Ext.bind (word_ext hA 2 _ _) fun _ _ _ _ _ => Ext.tok hA (Ext.bind (hR _ _) fun _ _ _ _ _ => Ext.ok)
        (Ext.tok hA (Ext.bind (hI _ _) fun _ _ _ _ _ => Ext.bind (need_ext hA _ _ _) fun _ _ _ _ _ => Ext.bind (hL _ _ _) fun _ _ _ _ _ => Ext.ok) (Ext.bind (need_ext hA _ _ _) fun _ _ _ _ _ => Ext.bind (hL _ _ _) fun _ _ _ _ _ => Ext.ok))))
theorem vars_ext (hA : Ag T T' d m) : ∀ (f g : Nat) (acc : List (List UInt8)) (i op : Nat), f ≤ g → Ext d m false i (sVars T f acc i op) (sVars T' g acc (i + d) op)
  | 0, _, _, _, _, _ => Ext.none
  | f + 1, 0, _, _, _, h => by omega
  | f + 1, g + 1, acc, i, op, h => by
    rw [sVars, sVars, show i + d + 1 = i + 1 + d by omega]
    exact Ext.tok hA (Ext.bind ((names_ext hA f g _ _ (by omega)).weak (by omega)) fun _ _ _ _ _ => Ext.bind (need_ext hA _ _ _) fun _ _ _ _ _ => vars_ext hA f g _ _ _ (by omega)) Ext.ok
/-- A last step that hands on what was computed. -/
theorem last_ext {A B : Type} {i : Nat} {r r' : OR A} {k : A → B} {o : Nat → Nat} (h : Ext d m true i r r') : Ext d m true i (obind r fun v i op => some (.ok (k v) i (o op))) (obind r' fun v i op => some (.ok (k v) i (o op))) := fun w i' op' hw => by
  rcases obind_some hw with ⟨u, i3, op3, h3, h4⟩ | ⟨l, e, _, h4⟩
  · cases h4
    obtain ⟨g1, g2, g3⟩ := h _ _ _ h3
    refine ⟨g1, g2, fun hm => ?_⟩
    rw [g3 hm]
    rfl
  · cases h4
theorem func_ext (hA : Ag T T' d m) (f g i op : Nat) (h : f ≤ g) : Ext d m true i (sFunc T f i op) (sFunc T' g (i + d) op) := by
  unfold sFunc
  refine Ext.bind (word_ext hA 2 _ _) fun _ _ _ _ _ => Ext.bind (begin_ext hA _ _ _) fun _ _ _ _ _ => Ext.bind (b1 := false) (Ext.tok hA Ext.ok (names_ext hA f g _ _ h)) fun _ _ _ _ _ => Ext.bind (end_ext hA _ _ _) fun _ _ _ _ _ =>
    Ext.bind (begin_ext hA _ _ _) fun _ _ _ _ _ => Ext.bind (vars_ext hA f g _ _ _ h) fun _ _ _ _ _ => Ext.bind ((st_ext hA f g h).2.1 _ _ _) fun _ _ _ _ _ => last_ext (o := fun x => x) (end_ext hA _ _ _)
theorem array_ext (hA : Ag T T' d m) (i op : Nat) : Ext d m true i (sArray T i op) (sArray T' (i + d) op) := by
  unfold sArray
  refine Ext.bind (word_ext hA 2 _ _) fun _ _ _ _ _ => Ext.bind (begin_ext hA _ _ _) fun _ _ _ _ _ => Ext.bind (number_ext hA _ _) fun _ _ _ _ _ => Ext.bind (end_ext hA _ _ _) fun _ _ _ _ _ => last_ext (o := fun x => x) (need_ext hA _ _ _)
end
/-- An error has a number that is not 0. -/
def EN {A : Type} (r : OR A) : Prop := ∀ l e, r = some (.err l e) → ¬ e = 0
theorem EN.none {A : Type} : EN (none : OR A) := fun _ _ h => by cases h
theorem EN.ok {A : Type} {v : A} {i op : Nat} : EN (some (.ok v i op)) := fun _ _ h => by cases h
theorem EN.bind {A B : Type} {r : OR A} {f : A → Nat → Nat → OR B} (h : EN r) (hf : ∀ v i op, EN (f v i op)) : EN (obind r f) := fun l e hq => by
  rcases obind_some hq with ⟨v, i, op, _, h2⟩ | ⟨l', e', h1, h2⟩
  · exact hf _ _ _ _ _ h2
  · cases h2
    exact h _ _ h1
theorem EN.ite {A : Type} {c : Prop} [Decidable c] {a b : OR A} (h1 : EN a) (h2 : EN b) : EN (if c then a else b) := by
  split
  · exact h1
  · exact h2
theorem EN.syn {A : Type} {T : List Tok} {i : Nat} : EN (A := A) (some (synErr T i)) := fun l e h => by
  cases h
  decide
theorem EN.word {T : List Tok} {k : Int} {i op : Nat} : EN (some (sWord T k i op)) := by
  unfold sWord
  split
  · split
    · exact EN.ok
    · exact EN.syn
  · exact EN.syn
theorem EN.need {T : List Tok} {x : List UInt8} {i op : Nat} : EN (some (sNeed T x i op)) := by
  unfold sNeed
  split
  · exact EN.ok
  · exact EN.syn
theorem EN.begin {T : List Tok} {x : List UInt8} {i op : Nat} : EN (some (sBegin T x i op)) := by
  unfold sBegin
  split
  · split
    · intro l e h
      cases h
      decide
    · exact EN.ok
  · exact EN.syn
theorem EN.end' {T : List Tok} {x : List UInt8} {i op : Nat} : EN (some (sEnd T x i op)) := by
  unfold sEnd sNeed
  split
  · exact EN.ok
  · exact EN.syn
theorem EN.number {T : List Tok} {i op : Nat} : EN (some (sNumber T i op)) := by
  unfold sNumber sWord
  split
  · split
    · exact EN.ok
    · exact EN.syn
  · exact EN.syn
theorem namesLoop_en (T : List Tok) : ∀ (f : Nat) (acc : List (List UInt8)) (i op : Nat), EN (sNamesLoop T f acc i op)
  | 0, _, _, _ => EN.none
  | f + 1, acc, i, op => by
    rw [sNamesLoop]
    exact EN.ite (EN.bind EN.word fun _ _ _ => namesLoop_en T f _ _ _) EN.ok
theorem names_en (T : List Tok) (f i op : Nat) : EN (sNames T f i op) := EN.bind EN.word fun _ _ _ => namesLoop_en T f _ _ _
theorem ex_en (T : List Tok) : ∀ f : Nat, (∀ k i op, EN (eLev T f k i op)) ∧ (∀ k e i op, EN (eLoop T f k e i op)) ∧ (∀ i op, EN (eUnary T f i op)) ∧ (∀ i op, EN (ePrim T f i op)) ∧ (∀ i op, EN (eIndex T f i op)) ∧ (∀ i op, EN (eArgs T f i op)) ∧ (∀ acc i op, EN (eArgsLoop T f acc i op))
  | 0 => ⟨fun _ _ _ => by rw [eLev]; exact EN.none, fun _ _ _ _ => by rw [eLoop]; exact EN.none, fun _ _ => by rw [eUnary]; exact EN.none, fun _ _ => by rw [ePrim]; exact EN.none, fun _ _ => by rw [eIndex]; exact EN.none, fun _ _ => by rw [eArgs]; exact EN.none, fun _ _ _ => by rw [eArgsLoop]; exact EN.none⟩
  | f + 1 => by
    obtain ⟨hL, hO, hU, hP, hI, hA, hB⟩ := ex_en T f
    refine ⟨fun k i op => ?_, fun k e i op => ?_, fun i op => ?_, fun i op => ?_, fun i op => ?_, fun i op => ?_, fun acc i op => ?_⟩
    · rw [eLev]
      exact EN.ite (hU _ _) (EN.bind (hL _ _ _) fun _ _ _ => hO _ _ _ _)
    · rw [eLoop]
      exact EN.ite (EN.bind (hL _ _ _) fun _ _ _ => EN.ite EN.ok (hO _ _ _ _)) EN.ok
    · rw [eUnary]
      exact EN.ite (EN.bind EN.begin fun _ _ _ => EN.bind (hU _ _) fun _ _ _ => EN.ok) (EN.ite (EN.bind EN.begin fun _ _ _ => EN.bind (hU _ _) fun _ _ _ => EN.ok) (hP _ _))
    · rw [ePrim]
      exact EN.ite (EN.bind EN.begin fun _ _ _ => EN.bind (hL _ _ _) fun _ _ _ => EN.bind EN.end' fun _ _ _ => EN.ok) (EN.ite (EN.bind EN.number fun _ _ _ => EN.ok) (EN.bind EN.word fun _ _ _ => EN.ite (EN.bind (hI _ _) fun _ _ _ => EN.ok) (EN.ite (EN.bind (hA _ _) fun _ _ _ => EN.ok) EN.ok)))
    · rw [eIndex]
      exact EN.bind EN.begin fun _ _ _ => EN.bind (hL _ _ _) fun _ _ _ => EN.bind EN.end' fun _ _ _ => EN.ok
    · rw [eArgs]
      exact EN.bind EN.begin fun _ _ _ => EN.bind (hB _ _ _) fun _ _ _ => EN.bind EN.end' fun _ _ _ => EN.ok
    · rw [eArgsLoop]
      refine EN.ite EN.ok (EN.bind ?_ fun _ _ _ => EN.bind (hL _ _ _) fun _ _ _ => hB _ _ _)
      split
      · exact EN.ok
      · exact EN.need
theorem st_en (T : List Tok) : ∀ f : Nat, (∀ i op, EN (sBlock T f i op)) ∧ (∀ acc i op, EN (sStmts T f acc i op)) ∧ (∀ i op, EN (sStmt T f i op)) ∧ (∀ i op, EN (sSimple T f i op))
  | 0 => ⟨fun _ _ => by rw [sBlock]; exact EN.none, fun _ _ _ => by rw [sStmts]; exact EN.none, fun _ _ => by rw [sStmt]; exact EN.none, fun _ _ => by rw [sSimple]; exact EN.none⟩
  | f + 1 => by
    obtain ⟨hB, hS, hT, hM⟩ := st_en T f
    obtain ⟨hL, _, _, _, hI, hA, _⟩ := ex_en T f
    refine ⟨fun i op => ?_, fun acc i op => ?_, fun i op => ?_, fun i op => ?_⟩
    · rw [sBlock]
      exact EN.bind EN.begin fun _ _ _ => EN.bind (hS _ _ _) fun _ _ _ => EN.bind EN.end' fun _ _ _ => EN.ok
    · rw [sStmts]
      exact EN.ite EN.ok (EN.bind (hT _ _) fun _ _ _ => hS _ _ _)
    · rw [sStmt]
      exact EN.ite (EN.bind (hL _ _ _) fun _ _ _ => EN.bind (hB _ _) fun _ _ _ => EN.ite (EN.bind (hB _ _) fun _ _ _ => EN.ok) EN.ok) (EN.ite (EN.bind (hL _ _ _) fun _ _ _ => EN.bind (hB _ _) fun _ _ _ => EN.ok) (EN.bind (hM _ _) fun _ _ _ => EN.bind EN.need fun _ _ _ => EN.ok))
    · rw [sSimple]
      exact EN.ite (EN.bind (hL _ _ _) fun _ _ _ => EN.ok) (EN.ite EN.ok (EN.bind EN.word fun _ _ _ => EN.ite (EN.bind (hA _ _) fun _ _ _ => EN.ok) (EN.ite (EN.bind (hI _ _) fun _ _ _ => EN.bind EN.need fun _ _ _ => EN.bind (hL _ _ _) fun _ _ _ => EN.ok) (EN.bind EN.need fun _ _ _ => EN.bind (hL _ _ _) fun _ _ _ => EN.ok))))
theorem vars_en (T : List Tok) : ∀ (f : Nat) (acc : List (List UInt8)) (i op : Nat), EN (sVars T f acc i op)
  | 0, _, _, _ => EN.none
  | f + 1, acc, i, op => by
    rw [sVars]
    exact EN.ite (EN.bind (names_en T f _ _) fun _ _ _ => EN.bind EN.need fun _ _ _ => vars_en T f _ _ _) EN.ok
theorem func_en (T : List Tok) (f i op : Nat) : EN (sFunc T f i op) := by
  unfold sFunc
  exact EN.bind EN.word fun _ _ _ => EN.bind EN.begin fun _ _ _ => EN.bind (EN.ite EN.ok (names_en T f _ _)) fun _ _ _ => EN.bind EN.end' fun _ _ _ => EN.bind EN.begin fun _ _ _ => EN.bind (vars_en T f _ _ _) fun _ _ _ => EN.bind ((st_en T f).2.1 _ _ _) fun _ _ _ => EN.bind EN.end' fun _ _ _ => EN.ok
theorem array_en (T : List Tok) (i op : Nat) : EN (sArray T i op) := by
  unfold sArray
  exact EN.bind EN.word fun _ _ _ => EN.bind EN.begin fun _ _ _ => EN.bind EN.number fun _ _ _ => EN.bind EN.end' fun _ _ _ => EN.bind EN.need fun _ _ _ => EN.ok
theorem prog_en (T : List Tok) : ∀ (f : Nat) (p : Pr) (i op : Nat), EN (sProg T f p i op)
  | 0, _, _, _ => EN.none
  | f + 1, p, i, op => by
    rw [sProg]
    exact EN.ite EN.ok (EN.ite (EN.bind (vars_en T f _ _ _) fun _ _ _ => prog_en T f _ _ _) (EN.ite (EN.bind (array_en T _ _) fun _ _ _ => prog_en T f _ _ _) (EN.ite (EN.bind (func_en T f _ _) fun _ _ _ => prog_en T f _ _ _) EN.syn)))
end Go.Stele
