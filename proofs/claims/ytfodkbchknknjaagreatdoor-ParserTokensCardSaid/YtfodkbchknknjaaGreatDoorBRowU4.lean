/- Texts joined: ParFuel, ParP3, ParP4, GlMap, ParP5, ParP6. -/
import Derived.Test.YtfodkbchknknjaaGreatDoorBRowU3
set_option linter.unusedVariables false
set_option linter.unusedSimpArgs false
namespace Go.Stele
/-- A step from i, op that ends well ends at a later place (strictly, if s), within the tokens, with as many open constructs. -/
def Good {A : Type} (T : List Tok) (s : Bool) (i op : Nat) (r : Res A) : Prop := match r with
  | .ok _ i' op' => i ≤ i' ∧ (s = true → i < i') ∧ (i ≤ T.length → i' ≤ T.length) ∧ op' = op
  | .err _ _ => True
def GoodO {A : Type} (T : List Tok) (s : Bool) (i op : Nat) (r : OR A) : Prop := ∀ r', r = some r' → Good T s i op r'
theorem isTok_lt {T : List Tok} {i : Nat} {xs : List (List UInt8)} (h : isTok T i xs = true) : i < T.length := by
  rcases Nat.lt_or_ge i T.length with h1 | h1
  · exact h1
  · rw [isTok, List.getElem?_eq_none h1] at h; cases h
theorem get_lt {T : List Tok} {i : Nat} {t : Tok} (h : T[i]? = some t) : i < T.length := (List.getElem?_eq_some_iff.1 h).1
theorem sWord_good (T : List Tok) (k : Int) (i op : Nat) : Good T true i op (sWord T k i op) := by
  unfold sWord
  split
  · rename_i t ht
    have := get_lt ht
    split
    · exact ⟨by omega, fun _ => by omega, fun _ => by omega, rfl⟩
    · trivial
  · trivial
theorem sNeed_good (T : List Tok) (x : List UInt8) (i op : Nat) : Good T true i op (sNeed T x i op) := by
  unfold sNeed
  split
  · rename_i h
    have := isTok_lt h
    exact ⟨by omega, fun _ => by omega, fun _ => by omega, rfl⟩
  · trivial
theorem sBegin_ok {T : List Tok} {x : List UInt8} {i op i' op' : Nat} {u : Unit} (h : sBegin T x i op = .ok u i' op') : i' = i + 1 ∧ op' = op + 1 ∧ op < 100 ∧ i < T.length := by
  unfold sBegin at h
  split at h
  · rename_i h1
    have := isTok_lt h1
    split at h
    · cases h
    · cases h
      exact ⟨rfl, rfl, by omega, this⟩
  · cases h
theorem sEnd_ok {T : List Tok} {x : List UInt8} {i op i' op' : Nat} {u : Unit} (h : sEnd T x i op = .ok u i' op') : i' = i + 1 ∧ op' = op - 1 ∧ i < T.length := by
  unfold sEnd sNeed at h
  split at h
  · rename_i h1
    have := isTok_lt h1
    cases h
    exact ⟨rfl, rfl, this⟩
  · cases h
theorem sNumber_good (T : List Tok) (i op : Nat) : Good T true i op (sNumber T i op) := by
  have := sWord_good T 1 i op
  unfold sNumber
  cases h : sWord T 1 i op with
  | ok v i' op' => rw [h] at this; exact this
  | err l e => trivial
theorem obind_some {A B : Type} {r : OR A} {f : A → Nat → Nat → OR B} {q : Res B} (h : obind r f = some q) :
    (∃ v i op, r = some (.ok v i op) ∧ f v i op = some q) ∨ (∃ l e, r = some (.err l e) ∧ q = .err l e) := by
  match r, h with
  | some (.ok v i op), h => exact .inl ⟨v, i, op, rfl, h⟩
  | some (.err l e), h => exact .inr ⟨l, e, rfl, by simpa [obind] using h.symm⟩
/-- One step behind another. -/
theorem good_bind {A B : Type} {T : List Tok} {s t : Bool} {i op j op1 : Nat} {r : OR A} {f : A → Nat → Nat → OR B} (hr : GoodO T s j op1 r)
    (hf : ∀ v i' , r = some (.ok v i' op1) → j ≤ i' → (s = true → j < i') → (j ≤ T.length → i' ≤ T.length) → GoodO T t i op (f v i' op1)) : GoodO T t i op (obind r f) := fun q hq => by
  rcases obind_some hq with ⟨v, i', op', h1, h2⟩ | ⟨l, e, _, rfl⟩
  · obtain ⟨g1, g2, g3, g4⟩ := hr _ h1
    subst g4
    exact hf v i' h1 g1 g2 g3 q h2
  · trivial
theorem good_some {A : Type} {T : List Tok} {s : Bool} {i op : Nat} {r : Res A} (h : Good T s i op r) : GoodO T s i op (some r) := fun r' hr => by cases hr; exact h
theorem good_none {A : Type} {T : List Tok} {s : Bool} {i op : Nat} : GoodO (A := A) T s i op none := fun r' hr => by cases hr
/-- From an earlier place on. -/
theorem GoodO.from {A : Type} {T : List Tok} {s t : Bool} {i j op : Nat} {r : OR A} (h : GoodO T s j op r) (hij : i ≤ j) (hs : t = true → i < j ∨ s = true) (hT : i ≤ T.length → j ≤ T.length) : GoodO T t i op r := fun r' hr => by
  have := h r' hr
  cases r' with
  | ok v i' op' =>
    obtain ⟨g1, g2, g3, g4⟩ := this
    refine ⟨by omega, fun ht => ?_, fun hi => g3 (hT hi), g4⟩
    rcases hs ht with h1 | h1
    · omega
    · have := g2 h1; omega
  | err l e => trivial
theorem sNamesLoop_good (T : List Tok) : ∀ (f : Nat) (acc : List (List UInt8)) (i op : Nat), GoodO T false i op (sNamesLoop T f acc i op)
  | 0, _, _, _ => good_none
  | f + 1, acc, i, op => by
    rw [sNamesLoop]
    split
    · rename_i h
      have := isTok_lt h
      refine good_bind (good_some (sWord_good T 2 (i + 1) op)) fun v i' _ h1 h2 h3 => ?_
      exact (sNamesLoop_good T f _ i' op).from (by omega) (by simp) (fun _ => h3 (by omega))
    · exact good_some ⟨by omega, by simp, fun h => h, rfl⟩
theorem sNames_good (T : List Tok) (f i op : Nat) : GoodO T true i op (sNames T f i op) :=
  good_bind (good_some (sWord_good T 2 i op)) fun v i' _ h1 h2 h3 => (sNamesLoop_good T f _ i' op).from h1 (fun _ => .inl (h2 rfl)) h3
/-- What stands between a sign that opens a construct and the one that closes it. -/
theorem good_wrap {A : Type} {T : List Tok} {s : Bool} {x y : List UInt8} {i op : Nat} {g : Nat → Nat → OR A} (hg : i < T.length → op < 100 → GoodO T s (i + 1) (op + 1) (g (i + 1) (op + 1))) :
    GoodO T true i op (obind (some (sBegin T x i op)) fun _ i' op' => obind (g i' op') fun v i' op' => obind (some (sEnd T y i' op')) fun _ i' op' => some (.ok v i' op')) := fun q hq => by
  rcases obind_some hq with ⟨v, i1, op1, h1, h2⟩ | ⟨l, e, _, rfl⟩
  · injection h1 with h1
    obtain ⟨rfl, rfl, ho, hi⟩ := sBegin_ok h1
    rcases obind_some h2 with ⟨w, i2, op2, h3, h4⟩ | ⟨l, e, _, rfl⟩
    · obtain ⟨g1, _, g3, rfl⟩ := hg hi ho _ h3
      rcases obind_some h4 with ⟨u, i3, op3, h5, h6⟩ | ⟨l, e, _, rfl⟩
      · injection h5 with h5
        obtain ⟨rfl, rfl, hi2⟩ := sEnd_ok h5
        cases h6
        exact ⟨by omega, fun _ => by omega, fun _ => by omega, by omega⟩
      · trivial
    · trivial
  · trivial
/-- All the functions for expressions. -/
theorem ex_good (T : List Tok) : ∀ f : Nat, (∀ k i op, GoodO T true i op (eLev T f k i op)) ∧ (∀ k e i op, GoodO T false i op (eLoop T f k e i op)) ∧ (∀ i op, GoodO T true i op (eUnary T f i op)) ∧
    (∀ i op, GoodO T true i op (ePrim T f i op)) ∧ (∀ i op, GoodO T true i op (eIndex T f i op)) ∧ (∀ i op, GoodO T true i op (eArgs T f i op)) ∧ (∀ acc i op, GoodO T false i op (eArgsLoop T f acc i op))
  | 0 => ⟨fun _ _ _ => by rw [eLev]; exact good_none, fun _ _ _ _ => by rw [eLoop]; exact good_none, fun _ _ => by rw [eUnary]; exact good_none, fun _ _ => by rw [ePrim]; exact good_none, fun _ _ => by rw [eIndex]; exact good_none, fun _ _ => by rw [eArgs]; exact good_none, fun _ _ _ => by rw [eArgsLoop]; exact good_none⟩
  | f + 1 => by
    obtain ⟨hL, hO, hU, hP, hI, hA, hB⟩ := ex_good T f
    have neg : ∀ (x : List UInt8) (nm : List UInt8) (i op : Nat), GoodO T true i op (obind (some (sBegin T x i op)) fun _ i' op' => obind (eUnary T f i' op') fun e i' op' => some (.ok (Ex.mk nm 0 [] [e]) i' (op' - 1))) := fun x nm i op q hq => by
      rcases obind_some hq with ⟨v, i1, op1, h1, h2⟩ | ⟨l, e, _, rfl⟩
      · injection h1 with h1
        obtain ⟨rfl, rfl, ho, hi⟩ := sBegin_ok h1
        rcases obind_some h2 with ⟨w, i2, op2, h3, h4⟩ | ⟨l, e, _, rfl⟩
        · obtain ⟨g1, _, g3, rfl⟩ := hU _ _ _ h3
          cases h4
          exact ⟨by omega, fun _ => by omega, fun _ => g3 (by omega), by omega⟩
        · trivial
      · trivial
    refine ⟨fun k i op => ?_, fun k e i op => ?_, fun i op => ?_, fun i op => ?_, fun i op => ?_, fun i op => ?_, fun acc i op => ?_⟩
    · rw [eLev]
      split
      · exact hU i op
      · exact good_bind (hL (k + 1) i op) fun v i' _ h1 h2 h3 => (hO k v i' op).from h1 (fun _ => .inl (h2 rfl)) h3
    · rw [eLoop]
      split
      · rename_i h
        have := isTok_lt h
        refine good_bind (hL (k + 1) (i + 1) op) fun v i' _ h1 h2 h3 => ?_
        split
        · exact good_some ⟨by omega, by simp, fun _ => h3 (by omega), rfl⟩
        · exact (hO k _ i' op).from (by omega) (by simp) (fun _ => h3 (by omega))
      · exact good_some ⟨by omega, by simp, fun h => h, rfl⟩
    · rw [eUnary]
      split
      · exact neg _ _ _ _
      · split
        · exact neg _ _ _ _
        · exact hP i op
    · rw [ePrim]
      split
      · exact good_wrap (g := fun i op => eLev T f 0 i op) fun _ _ => hL 0 _ _
      · split
        · exact good_bind (good_some (sNumber_good T i op)) fun v i' _ h1 h2 h3 => good_some ⟨h1, fun _ => h2 rfl, h3, rfl⟩
        · refine good_bind (good_some (sWord_good T 2 i op)) fun v i' _ h1 h2 h3 => ?_
          split
          · exact good_bind (hI i' op) fun v i2 _ g1 g2 g3 => good_some ⟨by omega, fun _ => by have := h2 rfl; omega, fun h => g3 (h3 h), rfl⟩
          · split
            · exact good_bind (hA i' op) fun v i2 _ g1 g2 g3 => good_some ⟨by omega, fun _ => by have := h2 rfl; omega, fun h => g3 (h3 h), rfl⟩
            · exact good_some ⟨h1, fun _ => h2 rfl, h3, rfl⟩
    · rw [eIndex]
      exact good_wrap (g := fun i op => eLev T f 0 i op) fun _ _ => hL 0 _ _
    · rw [eArgs]
      exact good_wrap (g := fun i op => eArgsLoop T f [] i op) fun _ _ => hB [] _ _
    · rw [eArgsLoop]
      split
      · exact good_some ⟨by omega, by simp, fun h => h, rfl⟩
      · refine good_bind (s := false) (j := i) (op1 := op) ?_ fun v i' _ h1 h2 h3 => ?_
        · split
          · exact good_some ⟨by omega, by simp, fun h => h, rfl⟩
          · exact GoodO.from (good_some (sNeed_good T [44] i op)) (by omega) (by simp) (fun h => h)
        · exact good_bind (hL 0 i' op) fun v i2 _ g1 g2 g3 => (hB _ i2 op).from (by omega) (by simp) (fun h => g3 (h3 h))
end Go.Stele
/- The parser in plain Lean: where statements end; enough fuel. -/
namespace Go.Stele
theorem st_good (T : List Tok) : ∀ f : Nat, (∀ i op, GoodO T true i op (sBlock T f i op)) ∧ (∀ acc i op, GoodO T false i op (sStmts T f acc i op)) ∧ (∀ i op, GoodO T true i op (sStmt T f i op)) ∧ (∀ i op, GoodO T true i op (sSimple T f i op))
  | 0 => ⟨fun _ _ => by rw [sBlock]; exact good_none, fun _ _ _ => by rw [sStmts]; exact good_none, fun _ _ => by rw [sStmt]; exact good_none, fun _ _ => by rw [sSimple]; exact good_none⟩
  | f + 1 => by
    obtain ⟨hB, hL, hS, hM⟩ := st_good T f
    obtain ⟨gL, _, _, _, gI, gA, _⟩ := ex_good T f
    refine ⟨fun i op => ?_, fun acc i op => ?_, fun i op => ?_, fun i op => ?_⟩
    · rw [sBlock]
      exact good_wrap (g := fun i op => sStmts T f [] i op) fun _ _ => hL [] _ _
    · rw [sStmts]
      split
      · exact good_some ⟨by omega, by simp, fun h => h, rfl⟩
      · exact good_bind (hS i op) fun v i' _ h1 h2 h3 => (hL _ i' op).from h1 (by simp) h3
    · rw [sStmt]
      split
      · rename_i h
        have := isTok_lt h
        refine good_bind (gL 0 (i + 1) op) fun v i' _ h1 h2 h3 => good_bind (hB i' op) fun w i2 _ g1 g2 g3 => ?_
        split
        · rename_i h4
          have := isTok_lt h4
          refine good_bind (hB (i2 + 1) op) fun x i3 _ k1 k2 k3 => good_some ⟨by omega, fun _ => by omega, fun _ => k3 (by omega), rfl⟩
        · exact good_some ⟨by omega, fun _ => by omega, fun _ => g3 (h3 (by omega)), rfl⟩
      · split
        · rename_i h
          have := isTok_lt h
          exact good_bind (gL 0 (i + 1) op) fun v i' _ h1 h2 h3 => good_bind (hB i' op) fun w i2 _ g1 g2 g3 => good_some ⟨by omega, fun _ => by omega, fun _ => g3 (h3 (by omega)), rfl⟩
        · exact good_bind (hM i op) fun v i' _ h1 h2 h3 => good_bind (good_some (sNeed_good T [59] i' op)) fun w i2 _ g1 g2 g3 => good_some ⟨by omega, fun _ => by have := h2 rfl; omega, fun hh => g3 (h3 hh), rfl⟩
    · rw [sSimple]
      split
      · rename_i h
        have := isTok_lt h
        exact good_bind (gL 0 (i + 1) op) fun v i' _ h1 h2 h3 => good_some ⟨by omega, fun _ => by omega, fun _ => h3 (by omega), rfl⟩
      · split
        · rename_i h
          have := isTok_lt h
          exact good_some ⟨by omega, fun _ => by omega, fun _ => by omega, rfl⟩
        · refine good_bind (good_some (sWord_good T 2 i op)) fun v i' _ h1 h2 h3 => ?_
          split
          · exact good_bind (gA i' op) fun w i2 _ g1 g2 g3 => good_some ⟨by omega, fun _ => by have := h2 rfl; omega, fun hh => g3 (h3 hh), rfl⟩
          · split
            · exact good_bind (gI i' op) fun w i2 _ g1 g2 g3 => good_bind (good_some (sNeed_good T [61] i2 op)) fun u i3 _ k1 k2 k3 => good_bind (gL 0 i3 op) fun x i4 _ m1 m2 m3 =>
                good_some ⟨by omega, fun _ => by have := h2 rfl; omega, fun hh => m3 (k3 (g3 (h3 hh))), rfl⟩
            · exact good_bind (good_some (sNeed_good T [61] i' op)) fun u i3 _ k1 k2 k3 => good_bind (gL 0 i3 op) fun x i4 _ m1 m2 m3 =>
                good_some ⟨by omega, fun _ => by have := h2 rfl; omega, fun hh => m3 (k3 (h3 hh)), rfl⟩
theorem sVars_good (T : List Tok) : ∀ (f : Nat) (acc : List (List UInt8)) (i op : Nat), GoodO T (isTok T i [kwVar]) i op (sVars T f acc i op)
  | 0, _, _, _ => by rw [sVars]; exact good_none
  | f + 1, acc, i, op => by
    rw [sVars]
    split
    · rename_i h
      have := isTok_lt h
      exact good_bind (sNames_good T f (i + 1) op) fun v i' _ h1 h2 h3 => good_bind (good_some (sNeed_good T [59] i' op)) fun u i2 _ g1 g2 g3 =>
        (sVars_good T f _ i2 op).from (by omega) (fun _ => .inl (by omega)) (fun _ => g3 (h3 (by omega)))
    · rename_i h
      exact good_some ⟨by omega, fun hh => absurd hh h, fun h => h, rfl⟩
/-- The same with what is needed of the places alone. -/
theorem good_begin {T : List Tok} {x : List UInt8} {i op : Nat} {B : Type} {s : Bool} {g : Nat → Nat → OR B} {r : Res B} (h : obind (some (sBegin T x i op)) (fun _ i' op' => g i' op') = some r) :
    (i < T.length ∧ op < 100 ∧ g (i + 1) (op + 1) = some r) ∨ (∃ l e, r = .err l e) := by
  rcases obind_some h with ⟨v, i1, op1, h1, h2⟩ | ⟨l, e, _, rfl⟩
  · injection h1 with h1
    obtain ⟨rfl, rfl, ho, hi⟩ := sBegin_ok h1
    exact .inl ⟨hi, ho, h2⟩
  · exact .inr ⟨l, e, rfl⟩
/-! ### Enough fuel -/
def Ends {A : Type} (r : OR A) : Prop := ∃ q, r = some q
theorem ends_bind {A B : Type} {r : OR A} {f : A → Nat → Nat → OR B} (h : Ends r) (k : ∀ v i op, r = some (.ok v i op) → Ends (f v i op)) : Ends (obind r f) := by
  obtain ⟨q, rfl⟩ := h
  cases q with
  | ok v i op => exact k v i op rfl
  | err l e => exact ⟨_, rfl⟩
theorem ends_some {A : Type} {r : Res A} : Ends (some r) := ⟨_, rfl⟩
theorem ends_begin {B : Type} {T : List Tok} {x : List UInt8} {i op : Nat} {g : Unit → Nat → Nat → OR B} (k : i < T.length → op < 100 → Ends (g () (i + 1) (op + 1))) : Ends (obind (some (sBegin T x i op)) g) :=
  ends_bind ends_some fun v i1 op1 h1 => by
    injection h1 with h1
    obtain ⟨rfl, rfl, ho, hi⟩ := sBegin_ok h1
    exact k hi ho
theorem ex_ends (T : List Tok) : ∀ f : Nat, (∀ k i op, k ≤ 6 → i ≤ T.length → 10 * (T.length - i) + 20 - k ≤ f → Ends (eLev T f k i op)) ∧ (∀ k e i op, k ≤ 5 → i ≤ T.length → 10 * (T.length - i) + 11 ≤ f → Ends (eLoop T f k e i op)) ∧
    (∀ i op, i ≤ T.length → 10 * (T.length - i) + 13 ≤ f → Ends (eUnary T f i op)) ∧ (∀ i op, i ≤ T.length → 10 * (T.length - i) + 12 ≤ f → Ends (ePrim T f i op)) ∧ (∀ i op, i ≤ T.length → 10 * (T.length - i) + 11 ≤ f → Ends (eIndex T f i op)) ∧
    (∀ i op, i ≤ T.length → 10 * (T.length - i) + 12 ≤ f → Ends (eArgs T f i op)) ∧ (∀ acc i op, i ≤ T.length → 10 * (T.length - i) + 21 ≤ f → Ends (eArgsLoop T f acc i op))
  | 0 => ⟨fun _ _ _ _ _ _ => by omega, fun _ _ _ _ _ _ _ => by omega, fun _ _ _ _ => by omega, fun _ _ _ _ => by omega, fun _ _ _ _ => by omega, fun _ _ _ _ => by omega, fun _ _ _ _ _ => by omega⟩
  | f + 1 => by
    obtain ⟨hL, hO, hU, hP, hI, hA, hB⟩ := ex_ends T f
    obtain ⟨gL, gO, gU, gP, gI, gA, gB⟩ := ex_good T f
    have neg : ∀ (x nm : List UInt8) (i op : Nat), 10 * (T.length - i) + 13 ≤ f + 1 → Ends (obind (some (sBegin T x i op)) fun _ i' op' => obind (eUnary T f i' op') fun e i' op' => some (.ok (Ex.mk nm 0 [] [e]) i' (op' - 1))) := fun x nm i op hf =>
      ends_begin fun hi ho => ends_bind (hU _ _ (by omega) (by omega)) fun v i2 op2 _ => ends_some
    refine ⟨fun k i op hk hi hf => ?_, fun k e i op hk hi hf => ?_, fun i op hi hf => ?_, fun i op hi hf => ?_, fun i op hi hf => ?_, fun i op hi hf => ?_, fun acc i op hi hf => ?_⟩
    · rw [eLev]
      split
      · exact hU i op hi (by omega)
      · refine ends_bind (hL (k + 1) i op (by omega) hi (by omega)) fun v i' op' h => ?_
        obtain ⟨g1, g2, g3, rfl⟩ := gL (k + 1) i op _ h
        have := g2 rfl
        exact hO k v i' op' (by omega) (g3 hi) (by have := g3 hi; omega)
    · rw [eLoop]
      split
      · rename_i h
        have := isTok_lt h
        refine ends_bind (hL (k + 1) (i + 1) op (by omega) (by omega) (by omega)) fun v i' op' h => ?_
        obtain ⟨g1, g2, g3, rfl⟩ := gL (k + 1) (i + 1) op _ h
        have := g3 (by omega)
        split
        · exact ends_some
        · exact hO k _ i' op' hk this (by omega)
      · exact ends_some
    · rw [eUnary]
      split
      · exact neg _ _ _ _ hf
      · split
        · exact neg _ _ _ _ hf
        · exact hP i op hi (by omega)
    · rw [ePrim]
      split
      · exact ends_begin fun hlt ho => ends_bind (hL 0 _ _ (by omega) (by omega) (by omega)) fun v i2 op2 _ => ends_bind ends_some fun _ _ _ _ => ends_some
      · split
        · exact ends_bind ends_some fun _ _ _ _ => ends_some
        · refine ends_bind ends_some fun v i' op' h => ?_
          injection h with h
          have hg := sWord_good T 2 i op
          rw [h] at hg
          obtain ⟨h1, h2, h3, rfl⟩ := hg
          have := h2 rfl
          have := h3 hi
          split
          · exact ends_bind (hI i' _ (by omega) (by omega)) fun _ _ _ _ => ends_some
          · split
            · exact ends_bind (hA i' _ (by omega) (by omega)) fun _ _ _ _ => ends_some
            · exact ends_some
    · rw [eIndex]
      exact ends_begin fun hlt ho => ends_bind (hL 0 _ _ (by omega) (by omega) (by omega)) fun v i2 op2 _ => ends_bind ends_some fun _ _ _ _ => ends_some
    · rw [eArgs]
      exact ends_begin fun hlt ho => ends_bind (hB [] _ _ (by omega) (by omega)) fun v i2 op2 _ => ends_bind ends_some fun _ _ _ _ => ends_some
    · rw [eArgsLoop]
      split
      · exact ends_some
      · refine ends_bind ends_some fun v i' op' h => ?_
        have hg : i ≤ i' ∧ i' ≤ T.length := by
          injection h with h
          split at h
          · cases h; exact ⟨Nat.le_refl _, hi⟩
          · have hg := sNeed_good T [44] i op
            rw [h] at hg
            exact ⟨hg.1, hg.2.2.1 hi⟩
        refine ends_bind (hL 0 i' op' (by omega) hg.2 (by omega)) fun v2 i2 op2 h2 => ?_
        obtain ⟨g1, g2, g3, rfl⟩ := gL 0 i' op' _ h2
        have := g2 rfl
        have := g3 hg.2
        exact hB _ i2 _ this (by omega)
theorem st_ends (T : List Tok) : ∀ f : Nat, (∀ i op, i ≤ T.length → 10 * (T.length - i) + 5 ≤ f → Ends (sBlock T f i op)) ∧ (∀ acc i op, i ≤ T.length → 10 * (T.length - i) + 14 ≤ f → Ends (sStmts T f acc i op)) ∧
    (∀ i op, i ≤ T.length → 10 * (T.length - i) + 13 ≤ f → Ends (sStmt T f i op)) ∧ (∀ i op, i ≤ T.length → 10 * (T.length - i) + 12 ≤ f → Ends (sSimple T f i op))
  | 0 => ⟨fun _ _ _ _ => by omega, fun _ _ _ _ _ => by omega, fun _ _ _ _ => by omega, fun _ _ _ _ => by omega⟩
  | f + 1 => by
    obtain ⟨hB, hL, hS, hM⟩ := st_ends T f
    obtain ⟨eL, _, _, _, eI, eA, _⟩ := ex_ends T f
    obtain ⟨gL, _, _, _, gI, gA, _⟩ := ex_good T f
    obtain ⟨kB, kL, kS, kM⟩ := st_good T f
    refine ⟨fun i op hi hf => ?_, fun acc i op hi hf => ?_, fun i op hi hf => ?_, fun i op hi hf => ?_⟩
    · rw [sBlock]
      exact ends_begin fun hlt ho => ends_bind (hL [] _ _ (by omega) (by omega)) fun v i2 op2 _ => ends_bind ends_some fun _ _ _ _ => ends_some
    · rw [sStmts]
      split
      · exact ends_some
      · refine ends_bind (hS i op hi (by omega)) fun v i' op' h => ?_
        obtain ⟨g1, g2, g3, rfl⟩ := kS i op _ h
        have := g2 rfl
        have := g3 hi
        exact hL _ i' _ (by omega) (by omega)
    · rw [sStmt]
      split
      · rename_i h
        have := isTok_lt h
        refine ends_bind (eL 0 (i + 1) op (by omega) (by omega) (by omega)) fun v i' op' h => ?_
        obtain ⟨g1, g2, g3, rfl⟩ := gL 0 (i + 1) op _ h
        have := g2 rfl
        have := g3 (by omega)
        refine ends_bind (hB i' _ (by omega) (by omega)) fun v2 i2 op2 h2 => ?_
        obtain ⟨q1, q2, q3, rfl⟩ := kB i' _ _ h2
        have := q3 (by omega)
        split
        · rename_i h4
          have := isTok_lt h4
          exact ends_bind (hB (i2 + 1) _ (by omega) (by omega)) fun _ _ _ _ => ends_some
        · exact ends_some
      · split
        · rename_i h
          have := isTok_lt h
          refine ends_bind (eL 0 (i + 1) op (by omega) (by omega) (by omega)) fun v i' op' h => ?_
          obtain ⟨g1, g2, g3, rfl⟩ := gL 0 (i + 1) op _ h
          have := g2 rfl
          have := g3 (by omega)
          exact ends_bind (hB i' _ (by omega) (by omega)) fun v2 i2 op2 h2 => ends_some
        · exact ends_bind (hM i op hi (by omega)) fun _ _ _ _ => ends_bind ends_some fun _ _ _ _ => ends_some
    · rw [sSimple]
      split
      · rename_i h
        have := isTok_lt h
        exact ends_bind (eL 0 (i + 1) op (by omega) (by omega) (by omega)) fun _ _ _ _ => ends_some
      · split
        · exact ends_some
        · refine ends_bind ends_some fun v i' op' h => ?_
          injection h with h
          have hg := sWord_good T 2 i op
          rw [h] at hg
          obtain ⟨h1, h2, h3, rfl⟩ := hg
          have := h2 rfl
          have := h3 hi
          split
          · exact ends_bind (eA i' _ (by omega) (by omega)) fun _ _ _ _ => ends_some
          · have tail : ∀ (i2 op2 : Nat) (g : Ex → Sm), i' ≤ i2 → i2 ≤ T.length → Ends (obind (some (sNeed T [61] i2 op2)) fun _ i' op' => obind (eLev T f 0 i' op') fun e i' op' => some (.ok (g e) i' op')) := fun i2 op2 g hi1 hi2 => by
              refine ends_bind ends_some fun v i3 op3 h3 => ?_
              injection h3 with h3
              have hg := sNeed_good T [61] i2 op2
              rw [h3] at hg
              have := hg.2.2.1 hi2
              have := hg.1
              exact ends_bind (eL 0 i3 _ (by omega) (by omega) (by omega)) fun _ _ _ _ => ends_some
            split
            · refine ends_bind (eI i' _ (by omega) (by omega)) fun v2 i2 op2 h2 => ?_
              obtain ⟨q1, q2, q3, rfl⟩ := gI i' _ _ h2
              exact tail i2 _ _ q1 (q3 (by omega))
            · exact tail i' _ _ (Nat.le_refl _) (by omega)
theorem sNamesLoop_ends (T : List Tok) : ∀ (f : Nat) (acc : List (List UInt8)) (i op : Nat), i ≤ T.length → T.length - i + 1 ≤ f → Ends (sNamesLoop T f acc i op)
  | 0, _, _, _, _, h => by omega
  | f + 1, acc, i, op, hi, hf => by
    rw [sNamesLoop]
    split
    · rename_i h
      have := isTok_lt h
      refine ends_bind ends_some fun v i' op' h => ?_
      injection h with h
      have hg := sWord_good T 2 (i + 1) op
      rw [h] at hg
      obtain ⟨h1, h2, h3, rfl⟩ := hg
      exact sNamesLoop_ends T f _ i' _ (h3 (by omega)) (by have := h3 (by omega); omega)
    · exact ends_some
theorem sNames_ends (T : List Tok) (f i op : Nat) (hi : i ≤ T.length) (hf : T.length - i + 1 ≤ f) : Ends (sNames T f i op) :=
  ends_bind ends_some fun v i' op' h => by
    injection h with h
    have hg := sWord_good T 2 i op
    rw [h] at hg
    obtain ⟨h1, h2, h3, rfl⟩ := hg
    exact sNamesLoop_ends T f _ i' _ (h3 hi) (by have := h3 hi; omega)
theorem sVars_ends (T : List Tok) : ∀ (f : Nat) (acc : List (List UInt8)) (i op : Nat), i ≤ T.length → T.length - i + 2 ≤ f → Ends (sVars T f acc i op)
  | 0, _, _, _, _, h => by omega
  | f + 1, acc, i, op, hi, hf => by
    rw [sVars]
    split
    · rename_i h
      have := isTok_lt h
      refine ends_bind (sNames_ends T f (i + 1) op (by omega) (by omega)) fun v i' op' h => ?_
      obtain ⟨g1, g2, g3, rfl⟩ := sNames_good T f (i + 1) op _ h
      have := g3 (by omega)
      refine ends_bind ends_some fun v i2 op2 h2 => ?_
      injection h2 with h2
      have hg := sNeed_good T [59] i' op'
      rw [h2] at hg
      obtain ⟨h1, h2, h3, rfl⟩ := hg
      have := h3 (by omega)
      exact sVars_ends T f _ i2 _ (by omega) (by omega)
    · exact ends_some
theorem obind_word {B : Type} {T : List Tok} {k : Int} {i op : Nat} {g : List UInt8 → Nat → Nat → OR B} (h : ∀ s, i < T.length → Ends (g s (i + 1) op)) : Ends (obind (some (sWord T k i op)) g) :=
  ends_bind ends_some fun v i' op' hw => by
    injection hw with hw
    unfold sWord at hw
    split at hw
    · rename_i t ht
      have := get_lt ht
      split at hw
      · cases hw; exact h _ this
      · cases hw
    · cases hw
theorem obind_end {B : Type} {T : List Tok} {x : List UInt8} {i op : Nat} {g : Unit → Nat → Nat → OR B} (h : i < T.length → Ends (g () (i + 1) (op - 1))) : Ends (obind (some (sEnd T x i op)) g) :=
  ends_bind ends_some fun v i' op' hw => by
    injection hw with hw
    obtain ⟨rfl, rfl, hlt⟩ := sEnd_ok hw
    exact h hlt
theorem sFunc_ends (T : List Tok) (f i op : Nat) (hi : i ≤ T.length) (hf : 10 * (T.length - i) + 14 ≤ f) : Ends (sFunc T f i op) := by
  unfold sFunc
  refine obind_word fun s h1 => ends_begin fun h2 h3 => ends_bind ?_ fun v i2 op2 h4 => obind_end fun h5 => ends_begin fun h6 h7 => ends_bind (sVars_ends T f [] _ _ (by omega) ?_) fun v2 i3 op3 h8 => ends_bind ((st_ends T f).2.1 [] _ _ ?_ ?_) fun v3 i4 op4 h9 => ends_bind ends_some fun _ _ _ _ => ends_some
  · split
    · exact ends_some
    · exact sNames_ends T f _ _ (by omega) (by omega)
  · have : i + 1 + 1 ≤ i2 := by
      split at h4
      · cases h4; omega
      · exact (sNames_good T f _ _ _ h4).1
    omega
  · exact (sVars_good T f _ _ _ _ h8).2.2.1 (by omega)
  · have : i + 1 + 1 ≤ i2 := by
      split at h4
      · cases h4; omega
      · exact (sNames_good T f _ _ _ h4).1
    have := (sVars_good T f _ _ _ _ h8).1
    omega
theorem sFunc_good (T : List Tok) (f i op : Nat) : GoodO T true i op (sFunc T f i op) := by
  intro q hq0
  unfold sFunc at hq0
  cases q with
  | err l e => trivial
  | ok v i9 op9 =>
    rcases obind_some hq0 with ⟨s, i1, op1, h1, hq1⟩ | ⟨l, e, _, h⟩
    · injection h1 with h1
      have g1 := sWord_good T 2 i op
      rw [h1] at g1
      obtain ⟨a1, a2, a3, rfl⟩ := g1
      have := a2 rfl
      rcases obind_some hq1 with ⟨_, i2, op2, h2, hq2⟩ | ⟨l, e, _, h⟩
      · injection h2 with h2
        obtain ⟨rfl, rfl, b1, b2⟩ := sBegin_ok h2
        rcases obind_some hq2 with ⟨ps, i3, op3, h3, hq3⟩ | ⟨l, e, _, h⟩
        · have c : i1 + 1 ≤ i3 ∧ (i1 + 1 ≤ T.length → i3 ≤ T.length) ∧ op3 = op1 + 1 := by
            split at h3
            · cases h3; exact ⟨Nat.le_refl _, fun h => h, rfl⟩
            · obtain ⟨c1, _, c3, c4⟩ := sNames_good T f _ _ _ h3
              exact ⟨c1, c3, c4⟩
          obtain ⟨c1, c2, rfl⟩ := c
          rcases obind_some hq3 with ⟨_, i4, op4, h4, hq4⟩ | ⟨l, e, _, h⟩
          · injection h4 with h4
            obtain ⟨rfl, rfl, d1⟩ := sEnd_ok h4
            rcases obind_some hq4 with ⟨_, i5, op5, h5, hq5⟩ | ⟨l, e, _, h⟩
            · injection h5 with h5
              obtain ⟨rfl, rfl, e1, e2⟩ := sBegin_ok h5
              rcases obind_some hq5 with ⟨ls, i6, op6, h6, hq6⟩ | ⟨l, e, _, h⟩
              · obtain ⟨f1, _, f3, rfl⟩ := sVars_good T f _ _ _ _ h6
                have := f3 (by omega)
                rcases obind_some hq6 with ⟨bs, i7, op7, h7, hq7⟩ | ⟨l, e, _, h⟩
                · obtain ⟨k1, _, k3, rfl⟩ := (st_good T f).2.1 _ _ _ _ h7
                  have := k3 (by omega)
                  rcases obind_some hq7 with ⟨_, i8, op8, h8, hq8⟩ | ⟨l, e, _, h⟩
                  · injection h8 with h8
                    obtain ⟨rfl, rfl, m1⟩ := sEnd_ok h8
                    cases hq8
                    exact ⟨by omega, fun _ => by omega, fun _ => by omega, by omega⟩
                  · cases h
                · cases h
              · cases h
            · cases h
          · cases h
        · cases h
      · cases h
    · cases h
theorem sArray_good (T : List Tok) (i op : Nat) : GoodO T true i op (sArray T i op) := by
  intro q hq0
  unfold sArray at hq0
  cases q with
  | err l e => trivial
  | ok v i9 op9 =>
    rcases obind_some hq0 with ⟨s, i1, op1, h1, hq1⟩ | ⟨l, e, _, h⟩
    · injection h1 with h1
      have g1 := sWord_good T 2 i op
      rw [h1] at g1
      obtain ⟨a1, a2, a3, rfl⟩ := g1
      have := a2 rfl
      rcases obind_some hq1 with ⟨_, i2, op2, h2, hq2⟩ | ⟨l, e, _, h⟩
      · injection h2 with h2
        obtain ⟨rfl, rfl, b1, b2⟩ := sBegin_ok h2
        rcases obind_some hq2 with ⟨ps, i3, op3, h3, hq3⟩ | ⟨l, e, _, h⟩
        · injection h3 with h3
          have g3 := sNumber_good T (i1 + 1) (op1 + 1)
          rw [h3] at g3
          obtain ⟨c1, c2, c3, rfl⟩ := g3
          have := c2 rfl
          rcases obind_some hq3 with ⟨_, i4, op4, h4, hq4⟩ | ⟨l, e, _, h⟩
          · injection h4 with h4
            obtain ⟨rfl, rfl, d1⟩ := sEnd_ok h4
            rcases obind_some hq4 with ⟨_, i5, op5, h5, hq5⟩ | ⟨l, e, _, h⟩
            · injection h5 with h5
              have g5 := sNeed_good T [59] (i3 + 1) op4
              rw [h5] at g5
              obtain ⟨e1, e2, e3, rfl⟩ := g5
              have := e2 rfl
              have := e3 (by omega)
              cases hq5
              exact ⟨by omega, fun _ => by omega, fun _ => by omega, by omega⟩
            · cases h
          · cases h
        · cases h
      · cases h
    · cases h
theorem sArray_ends (T : List Tok) (i op : Nat) : Ends (sArray T i op) := by
  unfold sArray
  exact obind_word fun s _ => ends_begin fun _ _ => ends_bind ends_some fun _ _ _ _ => ends_bind ends_some fun _ _ _ _ => ends_bind ends_some fun _ _ _ _ => ends_some
theorem sProg_ends (T : List Tok) : ∀ (f : Nat) (p : Pr) (i op : Nat), i ≤ T.length → 10 * (T.length - i) + 20 ≤ f → Ends (sProg T f p i op)
  | 0, _, _, _, _, h => by omega
  | f + 1, p, i, op, hi, hf => by
    rw [sProg]
    split
    · exact ends_some
    · split
      · rename_i h
        have := isTok_lt h
        refine ends_bind (sVars_ends T f _ i op hi (by omega)) fun v i' op' h2 => ?_
        obtain ⟨g1, g2, g3, rfl⟩ := sVars_good T f _ i op _ h2
        have := g2 h
        have := g3 hi
        exact sProg_ends T f _ i' _ (by omega) (by omega)
      · split
        · rename_i h
          have := isTok_lt h
          refine ends_bind (sArray_ends T _ _) fun v i' op' h2 => ?_
          obtain ⟨g1, g2, g3, rfl⟩ := sArray_good T _ _ _ h2
          have := g3 (by omega)
          exact sProg_ends T f _ i' _ (by omega) (by omega)
        · split
          · rename_i h
            have := isTok_lt h
            refine ends_bind (sFunc_ends T f _ _ (by omega) (by omega)) fun v i' op' h2 => ?_
            obtain ⟨g1, g2, g3, rfl⟩ := sFunc_good T f _ _ _ h2
            have := g3 (by omega)
            exact sProg_ends T f _ i' _ (by omega) (by omega)
          · exact ends_some
end Go.Stele
namespace Go.Proofs.YtfodkbchknknjaaGreatDoor
open Go.GL Go.RowKit Go.Stele
set_option maxRecDepth 100000
set_option maxHeartbeats 4000000
attribute [local irreducible] LOps LCode LStep LCalls Go.GL.Pure QThen QBlock RetPost LQ LAny LLate LLateOp
theorem obind_ok {A B : Type} {v : A} {i op : Nat} {f : A → Nat → Nat → OR B} : obind (some (.ok v i op)) f = f v i op := rfl
theorem obind_err {A B : Type} {l e : Int} {f : A → Nat → Nat → OR B} : obind (some (.err l e)) f = some (.err l e) := rfl
theorem obind_is {A B : Type} {r : OR A} {f : A → Nat → Nat → OR B} {q : Res B} (h : obind r f = some q) : ∃ r1, r = some r1 := by
  cases r with
  | none => cases h
  | some r1 => exact ⟨r1, rfl⟩
/-- The tokens that a parser works on: not too many, and each number's text is a number. -/
structure TOK (T : List Tok) : Prop where
  len : T.length ≤ 100000
  txt : ∀ t ∈ T, t.text.length ≤ 100000
  num : ∀ t ∈ T, t.kind = 1 → ∃ u, u < 4294967296 ∧ Go.Lib.parseUintB 32 t.text = .ok u
theorem wrap_u32 {n : Int} (h : 0 ≤ n ∧ n ≤ 4294967295) : IntKind.u32.wrap n = n := by
  simp only [IntKind.wrap, IntKind.bits, IntKind.signed, Bool.false_and]
  simp
  omega
theorem sWord_ok {T : List Tok} {k : Int} {i op i' op' : Nat} {s : List UInt8} (h : sWord T k i op = .ok s i' op') : i' = i + 1 ∧ op' = op ∧ ∃ t, T[i]? = some t ∧ t.kind = k ∧ t.text = s := by
  unfold sWord at h
  split at h
  · rename_i t ht
    split at h
    · rename_i hk
      cases h
      exact ⟨rfl, rfl, t, ht, hk, rfl⟩
    · cases h
  · cases h
def encNames (l : List (List UInt8)) : LV := .list (l.map str)
def encN (n : Nat) : LV := int .u32 n
def ExprC (B0 : Nat) (w0 : World) (sb : Nat) (T : List Tok) (f : Nat) : Prop :=
  ∀ i op r, i ≤ T.length → op ≤ 100 → eLev T f 0 i op = some r → LCalls (KC B0 w0) 144 [ptr sb 0] [srcH sb T i op] (PostP sb T encE r)
section
variable {B0 : Nat} {w0 : World}
theorem number_specP (hG : GW B0 w0) (sb : Nat) (T : List Tok) (hT : TOK T) (i op : Nat) (hi : i ≤ 1000000) : LCalls (KC B0 w0) 98 [ptr sb 0] [srcH sb T i op] (PostP sb T encN (sNumber T i op)) := by
  have hl := hT.len
  refine LCalls.intro Tryz.func98 rfl (n := 13) rfl rfl rfl ?_
  repeat first
    | refine LOps.nil ?_
    | refine LCode.seq ?_
    | refine LCode.region ?_
    | refine QThen.normal ?_
    | refine LOps.pure (Pure.as (lv := .atom _) rfl) rfl ?_
    | refine LOps.pure (Pure.mv (lv := .atom _) rfl) rfl ?_
  refine LOps.step (S.callP [_, _] rfl Pick.here (word_spec sb T i op 1 hl hi) (fun s i1 op1 h1 => ?_) (fun l er i1 op1 h1 e' he' => ?_)) rfl
  · obtain ⟨rfl, rfl, t, ht, hk, rfl⟩ := sWord_ok h1
    have hmem := List.mem_of_getElem? ht
    obtain ⟨u, hu, hp⟩ := hT.num t hmem hk
    have htx := hT.txt t hmem
    have hn : numOf t.text = u := by rw [numOf, hp]
    have hw : IntKind.u32.wrap (u : Int) = (u : Int) := wrap_u32 (by omega)
    refine LOps.step (S.fn [_, _, _] rfl (parseUint_ok t.text (by omega) u hp) ?_) rfl
    repeat first
      | refine LOps.nil ?_
      | refine LCode.seq ?_
      | refine LCode.region ?_
      | refine LCode.ret ?_
      | refine QThen.normal ?_
      | refine LOps.pure (Pure.as (lv := .atom _) rfl) rfl ?_
      | refine LOps.pure (Pure.mv (lv := .atom _) rfl) rfl ?_
      | refine LOps.pure (Pure.mv (lv := .tuple _) rfl) rfl ?_
      | refine LOps.pure (Pure.extract (c := .atom _) rfl rfl) rfl ?_
      | refine LOps.pure (Pure.cvt rfl) rfl ?_
    exact retP (v := numOf t.text) rfl (AllRes.cons (ResIs.tmp (v := .atom _) rfl (LV.Sub.refl _)) AllRes.nil) (by rw [sNumber, h1]; rfl) (by rw [hn]; exact int_eq hw) (HSub.refl _)
  · repeat first
      | refine QThen.panic ?_
    exact panP (he'.trans rfl) (by rw [sNumber, h1]; rfl) (HSub.refl _)
theorem names_specP (sb : Nat) (T : List Tok) (hT : TOK T) (f i op : Nat) (r : Res (List (List UInt8))) (hi : i ≤ T.length) (hr : sNames T f i op = some r) :
    LCalls (KC B0 w0) 94 [ptr sb 0] [srcH sb T i op] (PostP sb T encNames r) := by
  have hl := hT.len
  rw [sNames] at hr
  refine LCalls.intro Tryz.func94 rfl (n := 15) rfl rfl rfl ?_
  repeat first
    | refine LOps.nil ?_
    | refine LCode.seq ?_
    | refine LCode.region ?_
    | refine QThen.normal ?_
    | refine LOps.pure (Pure.as (lv := .atom _) rfl) rfl ?_
    | refine LOps.pure (Pure.mv (lv := .atom _) rfl) rfl ?_
  refine LOps.step (S.callP [_, _] rfl Pick.here (word_spec sb T i op 2 hl (by omega)) (fun s i1 op1 h1 => ?_) (fun l er i1 op1 h1 e' he' => ?_)) rfl
  · rw [h1, obind_ok] at hr
    have hi1 : i1 ≤ T.length := by
      have := sWord_good T 2 i op
      rw [h1] at this
      exact this.2.2.1 hi
    refine LOps.step (S.litA [_] rfl (elemsOk.cons rfl rfl elemsOk.nil) rfl rfl rfl fun b => ?_) rfl
    repeat first
      | refine LOps.nil ?_
      | refine LCode.seq ?_
      | refine LCode.block ?_
      | refine QThen.normal ?_
      | refine LOps.pure (Pure.as (lv := .app _ _ _ _) rfl) rfl ?_
    refine LCode.loopI (fun k ls H => ∃ (v : LV) (l : List (List UInt8)) (i2 : Nat) (Ha : Heap), ls = [(0, ptr sb 0), (3, v)] ∧ H = srcH sb T i2 op1 :: Ha ∧ Acc 1 v (l.map str) Ha [] ∧ i2 ≤ T.length ∧ l.length ≤ i2 + 1 ∧ sNamesLoop T k l i2 op1 = some r)
      ⟨f, _, srcH sb T i1 op1 :: [(b, .row 1)], ⟨.app b 1 1 [str s], [s], i1, _, rfl, rfl, Acc.row, hi1, by simp, hr⟩, ⟨rfl, rfl, trivial⟩, HSub.pick (Pick.there Pick.here) (HSub.refl _)⟩ ?_
    rintro k ls H ⟨v, l, i2, Ha, rfl, rfl, hacc, hi2, hll, hI⟩ j hj
    obtain ⟨k, rfl⟩ : ∃ k', k = k' + 1 := by
      cases k with
      | zero => rw [sNamesLoop] at hI; cases hI
      | succ k => exact ⟨k, rfl⟩
    rw [sNamesLoop] at hI
    repeat first
      | refine LCode.seq ?_
      | refine LCode.region ?_
      | refine LOps.pure (Pure.mv (lv := .atom _) rfl) rfl ?_
    refine LOps.step (S.fnH [_, _] rfl Pick.here (take_spec sb T i2 op1 [44] hl (by omega)) ?_) rfl
    repeat first
      | refine LOps.nil ?_
      | refine QThen.normal ?_
    refine LCode.cond rfl (fun hc => ?_) (fun hc => ?_)
    · have hlt := isTok_lt hc
      rw [if_pos hc] at hI
      simp only [hc, if_true]
      repeat first
        | refine LCode.region ?_
        | refine LCode.skip ?_
        | refine LCode.block ?_
        | refine QThen.normal ?_
      refine LOps.pure (Pure.mv (lv := v) rfl) rfl ?_
      repeat first
        | refine LOps.pure (Pure.mv (lv := .atom _) rfl) rfl ?_
      refine LOps.step (S.callP [_, _] rfl Pick.here (word_spec sb T (i2 + 1) op1 2 hl (by omega)) (fun s2 i3 op3 h3 => ?_) (fun l er i3 op3 h3 e' he' => ?_)) rfl
      · rw [h3, obind_ok] at hI
        obtain ⟨rfl, rfl, t, ht, _, _⟩ := sWord_ok h3
        have := get_lt ht
        refine LOps.step (S.lit [_] rfl (elemsOk.cons rfl rfl elemsOk.nil) rfl rfl rfl ?_) rfl
        refine LOps.step (S.acc1 rfl hacc rfl (by simp; rfl) rfl (by simp; omega) fun v' H' hacc' => ?_) rfl
        refine LOps.pure (Pure.as (lv := v') rfl) rfl ?_
        repeat first
          | refine LOps.nil ?_
          | refine QThen.normal ?_
          | refine QBlock.normal ?_
        exact ⟨k, _, _, by omega, ⟨v', l ++ [s2], i2 + 1 + 1, H', rfl, rfl, by rw [List.map_append]; exact hacc', by omega, by simp; omega, hI⟩, ⟨rfl, rfl, trivial⟩, HSub.refl _, hj⟩
      · rw [h3, obind_err] at hI
        repeat first
          | refine QThen.panic ?_
          | refine QBlock.panic ?_
        exact panP (he'.trans hj) (by cases hI; rfl) (HSub.pick Pick.here (HSub.nil _))
    · have hc' : isTok T i2 [[44]] = false := hc
      rw [if_neg (by rw [hc']; decide)] at hI
      simp only [hc', Bool.false_eq_true, if_false]
      repeat first
        | refine LCode.seq ?_
        | refine LCode.region ?_
        | refine LCode.exit ?_
        | refine QThen.normal ?_
        | refine QThen.exit ?_
        | refine QBlock.hit ?_
      refine LOps.pure (Pure.mv (lv := v) rfl) rfl ?_
      refine LOps.pure (Pure.as (lv := v) rfl) rfl ?_
      repeat first
        | refine LOps.nil ?_
        | refine LCode.ret ?_
        | refine QThen.normal ?_
      exact retP (v := l) hj (AllRes.cons (ResIs.tmp (v := v) rfl hacc.sub) AllRes.nil) (by cases hI; rfl) rfl (HSub.pick Pick.here (HSub.nil _))
  · rw [h1, obind_err] at hr
    repeat first
      | refine QThen.panic ?_
    exact panP (he'.trans rfl) (by cases hr; rfl) (HSub.pick Pick.here (HSub.nil _))
theorem index_spec (sb : Nat) (T : List Tok) (hT : TOK T) (f : Nat) (hE : ExprC B0 w0 sb T f) (i op : Nat) (r : Res Ex) (hi : i ≤ T.length) (ho : op ≤ 100) (hr : eIndex T (f + 1) i op = some r) :
    LCalls (KC B0 w0) 168 [ptr sb 0] [srcH sb T i op] (PostP sb T encE r) := by
  have hl := hT.len
  rw [eIndex] at hr
  refine LCalls.intro Tryz.func168 rfl (n := 11) rfl rfl rfl ?_
  repeat first
    | refine LCode.seq ?_
    | refine LCode.region ?_
  refine LOps.step (S.alloc fun b => ?_) rfl
  repeat first
    | refine LOps.nil ?_
    | refine LCode.seq ?_
    | refine LCode.region ?_
    | refine QThen.normal ?_
    | refine LOps.pure (Pure.mv (lv := .atom _) rfl) rfl ?_
  refine LOps.step (S.callP [_, _] rfl (Pick.there Pick.here) (begin_spec sb T i op [91] hl (by omega) (by omega)) (fun v i1 op1 h1 => ?_) (fun l er i1 op1 h1 e' he' => ?_)) rfl
  · rw [h1, obind_ok] at hr
    obtain ⟨rfl, rfl, ho1, hi1⟩ := sBegin_ok h1
    repeat first
      | refine LOps.nil ?_
      | refine LCode.seq ?_
      | refine LCode.region ?_
      | refine QThen.normal ?_
      | refine LOps.pure (Pure.mv (lv := .atom _) rfl) rfl ?_
    obtain ⟨r1, hr1⟩ := obind_is hr
    refine LOps.step (S.callP [_] rfl Pick.here (hE _ _ r1 (by omega) (by omega) hr1) (fun v i2 op2 h2 => ?_) (fun l er i2 op2 h2 e' he' => ?_)) rfl
    · rw [hr1, h2, obind_ok] at hr
      obtain ⟨g1, _, g3, rfl⟩ := (ex_good T f).1 0 _ _ _ (hr1.trans (congrArg some h2))
      have g4 := g3 (by omega)
      refine LOps.step (S.alloc fun b2 => ?_) rfl
      repeat first
        | refine LOps.nil ?_
        | refine LCode.seq ?_
        | refine LCode.region ?_
        | refine QThen.normal ?_
        | refine LOps.pure (Pure.mv (lv := .atom _) rfl) rfl ?_
        | refine LOps.step (S.store (cs' := [_, _, _, _]) rfl Pick.here rfl rfl rfl rfl rfl ?_) rfl
      refine LOps.step (S.callP [_, _] rfl (Pick.there Pick.here) (end_spec sb T i2 (op + 1) [93] hl (by omega) (by omega) (by omega)) (fun u i3 op3 h3 => ?_) (fun l er i3 op3 h3 e' he' => ?_)) rfl
      · rw [h3, obind_ok] at hr
        repeat first
          | refine LOps.nil ?_
          | refine LCode.seq ?_
          | refine LCode.region ?_
          | refine LCode.ret ?_
          | refine QThen.normal ?_
          | refine LOps.pure (Pure.ldHAgg (cs' := [_, _, _, _]) rfl (List.Mem.tail _ (List.Mem.head _)) rfl rfl) rfl ?_
          | refine LOps.step (S.store (cs' := [_, _, _, _]) rfl (Pick.there (Pick.there Pick.here)) rfl rfl rfl rfl rfl ?_) rfl
        exact retP rfl (AllRes.cons (ResIs.cellAgg rfl (List.Mem.head _) rfl (LV.Sub.refl _)) AllRes.nil) (by cases hr; rfl) rfl (HSub.drop (HSub.pick Pick.here (HSub.nil _)))
      · rw [h3, obind_err] at hr
        repeat first
          | refine QThen.panic ?_
        exact panP (he'.trans rfl) (by cases hr; rfl) (HSub.pick Pick.here (HSub.nil _))
    · rw [hr1, h2, obind_err] at hr
      repeat first
        | refine QThen.panic ?_
      exact panP (he'.trans rfl) (by cases hr; rfl) (HSub.pick Pick.here (HSub.nil _))
  · rw [h1, obind_err] at hr
    repeat first
      | refine QThen.panic ?_
    exact panP (he'.trans rfl) (by cases hr; rfl) (HSub.pick Pick.here (HSub.nil _))
end
end Go.Proofs.YtfodkbchknknjaaGreatDoor
namespace Go.Proofs.YtfodkbchknknjaaGreatDoor
open Go.GL Go.RowKit Go.Stele
set_option maxRecDepth 100000
set_option maxHeartbeats 4000000
attribute [local irreducible] LOps LCode LStep LCalls Go.GL.Pure QThen QBlock RetPost LQ LAny LLate LLateOp
def encEL (l : List Ex) : LV := .list (l.map encE)
section
variable {B0 : Nat} {w0 : World}
theorem args_spec (sb : Nat) (T : List Tok) (hT : TOK T) (f : Nat) (hE : ∀ g, g < f → ExprC B0 w0 sb T g) (i op : Nat) (r : Res (List Ex)) (hi : i ≤ T.length) (ho : op ≤ 100) (hr : eArgs T f i op = some r) :
    LCalls (KC B0 w0) 167 [ptr sb 0] [srcH sb T i op] (PostP sb T encEL r) := by
  have hl := hT.len
  obtain ⟨f, rfl⟩ : ∃ g, f = g + 1 := by
    cases f with
    | zero => rw [eArgs] at hr; cases hr
    | succ g => exact ⟨g, rfl⟩
  rw [eArgs] at hr
  refine LCalls.intro Tryz.func167 rfl (n := 23) rfl rfl rfl ?_
  repeat first
    | refine LOps.nil ?_
    | refine LCode.seq ?_
    | refine LCode.region ?_
    | refine QThen.normal ?_
    | refine LOps.pure (Pure.as (lv := .atom _) rfl) rfl ?_
    | refine LOps.pure (Pure.mv (lv := .atom _) rfl) rfl ?_
  refine LOps.step (S.callP [_, _] rfl Pick.here (begin_spec sb T i op [40] hl (by omega) (by omega)) (fun v i1 op1 h1 => ?_) (fun l er i1 op1 h1 e' he' => ?_)) rfl
  · rw [h1, obind_ok] at hr
    obtain ⟨rfl, rfl, ho1, hi1⟩ := sBegin_ok h1
    repeat first
      | refine LOps.nil ?_
      | refine LCode.seq ?_
      | refine LCode.region ?_
      | refine LCode.block ?_
      | refine QThen.normal ?_
      | refine LOps.pure (Pure.as (lv := .atom _) rfl) rfl ?_
    obtain ⟨r1, hr1⟩ := obind_is hr
    refine LCode.loopI (fun k ls H => ∃ (v : LV) (l : List Ex) (i2 : Nat) (Ha : Heap), k ≤ f ∧ ls = [(0, ptr sb 0), (3, v)] ∧ H = srcH sb T i2 (op + 1) :: Ha ∧ Acc 4 v (l.map encE) Ha [] ∧ i2 ≤ T.length ∧ l.length ≤ i2 + 1 ∧ eArgsLoop T k l i2 (op + 1) = some r1)
      ⟨f, _, srcH sb T (i + 1) (op + 1) :: [], ⟨nilSlice, [], i + 1, _, Nat.le_refl _, rfl, rfl, Acc.nil, by omega, by simp, hr1⟩, ⟨rfl, rfl, trivial⟩, HSub.refl _⟩ ?_
    rintro k ls H ⟨v, l, i2, Ha, hkf, rfl, rfl, hacc, hi2, hll, hI⟩ j hj
    obtain ⟨k, rfl⟩ : ∃ k', k = k' + 1 := by
      cases k with
      | zero => rw [eArgsLoop] at hI; cases hI
      | succ k => exact ⟨k, rfl⟩
    rw [eArgsLoop] at hI
    repeat first
      | refine LCode.seq ?_
      | refine LCode.region ?_
      | refine LOps.pure (Pure.mv (lv := .atom _) rfl) rfl ?_
    refine LOps.step (S.lit [_] rfl (elemsOk.cons rfl rfl elemsOk.nil) rfl rfl rfl ?_) rfl
    refine LOps.step (S.fnH [_, _] rfl Pick.here (is_spec sb T i2 (op + 1) [[41]] hl (by omega) (by simp)) ?_) rfl
    repeat first
      | refine LOps.nil ?_
      | refine QThen.normal ?_
      | refine LOps.pure (Pure.not rfl) rfl ?_
    refine LCode.cond rfl (fun hc => ?_) (fun hc => ?_)
    · have hc' : isTok T i2 [[41]] = false := by simpa using hc
      rw [if_neg (by rw [hc']; decide)] at hI
      repeat first
        | refine LCode.seq ?_
        | refine LCode.region ?_
        | refine LCode.skip ?_
        | refine LCode.block ?_
        | refine QThen.normal ?_
      refine LOps.pure (Pure.mv (lv := v) rfl) rfl ?_
      refine LOps.pure (Pure.llen hacc.elems) rfl ?_
      repeat first
        | refine LOps.nil ?_
        | refine QThen.normal ?_
        | refine LOps.pure (Pure.gtr rfl rfl) rfl ?_
      refine LCode.cond rfl (fun hd => ?_) (fun hd => ?_)
      · have hl0 : ¬ l = [] := by
          rintro rfl
          have := of_decide_eq_true hd
          simp at this
        rw [if_neg hl0] at hI
        repeat first
          | refine LCode.region ?_
          | refine LOps.pure (Pure.mv (lv := .atom _) rfl) rfl ?_
        refine LOps.step (S.callP [_, _] rfl Pick.here (need_spec sb T i2 (op + 1) [44] hl (by omega)) (fun u i3 op3 h3 => ?_) (fun l er i3 op3 h3 e' he' => ?_)) rfl
        · rw [h3, obind_ok] at hI
          obtain ⟨q1, q2, q3, rfl⟩ : i2 ≤ i3 ∧ (true = true → i2 < i3) ∧ (i2 ≤ T.length → i3 ≤ T.length) ∧ op3 = op + 1 := by
            have := sNeed_good T [44] i2 (op + 1)
            rw [h3] at this
            exact this
          have q4 := q3 hi2
          repeat first
            | refine LOps.nil ?_
            | refine LCode.region ?_
            | refine QThen.normal ?_
          refine LOps.pure (Pure.mv (lv := v) rfl) rfl ?_
          repeat first
            | refine LOps.pure (Pure.mv (lv := .atom _) rfl) rfl ?_
          obtain ⟨r2, hr2⟩ := obind_is hI
          refine LOps.step (S.callP [_] rfl Pick.here (hE k (by omega) _ _ r2 (by omega) (by omega) hr2) (fun e2 i4 op4 h4 => ?_) (fun l er i4 op4 h4 e' he' => ?_)) rfl
          · rw [hr2, h4, obind_ok] at hI
            obtain ⟨g1, g2, g3, rfl⟩ := (ex_good T k).1 0 _ _ _ (hr2.trans (congrArg some h4))
            have g5 := g3 (by omega)
            have g6 := g2 rfl
            refine LOps.step (S.lit [_] rfl (elemsOk.cons rfl rfl elemsOk.nil) rfl rfl rfl ?_) rfl
            refine LOps.step (S.acc1 rfl hacc rfl (by simp; rfl) rfl (by simp; omega) fun v' H' hacc' => ?_) rfl
            refine LOps.pure (Pure.as (lv := v') rfl) rfl ?_
            repeat first
              | refine LOps.nil ?_
              | refine QThen.normal ?_
              | refine QBlock.normal ?_
            exact ⟨k, _, _, by omega, ⟨v', l ++ [e2], i4, H', by omega, rfl, rfl, by rw [List.map_append]; exact hacc', by omega, by simp; omega, hI⟩, ⟨rfl, rfl, trivial⟩, HSub.refl _, hj⟩
          · rw [hr2, h4, obind_err] at hI
            rw [hr1] at hr
            cases hI
            rw [obind_err] at hr
            repeat first
              | refine QThen.panic ?_
              | refine QBlock.panic ?_
            exact panP (he'.trans hj) (by cases hr; rfl) (HSub.pick Pick.here (HSub.nil _))
        · rw [h3, obind_err] at hI
          rw [hr1] at hr
          cases hI
          rw [obind_err] at hr
          repeat first
            | refine QThen.panic ?_
            | refine QBlock.panic ?_
          exact panP (he'.trans hj) (by cases hr; rfl) (HSub.pick Pick.here (HSub.nil _))
      · have hl0 : l = [] := by
          have := of_decide_eq_false hd
          simp at this
          exact this
        rw [if_pos hl0, obind_ok] at hI
        repeat first
          | refine LCode.region ?_
          | refine LCode.skip ?_
          | refine QThen.normal ?_
        refine LOps.pure (Pure.mv (lv := v) rfl) rfl ?_
        repeat first
          | refine LOps.pure (Pure.mv (lv := .atom _) rfl) rfl ?_
        obtain ⟨r2, hr2⟩ := obind_is hI
        refine LOps.step (S.callP [_] rfl Pick.here (hE k (by omega) _ _ r2 (by omega) (by omega) hr2) (fun e2 i4 op4 h4 => ?_) (fun l er i4 op4 h4 e' he' => ?_)) rfl
        · rw [hr2, h4, obind_ok] at hI
          obtain ⟨g1, g2, g3, rfl⟩ := (ex_good T k).1 0 _ _ _ (hr2.trans (congrArg some h4))
          have g5 := g3 (by omega)
          have g6 := g2 rfl
          refine LOps.step (S.lit [_] rfl (elemsOk.cons rfl rfl elemsOk.nil) rfl rfl rfl ?_) rfl
          refine LOps.step (S.acc1 rfl hacc rfl (by simp; rfl) rfl (by simp; omega) fun v' H' hacc' => ?_) rfl
          refine LOps.pure (Pure.as (lv := v') rfl) rfl ?_
          repeat first
            | refine LOps.nil ?_
            | refine QThen.normal ?_
            | refine QBlock.normal ?_
          exact ⟨k, _, _, by omega, ⟨v', l ++ [e2], i4, H', by omega, rfl, rfl, by rw [List.map_append]; exact hacc', by omega, by simp; omega, hI⟩, ⟨rfl, rfl, trivial⟩, HSub.refl _, hj⟩
        · rw [hr2, h4, obind_err] at hI
          rw [hr1] at hr
          cases hI
          rw [obind_err] at hr
          repeat first
            | refine QThen.panic ?_
            | refine QBlock.panic ?_
          exact panP (he'.trans hj) (by cases hr; rfl) (HSub.pick Pick.here (HSub.nil _))
    · have hc' : isTok T i2 [[41]] = true := by simpa using hc
      rw [if_pos hc'] at hI
      repeat first
        | refine LCode.seq ?_
        | refine LCode.region ?_
        | refine LCode.exit ?_
        | refine QThen.normal ?_
        | refine QThen.exit ?_
        | refine QBlock.hit ?_
        | refine LOps.pure (Pure.mv (lv := .atom _) rfl) rfl ?_
      rw [hr1] at hr
      cases hI
      rw [obind_ok] at hr
      refine LOps.step (S.callP [_, _] rfl Pick.here (end_spec sb T i2 (op + 1) [41] hl (by omega) (by omega) (by omega)) (fun u i3 op3 h3 => ?_) (fun l er i3 op3 h3 e' he' => ?_)) rfl
      · rw [h3, obind_ok] at hr
        repeat first
          | refine LOps.nil ?_
          | refine LCode.seq ?_
          | refine LCode.region ?_
          | refine QThen.normal ?_
        refine LOps.pure (Pure.mv (lv := v) rfl) rfl ?_
        refine LOps.pure (Pure.as (lv := v) rfl) rfl ?_
        repeat first
          | refine LOps.nil ?_
          | refine LCode.ret ?_
          | refine QThen.normal ?_
        exact retP (v := l) hj (AllRes.cons (ResIs.tmp (v := v) rfl hacc.sub) AllRes.nil) (by cases hr; rfl) rfl (HSub.pick Pick.here (HSub.nil _))
      · rw [h3, obind_err] at hr
        repeat first
          | refine QThen.panic ?_
        exact panP (he'.trans hj) (by cases hr; rfl) (HSub.pick Pick.here (HSub.nil _))
  · rw [h1, obind_err] at hr
    repeat first
      | refine QThen.panic ?_
    exact panP (he'.trans rfl) (by cases hr; rfl) (HSub.pick Pick.here (HSub.nil _))
theorem index_specL (sb : Nat) (T : List Tok) (hT : TOK T) (f : Nat) (hE : ∀ g, g < f → ExprC B0 w0 sb T g) (i op : Nat) (r : Res Ex) (hi : i ≤ T.length) (ho : op ≤ 100) (hr : eIndex T f i op = some r) :
    LCalls (KC B0 w0) 168 [ptr sb 0] [srcH sb T i op] (PostP sb T encE r) := by
  cases f with
  | zero => rw [eIndex] at hr; cases hr
  | succ f => exact index_spec sb T hT f (hE f (by omega)) i op r hi ho hr
theorem prim_spec (hG : GW B0 w0) (sb : Nat) (T : List Tok) (hT : TOK T) (f : Nat) (hE : ∀ g, g < f → ExprC B0 w0 sb T g) (i op : Nat) (r : Res Ex) (hi : i ≤ T.length) (ho : op ≤ 100) (hr : ePrim T f i op = some r) :
    LCalls (KC B0 w0) 174 [ptr sb 0] [srcH sb T i op] (PostP sb T encE r) := by
  have hl := hT.len
  have hml : (T.map encTok).length = T.length := List.length_map _
  obtain ⟨f, rfl⟩ : ∃ g, f = g + 1 := by
    cases f with
    | zero => rw [ePrim] at hr; cases hr
    | succ g => exact ⟨g, rfl⟩
  rw [ePrim] at hr
  refine LCalls.intro Tryz.func174 rfl (n := 63) rfl rfl rfl ?_
  repeat first
    | refine LCode.seq ?_
    | refine LCode.region ?_
  refine LOps.step (S.alloc fun b => ?_) rfl
  repeat first
    | refine LOps.nil ?_
    | refine LCode.seq ?_
    | refine LCode.region ?_
    | refine QThen.normal ?_
    | refine LOps.pure (Pure.mv (lv := .atom _) rfl) rfl ?_
  refine LOps.step (S.lit [_] rfl (elemsOk.cons rfl rfl elemsOk.nil) rfl rfl rfl ?_) rfl
  refine LOps.step (S.fnH [_, _] rfl (Pick.there Pick.here) (is_spec sb T i op [[40]] hl (by omega) (by simp)) ?_) rfl
  repeat first
    | refine LOps.nil ?_
    | refine QThen.normal ?_
  refine LCode.cond rfl (fun hp => ?_) (fun hp => ?_)
  · rw [if_pos hp] at hr
    repeat first
      | refine LCode.seq ?_
      | refine LCode.region ?_
      | refine LOps.pure (Pure.mv (lv := .atom _) rfl) rfl ?_
    refine LOps.step (S.callP [_, _] rfl Pick.here (begin_spec sb T i op [40] hl (by omega) (by omega)) (fun v i1 op1 h1 => ?_) (fun l er i1 op1 h1 e' he' => ?_)) rfl
    · rw [h1, obind_ok] at hr
      obtain ⟨rfl, rfl, ho1, hi1⟩ := sBegin_ok h1
      repeat first
        | refine LOps.nil ?_
        | refine LCode.seq ?_
        | refine LCode.region ?_
        | refine QThen.normal ?_
        | refine LOps.pure (Pure.mv (lv := .atom _) rfl) rfl ?_
      obtain ⟨r1, hr1⟩ := obind_is hr
      refine LOps.step (S.callP [_] rfl Pick.here (hE f (by omega) _ _ r1 (by omega) (by omega) hr1) (fun v i2 op2 h2 => ?_) (fun l er i2 op2 h2 e' he' => ?_)) rfl
      · rw [hr1, h2, obind_ok] at hr
        obtain ⟨g1, _, g3, rfl⟩ := (ex_good T f).1 0 _ _ _ (hr1.trans (congrArg some h2))
        have g4 := g3 (by omega)
        refine LOps.step (S.alloc fun b2 => ?_) rfl
        repeat first
          | refine LOps.nil ?_
          | refine LCode.seq ?_
          | refine LCode.region ?_
          | refine QThen.normal ?_
          | refine LOps.pure (Pure.mv (lv := .atom _) rfl) rfl ?_
          | refine LOps.step (S.store (cs' := [_, _, _, _]) rfl Pick.here rfl rfl rfl rfl rfl ?_) rfl
        refine LOps.step (S.callP [_, _] rfl (Pick.there Pick.here) (end_spec sb T i2 (op + 1) [41] hl (by omega) (by omega) (by omega)) (fun u i3 op3 h3 => ?_) (fun l er i3 op3 h3 e' he' => ?_)) rfl
        · rw [h3, obind_ok] at hr
          repeat first
            | refine LOps.nil ?_
            | refine LCode.seq ?_
            | refine LCode.region ?_
            | refine LCode.ret ?_
            | refine QThen.normal ?_
            | refine QThen.ret ?_
            | refine LOps.pure (Pure.ldHAgg (cs' := [_, _, _, _]) rfl (List.Mem.tail _ (List.Mem.head _)) rfl rfl) rfl ?_
            | refine LOps.step (S.store (cs' := [_, _, _, _]) rfl (Pick.there (Pick.there Pick.here)) rfl rfl rfl rfl rfl ?_) rfl
          exact retP rfl (AllRes.cons (ResIs.cellAgg rfl (List.Mem.head _) rfl (LV.Sub.refl _)) AllRes.nil) (by cases hr; rfl) rfl (HSub.drop (HSub.pick Pick.here (HSub.nil _)))
        · rw [h3, obind_err] at hr
          repeat first
            | refine QThen.panic ?_
          exact panP (he'.trans rfl) (by cases hr; rfl) (HSub.pick Pick.here (HSub.nil _))
      · rw [hr1, h2, obind_err] at hr
        repeat first
          | refine QThen.panic ?_
        exact panP (he'.trans rfl) (by cases hr; rfl) (HSub.pick Pick.here (HSub.nil _))
    · rw [h1, obind_err] at hr
      repeat first
        | refine QThen.panic ?_
      exact panP (he'.trans rfl) (by cases hr; rfl) (HSub.pick Pick.here (HSub.nil _))
  · have hp' : isTok T i [[40]] = false := hp
    rw [if_neg (by rw [hp']; decide)] at hr
    repeat first
      | refine LCode.seq ?_
      | refine LCode.skip ?_
      | refine QThen.normal ?_
    refine LCode.cut [(0, ptr sb 0), (2, ptr b 0), (38, bool (decide (kindAt T i = 1)))] ?_ (fun j hj => ?_)
    · refine LCode.quiet (by kernel_rfl) ?_
      repeat first
        | refine LQ.pure (Pure.mv (lv := .atom _) rfl) rfl ?_
        | refine LQ.pure (Pure.nilCheckH rfl) rfl ?_
        | refine LQ.pure (Pure.fieldH rfl) rfl ?_
        | refine LQ.pure (Pure.loadH (c := .atom _) rfl (List.Mem.head _) rfl) rfl ?_
        | refine LQ.pure (Pure.loadH (c := .list _) rfl (List.Mem.head _) rfl) rfl ?_
        | refine LQ.pure (Pure.llen rfl) rfl ?_
        | refine LQ.pure (Pure.lss rfl rfl) rfl ?_
      refine LQ.bcase 25 rfl (fun h => ?_) (fun h => ?_)
      · have hlt : i < T.length := by have := of_decide_eq_true h; omega
        repeat first
          | refine LQ.pure (Pure.mv (lv := .atom _) rfl) rfl ?_
          | refine LQ.pure (Pure.nilCheckH rfl) rfl ?_
          | refine LQ.pure (Pure.fieldH rfl) rfl ?_
          | refine LQ.pure (Pure.loadH (c := .atom _) rfl (List.Mem.head _) rfl) rfl ?_
          | refine LQ.pure (Pure.loadH (c := .list _) rfl (List.Mem.head _) rfl) rfl ?_
          | refine LQ.want rfl rfl ?_
        refine LQ.pure (Pure.ixRef (el' := encTok T[i]) (cs := [_, _, _]) rfl rfl (by omega) (map_get _ _ _ hlt) rfl rfl) rfl ?_
        repeat first
          | refine LQ.pure (Pure.field1 rfl rfl) rfl ?_
          | refine LQ.pure (Pure.loadRef (c := .atom _) rfl rfl) rfl ?_
          | refine LQ.pure (Pure.eql rfl rfl) rfl ?_
          | refine LQ.pure (Pure.pickT (lv := .atom _) rfl rfl) rfl ?_
          | refine LQ.want rfl rfl ?_
          | refine LQ.nil ?_
          | refine QThen.normal ?_
        exact ⟨⟨rfl, rfl, bool_eq (by rw [kindAt, List.getElem?_eq_getElem hlt]), trivial⟩, rfl, rfl⟩
      · have hge : T.length ≤ i := by have := of_decide_eq_false h; omega
        repeat first
          | refine LQ.pure (Pure.pickF (lv := .atom _) rfl rfl) rfl ?_
          | refine LQ.skip rfl rfl rfl rfl ?_
          | refine LQ.nil ?_
          | refine QThen.normal ?_
        exact ⟨⟨rfl, rfl, bool_eq (by rw [kindAt, List.getElem?_eq_none hge]; rfl), trivial⟩, rfl, rfl⟩
    · skip
      refine LCode.cond rfl (fun hk => ?_) (fun hk => ?_)
      · rw [if_pos (of_decide_eq_true hk)] at hr
        repeat first
          | refine LCode.seq ?_
          | refine LCode.region ?_
          | refine LOps.pure (Pure.mv (lv := .atom _) rfl) rfl ?_
        refine LOps.step (S.callP [_] rfl Pick.here (number_specP hG sb T hT i op (by omega)) (fun n i1 op1 h1 => ?_) (fun l er i1 op1 h1 e' he' => ?_)) rfl
        · rw [h1, obind_ok] at hr
          repeat first
            | refine LOps.nil ?_
            | refine LCode.ret ?_
            | refine QThen.normal ?_
            | refine QThen.ret ?_
            | refine LOps.pure (Pure.bld _ (cs := [_, _, _, _]) rfl) rfl ?_
            | refine LOps.step (S.store (cs' := [_, _, _, _]) rfl (Pick.there Pick.here) rfl rfl rfl rfl rfl ?_) rfl
          exact retP (v := .mk nNum n [] []) hj (AllRes.cons (ResIs.cellAgg (k := 4) rfl (List.Mem.head _) rfl (LV.Sub.agg (bs := [_, _, _, .list []]) ⟨LV.Sub.refl _, LV.Sub.refl _, LV.Sub.refl _, LV.Sub.nil, trivial⟩)) AllRes.nil) (by cases hr; rfl) (by rw [encE_mk]; rfl) (HSub.pick (Pick.there Pick.here) (HSub.nil _))
        · rw [h1, obind_err] at hr
          repeat first
            | refine QThen.panic ?_
          exact panP (he'.trans hj) (by cases hr; rfl) (HSub.pick Pick.here (HSub.nil _))
      · rw [if_neg (of_decide_eq_false hk)] at hr
        repeat first
          | refine LCode.seq ?_
          | refine LCode.region ?_
          | refine LCode.skip ?_
          | refine QThen.normal ?_
          | refine LOps.pure (Pure.mv (lv := .atom _) rfl) rfl ?_
        refine LOps.step (S.callP [_, _] rfl Pick.here (word_spec sb T i op 2 hl (by omega)) (fun s i1 op1 h1 => ?_) (fun l er i1 op1 h1 e' he' => ?_)) rfl
        · rw [h1, obind_ok] at hr
          obtain ⟨rfl, rfl, t, ht, _, _⟩ := sWord_ok h1
          have := get_lt ht
          repeat first
            | refine LOps.nil ?_
            | refine LCode.seq ?_
            | refine LCode.region ?_
            | refine LCode.block ?_
            | refine QThen.normal ?_
            | refine LOps.pure (Pure.mv (lv := .atom _) rfl) rfl ?_
            | refine LOps.pure (Pure.as (lv := .atom _) rfl) rfl ?_
          refine LOps.step (S.lit [_] rfl (elemsOk.cons rfl rfl elemsOk.nil) rfl rfl rfl ?_) rfl
          refine LOps.step (S.fnH [_, _] rfl Pick.here (is_spec sb T (i + 1) op1 [[91]] hl (by omega) (by simp)) ?_) rfl
          repeat first
            | refine LOps.nil ?_
            | refine QThen.normal ?_
            | refine LOps.pure (Pure.as (lv := .atom _) rfl) rfl ?_
          refine LCode.cond rfl (fun hx => ?_) (fun hx => ?_)
          · rw [if_pos hx] at hr
            obtain ⟨r1, hr1⟩ := obind_is hr
            repeat first
              | refine LCode.seq ?_
              | refine LCode.region ?_
              | refine LOps.pure (Pure.mv (lv := .atom _) rfl) rfl ?_
            refine LOps.step (S.callP [_] rfl Pick.here (index_specL sb T hT f (fun g hg => hE g (by omega)) (i + 1) op1 r1 (by omega) (by omega) hr1) (fun e2 i2 op2 h2 => ?_) (fun l er i2 op2 h2 e' he' => ?_)) rfl
            · rw [hr1, h2, obind_ok] at hr
              refine LOps.step (S.lit [_] rfl (elemsOk.cons rfl rfl elemsOk.nil) rfl rfl rfl ?_) rfl
              repeat first
                | refine LOps.nil ?_
                | refine LCode.ret ?_
                | refine QThen.normal ?_
                | refine QThen.ret ?_
                | refine QBlock.ret ?_
                | refine LOps.pure (Pure.bld _ (cs := [_, _, _, _]) rfl) rfl ?_
                | refine LOps.step (S.store (cs' := [_, _, _, _]) rfl (Pick.there Pick.here) rfl rfl rfl rfl rfl ?_) rfl
              exact retP (v := .mk nElem 0 s [e2]) hj (AllRes.cons (ResIs.cellAgg rfl (List.Mem.head _) rfl (LV.Sub.refl _)) AllRes.nil) (by cases hr; rfl) (by rw [encE_mk]; rfl) (HSub.pick (Pick.there Pick.here) (HSub.nil _))
            · rw [hr1, h2, obind_err] at hr
              repeat first
                | refine QThen.panic ?_
                | refine QBlock.panic ?_
              exact panP (he'.trans hj) (by cases hr; rfl) (HSub.pick Pick.here (HSub.nil _))
          · have hx' : isTok T (i + 1) [[91]] = false := hx
            rw [if_neg (by rw [hx']; decide)] at hr
            repeat first
              | refine LCode.seq ?_
              | refine LCode.region ?_
              | refine LOps.pure (Pure.mv (lv := .atom _) rfl) rfl ?_
            refine LOps.step (S.lit [_] rfl (elemsOk.cons rfl rfl elemsOk.nil) rfl rfl rfl ?_) rfl
            refine LOps.step (S.fnH [_, _] rfl Pick.here (is_spec sb T (i + 1) op1 [[40]] hl (by omega) (by simp)) ?_) rfl
            repeat first
              | refine LOps.nil ?_
              | refine QThen.normal ?_
              | refine LOps.pure (Pure.as (lv := .atom _) rfl) rfl ?_
            refine LCode.cond rfl (fun hy => ?_) (fun hy => ?_)
            · rw [if_pos hy] at hr
              obtain ⟨r1, hr1⟩ := obind_is hr
              repeat first
                | refine LCode.seq ?_
                | refine LCode.region ?_
                | refine LOps.pure (Pure.mv (lv := .atom _) rfl) rfl ?_
              refine LOps.step (S.callP [_] rfl Pick.here (args_spec sb T hT f (fun g hg => hE g (by omega)) (i + 1) op1 r1 (by omega) (by omega) hr1) (fun e2 i2 op2 h2 => ?_) (fun l er i2 op2 h2 e' he' => ?_)) rfl
              · rw [hr1, h2, obind_ok] at hr
                repeat first
                  | refine LOps.nil ?_
                  | refine LCode.ret ?_
                  | refine QThen.normal ?_
                  | refine QThen.ret ?_
                  | refine QBlock.ret ?_
                  | refine LOps.pure (Pure.bld _ (cs := [_, _, _, _]) rfl) rfl ?_
                  | refine LOps.step (S.store (cs' := [_, _, _, _]) rfl (Pick.there Pick.here) rfl rfl rfl rfl rfl ?_) rfl
                exact retP (v := .mk nCall 0 s e2) hj (AllRes.cons (ResIs.cellAgg rfl (List.Mem.head _) rfl (LV.Sub.refl _)) AllRes.nil) (by cases hr; rfl) (by rw [encE_mk]; rfl) (HSub.pick (Pick.there Pick.here) (HSub.nil _))
              · rw [hr1, h2, obind_err] at hr
                repeat first
                  | refine QThen.panic ?_
                  | refine QBlock.panic ?_
                exact panP (he'.trans hj) (by cases hr; rfl) (HSub.pick Pick.here (HSub.nil _))
            · have hy' : isTok T (i + 1) [[40]] = false := hy
              rw [if_neg (by rw [hy']; decide)] at hr
              repeat first
                | refine LOps.nil ?_
                | refine LCode.seq ?_
                | refine LCode.region ?_
                | refine LCode.skip ?_
                | refine LCode.ret ?_
                | refine QThen.normal ?_
                | refine QBlock.normal ?_
                | refine LOps.pure (Pure.mv (lv := .atom _) rfl) rfl ?_
                | refine LOps.pure (Pure.bld _ (cs := [_, _, _, _]) rfl) rfl ?_
                | refine LOps.step (S.store (cs' := [_, _, _, _]) rfl (Pick.there Pick.here) rfl rfl rfl rfl rfl ?_) rfl
              exact retP (v := .mk nVar 0 s []) hj (AllRes.cons (ResIs.cellAgg (k := 4) rfl (List.Mem.head _) rfl (LV.Sub.agg (bs := [_, _, _, .list []]) ⟨LV.Sub.refl _, LV.Sub.refl _, LV.Sub.refl _, LV.Sub.nil, trivial⟩)) AllRes.nil) (by cases hr; rfl) (by rw [encE_mk]; rfl) (HSub.pick (Pick.there Pick.here) (HSub.nil _))
        · rw [h1, obind_err] at hr
          repeat first
            | refine QThen.panic ?_
          exact panP (he'.trans hj) (by cases hr; rfl) (HSub.pick Pick.here (HSub.nil _))
end
end Go.Proofs.YtfodkbchknknjaaGreatDoor
namespace Go.GL
open Go.RowKit
def noCells : Obj → Bool
  | .cells _ _ _ => false
  | _ => true
theorem shape_none {w : World} {b : Nat} {o : Obj} (h : w.heap[b]? = some o) (ho : noCells o = true) : w.shape? b = none := by
  simp only [World.shape?, h]
  cases o <;> simp_all [noCells]
section
variable {C : Ctx} {e : Env} {H : Heap} {dst : Option Nat} {ty : TypeId} {pos : String} {aft : Array Edge} {g : Option (Nat × Bool)} {K : LV → Heap → Prop} {X : List PanicEntry → Heap → Prop} {x y : Operand}
theorem left_newObj {w : World} {L : Live} (hH : RelH C w L []) {o : Obj} (ho : noCells o = true) {v : Value} (hk : K (.atom v) [(w.heap.size, .obj o)]) : Left C w L [] (World.push w o) v K := by
  have := fr_push hH o 0 [(w.heap.size, .obj o)] (fun p hp => by
    simp only [List.mem_singleton] at hp
    subst hp
    exact ⟨rfl, by simp [Live.upd], heap_push_self, shape_none heap_push_self ho⟩) (by simp)
  exact ⟨_, _, _, this.1, this.2, rep_atom, hk⟩
/-- The block of an object that is kept turns; draws may have come between. -/
theorem left_obj {w w' : World} {L : Live} {b : Nat} {o o' : Obj} (hH : RelH C w L [(b, .obj o)]) (ho' : noCells o' = true) (h1 : w'.os = w.os) (h2 : w'.tape = w.tape) (h3 : w'.output = w.output)
    (h4 : w'.heap.size = w.heap.size) (h5 : ∀ c, c ≠ b → w'.heap[c]? = w.heap[c]?) (h6 : w'.heap[b]? = some o') {v : Value} {lv : LV} (hv : ∀ L, Rep w' L lv v) (hk : K lv [(b, .obj o')]) : Left C w L [(b, .obj o)] w' v K := by
  obtain ⟨hb0, hbs, hl, hx1, hx2⟩ := hH.objs _ (List.mem_singleton.2 rfl)
  simp only at hb0 hbs hl hx1 hx2
  have hx : Ext w L w' L := by
    refine ⟨by rw [h4]; exact Nat.le_refl _, fun c hc => ?_, fun c i hi => ?_, fun _ => Nat.le_refl _⟩
    · by_cases he : c = b
      · subst he
        rw [hx2]
        exact shape_none h6 ho'
      · exact shape_of_heap (h5 c he)
    · by_cases he : c = b
      · subst he; rw [hl] at hi; omega
      · exact cell_of_heap (h5 c he) i
  refine ⟨lv, [(b, .obj o')], L, ⟨h1, h2, h3, hx, fun c hc hn => h5 c (by simpa using hn), fun _ _ _ => rfl, fun p hp => .inl (by simp only [List.mem_singleton] at hp; subst hp; simp)⟩,
    ⟨?_, hH.lbase, by rw [h4]; exact hH.b0, by rw [h4]; exact hH.wf, by simp, fun p hp => ?_⟩, hv L, hk⟩
  · exact hH.base.trans ⟨h1, h2, h3, by rw [h4]; exact Nat.le_refl _, fun c hc => h5 c (by omega)⟩
  · simp only [List.mem_singleton] at hp
    subst hp
    exact ⟨hb0, by rw [h4]; exact hbs, hl, h6, shape_none h6 ho'⟩
theorem S.makeMap {t : TypeId} (hk : ∀ b, K (.atom (.map (some b))) ((b, .obj (.map #[] 0)) :: H)) : LStep C ⟨dst, .makeMap t none, ty, pos, aft, g⟩ e H K X := by
  refine LStep.at0 fun ρ w L _ hH => ?_
  have h3 : execOp ρ ⟨dst, .makeMap t none, ty, pos, aft, g⟩ = (do Pure.pure (.value (← Instr.makeMap t none))) := rfl
  have h4 : (Instr.makeMap t none).run C.P w = .ok (.map (some w.heap.size)) (World.push w (.map #[] 0)) := rfl
  rw [h3, Sem.run_bind, h4]
  exact left_newObj hH rfl (hk _)
def setW (w : World) (b : Nat) (o : Obj) : World := { w with heap := w.heap.setIfInBounds b o }
theorem setW_other {w : World} {b c : Nat} {o : Obj} (h : c ≠ b) : (setW w b o).heap[c]? = w.heap[c]? := by
  simp only [setW, Array.getElem?_setIfInBounds]
  rw [if_neg (Ne.symm h)]
theorem setW_self {w : World} {b : Nat} {o : Obj} (h : b < w.heap.size) : (setW w b o).heap[b]? = some o := by
  simp only [setW, Array.getElem?_setIfInBounds]
  simp [h]
theorem run_setObj {P : Program} {w : World} {b : Nat} {o o' : Obj} (h : w.heap[b]? = some o) (ho : noCells o = true) : (setObj b o').run P w = .ok () (setW w b o') := by
  simp only [setObj, Sem.run, h]
  cases o <;> first | rfl | (simp [noCells] at ho)
theorem findNow_str (k : ByteArray) : ∀ (es : List MapEntry) (i : Nat), (∀ e ∈ es, ∃ s, e.key = .string s ∧ ¬ (k == s) = true) → Instr.findNow .string (.string k) es i = some none
  | [], _, _ => rfl
  | e :: es, i, h => by
    obtain ⟨s, hs, hne⟩ := h e List.mem_cons_self
    have hne' : (k == s) = false := by simpa using hne
    simp only [Instr.findNow, hs, Instr.sameNow, hne']
    exact findNow_str k es (i + 1) (fun e he => h e (List.mem_cons_of_mem _ he))
/-- A new key in a map whose keys are strings. -/
theorem S.insert {t kt el : TypeId} (ht : C.P.underlying t = some (.map kt el)) (hkt : C.P.underlying kt = some .string) {b clock : Nat} {es : Array MapEntry} {F : Heap} {m z : Operand} {k : ByteArray} {v : Value} (hm : e.ev m = .atom (.map (some b))) (hx : e.ev x = .atom (.string k)) (hz : e.ev z = .atom v)
    (hp : Pick (b, .obj (.map es clock)) H F) (hnew : ∀ e ∈ es.toList, ∃ s, e.key = .string s ∧ ¬ (k == s) = true) (hk : K (.atom undef) ((b, .obj (.map (es.push { key := .string k, val := v, born := clock }) (clock + 1))) :: F)) : LStep C ⟨dst, .insert t m x z, ty, pos, aft, g⟩ e H K X := by
  refine LStep.at1 hp fun ρ w L h hH => ?_
  obtain ⟨hb0, hbs, hl, hx1, hx2⟩ := hH.objs _ (List.mem_singleton.2 rfl)
  simp only at hb0 hbs hl hx1 hx2
  have h3 : execOp ρ ⟨dst, .insert t m x z, ty, pos, aft, g⟩ = (do Instr.mapUpdate t (ρ m) (ρ x) (ρ z); Pure.pure .skip) := rfl
  have hf : (Instr.findKey kt (.string k) es.toList).run C.P w = .ok none w := by
    simp only [Instr.findKey, Sem.run_bind, run_underlying' hkt, Result.andThen_ok, findNow_str k es.toList 0 hnew, Sem.run_pure]
  have hc : (Instr.checkKey false 10000 kt (.string k)).run C.P w = .ok () w := by
    have hck : Instr.checkKey false 10000 kt (.string k) = Instr.checkKey false (9999 + 1) kt (.string k) := rfl
    rw [hck, Instr.checkKey]
    simp only [Sem.run_bind, run_underlying' hkt, Result.andThen_ok, Sem.run_pure]
  have hg : (getObj b).run C.P w = .ok (.map es clock) w := by simp only [getObj, Sem.run, hx1]
  rw [h3, atom_of h hm, atom_of h hx, atom_of h hz]
  simp only [Instr.mapUpdate, Sem.run_bind, run_underlying' ht, Result.andThen_ok, hg, hc, hf]
  have hs : (setObj b (.map (es.push { key := .string k, val := v, born := clock }) (clock + 1))).run C.P w = .ok () (setW w b (.map (es.push { key := .string k, val := v, born := clock }) (clock + 1))) := run_setObj hx1 rfl
  rw [hs]
  exact left_obj (w' := setW w b (.map (es.push { key := .string k, val := v, born := clock }) (clock + 1))) hH rfl rfl rfl rfl (by simp [setW]) (fun c hc => setW_other hc) (setW_self hbs) (fun _ => rep_atom) hk
/-- The iterator over a map. -/
theorem S.range {t kt el : TypeId} (ht : C.P.underlying t = some (.map kt el)) {b clock : Nat} {es : Array MapEntry} (hx : e.ev x = .atom (.map (some b))) (hm : (b, .obj (.map es clock)) ∈ H)
    (hk : ∀ r, K (ptr r 0) ((r, .obj (.mapIter (some b) clock #[] clock)) :: H)) : LStep C ⟨dst, .range t x, ty, pos, aft, g⟩ e H K X := by
  obtain ⟨F, hF⟩ : ∃ F, H.Perm ((b, .obj (.map es clock)) :: F) := by
    obtain ⟨l1, l2, rfl⟩ := List.append_of_mem hm
    exact ⟨l1 ++ l2, List.perm_middle⟩
  have main : ∀ X, LStep C ⟨dst, .range t x, ty, pos, aft, g⟩ e [(b, .obj (.map es clock))] (fun lv H' => ∃ r, lv = ptr r 0 ∧ H' = [(r, .obj (.mapIter (some b) clock #[] clock)), (b, .obj (.map es clock))]) X := fun X ρ w L h hH => by
    obtain ⟨hb0, hbs, hl, hx1, hx2⟩ := hH.objs _ (List.mem_singleton.2 rfl)
    simp only at hb0 hbs hl hx1 hx2
    have h3 : execOp ρ ⟨dst, .range t x, ty, pos, aft, g⟩ = (do Pure.pure (.value (← Instr.range t (ρ x)))) := rfl
    have hg : (getObj b).run C.P w = .ok (.map es clock) w := by simp only [getObj, Sem.run, hx1]
    have hn : ∀ o, (newObj o).run C.P w = .ok w.heap.size (World.push w o) := fun _ => rfl
    rw [h3, atom_of h hx]
    simp only [Instr.range, Sem.run_bind, run_underlying' ht, Result.andThen_ok, hg, Sem.run_pure, hn]
    have := Left.frame (F := [(b, .obj (.map es clock))]) (K := fun lv H' => ∃ r, lv = ptr r 0 ∧ H' = [(r, .obj (.mapIter (some b) clock #[] clock)), (b, .obj (.map es clock))]) (v := .pointer (some ⟨w.heap.size, 0, none⟩)) (by simpa using hH) (left_newObj (w := w) (L := L) (hH.sub (List.nil_sublist _)) (o := .mapIter (some b) clock #[] clock) rfl ⟨w.heap.size, rfl, rfl⟩)
    show Left C w L _ _ _ _
    simpa using this
  refine LStep.conseq (LStep.frame (H := [(b, .obj (.map es clock))]) (F := F) hF (K := fun lv H' => ∃ r, lv = ptr r 0 ∧ H' = [(r, .obj (.mapIter (some b) clock #[] clock)), (b, .obj (.map es clock))] ++ F) ?_) ?_
  · exact LStep.conseq (main _) (fun lv H' ⟨r, h1, h2⟩ => ⟨lv, H', LV.Sub.refl _, HSub.refl _, r, h1, by rw [h2]⟩)
  · rintro lv H' ⟨r, rfl, rfl⟩
    exact ⟨ptr r 0, _, LV.Sub.refl _, ⟨[], by simpa using hF.symm⟩, hk r⟩
/-- The next entry of a map that has not turned since the range began: whichever is left, or none. -/
theorem S.next {r b since last clock : Nat} {seen : Array Nat} {es : Array MapEntry} {F : Heap} (hx : e.ev x = ptr r 0) (hp : H.Perm ((r, .obj (.mapIter (some b) since seen last)) :: (b, .obj (.map es clock)) :: F))
    (hold : ∀ e ∈ es.toList, e.born < since ∧ e.born < last)
    (hover : es.filter (fun e => !seen.contains e.born) = #[] → K (.tuple [bool false]) ((r, .obj (.mapIter (some b) since seen last)) :: (b, .obj (.map es clock)) :: F))
    (hstep : ∀ e ∈ (es.filter (fun e => !seen.contains e.born)).toList, K (.tuple [bool true, .atom e.key, .atom e.val]) ((r, .obj (.mapIter (some b) since (seen.push e.born) clock)) :: (b, .obj (.map es clock)) :: F)) :
    LStep C ⟨dst, .next x false, ty, pos, aft, g⟩ e H K X := by
  refine LStep.frame (H := [(r, .obj (.mapIter (some b) since seen last)), (b, .obj (.map es clock))]) (F := F) hp fun ρ w L h hH => ?_
  have hr := hH.objs (r, .obj (.mapIter (some b) since seen last)) (List.Mem.head _)
  have hb := hH.objs (b, .obj (.map es clock)) (List.Mem.tail _ (List.Mem.head _))
  obtain ⟨_, hrs, _, hr1, _⟩ := hr
  obtain ⟨_, hbs, _, hb1, _⟩ := hb
  simp only at hrs hr1 hbs hb1
  have h3 : execOp ρ ⟨dst, .next x false, ty, pos, aft, g⟩ = (do Pure.pure (.value (← Instr.next (ρ x) false ty))) := rfl
  have hg1 : (getObj r).run C.P w = .ok (.mapIter (some b) since seen last) w := by simp only [getObj, Sem.run, hr1]
  have hg2 : (getObj b).run C.P w = .ok (.map es clock) w := by simp only [getObj, Sem.run, hb1]
  have htest : (!seen.isEmpty && !es.isEmpty && es.all (fun e => decide (e.born ≥ last))) = false := by
    rw [Bool.eq_false_iff]
    intro hall
    simp only [Bool.and_eq_true] at hall
    obtain ⟨⟨_, h1⟩, h2⟩ := hall
    have hne : 0 < es.size := by
      rcases Nat.eq_zero_or_pos es.size with h0 | h0
      · have : es = #[] := Array.eq_empty_of_size_eq_zero h0
        subst this
        simp at h1
      · exact h0
    have h3 := (Array.all_eq_true.1 h2) 0 hne
    have h4 := (hold es[0] (by simp)).2
    simp at h3
    omega
  rw [h3, atom_of h hx]
  simp only [Instr.next, Sem.run_bind, Result.andThen_ok, hg1, hg2, htest, Bool.false_eq_true, if_false]
  generalize hL : es.filter (fun e => !seen.contains e.born) = left at hover hstep ⊢
  have hmem : ∀ x ∈ left.toList, x.born < since := fun x hx => by
    subst hL
    simp at hx
    exact (hold x (by simpa using hx.1)).1
  have e1 : left.filter (fun x => decide (x.born < since)) = left := Array.filter_eq_self.2 (fun x hx => by simpa using hmem x (by simpa using hx))
  have e2 : left.filter (fun x => decide (x.born ≥ since)) = #[] := by
    rw [Array.filter_eq_empty_iff]
    intro x hx
    have := hmem x (by simpa using hx)
    simp
    omega
  simp only [e1, e2, Array.append_empty]
  by_cases h0 : left.size = 0
  · have : left = #[] := Array.eq_empty_of_size_eq_zero h0
    subst this
    have hch : (choose (.mapNext 1)).run C.P w = .ok 0 w := by simp [choose, Sem.run, Question.forced]
    simp only [Array.isEmpty_empty, if_true, Array.map_empty, Array.append_empty, List.size_toArray, List.length_singleton, hch, Sem.run_bind, Result.andThen_ok, Sem.run_pure]
    exact ⟨.tuple [bool false], _, L, Fr.refl _ _ _, hH, by simp only [Rep]; exact ⟨[.bool false], rfl, by simp only [RepL, Rep]; exact ⟨_, _, rfl, rfl, rfl⟩⟩, hover rfl⟩
  · have hne : left.isEmpty = false := by simp [Array.isEmpty, h0]
    simp only [hne, Bool.false_eq_true, if_false, Array.empty_append, Array.size_map]
    obtain ⟨j, w1, hj, hw1, hrun⟩ : ∃ (j : Nat) (w1 : World), j < left.size ∧ (w1 = w ∨ w1 = w.drew) ∧ (choose (Question.mapNext left.size)).run C.P w = .ok j w1 := by
      by_cases hf : left.size ≤ 1
      · exact ⟨0, w, by omega, .inl rfl, by simp [choose, Sem.run, Question.forced, hf]⟩
      · exact ⟨_, w.drew, Nat.mod_lt _ (by omega), .inr rfl, by
          simp only [choose, Sem.run, Question.forced, decide_eq_true_eq, hf, if_false, Question.cut]
          rfl⟩
    have hr1' : w1.heap[r]? = some (.mapIter (some b) since seen last) := by rcases hw1 with rfl | rfl <;> exact hr1
    have hsz : w1.heap.size = w.heap.size := by rcases hw1 with rfl | rfl <;> rfl
    have hheap : w1.heap = w.heap := by rcases hw1 with rfl | rfl <;> rfl
    simp only [hrun, Array.getElem?_map, Array.getElem?_eq_getElem hj, Option.map_some, Sem.run_bind, Result.andThen_ok, run_setObj hr1' rfl, Sem.run_pure]
    have hl : Left C w L [(r, .obj (.mapIter (some b) since seen last))] (setW w1 r (.mapIter (some b) since (seen.push left[j].born) clock)) (.tuple #[.bool true, left[j].key, left[j].val]) (fun lv H' => K lv (H' ++ [(b, .obj (.map es clock))] ++ F)) :=
      left_obj (lv := .tuple [bool true, .atom left[j].key, .atom left[j].val]) (RelH.left (F := [(b, .obj (.map es clock))]) hH) rfl (by rcases hw1 with rfl | rfl <;> rfl) (by rcases hw1 with rfl | rfl <;> rfl) (by rcases hw1 with rfl | rfl <;> rfl) (by simp [setW, hsz]) (fun c hc => by rw [setW_other hc, hheap]) (setW_self (by omega))
        (fun _ => by simp only [Rep]; exact ⟨[.bool true, left[j].key, left[j].val], rfl, by simp only [RepL, Rep]; exact ⟨_, _, rfl, rfl, _, _, rfl, rfl, _, _, rfl, rfl, rfl⟩⟩) (hstep left[j] (by simp))
    exact Left.frame (F := [(b, .obj (.map es clock))]) (K := fun lv H' => K lv (H' ++ F)) hH hl
/-- What the step handed out, read again. -/
theorem Pure.entry {r b since last clock stamp : Nat} {seen : Array Nat} {es : Array MapEntry} {en : MapEntry} (hx : e.ev x = ptr r 0) (hi : (r, LObj.obj (.mapIter (some b) since seen last)) ∈ H) (hm : (b, LObj.obj (.map es clock)) ∈ H)
    (hl : clock = last) (hb : seen.back? = some stamp) (hf : es.find? (·.born == stamp) = some en) : Pure C ⟨dst, .entry x, ty, pos, aft, g⟩ e H (.tuple [.atom en.key, .atom en.val]) := fun ρ w L h hH => by
  refine ⟨.tuple #[en.key, en.val], by simp only [Rep]; exact ⟨[en.key, en.val], rfl, by simp only [RepL, Rep]; exact ⟨_, _, rfl, rfl, _, _, rfl, rfl, rfl⟩⟩, fun w' ha => ?_⟩
  have h1 : w'.heap[r]? = some (.mapIter (some b) since seen last) := (ha.1 _ hi).trans (hH.objs _ hi).2.2.2.1
  have h2 : w'.heap[b]? = some (.map es clock) := (ha.1 _ hm).trans (hH.objs _ hm).2.2.2.1
  have h3 : execOp ρ ⟨dst, .entry x, ty, pos, aft, g⟩ = (do Pure.pure (.value (← Instr.entry (ρ x)))) := rfl
  have hg1 : (getObj r).run C.P w' = .ok (.mapIter (some b) since seen last) w' := by simp only [getObj, Sem.run, h1]
  have hg2 : (getObj b).run C.P w' = .ok (.map es clock) w' := by simp only [getObj, Sem.run, h2]
  have hne : (clock != last) = false := by rw [hl]; simp
  rw [h3, atom_of h hx]
  simp only [Instr.entry, Sem.run_bind, Result.andThen_ok, hg1, hb, hg2, hne, Bool.false_eq_true, if_false, Sem.run_pure, hf]
/-- A late operation that only computes or reads. -/
theorem LLateOp.pureH {n : Nat} {ops : Array Oper} {Q : Post} {HF : Heap} {fuel : Nat} {listed : Array Bool} {i : Nat} {op : Op} {lv : LV} (hi : ops[i]? = some ⟨dst, op, ty, pos, aft, none⟩) (hd : dstOk n dst)
    (hp : Pure C ⟨dst, op, ty, pos, aft, none⟩ e H lv) (k : LLate C n ops Q HF fuel (listed.setIfInBounds i true) (e.put dst lv) H) : LLateOp C n ops Q HF fuel listed e H i := fun w0 L0 a w L hL hA hsz hE hH => by
  obtain ⟨v, hv, hrun⟩ := hp a.eval w L hE.ev hH
  unfold wpOp
  rw [hi]
  simp only
  rw [if_pos (by simp [Region.wanted])]
  refine .inl ?_
  unfold Oper.wp
  rw [hrun w (Agree.refl _ _ _)]
  exact ⟨hA, k w0 L0 _ w L hL hA hsz (hE.put hd hv) hH⟩
end
end Go.GL
namespace Go.Proofs.YtfodkbchknknjaaGreatDoor
open Go.GL Go.RowKit Go.Stele
set_option maxRecDepth 100000
set_option maxHeartbeats 4000000
attribute [local irreducible] LOps LCode LStep LCalls Go.GL.Pure QThen QBlock RetPost LQ LAny LLate LLateOp
def e45 : MapEntry := { key := .string ⟨#[45]⟩, val := .string ⟨#[110, 101, 103]⟩, born := 0 }
def e33 : MapEntry := { key := .string ⟨#[33]⟩, val := .string ⟨#[110, 111, 116]⟩, born := 1 }
section
variable {B0 : Nat} {w0 : World}
def UnaryC (B0 : Nat) (w0 : World) (sb : Nat) (T : List Tok) (f : Nat) : Prop :=
  ∀ i op r, i ≤ T.length → op ≤ 100 → eUnary T f i op = some r → LCalls (KC B0 w0) 164 [ptr sb 0] [srcH sb T i op] (PostP sb T encE r)
/-- Which entries have come up: none of them is the token at hand. -/
def SeenOk (T : List Tok) (i : Nat) (seen : Array Nat) : Prop :=
  seen = #[] ∨ (seen = #[0] ∧ isTok T i [[45]] = false) ∨ (seen = #[1] ∧ isTok T i [[33]] = false) ∨ ((seen = #[0, 1] ∨ seen = #[1, 0]) ∧ isTok T i [[45]] = false ∧ isTok T i [[33]] = false)
theorem over_seen {T : List Tok} {i : Nat} {seen : Array Nat} (h : SeenOk T i seen) (ho : #[e45, e33].filter (fun e => !seen.contains e.born) = #[]) : isTok T i [[45]] = false ∧ isTok T i [[33]] = false := by
  have h1 := Array.filter_eq_empty_iff.1 ho e45 (by simp)
  have h2 := Array.filter_eq_empty_iff.1 ho e33 (by simp)
  rcases h with rfl | ⟨rfl, _⟩ | ⟨rfl, _⟩ | ⟨_, h3, h4⟩
  · simp [e45] at h1
  · simp [e33] at h2
  · simp [e45] at h1
  · exact ⟨h3, h4⟩
theorem step_seen {T : List Tok} {i : Nat} {seen : Array Nat} {e : MapEntry} (h : SeenOk T i seen) (he : e ∈ (#[e45, e33].filter (fun e => !seen.contains e.born)).toList) :
    seen.size < 2 ∧ ((e = e45 ∧ (isTok T i [[45]] = false → SeenOk T i (seen.push 0))) ∨ (e = e33 ∧ (isTok T i [[33]] = false → SeenOk T i (seen.push 1)))) := by
  have he' := Array.mem_filter.1 (Array.mem_toList_iff.1 he)
  have hor : e = e45 ∨ e = e33 := by simpa using he'.1
  have hno := he'.2
  rcases h with rfl | ⟨rfl, h1⟩ | ⟨rfl, h1⟩ | ⟨rfl | rfl, _, _⟩
  · rcases hor with rfl | rfl
    · exact ⟨by decide, .inl ⟨rfl, fun h => .inr (.inl ⟨rfl, h⟩)⟩⟩
    · exact ⟨by decide, .inr ⟨rfl, fun h => .inr (.inr (.inl ⟨rfl, h⟩))⟩⟩
  · rcases hor with rfl | rfl
    · simp [e45] at hno
    · exact ⟨by decide, .inr ⟨rfl, fun h => .inr (.inr (.inr ⟨.inl rfl, h1, h⟩))⟩⟩
  · rcases hor with rfl | rfl
    · exact ⟨by decide, .inl ⟨rfl, fun h => .inr (.inr (.inr ⟨.inr rfl, h, h1⟩))⟩⟩
    · simp [e33] at hno
  · rcases hor with rfl | rfl
    · simp [e45] at hno
    · simp [e33] at hno
  · rcases hor with rfl | rfl
    · simp [e45] at hno
    · simp [e33] at hno
theorem isTok_excl {T : List Tok} {i : Nat} (h : isTok T i [[33]] = true) : isTok T i [[45]] = false := by
  unfold isTok at h ⊢
  split at h
  · rename_i t ht
    simp only [Bool.and_eq_true] at h
    have h2 : t.text = [33] := by simpa using h.2
    rw [h2]
    simp
  · cases h
theorem unary_spec (hG : GW B0 w0) (sb : Nat) (T : List Tok) (hT : TOK T) : ∀ f : Nat, (∀ g, g < f → ExprC B0 w0 sb T g) → UnaryC B0 w0 sb T f := by
  intro f
  induction f with
  | zero => intro _ i op r _ _ hr; rw [eUnary] at hr; cases hr
  | succ f ih =>
    intro hE i op r hi ho hr
    have hl := hT.len
    rw [eUnary] at hr
    refine LCalls.intro Tryz.func164 rfl (n := 36) rfl rfl rfl ?_
    repeat first
      | refine LCode.seq ?_
      | refine LCode.region ?_
    refine LOps.step (S.alloc fun b => ?_) rfl
    repeat first
      | refine LOps.nil ?_
      | refine LCode.seq ?_
      | refine LCode.region ?_
      | refine QThen.normal ?_
    refine LOps.step (S.makeMap fun mb => ?_) rfl
    refine LOps.step (S.insert (k := ⟨#[45]⟩) (v := .string ⟨#[110, 101, 103]⟩) (kt := 9) (el := 9) (by kernel_rfl) (by kernel_rfl) rfl rfl rfl Pick.here (by simp) ?_) rfl
    refine LOps.step (S.insert (k := ⟨#[33]⟩) (v := .string ⟨#[110, 111, 116]⟩) (kt := 9) (el := 9) (by kernel_rfl) (by kernel_rfl) rfl rfl rfl Pick.here (fun e he => ⟨⟨#[45]⟩, by simp at he; rw [he], by decide⟩) ?_) rfl
    refine LOps.pure (Pure.mv (lv := .atom _) rfl) rfl ?_
    refine LOps.step (S.range (kt := 9) (el := 9) (by kernel_rfl) rfl (List.Mem.head _) fun rb => ?_) rfl
    repeat first
      | refine LOps.nil ?_
      | refine LCode.block ?_
      | refine QThen.normal ?_
    refine LCode.loopI (fun k ls H => ∃ seen : Array Nat, k = 2 - seen.size ∧ ls = [(0, ptr sb 0), (2, ptr b 0), (8, ptr rb 0)] ∧ H = [(rb, .obj (.mapIter (some mb) 2 seen 2)), (mb, .obj (.map #[e45, e33] 2)), (b, .cells 38 [str [], int .u32 0, str [], nilSlice]), srcH sb T i op] ∧ SeenOk T i seen)
      ⟨_, _, _, ⟨#[], rfl, rfl, rfl, .inl rfl⟩, ⟨rfl, rfl, rfl, trivial⟩, HSub.refl _⟩ ?_
    rintro k ls H ⟨seen, rfl, rfl, rfl, hS⟩ j hj
    repeat first
      | refine LCode.seq ?_
      | refine LCode.region ?_
    refine LOps.step (S.next (F := [(b, .cells 38 [str [], int .u32 0, str [], nilSlice]), srcH sb T i op]) rfl (List.Perm.refl _) (by decide) (fun hov => ?_) (fun en hen => ?_)) rfl
    · obtain ⟨hn1, hn2⟩ := over_seen hS hov
      rw [if_neg (by rw [hn1]; decide), if_neg (by rw [hn2]; decide)] at hr
      repeat first
        | refine LOps.nil ?_
        | refine LCode.seq ?_
        | refine QThen.normal ?_
        | refine LOps.pure (Pure.extract (c := .atom _) rfl rfl) rfl ?_
      refine LCode.cond rfl (fun hcc => ?_) (fun hcc => ?_)
      · cases hcc
      · repeat first
          | refine LCode.seq ?_
          | refine LCode.region ?_
          | refine LCode.exit ?_
          | refine QThen.normal ?_
          | refine QThen.exit ?_
          | refine QBlock.hit ?_
          | refine LOps.pure (Pure.mv (lv := .atom _) rfl) rfl ?_
        refine LOps.step (S.callP [_] rfl (Pick.there (Pick.there (Pick.there Pick.here))) (prim_spec hG sb T hT f (fun g hg => hE g (by omega)) i op r hi ho hr) (fun v i1 op1 h1 => ?_) (fun l er i1 op1 h1 e' he' => ?_)) rfl
        · repeat first
            | refine LOps.nil ?_
            | refine LCode.ret ?_
            | refine QThen.normal ?_
            | refine LOps.step (S.store (cs' := [_, _, _, _]) rfl (Pick.there (Pick.there (Pick.there Pick.here))) rfl rfl rfl rfl rfl ?_) rfl
          exact retP (v := v) hj (AllRes.cons (ResIs.cellAgg rfl (List.Mem.head _) rfl (LV.Sub.refl _)) AllRes.nil) h1 rfl (HSub.pick (Pick.there Pick.here) (HSub.nil _))
        · repeat first
            | refine QThen.panic ?_
          exact panP (he'.trans hj) h1 (HSub.pick Pick.here (HSub.nil _))
    · obtain ⟨hsz, ⟨rfl, hnext⟩ | ⟨rfl, hnext⟩⟩ := step_seen hS hen
      · repeat first
          | refine LOps.nil ?_
          | refine LCode.seq ?_
          | refine QThen.normal ?_
          | refine LOps.pure (Pure.extract (c := .atom _) rfl rfl) rfl ?_
        refine LCode.cond rfl (fun hcc => ?_) (fun hcc => ?_)
        · repeat first
            | refine LCode.seq ?_
            | refine LCode.region ?_
            | refine LCode.skip ?_
            | refine LCode.block ?_
            | refine QThen.normal ?_
          refine LOps.pure (Pure.entry (en := e45) (stamp := 0) rfl (List.Mem.head _) (List.Mem.tail _ (List.Mem.head _)) rfl (by show (seen.push 0).back? = _; simp) rfl) rfl ?_
          repeat first
            | refine LOps.nil ?_
            | refine LCode.seq ?_
            | refine LCode.region ?_
            | refine QThen.normal ?_
            | refine LOps.pure (Pure.mv (lv := .atom _) rfl) rfl ?_
            | refine LOps.pure (Pure.extract (c := .atom _) rfl rfl) rfl ?_
            | refine LOps.pure (Pure.as (lv := .atom _) rfl) rfl ?_
          refine LOps.step (S.lit [_] rfl (elemsOk.cons rfl rfl elemsOk.nil) rfl rfl rfl ?_) rfl
          refine LOps.step (S.fnH [_, _] rfl (Pick.there (Pick.there (Pick.there Pick.here))) (is_spec sb T i op [[45]] hl (by omega) (by simp)) ?_) rfl
          repeat first
            | refine LOps.nil ?_
            | refine QThen.normal ?_
          refine LCode.cond rfl (fun hc => ?_) (fun hc => ?_)
          · rw [if_pos hc] at hr
            repeat first
              | refine LCode.seq ?_
              | refine LCode.region ?_
              | refine LOps.pure (Pure.mv (lv := .atom _) rfl) rfl ?_
            refine LOps.step (S.callP [_, _] rfl Pick.here (begin_spec sb T i op [45] hl (by omega) (by omega)) (fun v i1 op1 h1 => ?_) (fun l er i1 op1 h1 e' he' => ?_)) rfl
            · rw [h1, obind_ok] at hr
              obtain ⟨rfl, rfl, ho1, hi1⟩ := sBegin_ok h1
              repeat first
                | refine LOps.nil ?_
                | refine LCode.seq ?_
                | refine LCode.region ?_
                | refine QThen.normal ?_
                | refine LOps.pure (Pure.mv (lv := .atom _) rfl) rfl ?_
              obtain ⟨r1, hr1⟩ := obind_is hr
              refine LOps.step (S.callP [_] rfl Pick.here (ih (fun g hg => hE g (by omega)) _ _ r1 (by omega) (by omega) hr1) (fun e2 i2 op2 h2 => ?_) (fun l er i2 op2 h2 e' he' => ?_)) rfl
              · rw [hr1, h2, obind_ok] at hr
                obtain ⟨g1, _, g3, rfl⟩ := (ex_good T f).2.2.1 _ _ _ (hr1.trans (congrArg some h2))
                have g4 := g3 (by omega)
                refine LOps.step (S.lit [_] rfl (elemsOk.cons rfl rfl elemsOk.nil) rfl rfl rfl ?_) rfl
                repeat first
                  | refine LOps.pure (Pure.bld _ (cs := [_, _, _, _]) rfl) rfl ?_
                refine LOps.step (S.alloc fun b2 => ?_) rfl
                repeat first
                  | refine LOps.nil ?_
                  | refine LCode.seq ?_
                  | refine LCode.region ?_
                  | refine LCode.ret ?_
                  | refine QThen.normal ?_
                  | refine QThen.ret ?_
                  | refine QBlock.ret ?_
                  | refine LOps.pure (Pure.mv (lv := .atom _) rfl) rfl ?_
                  | refine LOps.pure (Pure.nilCheckH rfl) rfl ?_
                  | refine LOps.pure (Pure.fieldH rfl) rfl ?_
                  | refine LOps.pure (Pure.loadH (c := .atom _) rfl (List.Mem.tail _ (List.Mem.head _)) rfl) rfl ?_
                  | refine LOps.pure (Pure.sub rfl rfl (by omega)) rfl ?_
                  | refine LOps.pure (Pure.ldHAgg (cs' := [_, _, _, _]) rfl (List.Mem.tail _ (List.Mem.head _)) rfl rfl) rfl ?_
                  | refine LOps.step (S.store (cs' := [_, _, _, _]) rfl Pick.here rfl rfl rfl rfl rfl ?_) rfl
                  | refine LOps.step (S.store (cs' := [_, _, _, _]) rfl (Pick.there (Pick.there (Pick.there (Pick.there Pick.here)))) rfl rfl rfl rfl rfl ?_) rfl
                  | refine LOps.step (S.store (cs' := [_, _, _]) rfl (Pick.there Pick.here) rfl rfl rfl rfl rfl ?_) rfl
                exact retP (v := .mk nNeg 0 [] [e2]) hj (AllRes.cons (ResIs.cellAgg rfl (List.Mem.head _) rfl (LV.Sub.refl _)) AllRes.nil) (by cases hr; rfl) (by rw [encE_mk]; rfl) (by
                  rw [show (((op + 1 : Nat) : Int) - 1) = ((op + 1 - 1 : Nat) : Int) by omega]
                  exact HSub.pick (Pick.there Pick.here) (HSub.nil _))
              · rw [hr1, h2, obind_err] at hr
                repeat first
                  | refine QThen.panic ?_
                  | refine QBlock.panic ?_
                exact panP (he'.trans hj) (by cases hr; rfl) (HSub.pick Pick.here (HSub.nil _))
            · rw [h1, obind_err] at hr
              repeat first
                | refine QThen.panic ?_
                | refine QBlock.panic ?_
              exact panP (he'.trans hj) (by cases hr; rfl) (HSub.pick Pick.here (HSub.nil _))
          · repeat first
              | refine LCode.skip ?_
              | refine QThen.normal ?_
              | refine QBlock.normal ?_
            exact ⟨_, _, _, by have := hsz; simp; omega, ⟨seen.push 0, rfl, rfl, rfl, hnext hc⟩, ⟨rfl, rfl, rfl, trivial⟩, HSub.pick (Pick.there Pick.here) (HSub.pick (Pick.there Pick.here) (HSub.pick (Pick.there Pick.here) (HSub.pick Pick.here (HSub.nil _)))), hj⟩
        · cases hcc
      · repeat first
          | refine LOps.nil ?_
          | refine LCode.seq ?_
          | refine QThen.normal ?_
          | refine LOps.pure (Pure.extract (c := .atom _) rfl rfl) rfl ?_
        refine LCode.cond rfl (fun hcc => ?_) (fun hcc => ?_)
        · repeat first
            | refine LCode.seq ?_
            | refine LCode.region ?_
            | refine LCode.skip ?_
            | refine LCode.block ?_
            | refine QThen.normal ?_
          refine LOps.pure (Pure.entry (en := e33) (stamp := 1) rfl (List.Mem.head _) (List.Mem.tail _ (List.Mem.head _)) rfl (by show (seen.push 1).back? = _; simp) rfl) rfl ?_
          repeat first
            | refine LOps.nil ?_
            | refine LCode.seq ?_
            | refine LCode.region ?_
            | refine QThen.normal ?_
            | refine LOps.pure (Pure.mv (lv := .atom _) rfl) rfl ?_
            | refine LOps.pure (Pure.extract (c := .atom _) rfl rfl) rfl ?_
            | refine LOps.pure (Pure.as (lv := .atom _) rfl) rfl ?_
          refine LOps.step (S.lit [_] rfl (elemsOk.cons rfl rfl elemsOk.nil) rfl rfl rfl ?_) rfl
          refine LOps.step (S.fnH [_, _] rfl (Pick.there (Pick.there (Pick.there Pick.here))) (is_spec sb T i op [[33]] hl (by omega) (by simp)) ?_) rfl
          repeat first
            | refine LOps.nil ?_
            | refine QThen.normal ?_
          refine LCode.cond rfl (fun hc => ?_) (fun hc => ?_)
          · rw [if_neg (by rw [isTok_excl hc]; decide), if_pos hc] at hr
            repeat first
              | refine LCode.seq ?_
              | refine LCode.region ?_
              | refine LOps.pure (Pure.mv (lv := .atom _) rfl) rfl ?_
            refine LOps.step (S.callP [_, _] rfl Pick.here (begin_spec sb T i op [33] hl (by omega) (by omega)) (fun v i1 op1 h1 => ?_) (fun l er i1 op1 h1 e' he' => ?_)) rfl
            · rw [h1, obind_ok] at hr
              obtain ⟨rfl, rfl, ho1, hi1⟩ := sBegin_ok h1
              repeat first
                | refine LOps.nil ?_
                | refine LCode.seq ?_
                | refine LCode.region ?_
                | refine QThen.normal ?_
                | refine LOps.pure (Pure.mv (lv := .atom _) rfl) rfl ?_
              obtain ⟨r1, hr1⟩ := obind_is hr
              refine LOps.step (S.callP [_] rfl Pick.here (ih (fun g hg => hE g (by omega)) _ _ r1 (by omega) (by omega) hr1) (fun e2 i2 op2 h2 => ?_) (fun l er i2 op2 h2 e' he' => ?_)) rfl
              · rw [hr1, h2, obind_ok] at hr
                obtain ⟨g1, _, g3, rfl⟩ := (ex_good T f).2.2.1 _ _ _ (hr1.trans (congrArg some h2))
                have g4 := g3 (by omega)
                refine LOps.step (S.lit [_] rfl (elemsOk.cons rfl rfl elemsOk.nil) rfl rfl rfl ?_) rfl
                repeat first
                  | refine LOps.pure (Pure.bld _ (cs := [_, _, _, _]) rfl) rfl ?_
                refine LOps.step (S.alloc fun b2 => ?_) rfl
                repeat first
                  | refine LOps.nil ?_
                  | refine LCode.seq ?_
                  | refine LCode.region ?_
                  | refine LCode.ret ?_
                  | refine QThen.normal ?_
                  | refine QThen.ret ?_
                  | refine QBlock.ret ?_
                  | refine LOps.pure (Pure.mv (lv := .atom _) rfl) rfl ?_
                  | refine LOps.pure (Pure.nilCheckH rfl) rfl ?_
                  | refine LOps.pure (Pure.fieldH rfl) rfl ?_
                  | refine LOps.pure (Pure.loadH (c := .atom _) rfl (List.Mem.tail _ (List.Mem.head _)) rfl) rfl ?_
                  | refine LOps.pure (Pure.sub rfl rfl (by omega)) rfl ?_
                  | refine LOps.pure (Pure.ldHAgg (cs' := [_, _, _, _]) rfl (List.Mem.tail _ (List.Mem.head _)) rfl rfl) rfl ?_
                  | refine LOps.step (S.store (cs' := [_, _, _, _]) rfl Pick.here rfl rfl rfl rfl rfl ?_) rfl
                  | refine LOps.step (S.store (cs' := [_, _, _, _]) rfl (Pick.there (Pick.there (Pick.there (Pick.there Pick.here)))) rfl rfl rfl rfl rfl ?_) rfl
                  | refine LOps.step (S.store (cs' := [_, _, _]) rfl (Pick.there Pick.here) rfl rfl rfl rfl rfl ?_) rfl
                exact retP (v := .mk nNot 0 [] [e2]) hj (AllRes.cons (ResIs.cellAgg rfl (List.Mem.head _) rfl (LV.Sub.refl _)) AllRes.nil) (by cases hr; rfl) (by rw [encE_mk]; rfl) (by
                  rw [show (((op + 1 : Nat) : Int) - 1) = ((op + 1 - 1 : Nat) : Int) by omega]
                  exact HSub.pick (Pick.there Pick.here) (HSub.nil _))
              · rw [hr1, h2, obind_err] at hr
                repeat first
                  | refine QThen.panic ?_
                  | refine QBlock.panic ?_
                exact panP (he'.trans hj) (by cases hr; rfl) (HSub.pick Pick.here (HSub.nil _))
            · rw [h1, obind_err] at hr
              repeat first
                | refine QThen.panic ?_
                | refine QBlock.panic ?_
              exact panP (he'.trans hj) (by cases hr; rfl) (HSub.pick Pick.here (HSub.nil _))
          · repeat first
              | refine LCode.skip ?_
              | refine QThen.normal ?_
              | refine QBlock.normal ?_
            exact ⟨_, _, _, by have := hsz; simp; omega, ⟨seen.push 1, rfl, rfl, rfl, hnext hc⟩, ⟨rfl, rfl, rfl, trivial⟩, HSub.pick (Pick.there Pick.here) (HSub.pick (Pick.there Pick.here) (HSub.pick (Pick.there Pick.here) (HSub.pick Pick.here (HSub.nil _)))), hj⟩
        · cases hcc
end
end Go.Proofs.YtfodkbchknknjaaGreatDoor
namespace Go.Proofs.YtfodkbchknknjaaGreatDoor
open Go.GL Go.RowKit Go.Stele
set_option maxRecDepth 100000
set_option maxHeartbeats 4000000
/-- The function value of a level, and the boxes that it holds. -/
inductive Clo (sb : Nat) : Nat → FuncId → Array Value → Array Value → Heap → Prop
  | un : Clo sb 6 164 #[.pointer (some ⟨sb, 0, none⟩)] #[] []
  | bin {k bo bs bp bn : Nat} {f : FuncId} {first caps : Array Value} {H : Heap} (h : Clo sb (k + 1) f first caps H) : Clo sb k 176 #[] #[.pointer (some ⟨bo, 0, none⟩), .pointer (some ⟨bs, 0, none⟩), .pointer (some ⟨bp, 0, none⟩), .pointer (some ⟨bn, 0, none⟩)]
      ((bo, .cells 148 [.atom (.func (.func f) first caps)]) :: (bs, .cells 59 [ptr sb 0]) :: (bp, .cells 23 [.list ((lvOps k).map str)]) :: (bn, .cells 4 [bool (decide ((k : Int) = 2))]) :: H)
def PostH {A : Type} (sb : Nat) (T : List Tok) (enc : A → LV) (Hc : Heap) (res : Res A) (r : LRes) (H : Heap) : Prop := match res with
  | .ok v i op => r = .ret (enc v) ∧ H = srcH sb T i op :: Hc
  | .err l e => r = .panic (pan l e) ∧ ∃ i op : Nat, H = srcH sb T i op :: Hc
def CloC (B0 : Nat) (w0 : World) (sb : Nat) (T : List Tok) (f : Nat) : Prop :=
  ∀ k fn first caps Hc i op r, Clo sb k fn first caps Hc → i ≤ T.length → op ≤ 100 → eLev T f k i op = some r →
    LCalls (KC B0 w0) fn (first.toList.map .atom ++ caps.toList.map .atom) (srcH sb T i op :: Hc) (PostH sb T encE Hc r)
section steps
variable {C : Ctx} {e : Env} {H : Heap} {dst : Option Nat} {ty : TypeId} {pos : String} {aft : Array Edge} {g : Option (Nat × Bool)} {K : LV → Heap → Prop} {X : List PanicEntry → Heap → Prop}
theorem av_nil (a b : List LV) {e : Env} : a ++ ([] : List Operand).map e.ev ++ b = a ++ b := by simp
theorem S.callClo {A : Type} {enc : A → LV} {res : Res A} {sb i op : Nat} {T : List Tok} {fo : Operand} {f : FuncId} [TEnter C.P f] {first caps : Array Value} {ats : Array TypeId} {Hc F : Heap} (hf : e.ev fo = .atom (.func (.func f) first caps)) (hp : Pick (srcH sb T i op) H (F ++ Hc))
    (hc : LCalls C f (first.toList.map .atom ++ caps.toList.map .atom) (srcH sb T i op :: Hc) (PostH sb T enc Hc res)) (hk : ∀ v i' op', res = .ok v i' op' → K (enc v) (srcH sb T i' op' :: (F ++ Hc))) (hx : ∀ l er i' op', res = .err l er → X (pan l er) (srcH sb T i' op' :: Hc ++ F)) :
    LStep C ⟨dst, .call { callee := .value fo, args := #[], argTypes := ats }, ty, pos, aft, g⟩ e H K X := by
  have hp' : H.Perm ((srcH sb T i op :: Hc) ++ F) := hp.trans (List.Perm.cons _ List.perm_append_comm)
  refine LStep.conseq (K := fun v H' => ∃ u i' op', res = .ok u i' op' ∧ v = enc u ∧ H' = srcH sb T i' op' :: Hc ++ F) (S.callV (H1 := srcH sb T i op :: Hc) (F := F) [] hf (av_nil _ _) hp' hc ?_ ?_) ?_
  · intro v H' h
    cases hr : res with
    | ok u i' op' => rw [hr] at h; obtain ⟨h1, rfl⟩ := h; cases h1; exact ⟨u, i', op', rfl, rfl, rfl⟩
    | err l er => rw [hr] at h; obtain ⟨h1, _⟩ := h; cases h1
  · intro ch H' h
    cases hr : res with
    | ok u i' op' => rw [hr] at h; obtain ⟨h1, _⟩ := h; cases h1
    | err l er => rw [hr] at h; obtain ⟨h1, i', op', rfl⟩ := h; cases h1; exact hx _ _ _ _ hr
  · rintro v H' ⟨u, i', op', h1, rfl, rfl⟩
    exact ⟨_, _, LV.Sub.refl _, ⟨[], by simpa using List.perm_append_comm⟩, hk u i' op' h1⟩
end steps
theorem Clo.enter {sb k : Nat} {f : FuncId} {first caps : Array Value} {H : Heap} (h : Clo sb k f first caps H) : TEnter Tryz.prog f := by
  cases h <;> infer_instance
theorem Clo.le {sb k : Nat} {f : FuncId} {first caps : Array Value} {H : Heap} (h : Clo sb k f first caps H) : k ≤ 6 := by
  induction h with
  | un => exact Nat.le_refl _
  | bin _ ih => omega
attribute [local irreducible] LOps LCode LStep LCalls Go.GL.Pure QThen QBlock RetPost LQ LAny LLate LLateOp
theorem hsub_clo {s : Nat × LObj} {A B Hc : Heap} : HSub (s :: (B ++ Hc)) ((s :: Hc ++ []) ++ (A ++ B)) := by
  refine ⟨A, ?_⟩
  have h1 : (Hc ++ (A ++ B)).Perm ((B ++ Hc) ++ A) := List.perm_append_comm.trans (by rw [List.append_assoc]; exact List.perm_append_comm)
  simpa using List.Perm.cons s h1
theorem hsub_clo2 {s u : Nat × LObj} {A Hc : Heap} : HSub (u :: s :: (A ++ Hc)) (u :: ((s :: ([] ++ Hc)) ++ A)) := by
  refine ⟨[], ?_⟩
  have h1 : (Hc ++ A).Perm (A ++ Hc) := List.perm_append_comm
  simpa using List.Perm.cons u (List.Perm.cons s h1)
theorem HSub.appR {H' l1 l2 : Heap} (h : HSub H' l2) : HSub H' (l1 ++ l2) := by
  obtain ⟨G, hG⟩ := h
  refine ⟨G ++ l1, ?_⟩
  have h1 : (l1 ++ l2).Perm (l2 ++ l1) := List.perm_append_comm
  have h2 : (l2 ++ l1).Perm ((H' ++ G) ++ l1) := hG.append_right l1
  simpa using h1.trans h2
theorem perm_mid {a : Nat × LObj} {l1 l2 : Heap} : ([] ++ (l1 ++ a :: l2)).Perm ([a] ++ (l1 ++ l2)) := by
  exact (List.nil_append _).symm ▸ List.perm_middle
theorem lvOps_le (k : Nat) : (lvOps k).length ≤ 1000 := by
  unfold lvOps
  split <;> simp
theorem textAt_eq {T : List Tok} {i : Nat} (h : i < T.length) : textAt T i = T[i].text := by rw [textAt, List.getElem?_eq_getElem h]
section
variable {B0 : Nat} {w0 : World}
theorem bin_spec (hG : GW B0 w0) (sb : Nat) (T : List Tok) (hT : TOK T) (f : Nat) (hC : ∀ g, g < f → CloC B0 w0 sb T g) (k bo bs bp bn : Nat) (fn : FuncId) (first caps : Array Value) (Hc : Heap) (hclo : Clo sb (k + 1) fn first caps Hc) (i op : Nat) (r : Res Ex)
    (hi : i ≤ T.length) (ho : op ≤ 100) (hr : eLev T f k i op = some r) :
    LCalls (KC B0 w0) 176 [ptr bo 0, ptr bs 0, ptr bp 0, ptr bn 0] (srcH sb T i op :: (bo, .cells 148 [.atom (.func (.func fn) first caps)]) :: (bs, .cells 59 [ptr sb 0]) :: (bp, .cells 23 [.list ((lvOps k).map str)]) :: (bn, .cells 4 [bool (decide ((k : Int) = 2))]) :: Hc)
      (PostH sb T encE ((bo, .cells 148 [.atom (.func (.func fn) first caps)]) :: (bs, .cells 59 [ptr sb 0]) :: (bp, .cells 23 [.list ((lvOps k).map str)]) :: (bn, .cells 4 [bool (decide ((k : Int) = 2))]) :: Hc) r) := by
  have hl := hT.len
  have hk6 := hclo.le
  have hen := hclo.enter
  obtain ⟨f, rfl⟩ : ∃ g, f = g + 1 := by
    cases f with
    | zero => rw [eLev] at hr; cases hr
    | succ g => exact ⟨g, rfl⟩
  rw [eLev, if_neg (by omega)] at hr
  obtain ⟨r1, hr1⟩ := obind_is hr
  refine LCalls.intro Tryz.func176 rfl (n := 38) rfl rfl rfl ?_
  repeat first
    | refine LCode.seq ?_
    | refine LCode.region ?_
  refine LOps.step (S.alloc fun b => ?_) rfl
  repeat first
    | refine LOps.nil ?_
    | refine LCode.seq ?_
    | refine LCode.region ?_
    | refine QThen.normal ?_
    | refine LOps.pure (Pure.loadH (c := .atom _) rfl (List.Mem.tail _ (List.Mem.tail _ (List.Mem.head _))) rfl) rfl ?_
  refine LOps.step (S.callClo (F := [(b, _), (bo, _), (bs, _), (bp, _), (bn, _)]) (Hc := Hc) rfl (Pick.there Pick.here) (hC f (by omega) _ _ _ _ _ _ _ r1 hclo hi ho hr1) (fun v i1 op1 h1 => ?_) (fun l er i1 op1 h1 e' he' => ?_)) rfl
  · rw [hr1, h1, obind_ok] at hr
    obtain ⟨g1, _, g3, rfl⟩ := (ex_good T f).1 _ _ _ _ (hr1.trans (congrArg some h1))
    have g4 := g3 hi
    refine LOps.step (S.alloc fun b5 => ?_) rfl
    repeat first
      | refine LOps.nil ?_
      | refine LCode.seq ?_
      | refine LCode.block ?_
      | refine QThen.normal ?_
      | refine LOps.step (S.store (cs' := [_, _, _, _]) rfl Pick.here rfl rfl rfl rfl rfl ?_) rfl
    refine LCode.loopI (fun q ls H => ∃ (ex : Ex) (i2 : Nat), q ≤ f ∧ ls = [(0, ptr bo 0), (1, ptr bs 0), (2, ptr bp 0), (3, ptr bn 0), (4, ptr b 0), (5, ptr b5 0)] ∧
        H = (b5, .cells 38 [str (exOp ex), int .u32 (exNum ex), str (exName ex), .list (encArgs ex)]) :: srcH sb T i2 op1 :: (b, .cells 38 [str [], int .u32 0, str [], nilSlice]) :: ([(bo, .cells 148 [.atom (.func (.func fn) first caps)]), (bs, .cells 59 [ptr sb 0]), (bp, .cells 23 [.list ((lvOps k).map str)]), (bn, .cells 4 [bool (decide ((k : Int) = 2))])] ++ Hc) ∧ i2 ≤ T.length ∧ eLoop T q k ex i2 op1 = some r)
      ⟨f, _, _, ⟨v, i1, Nat.le_refl _, rfl, rfl, g4, hr⟩, ⟨rfl, rfl, rfl, rfl, rfl, rfl, trivial⟩, HSub.refl _⟩ ?_
    rintro q ls H ⟨ex, i2, hqf, rfl, rfl, hi2, hI⟩ j hj
    obtain ⟨q, rfl⟩ : ∃ q', q = q' + 1 := by
      cases q with
      | zero => rw [eLoop] at hI; cases hI
      | succ q => exact ⟨q, rfl⟩
    rw [eLoop] at hI
    repeat first
      | refine LCode.seq ?_
      | refine LCode.region ?_
      | refine LOps.pure (Pure.loadH (c := .atom _) rfl (List.Mem.tail _ (List.Mem.tail _ (List.Mem.tail _ (List.Mem.tail _ (List.Mem.head _))))) rfl) rfl ?_
      | refine LOps.pure (Pure.loadH (c := .list _) rfl (List.Mem.tail _ (List.Mem.tail _ (List.Mem.tail _ (List.Mem.tail _ (List.Mem.tail _ (List.Mem.head _)))))) rfl) rfl ?_
    refine LOps.step (S.fnH [_, _] rfl (Pick.there Pick.here) (is_spec sb T i2 op1 (lvOps k) hl (by omega) (lvOps_le k)) ?_) rfl
    repeat first
      | refine LOps.nil ?_
      | refine QThen.normal ?_
    refine LCode.cond rfl (fun hc => ?_) (fun hc => ?_)
    · have hlt := isTok_lt hc
      rw [if_pos hc] at hI
      repeat first
        | refine LCode.seq ?_
        | refine LCode.skip ?_
        | refine LCode.block ?_
        | refine QThen.normal ?_
      refine LCode.cut [(0, ptr bo 0), (1, ptr bs 0), (2, ptr bp 0), (3, ptr bn 0), (4, ptr b 0), (5, ptr b5 0), (6, str (textAt T i2))] ?_ (fun j2 hj2 => ?_)
      · refine LCode.quiet (by kernel_rfl) ?_
        repeat first
          | refine LQ.pure (Pure.loadH (c := .atom _) rfl (List.Mem.head _) rfl) rfl ?_
          | refine LQ.pure (Pure.loadH (c := .atom _) rfl (List.Mem.tail _ (List.Mem.tail _ (List.Mem.tail _ (List.Mem.tail _ (List.Mem.head _))))) rfl) rfl ?_
          | refine LQ.pure (Pure.loadH (c := .list _) rfl (List.Mem.head _) rfl) rfl ?_
          | refine LQ.pure (Pure.nilCheckH rfl) rfl ?_
          | refine LQ.pure (Pure.fieldH rfl) rfl ?_
        refine LQ.pure (Pure.ixRef (el' := encTok T[i2]) (cs := [_, _, _]) rfl rfl (by omega) (map_get _ _ _ hlt) rfl rfl) rfl ?_
        repeat first
          | refine LQ.pure (Pure.loadRef (c := .atom _) rfl rfl) rfl ?_
          | refine LQ.pure (Pure.field1 rfl rfl) rfl ?_
          | refine LQ.pure (Pure.as (lv := .atom _) rfl) rfl ?_
          | refine LQ.nil ?_
          | refine QThen.normal ?_
        exact ⟨⟨rfl, rfl, rfl, rfl, rfl, rfl, str_eq (textAt_eq hlt).symm, trivial⟩, rfl, rfl⟩
      · obtain ⟨r2, hr2⟩ := obind_is hI
        repeat first
          | refine LOps.nil ?_
          | refine LCode.seq ?_
          | refine LCode.region ?_
          | refine QThen.normal ?_
          | refine LOps.pure (Pure.loadH (c := .atom _) rfl (List.Mem.head _) rfl) rfl ?_
          | refine LOps.pure (Pure.loadH (c := .atom _) rfl (List.Mem.tail _ (List.Mem.tail _ (List.Mem.tail _ (List.Mem.tail _ (List.Mem.head _))))) rfl) rfl ?_
          | refine LOps.pure (Pure.nilCheckH rfl) rfl ?_
          | refine LOps.pure (Pure.fieldH rfl) rfl ?_
          | refine LOps.pure (Pure.add rfl rfl (by omega)) rfl ?_
          | refine LOps.step (S.store (cs' := [_, _, _]) rfl Pick.here rfl rfl rfl rfl rfl ?_) rfl
        refine LCode.draw (m := 7) rfl [(bo, .cells 148 [.atom (.func (.func fn) first caps)])] ?_
        have hHF : HSub [(bo, .cells 148 [.atom (.func (.func fn) first caps)])] (srcH sb T (i2 + 1) op1 :: (b5, .cells 38 [str (exOp ex), int .u32 (exNum ex), str (exName ex), .list (encArgs ex)]) :: (b, .cells 38 [str [], int .u32 0, str [], nilSlice]) :: (bo, .cells 148 [.atom (.func (.func fn) first caps)]) :: [(bs, .cells 59 [ptr sb 0]), (bp, .cells 23 [.list ((lvOps k).map str)]), (bn, .cells 4 [bool (decide ((k : Int) = 2))])] ++ Hc) := HSub.pick (Pick.there (Pick.there (Pick.there Pick.here))) (HSub.nil _)
        refine LAny.take (i := 0) hHF rfl (by kernel_rfl) (by kernel_rfl) (by kernel_rfl) rfl (Pure.mv (lv := .atom _) rfl) ?_
        refine LAny.take (i := 2) hHF rfl (by kernel_rfl) (by kernel_rfl) (by kernel_rfl) rfl (Pure.loadH (c := .atom _) rfl (List.Mem.head _) rfl) ?_
        refine LAny.late ?_ hHF
        refine LLate.two (i := 1) (j := 3) (by kernel_rfl) ?_ ?_
        · have hperm : (srcH sb T (i2 + 1) op1 :: (b5, LObj.cells 38 [str (exOp ex), int .u32 (exNum ex), str (exName ex), .list (encArgs ex)]) :: (b, LObj.cells 38 [str [], int .u32 0, str [], nilSlice]) :: ([(bo, LObj.cells 148 [.atom (.func (.func fn) first caps)]), (bs, LObj.cells 59 [ptr sb 0]), (bp, LObj.cells 23 [.list ((lvOps k).map str)]), (bn, LObj.cells 4 [bool (decide ((k : Int) = 2))])] ++ Hc)).Perm ((srcH sb T (i2 + 1) op1 :: Hc) ++ [(b5, LObj.cells 38 [str (exOp ex), int .u32 (exNum ex), str (exName ex), .list (encArgs ex)]), (b, LObj.cells 38 [str [], int .u32 0, str [], nilSlice]), (bo, LObj.cells 148 [.atom (.func (.func fn) first caps)]), (bs, LObj.cells 59 [ptr sb 0]), (bp, LObj.cells 23 [.list ((lvOps k).map str)]), (bn, LObj.cells 4 [bool (decide ((k : Int) = 2))])]) := List.Perm.cons _ (show ([(b5, LObj.cells 38 [str (exOp ex), int .u32 (exNum ex), str (exName ex), .list (encArgs ex)]), (b, LObj.cells 38 [str [], int .u32 0, str [], nilSlice]), (bo, LObj.cells 148 [.atom (.func (.func fn) first caps)]), (bs, LObj.cells 59 [ptr sb 0]), (bp, LObj.cells 23 [.list ((lvOps k).map str)]), (bn, LObj.cells 4 [bool (decide ((k : Int) = 2))])] ++ Hc).Perm (Hc ++ [(b5, LObj.cells 38 [str (exOp ex), int .u32 (exNum ex), str (exName ex), .list (encArgs ex)]), (b, LObj.cells 38 [str [], int .u32 0, str [], nilSlice]), (bo, LObj.cells 148 [.atom (.func (.func fn) first caps)]), (bs, LObj.cells 59 [ptr sb 0]), (bp, LObj.cells 23 [.list ((lvOps k).map str)]), (bn, LObj.cells 4 [bool (decide ((k : Int) = 2))])]) from List.perm_append_comm)
          refine LLateOp.pureH rfl rfl (Pure.ldHAgg (cs' := [_, _, _, _]) rfl (List.Mem.tail _ (List.Mem.head _)) rfl rfl) ?_
          refine LLate.one (i := 3) (by kernel_rfl) (LLateOp.step (H1 := srcH sb T (i2 + 1) op1 :: Hc) (F := [(b5, LObj.cells 38 [str (exOp ex), int .u32 (exNum ex), str (exName ex), .list (encArgs ex)]), (b, LObj.cells 38 [str [], int .u32 0, str [], nilSlice]), (bo, LObj.cells 148 [.atom (.func (.func fn) first caps)]), (bs, LObj.cells 59 [ptr sb 0]), (bp, LObj.cells 23 [.list ((lvOps k).map str)]), (bn, LObj.cells 4 [bool (decide ((k : Int) = 2))])]) rfl (.inl rfl) rfl (hperm) (HSub.pick (Pick.there (Pick.there Pick.here)) (HSub.nil _)) (S.callClo (F := []) (Hc := Hc) rfl Pick.here (hC q (by omega) _ _ _ _ _ _ _ r2 hclo (by omega) ho hr2) (fun e2 i3 op3 h3 => ?_) (fun l er i3 op3 h3 e' he' => ?_)))
          · rw [hr2, h3, obind_ok] at hI
            obtain ⟨q1, q2, q3, rfl⟩ := (ex_good T q).1 _ _ _ _ (hr2.trans (congrArg some h3))
            have q4 := q3 (by omega)
            refine LLate.one (i := 4) (by kernel_rfl) (LLateOp.step (H1 := []) (F := (srcH sb T i3 op3 :: ([] ++ Hc)) ++ [(b5, LObj.cells 38 [str (exOp ex), int .u32 (exNum ex), str (exName ex), .list (encArgs ex)]), (b, LObj.cells 38 [str [], int .u32 0, str [], nilSlice]), (bo, LObj.cells 148 [.atom (.func (.func fn) first caps)]), (bs, LObj.cells 59 [ptr sb 0]), (bp, LObj.cells 23 [.list ((lvOps k).map str)]), (bn, LObj.cells 4 [bool (decide ((k : Int) = 2))])]) rfl (.inl rfl) rfl (List.Perm.refl _) (HSub.appR (HSub.pick (Pick.there (Pick.there Pick.here)) (HSub.nil _))) (S.lit (es := [encE ex, encE e2]) [_, _] rfl (elemsOk.cons rfl rfl (elemsOk.cons rfl rfl elemsOk.nil)) rfl rfl rfl ?_))
            refine LLate.one (i := 5) (by kernel_rfl) (LLateOp.pureH rfl rfl (Pure.bld _ (cs := [_, _, _, _]) rfl) ?_)
            refine LLate.one (i := 6) (by kernel_rfl) (LLateOp.step (H1 := [(b5, LObj.cells 38 [str (exOp ex), int .u32 (exNum ex), str (exName ex), .list (encArgs ex)])]) (F := (srcH sb T i3 op3 :: ([] ++ Hc)) ++ [(b, LObj.cells 38 [str [], int .u32 0, str [], nilSlice]), (bo, LObj.cells 148 [.atom (.func (.func fn) first caps)]), (bs, LObj.cells 59 [ptr sb 0]), (bp, LObj.cells 23 [.list ((lvOps k).map str)]), (bn, LObj.cells 4 [bool (decide ((k : Int) = 2))])]) rfl (.inl rfl) rfl perm_mid (HSub.appR (HSub.pick (Pick.there Pick.here) (HSub.nil _))) (S.store (cs' := [_, _, _, _]) rfl Pick.here rfl rfl rfl rfl rfl ?_))
            refine LLate.done (by kernel_rfl) ?_
            refine QThen.normal ?_
            refine LCode.weak (H' := (b5, LObj.cells 38 [str (textAt T i2), int .u32 0, str [], .list [encE ex, encE e2]]) :: srcH sb T i3 op3 :: (b, LObj.cells 38 [str [], int .u32 0, str [], nilSlice]) :: ([(bo, LObj.cells 148 [.atom (.func (.func fn) first caps)]), (bs, LObj.cells 59 [ptr sb 0]), (bp, LObj.cells 23 [.list ((lvOps k).map str)]), (bn, LObj.cells 4 [bool (decide ((k : Int) = 2))])] ++ Hc)) (hsub_clo2 (A := [(b, LObj.cells 38 [str [], int .u32 0, str [], nilSlice]), (bo, LObj.cells 148 [.atom (.func (.func fn) first caps)]), (bs, LObj.cells 59 [ptr sb 0]), (bp, LObj.cells 23 [.list ((lvOps k).map str)]), (bn, LObj.cells 4 [bool (decide ((k : Int) = 2))])])) ?_
            repeat first
              | refine LOps.nil ?_
              | refine LCode.seq ?_
              | refine LCode.region ?_
              | refine QThen.normal ?_
              | refine LOps.pure (Pure.loadH (c := .atom _) rfl (List.Mem.tail _ (List.Mem.tail _ (List.Mem.tail _ (List.Mem.tail _ (List.Mem.tail _ (List.Mem.tail _ (List.Mem.head _))))))) rfl) rfl ?_
            refine LCode.cond rfl (fun hk2 => ?_) (fun hk2 => ?_)
            · have hk : k = 2 := by have := of_decide_eq_true hk2; omega
              rw [if_pos hk] at hI
              repeat first
                | refine LOps.nil ?_
                | refine LCode.seq ?_
                | refine LCode.region ?_
                | refine LCode.ret ?_
                | refine LCode.exit ?_
                | refine QThen.normal ?_
                | refine QThen.exit ?_
                | refine QBlock.hit ?_
                | refine QBlock.miss (by decide) ?_
                | refine LOps.pure (Pure.ldHAgg (cs' := [_, _, _, _]) rfl (List.Mem.head _) rfl rfl) rfl ?_
                | refine LOps.step (S.store (cs' := [_, _, _, _]) rfl (Pick.there (Pick.there Pick.here)) rfl rfl rfl rfl rfl ?_) rfl
              exact RetPost.ret (hj2.trans hj) (AllRes.cons (ResIs.cellAgg rfl (List.Mem.head _) rfl (LV.Sub.refl _)) AllRes.nil) (HSub.drop (HSub.drop (HSub.refl _))) (by cases hI; exact ⟨by rw [encE_mk]; rfl, rfl⟩)
            · have hk : ¬ k = 2 := by have := of_decide_eq_false hk2; omega
              rw [if_neg hk] at hI
              repeat first
                | refine LCode.skip ?_
                | refine QThen.normal ?_
                | refine QBlock.normal ?_
              exact ⟨q, _, _, by omega, ⟨.mk (textAt T i2) 0 [] [ex, e2], i3, by omega, rfl, rfl, q4, hI⟩, ⟨rfl, rfl, rfl, rfl, rfl, rfl, trivial⟩, (by rw [encArgs_map]; exact HSub.refl _), hj2.trans hj⟩
          · rw [hr2, h3, obind_err] at hI
            repeat first
              | refine QThen.panic ?_
              | refine QBlock.panic ?_
            exact RetPost.panic (he'.trans (hj2.trans hj)) (hsub_clo (A := [(b5, LObj.cells 38 [str (exOp ex), int .u32 (exNum ex), str (exName ex), .list (encArgs ex)]), (b, LObj.cells 38 [str [], int .u32 0, str [], nilSlice])]) (B := [(bo, LObj.cells 148 [.atom (.func (.func fn) first caps)]), (bs, LObj.cells 59 [ptr sb 0]), (bp, LObj.cells 23 [.list ((lvOps k).map str)]), (bn, LObj.cells 4 [bool (decide ((k : Int) = 2))])])) (by cases hI; exact ⟨rfl, i3, op3, rfl⟩)
        · have hperm : (srcH sb T (i2 + 1) op1 :: (b5, LObj.cells 38 [str (exOp ex), int .u32 (exNum ex), str (exName ex), .list (encArgs ex)]) :: (b, LObj.cells 38 [str [], int .u32 0, str [], nilSlice]) :: ([(bo, LObj.cells 148 [.atom (.func (.func fn) first caps)]), (bs, LObj.cells 59 [ptr sb 0]), (bp, LObj.cells 23 [.list ((lvOps k).map str)]), (bn, LObj.cells 4 [bool (decide ((k : Int) = 2))])] ++ Hc)).Perm ((srcH sb T (i2 + 1) op1 :: Hc) ++ [(b5, LObj.cells 38 [str (exOp ex), int .u32 (exNum ex), str (exName ex), .list (encArgs ex)]), (b, LObj.cells 38 [str [], int .u32 0, str [], nilSlice]), (bo, LObj.cells 148 [.atom (.func (.func fn) first caps)]), (bs, LObj.cells 59 [ptr sb 0]), (bp, LObj.cells 23 [.list ((lvOps k).map str)]), (bn, LObj.cells 4 [bool (decide ((k : Int) = 2))])]) := List.Perm.cons _ (show ([(b5, LObj.cells 38 [str (exOp ex), int .u32 (exNum ex), str (exName ex), .list (encArgs ex)]), (b, LObj.cells 38 [str [], int .u32 0, str [], nilSlice]), (bo, LObj.cells 148 [.atom (.func (.func fn) first caps)]), (bs, LObj.cells 59 [ptr sb 0]), (bp, LObj.cells 23 [.list ((lvOps k).map str)]), (bn, LObj.cells 4 [bool (decide ((k : Int) = 2))])] ++ Hc).Perm (Hc ++ [(b5, LObj.cells 38 [str (exOp ex), int .u32 (exNum ex), str (exName ex), .list (encArgs ex)]), (b, LObj.cells 38 [str [], int .u32 0, str [], nilSlice]), (bo, LObj.cells 148 [.atom (.func (.func fn) first caps)]), (bs, LObj.cells 59 [ptr sb 0]), (bp, LObj.cells 23 [.list ((lvOps k).map str)]), (bn, LObj.cells 4 [bool (decide ((k : Int) = 2))])]) from List.perm_append_comm)
          refine (LLateOp.step (H1 := srcH sb T (i2 + 1) op1 :: Hc) (F := [(b5, LObj.cells 38 [str (exOp ex), int .u32 (exNum ex), str (exName ex), .list (encArgs ex)]), (b, LObj.cells 38 [str [], int .u32 0, str [], nilSlice]), (bo, LObj.cells 148 [.atom (.func (.func fn) first caps)]), (bs, LObj.cells 59 [ptr sb 0]), (bp, LObj.cells 23 [.list ((lvOps k).map str)]), (bn, LObj.cells 4 [bool (decide ((k : Int) = 2))])]) rfl (.inl rfl) rfl (hperm) (HSub.pick (Pick.there (Pick.there Pick.here)) (HSub.nil _)) (S.callClo (F := []) (Hc := Hc) rfl Pick.here (hC q (by omega) _ _ _ _ _ _ _ r2 hclo (by omega) ho hr2) (fun e2 i3 op3 h3 => ?_) (fun l er i3 op3 h3 e' he' => ?_)))
          · rw [hr2, h3, obind_ok] at hI
            obtain ⟨q1, q2, q3, rfl⟩ := (ex_good T q).1 _ _ _ _ (hr2.trans (congrArg some h3))
            have q4 := q3 (by omega)
            refine LLate.one (i := 1) (by kernel_rfl) (LLateOp.pureH rfl rfl (Pure.ldHAgg (cs' := [_, _, _, _]) rfl (List.mem_append_right _ (List.Mem.head _)) rfl rfl) ?_)
            refine LLate.one (i := 4) (by kernel_rfl) (LLateOp.step (H1 := []) (F := (srcH sb T i3 op3 :: ([] ++ Hc)) ++ [(b5, LObj.cells 38 [str (exOp ex), int .u32 (exNum ex), str (exName ex), .list (encArgs ex)]), (b, LObj.cells 38 [str [], int .u32 0, str [], nilSlice]), (bo, LObj.cells 148 [.atom (.func (.func fn) first caps)]), (bs, LObj.cells 59 [ptr sb 0]), (bp, LObj.cells 23 [.list ((lvOps k).map str)]), (bn, LObj.cells 4 [bool (decide ((k : Int) = 2))])]) rfl (.inl rfl) rfl (List.Perm.refl _) (HSub.appR (HSub.pick (Pick.there (Pick.there Pick.here)) (HSub.nil _))) (S.lit (es := [encE ex, encE e2]) [_, _] rfl (elemsOk.cons rfl rfl (elemsOk.cons rfl rfl elemsOk.nil)) rfl rfl rfl ?_))
            refine LLate.one (i := 5) (by kernel_rfl) (LLateOp.pureH rfl rfl (Pure.bld _ (cs := [_, _, _, _]) rfl) ?_)
            refine LLate.one (i := 6) (by kernel_rfl) (LLateOp.step (H1 := [(b5, LObj.cells 38 [str (exOp ex), int .u32 (exNum ex), str (exName ex), .list (encArgs ex)])]) (F := (srcH sb T i3 op3 :: ([] ++ Hc)) ++ [(b, LObj.cells 38 [str [], int .u32 0, str [], nilSlice]), (bo, LObj.cells 148 [.atom (.func (.func fn) first caps)]), (bs, LObj.cells 59 [ptr sb 0]), (bp, LObj.cells 23 [.list ((lvOps k).map str)]), (bn, LObj.cells 4 [bool (decide ((k : Int) = 2))])]) rfl (.inl rfl) rfl perm_mid (HSub.appR (HSub.pick (Pick.there Pick.here) (HSub.nil _))) (S.store (cs' := [_, _, _, _]) rfl Pick.here rfl rfl rfl rfl rfl ?_))
            refine LLate.done (by kernel_rfl) ?_
            refine QThen.normal ?_
            refine LCode.weak (H' := (b5, LObj.cells 38 [str (textAt T i2), int .u32 0, str [], .list [encE ex, encE e2]]) :: srcH sb T i3 op3 :: (b, LObj.cells 38 [str [], int .u32 0, str [], nilSlice]) :: ([(bo, LObj.cells 148 [.atom (.func (.func fn) first caps)]), (bs, LObj.cells 59 [ptr sb 0]), (bp, LObj.cells 23 [.list ((lvOps k).map str)]), (bn, LObj.cells 4 [bool (decide ((k : Int) = 2))])] ++ Hc)) (hsub_clo2 (A := [(b, LObj.cells 38 [str [], int .u32 0, str [], nilSlice]), (bo, LObj.cells 148 [.atom (.func (.func fn) first caps)]), (bs, LObj.cells 59 [ptr sb 0]), (bp, LObj.cells 23 [.list ((lvOps k).map str)]), (bn, LObj.cells 4 [bool (decide ((k : Int) = 2))])])) ?_
            repeat first
              | refine LOps.nil ?_
              | refine LCode.seq ?_
              | refine LCode.region ?_
              | refine QThen.normal ?_
              | refine LOps.pure (Pure.loadH (c := .atom _) rfl (List.Mem.tail _ (List.Mem.tail _ (List.Mem.tail _ (List.Mem.tail _ (List.Mem.tail _ (List.Mem.tail _ (List.Mem.head _))))))) rfl) rfl ?_
            refine LCode.cond rfl (fun hk2 => ?_) (fun hk2 => ?_)
            · have hk : k = 2 := by have := of_decide_eq_true hk2; omega
              rw [if_pos hk] at hI
              repeat first
                | refine LOps.nil ?_
                | refine LCode.seq ?_
                | refine LCode.region ?_
                | refine LCode.ret ?_
                | refine LCode.exit ?_
                | refine QThen.normal ?_
                | refine QThen.exit ?_
                | refine QBlock.hit ?_
                | refine QBlock.miss (by decide) ?_
                | refine LOps.pure (Pure.ldHAgg (cs' := [_, _, _, _]) rfl (List.Mem.head _) rfl rfl) rfl ?_
                | refine LOps.step (S.store (cs' := [_, _, _, _]) rfl (Pick.there (Pick.there Pick.here)) rfl rfl rfl rfl rfl ?_) rfl
              exact RetPost.ret (hj2.trans hj) (AllRes.cons (ResIs.cellAgg rfl (List.Mem.head _) rfl (LV.Sub.refl _)) AllRes.nil) (HSub.drop (HSub.drop (HSub.refl _))) (by cases hI; exact ⟨by rw [encE_mk]; rfl, rfl⟩)
            · have hk : ¬ k = 2 := by have := of_decide_eq_false hk2; omega
              rw [if_neg hk] at hI
              repeat first
                | refine LCode.skip ?_
                | refine QThen.normal ?_
                | refine QBlock.normal ?_
              exact ⟨q, _, _, by omega, ⟨.mk (textAt T i2) 0 [] [ex, e2], i3, by omega, rfl, rfl, q4, hI⟩, ⟨rfl, rfl, rfl, rfl, rfl, rfl, trivial⟩, (by rw [encArgs_map]; exact HSub.refl _), hj2.trans hj⟩
          · rw [hr2, h3, obind_err] at hI
            repeat first
              | refine QThen.panic ?_
              | refine QBlock.panic ?_
            exact RetPost.panic (he'.trans (hj2.trans hj)) (hsub_clo (A := [(b5, LObj.cells 38 [str (exOp ex), int .u32 (exNum ex), str (exName ex), .list (encArgs ex)]), (b, LObj.cells 38 [str [], int .u32 0, str [], nilSlice])]) (B := [(bo, LObj.cells 148 [.atom (.func (.func fn) first caps)]), (bs, LObj.cells 59 [ptr sb 0]), (bp, LObj.cells 23 [.list ((lvOps k).map str)]), (bn, LObj.cells 4 [bool (decide ((k : Int) = 2))])])) (by cases hI; exact ⟨rfl, i3, op3, rfl⟩)
    · have hc' : isTok T i2 (lvOps k) = false := hc
      rw [if_neg (by rw [hc']; decide)] at hI
      repeat first
        | refine LOps.nil ?_
        | refine LCode.seq ?_
        | refine LCode.region ?_
        | refine LCode.ret ?_
        | refine LCode.exit ?_
        | refine QThen.normal ?_
        | refine QThen.exit ?_
        | refine QBlock.hit ?_
        | refine LOps.pure (Pure.ldHAgg (cs' := [_, _, _, _]) rfl (List.Mem.tail _ (List.Mem.head _)) rfl rfl) rfl ?_
        | refine LOps.step (S.store (cs' := [_, _, _, _]) rfl (Pick.there (Pick.there Pick.here)) rfl rfl rfl rfl rfl ?_) rfl
      exact RetPost.ret hj (AllRes.cons (ResIs.cellAgg rfl (List.Mem.head _) rfl (LV.Sub.refl _)) AllRes.nil) (HSub.drop (HSub.pick Pick.here (HSub.drop (HSub.refl _)))) (by cases hI; exact ⟨rfl, rfl⟩)
  · rw [hr1, h1, obind_err] at hr
    repeat first
      | refine QThen.panic ?_
    refine RetPost.panic (he'.trans rfl) (H' := srcH sb T i1 op1 :: (bo, .cells 148 [.atom (.func (.func fn) first caps)]) :: (bs, .cells 59 [ptr sb 0]) :: (bp, .cells 23 [.list ((lvOps k).map str)]) :: (bn, .cells 4 [bool (decide ((k : Int) = 2))]) :: Hc) ?_ (by cases hr; exact ⟨rfl, i1, op1, rfl⟩)
    exact HSub.pick Pick.here ⟨[(b, _)], List.perm_append_comm.trans (by exact List.Perm.refl _ |>.trans (List.perm_append_singleton _ _).symm)⟩
end
end Go.Proofs.YtfodkbchknknjaaGreatDoor
