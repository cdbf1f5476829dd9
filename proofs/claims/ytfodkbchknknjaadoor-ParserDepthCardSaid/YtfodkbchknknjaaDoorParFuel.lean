/- Where the parser's steps end, in plain Lean. -/
import Derived.Test.YtfodkbchknknjaaDoorParSpec2
set_option linter.unusedVariables false
set_option linter.unusedSimpArgs false
namespace Go.Stele
/-- A step from i, op that ends well ends at a later place (strictly, if s), within the tokens, with as many open constructs. -/
def Good {A : Type} (T : List Tok) (s : Bool) (i op : Nat) (r : Res A) : Prop := match r with
  | .ok _ i' op' => i ≤ i' ∧ (s = true → i < i') ∧ (i ≤ T.length → i' ≤ T.length) ∧ op' = op
  | .err _ _ => True
def GoodO {A : Type} (T : List Tok) (s : Bool) (i op : Nat) (r : OR A) : Prop := ∀ r', r = some r' → Good T s i op r'
theorem isTok_lt {T : List Tok} {i : Nat} {xs : List (List UInt8)} (h : isTok T i xs = true) : i < T.length := by
  rcases Nat.lt_or_ge i T.length with h1 | h1
  · exact h1
  · rw [isTok, List.getElem?_eq_none h1] at h; cases h
theorem get_lt {T : List Tok} {i : Nat} {t : Tok} (h : T[i]? = some t) : i < T.length := (List.getElem?_eq_some_iff.1 h).1
theorem sWord_good (T : List Tok) (k : Int) (i op : Nat) : Good T true i op (sWord T k i op) := by
  unfold sWord
  split
  · rename_i t ht
    have := get_lt ht
    split
    · exact ⟨by omega, fun _ => by omega, fun _ => by omega, rfl⟩
    · trivial
  · trivial
theorem sNeed_good (T : List Tok) (x : List UInt8) (i op : Nat) : Good T true i op (sNeed T x i op) := by
  unfold sNeed
  split
  · rename_i h
    have := isTok_lt h
    exact ⟨by omega, fun _ => by omega, fun _ => by omega, rfl⟩
  · trivial
theorem sBegin_ok {T : List Tok} {x : List UInt8} {i op i' op' : Nat} {u : Unit} (h : sBegin T x i op = .ok u i' op') : i' = i + 1 ∧ op' = op + 1 ∧ op < 100 ∧ i < T.length := by
  unfold sBegin at h
  split at h
  · rename_i h1
    have := isTok_lt h1
    split at h
    · cases h
    · cases h
      exact ⟨rfl, rfl, by omega, this⟩
  · cases h
theorem sEnd_ok {T : List Tok} {x : List UInt8} {i op i' op' : Nat} {u : Unit} (h : sEnd T x i op = .ok u i' op') : i' = i + 1 ∧ op' = op - 1 ∧ i < T.length := by
  unfold sEnd sNeed at h
  split at h
  · rename_i h1
    have := isTok_lt h1
    cases h
    exact ⟨rfl, rfl, this⟩
  · cases h
theorem sNumber_good (T : List Tok) (i op : Nat) : Good T true i op (sNumber T i op) := by
  have := sWord_good T 1 i op
  unfold sNumber
  cases h : sWord T 1 i op with
  | ok v i' op' => rw [h] at this; exact this
  | err l e => trivial
theorem obind_some {A B : Type} {r : OR A} {f : A → Nat → Nat → OR B} {q : Res B} (h : obind r f = some q) :
    (∃ v i op, r = some (.ok v i op) ∧ f v i op = some q) ∨ (∃ l e, r = some (.err l e) ∧ q = .err l e) := by
  match r, h with
  | some (.ok v i op), h => exact .inl ⟨v, i, op, rfl, h⟩
  | some (.err l e), h => exact .inr ⟨l, e, rfl, by simpa [obind] using h.symm⟩
/-- One step behind another. -/
theorem good_bind {A B : Type} {T : List Tok} {s t : Bool} {i op j op1 : Nat} {r : OR A} {f : A → Nat → Nat → OR B} (hr : GoodO T s j op1 r)
    (hf : ∀ v i' , r = some (.ok v i' op1) → j ≤ i' → (s = true → j < i') → (j ≤ T.length → i' ≤ T.length) → GoodO T t i op (f v i' op1)) : GoodO T t i op (obind r f) := fun q hq => by
  rcases obind_some hq with ⟨v, i', op', h1, h2⟩ | ⟨l, e, _, rfl⟩
  · obtain ⟨g1, g2, g3, g4⟩ := hr _ h1
    subst g4
    exact hf v i' h1 g1 g2 g3 q h2
  · trivial
theorem good_some {A : Type} {T : List Tok} {s : Bool} {i op : Nat} {r : Res A} (h : Good T s i op r) : GoodO T s i op (some r) := fun r' hr => by cases hr; exact h
theorem good_none {A : Type} {T : List Tok} {s : Bool} {i op : Nat} : GoodO (A := A) T s i op none := fun r' hr => by cases hr
/-- From an earlier place on. -/
theorem GoodO.from {A : Type} {T : List Tok} {s t : Bool} {i j op : Nat} {r : OR A} (h : GoodO T s j op r) (hij : i ≤ j) (hs : t = true → i < j ∨ s = true) (hT : i ≤ T.length → j ≤ T.length) : GoodO T t i op r := fun r' hr => by
  have := h r' hr
  cases r' with
  | ok v i' op' =>
    obtain ⟨g1, g2, g3, g4⟩ := this
    refine ⟨by omega, fun ht => ?_, fun hi => g3 (hT hi), g4⟩
    rcases hs ht with h1 | h1
    · omega
    · have := g2 h1; omega
  | err l e => trivial
theorem sNamesLoop_good (T : List Tok) : ∀ (f : Nat) (acc : List (List UInt8)) (i op : Nat), GoodO T false i op (sNamesLoop T f acc i op)
  | 0, _, _, _ => good_none
  | f + 1, acc, i, op => by
    rw [sNamesLoop]
    split
    · rename_i h
      have := isTok_lt h
      refine good_bind (good_some (sWord_good T 2 (i + 1) op)) fun v i' _ h1 h2 h3 => ?_
      exact (sNamesLoop_good T f _ i' op).from (by omega) (by simp) (fun _ => h3 (by omega))
    · exact good_some ⟨by omega, by simp, fun h => h, rfl⟩
theorem sNames_good (T : List Tok) (f i op : Nat) : GoodO T true i op (sNames T f i op) :=
  good_bind (good_some (sWord_good T 2 i op)) fun v i' _ h1 h2 h3 => (sNamesLoop_good T f _ i' op).from h1 (fun _ => .inl (h2 rfl)) h3
/-- What stands between a sign that opens a construct and the one that closes it. -/
theorem good_wrap {A : Type} {T : List Tok} {s : Bool} {x y : List UInt8} {i op : Nat} {g : Nat → Nat → OR A} (hg : i < T.length → op < 100 → GoodO T s (i + 1) (op + 1) (g (i + 1) (op + 1))) :
    GoodO T true i op (obind (some (sBegin T x i op)) fun _ i' op' => obind (g i' op') fun v i' op' => obind (some (sEnd T y i' op')) fun _ i' op' => some (.ok v i' op')) := fun q hq => by
  rcases obind_some hq with ⟨v, i1, op1, h1, h2⟩ | ⟨l, e, _, rfl⟩
  · injection h1 with h1
    obtain ⟨rfl, rfl, ho, hi⟩ := sBegin_ok h1
    rcases obind_some h2 with ⟨w, i2, op2, h3, h4⟩ | ⟨l, e, _, rfl⟩
    · obtain ⟨g1, _, g3, rfl⟩ := hg hi ho _ h3
      rcases obind_some h4 with ⟨u, i3, op3, h5, h6⟩ | ⟨l, e, _, rfl⟩
      · injection h5 with h5
        obtain ⟨rfl, rfl, hi2⟩ := sEnd_ok h5
        cases h6
        exact ⟨by omega, fun _ => by omega, fun _ => by omega, by omega⟩
      · trivial
    · trivial
  · trivial
/-- All the functions for expressions. -/
theorem ex_good (T : List Tok) : ∀ f : Nat, (∀ k i op, GoodO T true i op (eLev T f k i op)) ∧ (∀ k e i op, GoodO T false i op (eLoop T f k e i op)) ∧ (∀ i op, GoodO T true i op (eUnary T f i op)) ∧
    (∀ i op, GoodO T true i op (ePrim T f i op)) ∧ (∀ i op, GoodO T true i op (eIndex T f i op)) ∧ (∀ i op, GoodO T true i op (eArgs T f i op)) ∧ (∀ acc i op, GoodO T false i op (eArgsLoop T f acc i op))
  | 0 => ⟨fun _ _ _ => by rw [eLev]; exact good_none, fun _ _ _ _ => by rw [eLoop]; exact good_none, fun _ _ => by rw [eUnary]; exact good_none, fun _ _ => by rw [ePrim]; exact good_none, fun _ _ => by rw [eIndex]; exact good_none, fun _ _ => by rw [eArgs]; exact good_none, fun _ _ _ => by rw [eArgsLoop]; exact good_none⟩
  | f + 1 => by
    obtain ⟨hL, hO, hU, hP, hI, hA, hB⟩ := ex_good T f
    have neg : ∀ (x : List UInt8) (nm : List UInt8) (i op : Nat), GoodO T true i op (obind (some (sBegin T x i op)) fun _ i' op' => obind (eUnary T f i' op') fun e i' op' => some (.ok (Ex.mk nm 0 [] [e]) i' (op' - 1))) := fun x nm i op q hq => by
      rcases obind_some hq with ⟨v, i1, op1, h1, h2⟩ | ⟨l, e, _, rfl⟩
      · injection h1 with h1
        obtain ⟨rfl, rfl, ho, hi⟩ := sBegin_ok h1
        rcases obind_some h2 with ⟨w, i2, op2, h3, h4⟩ | ⟨l, e, _, rfl⟩
        · obtain ⟨g1, _, g3, rfl⟩ := hU _ _ _ h3
          cases h4
          exact ⟨by omega, fun _ => by omega, fun _ => g3 (by omega), by omega⟩
        · trivial
      · trivial
    refine ⟨fun k i op => ?_, fun k e i op => ?_, fun i op => ?_, fun i op => ?_, fun i op => ?_, fun i op => ?_, fun acc i op => ?_⟩
    · rw [eLev]
      split
      · exact hU i op
      · exact good_bind (hL (k + 1) i op) fun v i' _ h1 h2 h3 => (hO k v i' op).from h1 (fun _ => .inl (h2 rfl)) h3
    · rw [eLoop]
      split
      · rename_i h
        have := isTok_lt h
        refine good_bind (hL (k + 1) (i + 1) op) fun v i' _ h1 h2 h3 => ?_
        split
        · exact good_some ⟨by omega, by simp, fun _ => h3 (by omega), rfl⟩
        · exact (hO k _ i' op).from (by omega) (by simp) (fun _ => h3 (by omega))
      · exact good_some ⟨by omega, by simp, fun h => h, rfl⟩
    · rw [eUnary]
      split
      · exact neg _ _ _ _
      · split
        · exact neg _ _ _ _
        · exact hP i op
    · rw [ePrim]
      split
      · exact good_wrap (g := fun i op => eLev T f 0 i op) fun _ _ => hL 0 _ _
      · split
        · exact good_bind (good_some (sNumber_good T i op)) fun v i' _ h1 h2 h3 => good_some ⟨h1, fun _ => h2 rfl, h3, rfl⟩
        · refine good_bind (good_some (sWord_good T 2 i op)) fun v i' _ h1 h2 h3 => ?_
          split
          · exact good_bind (hI i' op) fun v i2 _ g1 g2 g3 => good_some ⟨by omega, fun _ => by have := h2 rfl; omega, fun h => g3 (h3 h), rfl⟩
          · split
            · exact good_bind (hA i' op) fun v i2 _ g1 g2 g3 => good_some ⟨by omega, fun _ => by have := h2 rfl; omega, fun h => g3 (h3 h), rfl⟩
            · exact good_some ⟨h1, fun _ => h2 rfl, h3, rfl⟩
    · rw [eIndex]
      exact good_wrap (g := fun i op => eLev T f 0 i op) fun _ _ => hL 0 _ _
    · rw [eArgs]
      exact good_wrap (g := fun i op => eArgsLoop T f [] i op) fun _ _ => hB [] _ _
    · rw [eArgsLoop]
      split
      · exact good_some ⟨by omega, by simp, fun h => h, rfl⟩
      · refine good_bind (s := false) (j := i) (op1 := op) ?_ fun v i' _ h1 h2 h3 => ?_
        · split
          · exact good_some ⟨by omega, by simp, fun h => h, rfl⟩
          · exact GoodO.from (good_some (sNeed_good T [44] i op)) (by omega) (by simp) (fun h => h)
        · exact good_bind (hL 0 i' op) fun v i2 _ g1 g2 g3 => (hB _ i2 op).from (by omega) (by simp) (fun h => g3 (h3 h))
end Go.Stele
/- The parser in plain Lean: where statements end; enough fuel. -/
namespace Go.Stele
theorem st_good (T : List Tok) : ∀ f : Nat, (∀ i op, GoodO T true i op (sBlock T f i op)) ∧ (∀ acc i op, GoodO T false i op (sStmts T f acc i op)) ∧ (∀ i op, GoodO T true i op (sStmt T f i op)) ∧ (∀ i op, GoodO T true i op (sSimple T f i op))
  | 0 => ⟨fun _ _ => by rw [sBlock]; exact good_none, fun _ _ _ => by rw [sStmts]; exact good_none, fun _ _ => by rw [sStmt]; exact good_none, fun _ _ => by rw [sSimple]; exact good_none⟩
  | f + 1 => by
    obtain ⟨hB, hL, hS, hM⟩ := st_good T f
    obtain ⟨gL, _, _, _, gI, gA, _⟩ := ex_good T f
    refine ⟨fun i op => ?_, fun acc i op => ?_, fun i op => ?_, fun i op => ?_⟩
    · rw [sBlock]
      exact good_wrap (g := fun i op => sStmts T f [] i op) fun _ _ => hL [] _ _
    · rw [sStmts]
      split
      · exact good_some ⟨by omega, by simp, fun h => h, rfl⟩
      · exact good_bind (hS i op) fun v i' _ h1 h2 h3 => (hL _ i' op).from h1 (by simp) h3
    · rw [sStmt]
      split
      · rename_i h
        have := isTok_lt h
        refine good_bind (gL 0 (i + 1) op) fun v i' _ h1 h2 h3 => good_bind (hB i' op) fun w i2 _ g1 g2 g3 => ?_
        split
        · rename_i h4
          have := isTok_lt h4
          refine good_bind (hB (i2 + 1) op) fun x i3 _ k1 k2 k3 => good_some ⟨by omega, fun _ => by omega, fun _ => k3 (by omega), rfl⟩
        · exact good_some ⟨by omega, fun _ => by omega, fun _ => g3 (h3 (by omega)), rfl⟩
      · split
        · rename_i h
          have := isTok_lt h
          exact good_bind (gL 0 (i + 1) op) fun v i' _ h1 h2 h3 => good_bind (hB i' op) fun w i2 _ g1 g2 g3 => good_some ⟨by omega, fun _ => by omega, fun _ => g3 (h3 (by omega)), rfl⟩
        · exact good_bind (hM i op) fun v i' _ h1 h2 h3 => good_bind (good_some (sNeed_good T [59] i' op)) fun w i2 _ g1 g2 g3 => good_some ⟨by omega, fun _ => by have := h2 rfl; omega, fun hh => g3 (h3 hh), rfl⟩
    · rw [sSimple]
      split
      · rename_i h
        have := isTok_lt h
        exact good_bind (gL 0 (i + 1) op) fun v i' _ h1 h2 h3 => good_some ⟨by omega, fun _ => by omega, fun _ => h3 (by omega), rfl⟩
      · split
        · rename_i h
          have := isTok_lt h
          exact good_some ⟨by omega, fun _ => by omega, fun _ => by omega, rfl⟩
        · refine good_bind (good_some (sWord_good T 2 i op)) fun v i' _ h1 h2 h3 => ?_
          split
          · exact good_bind (gA i' op) fun w i2 _ g1 g2 g3 => good_some ⟨by omega, fun _ => by have := h2 rfl; omega, fun hh => g3 (h3 hh), rfl⟩
          · split
            · exact good_bind (gI i' op) fun w i2 _ g1 g2 g3 => good_bind (good_some (sNeed_good T [61] i2 op)) fun u i3 _ k1 k2 k3 => good_bind (gL 0 i3 op) fun x i4 _ m1 m2 m3 =>
                good_some ⟨by omega, fun _ => by have := h2 rfl; omega, fun hh => m3 (k3 (g3 (h3 hh))), rfl⟩
            · exact good_bind (good_some (sNeed_good T [61] i' op)) fun u i3 _ k1 k2 k3 => good_bind (gL 0 i3 op) fun x i4 _ m1 m2 m3 =>
                good_some ⟨by omega, fun _ => by have := h2 rfl; omega, fun hh => m3 (k3 (h3 hh)), rfl⟩
theorem sVars_good (T : List Tok) : ∀ (f : Nat) (acc : List (List UInt8)) (i op : Nat), GoodO T (isTok T i [kwVar]) i op (sVars T f acc i op)
  | 0, _, _, _ => by rw [sVars]; exact good_none
  | f + 1, acc, i, op => by
    rw [sVars]
    split
    · rename_i h
      have := isTok_lt h
      exact good_bind (sNames_good T f (i + 1) op) fun v i' _ h1 h2 h3 => good_bind (good_some (sNeed_good T [59] i' op)) fun u i2 _ g1 g2 g3 =>
        (sVars_good T f _ i2 op).from (by omega) (fun _ => .inl (by omega)) (fun _ => g3 (h3 (by omega)))
    · rename_i h
      exact good_some ⟨by omega, fun hh => absurd hh h, fun h => h, rfl⟩
/-- The same with what is needed of the places alone. -/
theorem good_begin {T : List Tok} {x : List UInt8} {i op : Nat} {B : Type} {s : Bool} {g : Nat → Nat → OR B} {r : Res B} (h : obind (some (sBegin T x i op)) (fun _ i' op' => g i' op') = some r) :
    (i < T.length ∧ op < 100 ∧ g (i + 1) (op + 1) = some r) ∨ (∃ l e, r = .err l e) := by
  rcases obind_some h with ⟨v, i1, op1, h1, h2⟩ | ⟨l, e, _, rfl⟩
  · injection h1 with h1
    obtain ⟨rfl, rfl, ho, hi⟩ := sBegin_ok h1
    exact .inl ⟨hi, ho, h2⟩
  · exact .inr ⟨l, e, rfl⟩
/-! ### Enough fuel -/
def Ends {A : Type} (r : OR A) : Prop := ∃ q, r = some q
theorem ends_bind {A B : Type} {r : OR A} {f : A → Nat → Nat → OR B} (h : Ends r) (k : ∀ v i op, r = some (.ok v i op) → Ends (f v i op)) : Ends (obind r f) := by
  obtain ⟨q, rfl⟩ := h
  cases q with
  | ok v i op => exact k v i op rfl
  | err l e => exact ⟨_, rfl⟩
theorem ends_some {A : Type} {r : Res A} : Ends (some r) := ⟨_, rfl⟩
theorem ends_begin {B : Type} {T : List Tok} {x : List UInt8} {i op : Nat} {g : Unit → Nat → Nat → OR B} (k : i < T.length → op < 100 → Ends (g () (i + 1) (op + 1))) : Ends (obind (some (sBegin T x i op)) g) :=
  ends_bind ends_some fun v i1 op1 h1 => by
    injection h1 with h1
    obtain ⟨rfl, rfl, ho, hi⟩ := sBegin_ok h1
    exact k hi ho
theorem ex_ends (T : List Tok) : ∀ f : Nat, (∀ k i op, k ≤ 6 → i ≤ T.length → 10 * (T.length - i) + 20 - k ≤ f → Ends (eLev T f k i op)) ∧ (∀ k e i op, k ≤ 5 → i ≤ T.length → 10 * (T.length - i) + 11 ≤ f → Ends (eLoop T f k e i op)) ∧
    (∀ i op, i ≤ T.length → 10 * (T.length - i) + 13 ≤ f → Ends (eUnary T f i op)) ∧ (∀ i op, i ≤ T.length → 10 * (T.length - i) + 12 ≤ f → Ends (ePrim T f i op)) ∧ (∀ i op, i ≤ T.length → 10 * (T.length - i) + 11 ≤ f → Ends (eIndex T f i op)) ∧
    (∀ i op, i ≤ T.length → 10 * (T.length - i) + 12 ≤ f → Ends (eArgs T f i op)) ∧ (∀ acc i op, i ≤ T.length → 10 * (T.length - i) + 21 ≤ f → Ends (eArgsLoop T f acc i op))
  | 0 => ⟨fun _ _ _ _ _ _ => by omega, fun _ _ _ _ _ _ _ => by omega, fun _ _ _ _ => by omega, fun _ _ _ _ => by omega, fun _ _ _ _ => by omega, fun _ _ _ _ => by omega, fun _ _ _ _ _ => by omega⟩
  | f + 1 => by
    obtain ⟨hL, hO, hU, hP, hI, hA, hB⟩ := ex_ends T f
    obtain ⟨gL, gO, gU, gP, gI, gA, gB⟩ := ex_good T f
    have neg : ∀ (x nm : List UInt8) (i op : Nat), 10 * (T.length - i) + 13 ≤ f + 1 → Ends (obind (some (sBegin T x i op)) fun _ i' op' => obind (eUnary T f i' op') fun e i' op' => some (.ok (Ex.mk nm 0 [] [e]) i' (op' - 1))) := fun x nm i op hf =>
      ends_begin fun hi ho => ends_bind (hU _ _ (by omega) (by omega)) fun v i2 op2 _ => ends_some
    refine ⟨fun k i op hk hi hf => ?_, fun k e i op hk hi hf => ?_, fun i op hi hf => ?_, fun i op hi hf => ?_, fun i op hi hf => ?_, fun i op hi hf => ?_, fun acc i op hi hf => ?_⟩
    · rw [eLev]
      split
      · exact hU i op hi (by omega)
      · refine ends_bind (hL (k + 1) i op (by omega) hi (by omega)) fun v i' op' h => ?_
        obtain ⟨g1, g2, g3, rfl⟩ := gL (k + 1) i op _ h
        have := g2 rfl
        exact hO k v i' op' (by omega) (g3 hi) (by have := g3 hi; omega)
    · rw [eLoop]
      split
      · rename_i h
        have := isTok_lt h
        refine ends_bind (hL (k + 1) (i + 1) op (by omega) (by omega) (by omega)) fun v i' op' h => ?_
        obtain ⟨g1, g2, g3, rfl⟩ := gL (k + 1) (i + 1) op _ h
        have := g3 (by omega)
        split
        · exact ends_some
        · exact hO k _ i' op' hk this (by omega)
      · exact ends_some
    · rw [eUnary]
      split
      · exact neg _ _ _ _ hf
      · split
        · exact neg _ _ _ _ hf
        · exact hP i op hi (by omega)
    · rw [ePrim]
      split
      · exact ends_begin fun hlt ho => ends_bind (hL 0 _ _ (by omega) (by omega) (by omega)) fun v i2 op2 _ => ends_bind ends_some fun _ _ _ _ => ends_some
      · split
        · exact ends_bind ends_some fun _ _ _ _ => ends_some
        · refine ends_bind ends_some fun v i' op' h => ?_
          injection h with h
          have hg := sWord_good T 2 i op
          rw [h] at hg
          obtain ⟨h1, h2, h3, rfl⟩ := hg
          have := h2 rfl
          have := h3 hi
          split
          · exact ends_bind (hI i' _ (by omega) (by omega)) fun _ _ _ _ => ends_some
          · split
            · exact ends_bind (hA i' _ (by omega) (by omega)) fun _ _ _ _ => ends_some
            · exact ends_some
    · rw [eIndex]
      exact ends_begin fun hlt ho => ends_bind (hL 0 _ _ (by omega) (by omega) (by omega)) fun v i2 op2 _ => ends_bind ends_some fun _ _ _ _ => ends_some
    · rw [eArgs]
      exact ends_begin fun hlt ho => ends_bind (hB [] _ _ (by omega) (by omega)) fun v i2 op2 _ => ends_bind ends_some fun _ _ _ _ => ends_some
    · rw [eArgsLoop]
      split
      · exact ends_some
      · refine ends_bind ends_some fun v i' op' h => ?_
        have hg : i ≤ i' ∧ i' ≤ T.length := by
          injection h with h
          split at h
          · cases h; exact ⟨Nat.le_refl _, hi⟩
          · have hg := sNeed_good T [44] i op
            rw [h] at hg
            exact ⟨hg.1, hg.2.2.1 hi⟩
        refine ends_bind (hL 0 i' op' (by omega) hg.2 (by omega)) fun v2 i2 op2 h2 => ?_
        obtain ⟨g1, g2, g3, rfl⟩ := gL 0 i' op' _ h2
        have := g2 rfl
        have := g3 hg.2
        exact hB _ i2 _ this (by omega)
theorem st_ends (T : List Tok) : ∀ f : Nat, (∀ i op, i ≤ T.length → 10 * (T.length - i) + 5 ≤ f → Ends (sBlock T f i op)) ∧ (∀ acc i op, i ≤ T.length → 10 * (T.length - i) + 14 ≤ f → Ends (sStmts T f acc i op)) ∧
    (∀ i op, i ≤ T.length → 10 * (T.length - i) + 13 ≤ f → Ends (sStmt T f i op)) ∧ (∀ i op, i ≤ T.length → 10 * (T.length - i) + 12 ≤ f → Ends (sSimple T f i op))
  | 0 => ⟨fun _ _ _ _ => by omega, fun _ _ _ _ _ => by omega, fun _ _ _ _ => by omega, fun _ _ _ _ => by omega⟩
  | f + 1 => by
    obtain ⟨hB, hL, hS, hM⟩ := st_ends T f
    obtain ⟨eL, _, _, _, eI, eA, _⟩ := ex_ends T f
    obtain ⟨gL, _, _, _, gI, gA, _⟩ := ex_good T f
    obtain ⟨kB, kL, kS, kM⟩ := st_good T f
    refine ⟨fun i op hi hf => ?_, fun acc i op hi hf => ?_, fun i op hi hf => ?_, fun i op hi hf => ?_⟩
    · rw [sBlock]
      exact ends_begin fun hlt ho => ends_bind (hL [] _ _ (by omega) (by omega)) fun v i2 op2 _ => ends_bind ends_some fun _ _ _ _ => ends_some
    · rw [sStmts]
      split
      · exact ends_some
      · refine ends_bind (hS i op hi (by omega)) fun v i' op' h => ?_
        obtain ⟨g1, g2, g3, rfl⟩ := kS i op _ h
        have := g2 rfl
        have := g3 hi
        exact hL _ i' _ (by omega) (by omega)
    · rw [sStmt]
      split
      · rename_i h
        have := isTok_lt h
        refine ends_bind (eL 0 (i + 1) op (by omega) (by omega) (by omega)) fun v i' op' h => ?_
        obtain ⟨g1, g2, g3, rfl⟩ := gL 0 (i + 1) op _ h
        have := g2 rfl
        have := g3 (by omega)
        refine ends_bind (hB i' _ (by omega) (by omega)) fun v2 i2 op2 h2 => ?_
        obtain ⟨q1, q2, q3, rfl⟩ := kB i' _ _ h2
        have := q3 (by omega)
        split
        · rename_i h4
          have := isTok_lt h4
          exact ends_bind (hB (i2 + 1) _ (by omega) (by omega)) fun _ _ _ _ => ends_some
        · exact ends_some
      · split
        · rename_i h
          have := isTok_lt h
          refine ends_bind (eL 0 (i + 1) op (by omega) (by omega) (by omega)) fun v i' op' h => ?_
          obtain ⟨g1, g2, g3, rfl⟩ := gL 0 (i + 1) op _ h
          have := g2 rfl
          have := g3 (by omega)
          exact ends_bind (hB i' _ (by omega) (by omega)) fun v2 i2 op2 h2 => ends_some
        · exact ends_bind (hM i op hi (by omega)) fun _ _ _ _ => ends_bind ends_some fun _ _ _ _ => ends_some
    · rw [sSimple]
      split
      · rename_i h
        have := isTok_lt h
        exact ends_bind (eL 0 (i + 1) op (by omega) (by omega) (by omega)) fun _ _ _ _ => ends_some
      · split
        · exact ends_some
        · refine ends_bind ends_some fun v i' op' h => ?_
          injection h with h
          have hg := sWord_good T 2 i op
          rw [h] at hg
          obtain ⟨h1, h2, h3, rfl⟩ := hg
          have := h2 rfl
          have := h3 hi
          split
          · exact ends_bind (eA i' _ (by omega) (by omega)) fun _ _ _ _ => ends_some
          · have tail : ∀ (i2 op2 : Nat) (g : Ex → Sm), i' ≤ i2 → i2 ≤ T.length → Ends (obind (some (sNeed T [61] i2 op2)) fun _ i' op' => obind (eLev T f 0 i' op') fun e i' op' => some (.ok (g e) i' op')) := fun i2 op2 g hi1 hi2 => by
              refine ends_bind ends_some fun v i3 op3 h3 => ?_
              injection h3 with h3
              have hg := sNeed_good T [61] i2 op2
              rw [h3] at hg
              have := hg.2.2.1 hi2
              have := hg.1
              exact ends_bind (eL 0 i3 _ (by omega) (by omega) (by omega)) fun _ _ _ _ => ends_some
            split
            · refine ends_bind (eI i' _ (by omega) (by omega)) fun v2 i2 op2 h2 => ?_
              obtain ⟨q1, q2, q3, rfl⟩ := gI i' _ _ h2
              exact tail i2 _ _ q1 (q3 (by omega))
            · exact tail i' _ _ (Nat.le_refl _) (by omega)
theorem sNamesLoop_ends (T : List Tok) : ∀ (f : Nat) (acc : List (List UInt8)) (i op : Nat), i ≤ T.length → T.length - i + 1 ≤ f → Ends (sNamesLoop T f acc i op)
  | 0, _, _, _, _, h => by omega
  | f + 1, acc, i, op, hi, hf => by
    rw [sNamesLoop]
    split
    · rename_i h
      have := isTok_lt h
      refine ends_bind ends_some fun v i' op' h => ?_
      injection h with h
      have hg := sWord_good T 2 (i + 1) op
      rw [h] at hg
      obtain ⟨h1, h2, h3, rfl⟩ := hg
      exact sNamesLoop_ends T f _ i' _ (h3 (by omega)) (by have := h3 (by omega); omega)
    · exact ends_some
theorem sNames_ends (T : List Tok) (f i op : Nat) (hi : i ≤ T.length) (hf : T.length - i + 1 ≤ f) : Ends (sNames T f i op) :=
  ends_bind ends_some fun v i' op' h => by
    injection h with h
    have hg := sWord_good T 2 i op
    rw [h] at hg
    obtain ⟨h1, h2, h3, rfl⟩ := hg
    exact sNamesLoop_ends T f _ i' _ (h3 hi) (by have := h3 hi; omega)
theorem sVars_ends (T : List Tok) : ∀ (f : Nat) (acc : List (List UInt8)) (i op : Nat), i ≤ T.length → T.length - i + 2 ≤ f → Ends (sVars T f acc i op)
  | 0, _, _, _, _, h => by omega
  | f + 1, acc, i, op, hi, hf => by
    rw [sVars]
    split
    · rename_i h
      have := isTok_lt h
      refine ends_bind (sNames_ends T f (i + 1) op (by omega) (by omega)) fun v i' op' h => ?_
      obtain ⟨g1, g2, g3, rfl⟩ := sNames_good T f (i + 1) op _ h
      have := g3 (by omega)
      refine ends_bind ends_some fun v i2 op2 h2 => ?_
      injection h2 with h2
      have hg := sNeed_good T [59] i' op'
      rw [h2] at hg
      obtain ⟨h1, h2, h3, rfl⟩ := hg
      have := h3 (by omega)
      exact sVars_ends T f _ i2 _ (by omega) (by omega)
    · exact ends_some
theorem obind_word {B : Type} {T : List Tok} {k : Int} {i op : Nat} {g : List UInt8 → Nat → Nat → OR B} (h : ∀ s, i < T.length → Ends (g s (i + 1) op)) : Ends (obind (some (sWord T k i op)) g) :=
  ends_bind ends_some fun v i' op' hw => by
    injection hw with hw
    unfold sWord at hw
    split at hw
    · rename_i t ht
      have := get_lt ht
      split at hw
      · cases hw; exact h _ this
      · cases hw
    · cases hw
theorem obind_end {B : Type} {T : List Tok} {x : List UInt8} {i op : Nat} {g : Unit → Nat → Nat → OR B} (h : i < T.length → Ends (g () (i + 1) (op - 1))) : Ends (obind (some (sEnd T x i op)) g) :=
  ends_bind ends_some fun v i' op' hw => by
    injection hw with hw
    obtain ⟨rfl, rfl, hlt⟩ := sEnd_ok hw
    exact h hlt
theorem sFunc_ends (T : List Tok) (f i op : Nat) (hi : i ≤ T.length) (hf : 10 * (T.length - i) + 14 ≤ f) : Ends (sFunc T f i op) := by
  unfold sFunc
  refine obind_word fun s h1 => ends_begin fun h2 h3 => ends_bind ?_ fun v i2 op2 h4 => obind_end fun h5 => ends_begin fun h6 h7 => ends_bind (sVars_ends T f [] _ _ (by omega) ?_) fun v2 i3 op3 h8 => ends_bind ((st_ends T f).2.1 [] _ _ ?_ ?_) fun v3 i4 op4 h9 => ends_bind ends_some fun _ _ _ _ => ends_some
  · split
    · exact ends_some
    · exact sNames_ends T f _ _ (by omega) (by omega)
  · have : i + 1 + 1 ≤ i2 := by
      split at h4
      · cases h4; omega
      · exact (sNames_good T f _ _ _ h4).1
    omega
  · exact (sVars_good T f _ _ _ _ h8).2.2.1 (by omega)
  · have : i + 1 + 1 ≤ i2 := by
      split at h4
      · cases h4; omega
      · exact (sNames_good T f _ _ _ h4).1
    have := (sVars_good T f _ _ _ _ h8).1
    omega
theorem sFunc_good (T : List Tok) (f i op : Nat) : GoodO T true i op (sFunc T f i op) := by
  intro q hq0
  unfold sFunc at hq0
  cases q with
  | err l e => trivial
  | ok v i9 op9 =>
    rcases obind_some hq0 with ⟨s, i1, op1, h1, hq1⟩ | ⟨l, e, _, h⟩
    · injection h1 with h1
      have g1 := sWord_good T 2 i op
      rw [h1] at g1
      obtain ⟨a1, a2, a3, rfl⟩ := g1
      have := a2 rfl
      rcases obind_some hq1 with ⟨_, i2, op2, h2, hq2⟩ | ⟨l, e, _, h⟩
      · injection h2 with h2
        obtain ⟨rfl, rfl, b1, b2⟩ := sBegin_ok h2
        rcases obind_some hq2 with ⟨ps, i3, op3, h3, hq3⟩ | ⟨l, e, _, h⟩
        · have c : i1 + 1 ≤ i3 ∧ (i1 + 1 ≤ T.length → i3 ≤ T.length) ∧ op3 = op1 + 1 := by
            split at h3
            · cases h3; exact ⟨Nat.le_refl _, fun h => h, rfl⟩
            · obtain ⟨c1, _, c3, c4⟩ := sNames_good T f _ _ _ h3
              exact ⟨c1, c3, c4⟩
          obtain ⟨c1, c2, rfl⟩ := c
          rcases obind_some hq3 with ⟨_, i4, op4, h4, hq4⟩ | ⟨l, e, _, h⟩
          · injection h4 with h4
            obtain ⟨rfl, rfl, d1⟩ := sEnd_ok h4
            rcases obind_some hq4 with ⟨_, i5, op5, h5, hq5⟩ | ⟨l, e, _, h⟩
            · injection h5 with h5
              obtain ⟨rfl, rfl, e1, e2⟩ := sBegin_ok h5
              rcases obind_some hq5 with ⟨ls, i6, op6, h6, hq6⟩ | ⟨l, e, _, h⟩
              · obtain ⟨f1, _, f3, rfl⟩ := sVars_good T f _ _ _ _ h6
                have := f3 (by omega)
                rcases obind_some hq6 with ⟨bs, i7, op7, h7, hq7⟩ | ⟨l, e, _, h⟩
                · obtain ⟨k1, _, k3, rfl⟩ := (st_good T f).2.1 _ _ _ _ h7
                  have := k3 (by omega)
                  rcases obind_some hq7 with ⟨_, i8, op8, h8, hq8⟩ | ⟨l, e, _, h⟩
                  · injection h8 with h8
                    obtain ⟨rfl, rfl, m1⟩ := sEnd_ok h8
                    cases hq8
                    exact ⟨by omega, fun _ => by omega, fun _ => by omega, by omega⟩
                  · cases h
                · cases h
              · cases h
            · cases h
          · cases h
        · cases h
      · cases h
    · cases h
theorem sArray_good (T : List Tok) (i op : Nat) : GoodO T true i op (sArray T i op) := by
  intro q hq0
  unfold sArray at hq0
  cases q with
  | err l e => trivial
  | ok v i9 op9 =>
    rcases obind_some hq0 with ⟨s, i1, op1, h1, hq1⟩ | ⟨l, e, _, h⟩
    · injection h1 with h1
      have g1 := sWord_good T 2 i op
      rw [h1] at g1
      obtain ⟨a1, a2, a3, rfl⟩ := g1
      have := a2 rfl
      rcases obind_some hq1 with ⟨_, i2, op2, h2, hq2⟩ | ⟨l, e, _, h⟩
      · injection h2 with h2
        obtain ⟨rfl, rfl, b1, b2⟩ := sBegin_ok h2
        rcases obind_some hq2 with ⟨ps, i3, op3, h3, hq3⟩ | ⟨l, e, _, h⟩
        · injection h3 with h3
          have g3 := sNumber_good T (i1 + 1) (op1 + 1)
          rw [h3] at g3
          obtain ⟨c1, c2, c3, rfl⟩ := g3
          have := c2 rfl
          rcases obind_some hq3 with ⟨_, i4, op4, h4, hq4⟩ | ⟨l, e, _, h⟩
          · injection h4 with h4
            obtain ⟨rfl, rfl, d1⟩ := sEnd_ok h4
            rcases obind_some hq4 with ⟨_, i5, op5, h5, hq5⟩ | ⟨l, e, _, h⟩
            · injection h5 with h5
              have g5 := sNeed_good T [59] (i3 + 1) op4
              rw [h5] at g5
              obtain ⟨e1, e2, e3, rfl⟩ := g5
              have := e2 rfl
              have := e3 (by omega)
              cases hq5
              exact ⟨by omega, fun _ => by omega, fun _ => by omega, by omega⟩
            · cases h
          · cases h
        · cases h
      · cases h
    · cases h
theorem sArray_ends (T : List Tok) (i op : Nat) : Ends (sArray T i op) := by
  unfold sArray
  exact obind_word fun s _ => ends_begin fun _ _ => ends_bind ends_some fun _ _ _ _ => ends_bind ends_some fun _ _ _ _ => ends_bind ends_some fun _ _ _ _ => ends_some
theorem sProg_ends (T : List Tok) : ∀ (f : Nat) (p : Pr) (i op : Nat), i ≤ T.length → 10 * (T.length - i) + 20 ≤ f → Ends (sProg T f p i op)
  | 0, _, _, _, _, h => by omega
  | f + 1, p, i, op, hi, hf => by
    rw [sProg]
    split
    · exact ends_some
    · split
      · rename_i h
        have := isTok_lt h
        refine ends_bind (sVars_ends T f _ i op hi (by omega)) fun v i' op' h2 => ?_
        obtain ⟨g1, g2, g3, rfl⟩ := sVars_good T f _ i op _ h2
        have := g2 h
        have := g3 hi
        exact sProg_ends T f _ i' _ (by omega) (by omega)
      · split
        · rename_i h
          have := isTok_lt h
          refine ends_bind (sArray_ends T _ _) fun v i' op' h2 => ?_
          obtain ⟨g1, g2, g3, rfl⟩ := sArray_good T _ _ _ h2
          have := g3 (by omega)
          exact sProg_ends T f _ i' _ (by omega) (by omega)
        · split
          · rename_i h
            have := isTok_lt h
            refine ends_bind (sFunc_ends T f _ _ (by omega) (by omega)) fun v i' op' h2 => ?_
            obtain ⟨g1, g2, g3, rfl⟩ := sFunc_good T f _ _ _ h2
            have := g3 (by omega)
            exact sProg_ends T f _ i' _ (by omega) (by omega)
          · exact ends_some
end Go.Stele
