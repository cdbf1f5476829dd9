/- Texts joined: PeepSpec, LexCat, ParTok, LexJoin, PeepNum, PeepLib, PeepA, PeepB, PeepC, PeepD, PeepE, PeepF. -/
import Derived.Lib.Join
import Derived.Lib.Strings
import Derived.Lib.SlTrimSet
import Derived.Shelf.Strings.SlTrimAscii
import Derived.WalkSmall
import Derived.Test.YtkjjenppmmipmaaGreatDoorBPeepRowX1
import Derived.Test.YtkjjenppmmipmaaGreatDoorBPeepRowX2
set_option linter.unusedVariables false
set_option linter.unusedSimpArgs false
namespace Go.Stele
/-- A word. -/
abbrev Wd := List UInt8
def numW (w : Wd) : Option Nat := match Go.Lib.parseUintB 32 w with
  | .ok u => if Go.Lib.decDigits u = w then some u else none
  | _ => none
def nameW (s : Wd) : Bool := match s with
  | [] => false
  | c :: r => decide (s.length ≤ 40) && isLetter c && s.all isInner
def defW (w : Wd) : Option Wd := if w.getLast? = some 58 ∧ nameW w.dropLast = true then some w.dropLast else none
def refW (w : Wd) : Option Wd := match w with
  | [] => none
  | c :: r => if c = 38 ∧ nameW r = true then some r else none
def wdAt (l : List Wd) (i : Nat) : Wd := (l[i]?).getD []
def compW (a : Nat) (op : Wd) (b : Nat) : Option Nat :=
  if op = [43] then some ((a + b) % 4294967296)
  else if op = [45] then some ((a + 4294967296 - b) % 4294967296)
  else if op = [42] then some (a * b % 4294967296)
  else if op = [94] then some (a ^^^ b)
  else if op = [60] then some (if a < b then 1 else 0)
  else if op = [47] then (if b = 0 then none else some (a / b))
  else if op = [37] then (if b = 0 then none else some (a % b))
  else none
def joinedW (x op y : Wd) : Option Wd := match numW x, numW y with
  | some a, some b => match compW a op b with
    | some c => if (Go.Lib.decDigits c).length ≤ x.length + y.length + 1 then some (Go.Lib.decDigits c) else none
    | none => none
  | _, _ => none
/-- A reference to a label and ? from i on. -/
def jumpW (v : List Wd) (i : Nat) : Option Wd := match refW (wdAt v i) with
  | some l => if wdAt v (i + 1) = [63] then some l else none
  | none => none
/-- How many words a rule matches (0: none), and what replaces them. -/
abbrev RuleW := Nat × List Wd
def rFold (v : List Wd) : RuleW := match joinedW (wdAt v 0) (wdAt v 2) (wdAt v 1) with
  | some s => (3, [s])
  | none => (0, [])
def rNeutral (v : List Wd) : RuleW :=
  if wdAt v 0 = [48] ∧ (wdAt v 1 = [43] ∨ wdAt v 1 = [45] ∨ wdAt v 1 = [94]) ∨ wdAt v 0 = [49] ∧ (wdAt v 1 = [42] ∨ wdAt v 1 = [47]) then (2, []) else (0, [])
def rRegroup (v : List Wd) : RuleW :=
  if (wdAt v 1 = [43] ∨ wdAt v 1 = [42] ∨ wdAt v 1 = [94]) ∧ wdAt v 3 = wdAt v 1 then
    (match joinedW (wdAt v 0) (wdAt v 1) (wdAt v 2) with
    | some s => (4, [s, wdAt v 1])
    | none => (0, []))
  else (0, [])
def rSame (v : List Wd) : RuleW := if (numW (wdAt v 0)).isSome = true ∧ wdAt v 1 = [64] ∧ wdAt v 2 = wdAt v 0 ∧ wdAt v 3 = [33] then (4, []) else (0, [])
def rDouble (v : List Wd) : RuleW := if (jumpW v 4).isSome = true ∧ wdAt v 0 = [49] ∧ wdAt v 1 = [60] ∧ wdAt v 2 = [49] ∧ wdAt v 3 = [60] then (6, [wdAt v 4, wdAt v 5]) else (0, [])
def rNever (v : List Wd) : RuleW := match numW (wdAt v 0) with
  | some n => if n ≠ 0 ∧ (jumpW v 1).isSome = true then (3, []) else (0, [])
  | none => (0, [])
/-- Whether a row of definitions begins here that defines l. -/
def nextW (l : Wd) : List Wd → Bool
  | [] => false
  | w :: r => match defW w with
    | some d => decide (d = l) || nextW l r
    | none => false
def rNext (v : List Wd) : RuleW := match jumpW v 1 with
  | some l => if wdAt v 0 = [48] ∧ nextW l (v.drop 3) = true then (3, []) else (0, [])
  | none => (0, [])
/-- How many words an instruction has that ends what can be reached. -/
def stopW (v : List Wd) : Nat := if (jumpW v 1).isSome = true ∧ wdAt v 0 = [48] then 3 else if wdAt v 0 = [59] ∨ wdAt v 0 = [36] then 1 else 0
def deadLen (v : List Wd) : Nat := (v.takeWhile fun w => (defW w).isNone).length
def rDead (v : List Wd) : RuleW := if 0 < stopW v ∧ 0 < deadLen (v.drop (stopW v)) then (stopW v + deadLen (v.drop (stopW v)), v.take (stopW v)) else (0, [])
def rUnused (used : Wd → Bool) (v : List Wd) : RuleW := match defW (wdAt v 0) with
  | some l => if used l = true then (0, []) else (1, [])
  | none => (0, [])
/-- The first rule that matches. -/
def ruleW (used : Wd → Bool) (v : List Wd) : RuleW :=
  if (rFold v).1 ≠ 0 then rFold v else if (rNeutral v).1 ≠ 0 then rNeutral v else if (rRegroup v).1 ≠ 0 then rRegroup v else if (rSame v).1 ≠ 0 then rSame v else if (rDouble v).1 ≠ 0 then rDouble v else
  if (rNever v).1 ≠ 0 then rNever v else if (rNext v).1 ≠ 0 then rNext v else if (rDead v).1 ≠ 0 then rDead v else rUnused used v
def onceF (used : Wd → Bool) : Nat → List Wd → List Wd
  | 0, _ => []
  | _ + 1, [] => []
  | f + 1, w :: r => if (ruleW used (w :: r)).1 = 0 then w :: onceF used f r else (ruleW used (w :: r)).2 ++ onceF used f ((w :: r).drop (ruleW used (w :: r)).1)
def usedW (l : List Wd) (s : Wd) : Bool := l.any fun w => decide (refW w = some s)
/-- What a pass computes. -/
def onceP (l : List Wd) : List Wd := onceF (usedW l) l.length l
/-! ### A rule matches words that are there, and puts fewer in their place -/
theorem wdAt_lt {v : List Wd} {i : Nat} (h : wdAt v i ≠ []) : i < v.length := by
  rcases Nat.lt_or_ge i v.length with h1 | h1
  · exact h1
  · exact absurd (by simp [wdAt, List.getElem?_eq_none h1]) h
theorem numW_ne {w : Wd} {n : Nat} (h : numW w = some n) : w ≠ [] := by
  rintro rfl
  have : numW [] = none := by decide +kernel
  rw [this] at h
  cases h
theorem jumpW_lt {v : List Wd} {i : Nat} {l : Wd} (h : jumpW v i = some l) : i + 1 < v.length := by
  unfold jumpW at h
  split at h
  · split at h
    · rename_i h2
      exact wdAt_lt (by rw [h2]; decide)
    · cases h
  · cases h
theorem comp_op {a b : Nat} {op : Wd} {c : Nat} (h : compW a op b = some c) : op ≠ [] := by
  rintro rfl
  have : compW a [] b = none := rfl
  rw [this] at h
  cases h
theorem joined_ne {x op y s : Wd} (h : joinedW x op y = some s) : x ≠ [] ∧ op ≠ [] ∧ y ≠ [] := by
  unfold joinedW at h
  split at h
  · rename_i a b ha hb
    split at h
    · rename_i c hc
      exact ⟨numW_ne ha, comp_op hc, numW_ne hb⟩
    · cases h
  · cases h
/-- A rule's result: fewer words than it matches, which are all there. -/
def RuleOk (v : List Wd) (r : RuleW) : Prop := r.1 ≠ 0 → r.1 ≤ v.length ∧ r.2.length < r.1
theorem ruleOk_none (v : List Wd) : RuleOk v (0, []) := fun h => absurd rfl h
theorem fold_ok (v : List Wd) : RuleOk v (rFold v) := by
  unfold rFold
  split
  · rename_i s h
    obtain ⟨_, h2, _⟩ := joined_ne h
    have := wdAt_lt h2
    exact fun _ => ⟨by simp only; omega, by simp⟩
  · exact ruleOk_none v
theorem neutral_ok (v : List Wd) : RuleOk v (rNeutral v) := by
  unfold rNeutral
  split
  · rename_i h
    have : wdAt v 1 ≠ [] := by
      intro h0
      rw [h0] at h
      rcases h with ⟨_, h | h | h⟩ | ⟨_, h | h⟩ <;> cases h
    have := wdAt_lt this
    exact fun _ => ⟨by simp only; omega, by simp⟩
  · exact ruleOk_none v
theorem regroup_ok (v : List Wd) : RuleOk v (rRegroup v) := by
  unfold rRegroup
  split
  · rename_i h
    split
    · rename_i s hs
      have h3 : wdAt v 3 ≠ [] := by rw [h.2]; exact (joined_ne hs).2.1
      have := wdAt_lt h3
      exact fun _ => ⟨by simp only; omega, by simp⟩
    · exact ruleOk_none v
  · exact ruleOk_none v
theorem same_ok (v : List Wd) : RuleOk v (rSame v) := by
  unfold rSame
  split
  · rename_i h
    have := wdAt_lt (v := v) (i := 3) (by rw [h.2.2.2]; decide)
    exact fun _ => ⟨by simp only; omega, by simp⟩
  · exact ruleOk_none v
theorem double_ok (v : List Wd) : RuleOk v (rDouble v) := by
  unfold rDouble
  split
  · rename_i h
    obtain ⟨l, hl⟩ := Option.isSome_iff_exists.1 h.1
    have := jumpW_lt hl
    exact fun _ => ⟨by simp only; omega, by simp⟩
  · exact ruleOk_none v
theorem never_ok (v : List Wd) : RuleOk v (rNever v) := by
  unfold rNever
  split
  · split
    · rename_i h
      obtain ⟨l, hl⟩ := Option.isSome_iff_exists.1 h.2
      have := jumpW_lt hl
      exact fun _ => ⟨by simp only; omega, by simp⟩
    · exact ruleOk_none v
  · exact ruleOk_none v
theorem next_ok (v : List Wd) : RuleOk v (rNext v) := by
  unfold rNext
  split
  · rename_i l hl
    split
    · have := jumpW_lt hl
      exact fun _ => ⟨by simp only; omega, by simp⟩
    · exact ruleOk_none v
  · exact ruleOk_none v
theorem stop_le (v : List Wd) : stopW v ≤ v.length := by
  unfold stopW
  split
  · rename_i h
    obtain ⟨l, hl⟩ := Option.isSome_iff_exists.1 h.1
    have := jumpW_lt hl
    omega
  · split
    · rename_i h
      have := wdAt_lt (v := v) (i := 0) (by rcases h with h | h <;> rw [h] <;> decide)
      omega
    · omega
theorem dead_ok (v : List Wd) : RuleOk v (rDead v) := by
  unfold rDead
  split
  · rename_i h
    intro _
    have h1 := stop_le v
    have h2 : deadLen (v.drop (stopW v)) ≤ (v.drop (stopW v)).length := (List.takeWhile_prefix _).length_le
    rw [List.length_drop] at h2
    simp only [List.length_take]
    omega
  · exact ruleOk_none v
theorem unused_ok (used : Wd → Bool) (v : List Wd) : RuleOk v (rUnused used v) := by
  unfold rUnused
  split
  · rename_i l hl
    split
    · exact ruleOk_none v
    · have : wdAt v 0 ≠ [] := by
        intro h0
        rw [h0] at hl
        cases hl
      have := wdAt_lt this
      exact fun _ => ⟨by simp only; omega, by simp⟩
  · exact ruleOk_none v
theorem rule_ok (used : Wd → Bool) (v : List Wd) : RuleOk v (ruleW used v) := by
  unfold ruleW
  split
  · exact fold_ok v
  split
  · exact neutral_ok v
  split
  · exact regroup_ok v
  split
  · exact same_ok v
  split
  · exact double_ok v
  split
  · exact never_ok v
  split
  · exact next_ok v
  split
  · exact dead_ok v
  · exact unused_ok used v
theorem onceF_len (used : Wd → Bool) : ∀ (f : Nat) (l : List Wd), (onceF used f l).length ≤ l.length
  | 0, l => Nat.zero_le _
  | f + 1, [] => Nat.le_refl _
  | f + 1, w :: r => by
    rw [onceF]
    split
    · have := onceF_len used f r
      simp only [List.length_cons]
      omega
    · rename_i h
      obtain ⟨h1, h2⟩ := rule_ok used (w :: r) h
      have := onceF_len used f ((w :: r).drop (ruleW used (w :: r)).1)
      rw [List.length_drop] at this
      rw [List.length_append]
      omega
theorem onceP_len (l : List Wd) : (onceP l).length ≤ l.length := onceF_len _ _ l
end Go.Stele
namespace Go.Stele
theorem skip_white {c : UInt8} (hc : isWhite c = true) (b : List UInt8) : skipLen (c :: b) = (b.takeWhile isWhite).length + 1 := by
  have h47 : ([47, 47] : List UInt8).isPrefixOf (c :: b) = false := by
    cases h : ([47, 47] : List UInt8).isPrefixOf (c :: b) with
    | false => rfl
    | true =>
      simp only [List.isPrefixOf, Bool.and_eq_true, beq_iff_eq] at h
      rw [← h.1] at hc
      exact absurd hc (by decide)
  unfold skipLen
  rw [h47, if_neg (by decide), List.takeWhile_cons_of_pos hc]
  rfl
theorem skip_zero {s : List UInt8} (h : skipLen s = 0) : ([47, 47] : List UInt8).isPrefixOf s = false ∧ s.takeWhile isWhite = [] := by
  unfold skipLen at h
  split at h
  · rename_i hp
    obtain ⟨r, rfl⟩ := List.isPrefixOf_iff_prefix.1 hp
    rw [List.cons_append, List.takeWhile_cons_of_pos (by decide)] at h
    cases h
  · rename_i hp
    exact ⟨Bool.eq_false_iff.2 hp, List.eq_nil_of_length_eq_zero h⟩
theorem lexP_fuel : ∀ (f g : Nat) (s : List UInt8) (line : Int), s.length ≤ f → s.length ≤ g → lexP f s line = lexP g s line
  | 0, g, s, line, hf, _ => by
    have : s = [] := List.eq_nil_of_length_eq_zero (by omega)
    subst this
    cases g with
    | zero => rfl
    | succ g => rw [lexP, lexP, if_pos rfl]
  | f + 1, 0, s, line, _, hg => by
    have : s = [] := List.eq_nil_of_length_eq_zero (by omega)
    subst this
    rw [lexP, lexP, if_pos rfl]
  | f + 1, g + 1, s, line, hf, hg => by
    rw [lexP, lexP]
    by_cases h0 : s = []
    · rw [if_pos h0, if_pos h0]
    rw [if_neg h0, if_neg h0]
    by_cases hk : skipLen s = 0
    · rw [if_pos hk, if_pos hk]
      by_cases he : (lexToken s).2.2 ≠ 0
      · rw [if_pos he, if_pos he]
      · rw [if_neg he, if_neg he]
        obtain ⟨h1, h2⟩ := lexToken_size s (by simpa using he)
        rw [lexP_fuel f g _ _ (by rw [List.length_drop]; omega) (by rw [List.length_drop]; omega)]
    · rw [if_neg hk, if_neg hk]
      exact lexP_fuel f g _ _ (by rw [List.length_drop]; omega) (by rw [List.length_drop]; omega)
/-- The tokens of s, as many as there are. -/
def lexAt (s : List UInt8) (line : Int) : Except (Int × Int) (List Tok) := lexP s.length s line
theorem lexAt_eq {f : Nat} {s : List UInt8} (h : s.length ≤ f) (line : Int) : lexP f s line = lexAt s line := lexP_fuel _ _ _ _ h (Nat.le_refl _)
theorem lexAt_nil (line : Int) : lexAt [] line = .ok [] := rfl
theorem lexAt_white {c : UInt8} (hc : isWhite c = true) (b : List UInt8) (line : Int) : lexAt (c :: b) line = lexAt b (line + (([c] : List UInt8).count 10 : Nat)) := by
  rw [← lexAt_eq (f := b.length + 1) (by simp), lexP, if_neg (by simp), if_neg (by rw [skip_white hc]; omega), skip_white hc, List.drop_succ_cons, List.take_succ_cons, lexAt_eq (by rw [List.length_drop]; omega)]
  cases b with
  | nil => simp [lexAt_nil]
  | cons d b =>
    by_cases hd : isWhite d = true
    · rw [← lexAt_eq (f := b.length + 1) (s := d :: b) (by simp), lexP, if_neg (by simp), if_neg (by rw [skip_white hd]; omega), skip_white hd, List.takeWhile_cons_of_pos hd, List.length_cons, List.drop_succ_cons, List.take_succ_cons, lexAt_eq (by rw [List.length_drop]; omega)]
      congr 1
      rw [List.count_cons, List.count_singleton, List.count_cons]
      omega
    · rw [List.takeWhile_cons_of_neg hd]
      simp
theorem tw_app {p : UInt8 → Bool} (hp : p 10 = false) (b : List UInt8) : ∀ s : List UInt8, (s ++ 10 :: b).takeWhile p = s.takeWhile p
  | [] => by rw [List.nil_append, List.takeWhile_cons_of_neg (by simp [hp])]; rfl
  | c :: s => by
    rw [List.cons_append]
    by_cases h : p c = true
    · rw [List.takeWhile_cons_of_pos h, List.takeWhile_cons_of_pos h, tw_app hp b s]
    · rw [List.takeWhile_cons_of_neg h, List.takeWhile_cons_of_neg h]
theorem pre_app (b : List UInt8) : ∀ (x s : List UInt8), (10 : UInt8) ∉ x → x.isPrefixOf (s ++ 10 :: b) = x.isPrefixOf s
  | [], s, _ => by simp
  | c :: x, [], h => by
    have : ¬ c = 10 := fun hc => h (by rw [hc]; exact List.mem_cons_self ..)
    simp [List.isPrefixOf, this]
  | c :: x, d :: s, h => by
    have := pre_app b x s fun hx => h (List.mem_cons_of_mem _ hx)
    simp only [List.cons_append, List.isPrefixOf, this]
theorem find_app (b s : List UInt8) : ∀ L : List (List UInt8), (∀ x ∈ L, (10 : UInt8) ∉ x) → L.find? (fun x => x.isPrefixOf (s ++ 10 :: b)) = L.find? (fun x => x.isPrefixOf s)
  | [], _ => rfl
  | x :: L, h => by
    rw [List.find?_cons, List.find?_cons, pre_app b x s (h x (List.mem_cons_self ..)), find_app b s L fun y hy => h y (List.mem_cons_of_mem _ hy)]
theorem wordNext_app (b s : List UInt8) {n : Nat} (hn : n ≤ s.length) : wordNext (s ++ 10 :: b) n = wordNext s n := by
  unfold wordNext
  rcases Nat.lt_or_ge n s.length with h | h
  · rw [List.getElem?_append_left h]
  · have : n = s.length := by omega
    subst this
    rw [List.getElem?_append_right (Nat.le_refl _), List.getElem?_eq_none (Nat.le_refl _)]
    rw [Nat.sub_self, List.getElem?_cons_zero]
    rfl
theorem lexToken_app (b s : List UInt8) (h : (lexToken s).2.2 = 0) : lexToken (s ++ 10 :: b) = lexToken s := by
  match s with
  | [] => simp [lexToken, tokErr] at h
  | c :: r =>
    simp only [List.cons_append, lexToken] at h ⊢
    by_cases hc : isDigit c = true
    · rw [if_pos hc, if_pos hc]
      unfold lexNumber
      have e1 : (c :: (r ++ 10 :: b)).takeWhile isDigit = (c :: r).takeWhile isDigit := tw_app (by decide) b (c :: r)
      have e2 := wordNext_app b (c :: r) (takeWhile_le isDigit (c :: r))
      rw [List.cons_append] at e2
      rw [e1, e2]
    rw [if_neg hc] at h ⊢
    rw [if_neg hc]
    by_cases hl : isLetter c = true
    · rw [if_pos hl, if_pos hl]
      unfold lexName
      have e1 : (c :: (r ++ 10 :: b)).takeWhile isInner = (c :: r).takeWhile isInner := tw_app (by decide) b (c :: r)
      rw [e1]
    rw [if_neg hl] at h ⊢
    rw [if_neg hl]
    by_cases hq : decide (cv c = 39) = true
    · rw [if_pos hq] at h ⊢
      rw [if_pos hq]
      match r with
      | [] => simp [lexLiteral, tokErr] at h
      | [d] => simp [lexLiteral, tokErr] at h
      | d :: e :: r => rfl
    · rw [if_neg hq, if_neg hq]
      unfold lexSign
      have e1 := find_app b (c :: r) signs (by decide)
      rw [List.cons_append] at e1
      rw [e1]
theorem lexAt_app (b : List UInt8) : ∀ (n : Nat) (s : List UInt8) (line : Int) (A : List Tok), s.length ≤ n → lexAt s line = .ok A → lexAt (s ++ 10 :: b) line = (lexAt b (line + (s.count 10 : Nat) + 1)).map (A ++ ·)
  | n, [], line, A, _, h => by
    rw [lexAt_nil] at h
    cases h
    rw [List.nil_append, lexAt_white (by decide)]
    simp
    cases lexAt b (line + 1) <;> rfl
  | 0, c :: r, _, _, hn, _ => by simp at hn
  | n + 1, c :: r, line, A, hn, h => by
    by_cases hw : isWhite c = true
    · rw [lexAt_white hw] at h
      rw [List.cons_append, lexAt_white hw, lexAt_app b n r _ A (by simpa using hn) h]
      rw [List.count_cons (l := r), List.count_singleton]
      congr 2
      omega
    have hkeep : (c :: r).takeWhile isWhite = [] := List.takeWhile_cons_of_neg hw
    have hp : ([47, 47] : List UInt8).isPrefixOf (c :: r ++ 10 :: b) = ([47, 47] : List UInt8).isPrefixOf (c :: r) := pre_app b [47, 47] (c :: r) (by decide)
    have hk : skipLen (c :: r ++ 10 :: b) = skipLen (c :: r) := by
      unfold skipLen
      rw [hp, tw_app (by decide), hkeep, List.cons_append, List.takeWhile_cons_of_neg hw]
    rw [← lexAt_eq (f := n + 1) hn, lexP, if_neg (by simp)] at h
    rw [← lexAt_eq (f := (r ++ 10 :: b).length + 1) (by simp), lexP, if_neg (by simp), hk]
    by_cases hz : skipLen (c :: r) = 0
    · rw [if_pos hz] at h ⊢
      by_cases he : (lexToken (c :: r)).2.2 ≠ 0
      · rw [if_pos he] at h
        cases h
      have he' : (lexToken (c :: r)).2.2 = 0 := by simpa using he
      rw [if_neg he] at h
      obtain ⟨h1, h2⟩ := lexToken_size _ he'
      rw [lexToken_app b _ he', if_neg he, List.drop_append_of_le_length h2, List.take_append_of_le_length h2]
      rw [lexAt_eq (by rw [List.length_drop]; omega)] at h
      rw [lexAt_eq (by simp only [List.length_append, List.length_drop, List.length_cons] at h2 ⊢; omega)]
      cases hx : lexAt ((c :: r).drop (lexToken (c :: r)).2.1) (line + (((c :: r).take (lexToken (c :: r)).2.1).count 10 : Nat)) with
      | error e => rw [hx] at h; cases h
      | ok A2 =>
        rw [hx] at h
        cases h
        rw [lexAt_app b n _ _ A2 (by rw [List.length_drop]; omega) hx]
        have hc : (c :: r).count 10 = ((c :: r).take (lexToken (c :: r)).2.1).count 10 + ((c :: r).drop (lexToken (c :: r)).2.1).count 10 := by rw [← List.count_append, List.take_append_drop]
        rw [show line + (((c :: r).take (lexToken (c :: r)).2.1).count 10 : Nat) + (((c :: r).drop (lexToken (c :: r)).2.1).count 10 : Nat) + 1 = line + ((c :: r).count 10 : Nat) + 1 by rw [hc]; omega]
        cases lexAt b (line + ((c :: r).count 10 : Nat) + 1) <;> rfl
    · rw [if_neg hz] at h ⊢
      have h2 := skipLen_le (c :: r)
      rw [List.drop_append_of_le_length h2, List.take_append_of_le_length h2]
      rw [lexAt_eq (by rw [List.length_drop]; omega)] at h
      rw [lexAt_eq (by simp only [List.length_append, List.length_drop, List.length_cons] at h2 ⊢; omega)]
      rw [lexAt_app b n _ _ A (by rw [List.length_drop]; omega) h]
      have hc : (c :: r).count 10 = ((c :: r).take (skipLen (c :: r))).count 10 + ((c :: r).drop (skipLen (c :: r))).count 10 := by rw [← List.count_append, List.take_append_drop]
      congr 2
      rw [hc]
      omega
def kt (t : Tok) : Int × List UInt8 := (t.kind, t.text)
/-- The number of the first line changes nothing but the lines. -/
theorem lexP_line : ∀ (f : Nat) (s : List UInt8) (l1 l2 : Int) (A : List Tok), lexP f s l1 = .ok A → ∃ B, lexP f s l2 = .ok B ∧ B.map kt = A.map kt
  | 0, _, _, _, _, h => by
    cases h
    exact ⟨[], rfl, rfl⟩
  | f + 1, s, l1, l2, A, h => by
    rw [lexP] at h ⊢
    split at h
    · rename_i h0
      cases h
      rw [if_pos h0]
      exact ⟨[], rfl, rfl⟩
    rename_i h0
    rw [if_neg h0]
    split at h
    · rename_i hk
      rw [if_pos hk]
      split at h
      · cases h
      · rename_i he
        rw [if_neg he]
        cases hx : lexP f (s.drop (lexToken s).2.1) (l1 + ((s.take (lexToken s).2.1).count 10 : Nat)) with
        | error e => rw [hx] at h; cases h
        | ok A2 =>
          rw [hx] at h
          cases h
          obtain ⟨B, h1, h2⟩ := lexP_line f _ _ (l2 + ((s.take (lexToken s).2.1).count 10 : Nat)) A2 hx
          rw [h1]
          exact ⟨_, rfl, by rw [List.map_cons, List.map_cons, h2]; rfl⟩
    · rename_i hk
      rw [if_neg hk]
      exact lexP_line f _ _ _ A h
end Go.Stele
namespace Go.Stele
open Go.Lib
theorem pu_append (M : Nat) : ∀ (l r : List UInt8) (acc u : Nat), parseUintM M acc l = .ok u → parseUintM M acc (l ++ r) = parseUintM M u r
  | [], r, acc, u, h => by
    rw [parseUintM] at h
    cases h
    rfl
  | c :: l, r, acc, u, h => by
    rw [parseUintM] at h
    rw [List.cons_append, parseUintM]
    split at h
    · rename_i hc
      rw [if_pos hc]
      split at h
      · cases h
      · rename_i h1
        rw [if_neg h1]
        split at h
        · cases h
        · rename_i h2
          rw [if_neg h2]
          exact pu_append M l r _ u h
    · cases h
theorem digit_toNat {d : Nat} (h : d < 10) : (UInt8.ofNat (48 + d)).toNat = 48 + d := by
  rw [UInt8.toNat_ofNat']
  omega
theorem pu_dec (M : Nat) (hM : M ≤ 4294967295) (u : Nat) (hu : u ≤ M) : parseUintM M 0 (decDigits u) = .ok u := by
  induction u using Nat.strongRecOn with
  | _ u ih =>
    have one : ∀ a d, d < 10 → a * 10 + d ≤ M → parseUintM M a [UInt8.ofNat (48 + d)] = .ok (a * 10 + d) := fun a d hd ha => by
      rw [parseUintM, digit_toNat hd, if_pos (by omega), if_neg (by omega), if_neg (by omega), parseUintM]
      congr 1
      omega
    rw [decDigits]
    split
    · have := one 0 u (by assumption) (by omega)
      simpa using this
    · rw [pu_append M _ _ 0 (u / 10) (ih (u / 10) (by omega) (by omega)), one _ _ (by omega) (by omega)]
      congr 1
      omega
theorem decDigits_ne (u : Nat) : decDigits u ≠ [] := by
  rw [decDigits]
  split <;> simp
theorem pu32_dec (u : Nat) (hu : u < 4294967296) : parseUintB 32 (decDigits u) = .ok u := by
  rw [parseUintB, if_neg (decDigits_ne u)]
  exact pu_dec _ (by decide) u (by omega)
theorem nDigits_le : ∀ (k u : Nat), u < 10 ^ (k + 1) → nDigits u ≤ k + 1
  | 0, u, h => by rw [nDigits_small (by simpa using h)]; omega
  | k + 1, u, h => by
    by_cases hu : u < 10
    · rw [nDigits_small hu]; omega
    · rw [nDigits_big hu]
      have := nDigits_le k (u / 10) (by rw [Nat.pow_succ] at h; omega)
      omega
theorem dec_len {u : Nat} (hu : u < 4294967296) : (decDigits u).length ≤ 10 := by
  rw [decDigits_length]
  exact nDigits_le 9 u (by omega)
theorem pu32_lt {l : List UInt8} {u : Nat} (h : parseUintB 32 l = .ok u) : u < 4294967296 := by
  have key : ∀ (l : List UInt8) (acc u : Nat), acc ≤ 4294967295 → parseUintM 4294967295 acc l = .ok u → u ≤ 4294967295 := by
    intro l
    induction l with
    | nil => intro acc u ha h; rw [parseUintM] at h; cases h; exact ha
    | cons c l ih =>
      intro acc u ha h
      rw [parseUintM] at h
      split at h
      · split at h
        · cases h
        · split at h
          · cases h
          · exact ih _ _ (by omega) h
      · cases h
  rw [parseUintB] at h
  split at h
  · cases h
  · have := key _ _ _ (by omega) h
    omega
/-- What a token is. -/
def TokOk (t : Tok) : Prop := t.text.length ≤ 100 ∧ (t.kind = 1 → ∃ u, u < 4294967296 ∧ parseUintB 32 t.text = .ok u ∧ t.text = decDigits u)
theorem lexToken_ok (s : List UInt8) (h : (lexToken s).2.2 = 0) : TokOk (lexToken s).1 := by
  match s with
  | [] => simp [lexToken, tokErr] at h
  | c :: r =>
    simp only [lexToken] at h ⊢
    split at h <;> rename_i hc
    · rw [if_pos hc]
      unfold lexNumber at h ⊢
      split at h
      · simp [tokErr] at h
      · rename_i hw
        rw [if_neg hw]
        split at h
        · rename_i u hu
          have hlt := pu32_lt hu
          exact ⟨by have := dec_len hlt; simp only; omega, fun _ => ⟨u, hlt, pu32_dec u hlt, rfl⟩⟩
        · simp [tokErr] at h
    · rw [if_neg hc]
      split at h <;> rename_i hl
      · rw [if_pos hl]
        unfold lexName at h ⊢
        split at h
        · simp [tokErr] at h
        · rename_i hw
          rw [if_neg hw]
          refine ⟨by simp only; omega, fun hk => ?_⟩
          simp only at hk
          split at hk <;> cases hk
      · rw [if_neg hl]
        split at h <;> rename_i hq
        · rw [if_pos hq]
          unfold lexLiteral at h ⊢
          split at h
          · split at h
            · simp [tokErr] at h
            · rename_i hx
              rename_i heq
              rename_i b _ _
              rw [if_neg hx]
              have hb : b.toNat < 4294967296 := Nat.lt_trans (UInt8.toNat_lt b) (by decide)
              exact ⟨by have := dec_len hb; simp only; omega, fun _ => ⟨b.toNat, hb, pu32_dec _ hb, rfl⟩⟩
          · simp [tokErr] at h
        · rw [if_neg hq]
          unfold lexSign at h ⊢
          split at h
          · rename_i x hx
            have h2 := List.mem_of_find?_eq_some hx
            have : ∀ x ∈ signs, x.length ≤ 100 := by decide
            exact ⟨this x h2, fun hk => by cases hk⟩
          · simp [tokErr] at h
theorem map_ok {A B : Type} {f : A → B} {r : Except (Int × Int) A} {b : B} (h : r.map f = .ok b) : ∃ a, r = .ok a ∧ f a = b := by
  cases r with
  | ok a => exact ⟨a, rfl, by injection h⟩
  | error e => cases h
theorem lexP_ok : ∀ (f : Nat) (s : List UInt8) (line : Int) (T : List Tok), lexP f s line = .ok T → T.length ≤ f ∧ ∀ t ∈ T, TokOk t
  | 0, s, line, T, h => by
    rw [lexP] at h
    cases h
    exact ⟨Nat.le_refl _, by simp⟩
  | f + 1, s, line, T, h => by
    rw [lexP] at h
    split at h
    · cases h
      exact ⟨Nat.zero_le _, by simp⟩
    · split at h
      · split at h
        · cases h
        · rename_i he
          obtain ⟨T', h1, rfl⟩ := map_ok h
          obtain ⟨k1, k2⟩ := lexP_ok f _ _ _ h1
          refine ⟨by rw [List.length_cons]; omega, fun t ht => ?_⟩
          rcases List.mem_cons.1 ht with rfl | ht
          · exact lexToken_ok s (by omega)
          · exact k2 t ht
      · obtain ⟨k1, k2⟩ := lexP_ok f _ _ _ h
        exact ⟨by omega, k2⟩
end Go.Stele
namespace Go.Stele
open Go.Lib
/-- A token's text is read as that token. -/
def Again (t : Tok) : Prop := t.text.length ≤ 24 ∧ t.text ≠ [] ∧ skipLen t.text = 0 ∧ (10 : UInt8) ∉ t.text ∧ lexToken t.text = (⟨t.kind, t.text, 0⟩, t.text.length, 0)
theorem skip_head {c : UInt8} {r : List UInt8} (hw : isWhite c = false) (h47 : c ≠ 47) : skipLen (c :: r) = 0 := by
  have h : ([47, 47] : List UInt8).isPrefixOf (c :: r) = false := by
    cases h : ([47, 47] : List UInt8).isPrefixOf (c :: r) with
    | false => rfl
    | true =>
      simp only [List.isPrefixOf, Bool.and_eq_true, beq_iff_eq] at h
      exact absurd h.1.symm h47
  unfold skipLen
  rw [h, if_neg (by decide), List.takeWhile_cons_of_neg (by rw [hw]; decide)]
  rfl
theorem digit_of {d : Nat} (h : d < 10) : isDigit (UInt8.ofNat (48 + d)) = true := by
  have h1 : (UInt8.ofNat (48 + d)).toNat = 48 + d := digit_toNat h
  unfold isDigit cv
  rw [h1]
  simp
  omega
theorem dec_digits (u : Nat) : ∀ c ∈ decDigits u, isDigit c = true := by
  induction u using Nat.strongRecOn with
  | ind u ih =>
    intro c hc
    by_cases h : u < 10
    · rw [decDigits_one h] at hc
      rw [List.mem_singleton.1 hc]
      exact digit_of h
    · rw [decDigits, dif_neg h] at hc
      rcases List.mem_append.1 hc with hc | hc
      · exact ih (u / 10) (by omega) c hc
      · rw [List.mem_singleton.1 hc]
        exact digit_of (by omega)
theorem digit_white {c : UInt8} (h : isDigit c = true) : isWhite c = false ∧ c ≠ 47 := by
  unfold isDigit at h
  rw [Bool.and_eq_true, decide_eq_true_eq, decide_eq_true_eq] at h
  refine ⟨?_, fun hc => ?_⟩
  · unfold isWhite
    simp only [Bool.or_eq_false_iff, decide_eq_false_iff_not]
    omega
  · subst hc
    exact absurd h.1 (by decide)
theorem letter_white {c : UInt8} (h : isLetter c = true) : isWhite c = false ∧ c ≠ 47 := by
  unfold isLetter at h
  rw [Bool.and_eq_true, decide_eq_true_eq, decide_eq_true_eq] at h
  refine ⟨?_, fun hc => ?_⟩
  · unfold isWhite
    simp only [Bool.or_eq_false_iff, decide_eq_false_iff_not]
    omega
  · subst hc
    exact absurd h.1 (by decide)
theorem tw_self {p : UInt8 → Bool} : ∀ {s : List UInt8}, (∀ c ∈ s, p c = true) → s.takeWhile p = s
  | [], _ => rfl
  | c :: s, h => by rw [List.takeWhile_cons_of_pos (h c (List.mem_cons_self ..)), tw_self fun d hd => h d (List.mem_cons_of_mem _ hd)]
theorem tw_mem {p : UInt8 → Bool} : ∀ {s : List UInt8} {c : UInt8}, c ∈ s.takeWhile p → p c = true
  | [], _, h => by cases h
  | d :: s, c, h => by
    by_cases hd : p d = true
    · rw [List.takeWhile_cons_of_pos hd] at h
      rcases List.mem_cons.1 h with rfl | h
      · exact hd
      · exact tw_mem h
    · rw [List.takeWhile_cons_of_neg hd] at h
      cases h
theorem again_dec {u : Nat} (hu : u < 4294967296) (l : Int) : Again ⟨1, decDigits u, l⟩ := by
  have hd := dec_digits u
  have hne := decDigits_ne u
  refine ⟨by have := dec_len hu; simp only; omega, hne, ?_, fun h => by have := hd _ h; exact absurd this (by decide), ?_⟩
  · show skipLen (decDigits u) = 0
    cases hD : decDigits u with
    | nil => exact absurd hD hne
    | cons c r =>
      have := digit_white (hd c (by rw [hD]; exact List.mem_cons_self ..))
      exact skip_head this.1 this.2
  · show lexToken (decDigits u) = (⟨1, decDigits u, 0⟩, (decDigits u).length, 0)
    have h1 : lexToken (decDigits u) = lexNumber (decDigits u) := by
      cases hD : decDigits u with
      | nil => exact absurd hD hne
      | cons c r => rw [lexToken, if_pos (hd c (by rw [hD]; exact List.mem_cons_self ..))]
    rw [h1]
    unfold lexNumber
    rw [tw_self hd, pu32_dec u hu, if_neg]
    unfold wordNext
    rw [List.getElem?_eq_none (Nat.le_refl _)]
    decide
theorem again_sign : ∀ x ∈ signs, x.length ≤ 24 ∧ x ≠ [] ∧ skipLen x = 0 ∧ (10 : UInt8) ∉ x ∧ lexToken x = (⟨4, x, 0⟩, x.length, 0) := by decide +kernel
theorem lexToken_again (s : List UInt8) (h : (lexToken s).2.2 = 0) : Again (lexToken s).1 := by
  match s with
  | [] => simp [lexToken, tokErr] at h
  | c :: r =>
    simp only [lexToken] at h ⊢
    split at h <;> rename_i hc
    · rw [if_pos hc]
      unfold lexNumber at h ⊢
      split at h
      · simp [tokErr] at h
      · rename_i hw
        rw [if_neg hw]
        split at h
        · rename_i u hu
          exact again_dec (pu32_lt hu) 0
        · simp [tokErr] at h
    · rw [if_neg hc]
      split at h <;> rename_i hl
      · rw [if_pos hl]
        unfold lexName at h ⊢
        split at h
        · simp [tokErr] at h
        · rename_i hw
          rw [if_neg hw]
          have hin : isInner c = true := by simp [isInner, hl]
          have hW : (c :: r).takeWhile isInner = c :: r.takeWhile isInner := List.takeWhile_cons_of_pos hin
          have hall : ∀ d ∈ (c :: r).takeWhile isInner, isInner d = true := fun d hd => tw_mem hd
          have hww := letter_white hl
          refine ⟨by simp only; omega, by simp only; rw [hW]; simp, by simp only; rw [hW]; exact skip_head hww.1 hww.2, fun h10 => absurd (hall _ h10) (by decide), ?_⟩
          simp only
          have h1 : lexToken ((c :: r).takeWhile isInner) = lexName ((c :: r).takeWhile isInner) := by
            rw [hW, lexToken, if_neg hc, if_pos hl]
          rw [h1]
          unfold lexName
          rw [tw_self hall, if_neg hw]
      · rw [if_neg hl]
        split at h <;> rename_i hq
        · rw [if_pos hq]
          unfold lexLiteral at h ⊢
          split at h
          · split at h
            · simp [tokErr] at h
            · rename_i hx
              rename_i heq
              rename_i b _ _
              rw [if_neg hx]
              exact again_dec (Nat.lt_trans (UInt8.toNat_lt b) (by decide)) 0
          · simp [tokErr] at h
        · rw [if_neg hq]
          unfold lexSign at h ⊢
          split at h
          · rename_i x hx
            exact again_sign x (List.mem_of_find?_eq_some hx)
          · simp [tokErr] at h
theorem lexP_again : ∀ (f : Nat) (s : List UInt8) (line : Int) (T : List Tok), lexP f s line = .ok T → ∀ t ∈ T, Again t
  | 0, s, line, T, h => by
    rw [lexP] at h
    cases h
    simp
  | f + 1, s, line, T, h => by
    rw [lexP] at h
    split at h
    · cases h
      simp
    · split at h
      · split at h
        · cases h
        · rename_i he
          obtain ⟨T', h1, rfl⟩ := map_ok h
          have k2 := lexP_again f _ _ _ h1
          intro t ht
          rcases List.mem_cons.1 ht with rfl | ht
          · exact lexToken_again s (by omega)
          · exact k2 t ht
      · exact lexP_again f _ _ _ h
theorem lexAt_tok {t : Tok} (h : Again t) (line : Int) : lexAt t.text line = .ok [⟨t.kind, t.text, line⟩] := by
  obtain ⟨_, hne, hs, _, ht⟩ := h
  have hlen : 0 < t.text.length := List.length_pos_iff.2 hne
  rw [← lexAt_eq (f := t.text.length + 1) (by omega), lexP, if_neg hne, if_pos hs, ht, if_neg (by simp)]
  simp only [List.drop_length]
  rw [lexAt_eq (by simp), lexAt_nil]
  rfl
/-- The tokens, one on each line, from this line on. -/
def reline : List Tok → Int → List Tok
  | [], _ => []
  | t :: r, l => ⟨t.kind, t.text, l⟩ :: reline r (l + 1)
theorem reline_kt : ∀ (T : List Tok) (l : Int), (reline T l).map kt = T.map kt
  | [], _ => rfl
  | t :: r, l => by rw [reline, List.map_cons, List.map_cons, reline_kt r]; rfl
theorem reline_len (T : List Tok) (l : Int) : (reline T l).length = T.length := by simpa using congrArg List.length (reline_kt T l)
theorem reline_line : ∀ (T : List Tok) (l : Int) (j : Nat) (t : Tok), (reline T l)[j]? = some t → t.line = l + j
  | [], _, _, _, h => by simp [reline] at h
  | u :: r, l, 0, t, h => by
    simp [reline] at h
    rw [← h]
    simp
  | u :: r, l, j + 1, t, h => by
    rw [reline, List.getElem?_cons_succ] at h
    rw [reline_line r _ j t h]
    omega
theorem join_cons (x y : List UInt8) (r : List (List UInt8)) : join (x :: y :: r) [10] = x ++ 10 :: join (y :: r) [10] := by
  simp [join, List.intercalate, List.intersperse]
theorem lexAt_join : ∀ (T : List Tok) (l : Int), (∀ t ∈ T, Again t) → lexAt (join (T.map (·.text)) [10]) l = .ok (reline T l)
  | [], l, _ => by
    rw [show join (([] : List Tok).map (·.text)) [10] = [] by simp [join, List.intercalate], lexAt_nil]
    rfl
  | [t], l, h => by
    rw [show join (([t] : List Tok).map (·.text)) [10] = t.text by simp [join, List.intercalate], lexAt_tok (h t (List.mem_cons_self ..))]
    rfl
  | t :: u :: r, l, h => by
    have ht := h t (List.mem_cons_self ..)
    have ih := lexAt_join (u :: r) (l + 1) fun v hv => h v (List.mem_cons_of_mem _ hv)
    rw [List.map_cons, List.map_cons, join_cons, lexAt_app _ t.text.length _ _ _ (Nat.le_refl _) (lexAt_tok ht l), List.count_eq_zero.2 ht.2.2.2.1]
    rw [List.map_cons] at ih
    simp only [Int.natCast_zero, Int.add_zero]
    rw [ih]
    rfl
theorem join_len : ∀ (T : List Tok), (∀ t ∈ T, Again t) → (join (T.map (·.text)) [10]).length ≤ 25 * T.length
  | [], _ => by simp [join, List.intercalate]
  | [t], h => by
    rw [show join (([t] : List Tok).map (·.text)) [10] = t.text by simp [join, List.intercalate]]
    have := (h t (List.mem_cons_self ..)).1
    simp
    omega
  | t :: u :: r, h => by
    have ht := (h t (List.mem_cons_self ..)).1
    have ih := join_len (u :: r) fun v hv => h v (List.mem_cons_of_mem _ hv)
    rw [List.map_cons] at ih
    rw [List.map_cons, List.map_cons, join_cons, List.length_append, List.length_cons]
    simp only [List.length_cons] at ih ⊢
    omega
end Go.Stele
namespace Go.Stele
open Go.Lib
theorem numW_iff (w : Wd) (n : Nat) : numW w = some n ↔ n < 4294967296 ∧ decDigits n = w := by
  unfold numW
  constructor
  · intro h
    split at h
    · rename_i u hu
      split at h
      · rename_i he
        cases h
        exact ⟨pu32_lt hu, he⟩
      · cases h
    · cases h
  · rintro ⟨h1, h2⟩
    subst h2
    rw [pu32_dec n h1]
    simp
theorem numW_lt {w : Wd} {n : Nat} (h : numW w = some n) : n < 4294967296 := ((numW_iff w n).1 h).1
theorem numW_dec {n : Nat} (h : n < 4294967296) : numW (decDigits n) = some n := (numW_iff _ n).2 ⟨h, rfl⟩
theorem comp_lt {a b c : Nat} {op : Wd} (ha : a < 4294967296) (hb : b < 4294967296) (h : compW a op b = some c) : c < 4294967296 := by
  unfold compW at h
  split at h
  · cases h; omega
  split at h
  · cases h; omega
  split at h
  · cases h; exact Nat.mod_lt _ (by decide)
  split at h
  · cases h; exact Nat.xor_lt_two_pow (n := 32) ha hb
  split at h
  · cases h; split <;> decide
  split at h
  · split at h
    · cases h
    · cases h
      exact Nat.lt_of_le_of_lt (Nat.div_le_self _ _) ha
  split at h
  · split at h
    · cases h
    · cases h
      rename_i hb0
      have := Nat.mod_lt a (Nat.pos_of_ne_zero hb0)
      omega
  · cases h
end Go.Stele
namespace Go.Stele
/-! ### The rules, one behind the other -/
def cNeutral (v : List Wd) : Prop := wdAt v 0 = [48] ∧ (wdAt v 1 = [43] ∨ wdAt v 1 = [45] ∨ wdAt v 1 = [94]) ∨ wdAt v 0 = [49] ∧ (wdAt v 1 = [42] ∨ wdAt v 1 = [47])
instance (v : List Wd) : Decidable (cNeutral v) := by unfold cNeutral; infer_instance
def cRegroup (v : List Wd) : Prop := (wdAt v 1 = [43] ∨ wdAt v 1 = [42] ∨ wdAt v 1 = [94]) ∧ wdAt v 3 = wdAt v 1
instance (v : List Wd) : Decidable (cRegroup v) := by unfold cRegroup; infer_instance
def cSame (v : List Wd) : Prop := (numW (wdAt v 0)).isSome = true ∧ wdAt v 1 = [64] ∧ wdAt v 2 = wdAt v 0 ∧ wdAt v 3 = [33]
instance (v : List Wd) : Decidable (cSame v) := by unfold cSame; infer_instance
def cDouble (v : List Wd) : Prop := (jumpW v 4).isSome = true ∧ wdAt v 0 = [49] ∧ wdAt v 1 = [60] ∧ wdAt v 2 = [49] ∧ wdAt v 3 = [60]
instance (v : List Wd) : Decidable (cDouble v) := by unfold cDouble; infer_instance
def cNever (v : List Wd) : Bool := match numW (wdAt v 0) with
  | some n => decide (n ≠ 0 ∧ (jumpW v 1).isSome = true)
  | none => false
def cNext (v : List Wd) : Bool := match jumpW v 1 with
  | some l => decide (wdAt v 0 = [48] ∧ nextW l (v.drop 3) = true)
  | none => false
def cDead (v : List Wd) : Prop := 0 < stopW v ∧ 0 < deadLen (v.drop (stopW v))
instance (v : List Wd) : Decidable (cDead v) := by unfold cDead; infer_instance
def dFold (v : List Wd) : Option Wd := joinedW (wdAt v 0) (wdAt v 2) (wdAt v 1)
def dRegroup (v : List Wd) : Option Wd := joinedW (wdAt v 0) (wdAt v 1) (wdAt v 2)
section
variable {v : List Wd} {used : Wd → Bool}
theorem rFold_s {s : Wd} (h : dFold v = some s) : rFold v = (3, [s]) := by unfold rFold; unfold dFold at h; rw [h]
theorem rFold_n (h : dFold v = none) : rFold v = (0, []) := by unfold rFold; unfold dFold at h; rw [h]
theorem rNeutral_t (h : cNeutral v) : rNeutral v = (2, []) := if_pos h
theorem rNeutral_f (h : ¬ cNeutral v) : rNeutral v = (0, []) := if_neg h
theorem rRegroup_s {s : Wd} (h : cRegroup v) (h2 : dRegroup v = some s) : rRegroup v = (4, [s, wdAt v 1]) := by
  unfold rRegroup
  unfold dRegroup at h2
  unfold cRegroup at h
  rw [if_pos h, h2]
theorem rRegroup_n (h : ¬ cRegroup v ∨ dRegroup v = none) : rRegroup v = (0, []) := by
  unfold rRegroup
  unfold dRegroup at h
  by_cases hc : cRegroup v
  · rcases h with h | h
    · exact absurd hc h
    · unfold cRegroup at hc
      rw [if_pos hc, h]
  · unfold cRegroup at hc
    rw [if_neg hc]
theorem rSame_t (h : cSame v) : rSame v = (4, []) := if_pos h
theorem rSame_f (h : ¬ cSame v) : rSame v = (0, []) := if_neg h
theorem rDouble_t (h : cDouble v) : rDouble v = (6, [wdAt v 4, wdAt v 5]) := if_pos h
theorem rDouble_f (h : ¬ cDouble v) : rDouble v = (0, []) := if_neg h
theorem rNever_t (h : cNever v = true) : rNever v = (3, []) := by
  unfold cNever at h
  unfold rNever
  split at h
  · rename_i n hn
    try rw [hn]
    exact if_pos (of_decide_eq_true h)
  · cases h
theorem rNever_f (h : cNever v = false) : rNever v = (0, []) := by
  unfold cNever at h
  unfold rNever
  split at h
  · rename_i n hn
    try rw [hn]
    exact if_neg (of_decide_eq_false h)
  · rename_i hn
    first | rw [hn] | rfl
theorem rNext_t (h : cNext v = true) : rNext v = (3, []) := by
  unfold cNext at h
  unfold rNext
  split at h
  · rename_i n hn
    try rw [hn]
    exact if_pos (of_decide_eq_true h)
  · cases h
theorem rNext_f (h : cNext v = false) : rNext v = (0, []) := by
  unfold cNext at h
  unfold rNext
  split at h
  · rename_i n hn
    try rw [hn]
    exact if_neg (of_decide_eq_false h)
  · rename_i hn
    first | rw [hn] | rfl
theorem rDead_t (h : cDead v) : rDead v = (stopW v + deadLen (v.drop (stopW v)), v.take (stopW v)) := if_pos h
theorem rDead_f (h : ¬ cDead v) : rDead v = (0, []) := if_neg h
/-- The first rule that matches, by its condition. -/
theorem rule1 {s : Wd} (h : dFold v = some s) : ruleW used v = (3, [s]) := by
  unfold ruleW
  rw [rFold_s h]
  rfl
theorem rule2 (h1 : dFold v = none) (h : cNeutral v) : ruleW used v = (2, []) := by
  unfold ruleW
  rw [rFold_n h1, rNeutral_t h]
  rfl
theorem rule3 {s : Wd} (h1 : dFold v = none) (h2 : ¬ cNeutral v) (h : cRegroup v) (h' : dRegroup v = some s) : ruleW used v = (4, [s, wdAt v 1]) := by
  unfold ruleW
  rw [rFold_n h1, rNeutral_f h2, rRegroup_s h h']
  rfl
theorem rule4 (h1 : dFold v = none) (h2 : ¬ cNeutral v) (h3 : ¬ cRegroup v ∨ dRegroup v = none) (h : cSame v) : ruleW used v = (4, []) := by
  unfold ruleW
  rw [rFold_n h1, rNeutral_f h2, rRegroup_n h3, rSame_t h]
  rfl
theorem rule5 (h1 : dFold v = none) (h2 : ¬ cNeutral v) (h3 : ¬ cRegroup v ∨ dRegroup v = none) (h4 : ¬ cSame v) (h : cDouble v) : ruleW used v = (6, [wdAt v 4, wdAt v 5]) := by
  unfold ruleW
  rw [rFold_n h1, rNeutral_f h2, rRegroup_n h3, rSame_f h4, rDouble_t h]
  rfl
theorem rule6 (h1 : dFold v = none) (h2 : ¬ cNeutral v) (h3 : ¬ cRegroup v ∨ dRegroup v = none) (h4 : ¬ cSame v) (h5 : ¬ cDouble v) (h : cNever v = true) : ruleW used v = (3, []) := by
  unfold ruleW
  rw [rFold_n h1, rNeutral_f h2, rRegroup_n h3, rSame_f h4, rDouble_f h5, rNever_t h]
  rfl
theorem rule7 (h1 : dFold v = none) (h2 : ¬ cNeutral v) (h3 : ¬ cRegroup v ∨ dRegroup v = none) (h4 : ¬ cSame v) (h5 : ¬ cDouble v) (h6 : cNever v = false) (h : cNext v = true) : ruleW used v = (3, []) := by
  unfold ruleW
  rw [rFold_n h1, rNeutral_f h2, rRegroup_n h3, rSame_f h4, rDouble_f h5, rNever_f h6, rNext_t h]
  rfl
theorem rule8 (h1 : dFold v = none) (h2 : ¬ cNeutral v) (h3 : ¬ cRegroup v ∨ dRegroup v = none) (h4 : ¬ cSame v) (h5 : ¬ cDouble v) (h6 : cNever v = false) (h7 : cNext v = false) (h : cDead v) : ruleW used v = (stopW v + deadLen (v.drop (stopW v)), v.take (stopW v)) := by
  unfold ruleW
  have h0 : stopW v + deadLen (v.drop (stopW v)) ≠ 0 := by have := h.1; omega
  rw [rFold_n h1, rNeutral_f h2, rRegroup_n h3, rSame_f h4, rDouble_f h5, rNever_f h6, rNext_f h7, rDead_t h]
  simp only [ne_eq, not_true_eq_false, if_false, h0, not_false_eq_true, if_true]
theorem rule9 (h1 : dFold v = none) (h2 : ¬ cNeutral v) (h3 : ¬ cRegroup v ∨ dRegroup v = none) (h4 : ¬ cSame v) (h5 : ¬ cDouble v) (h6 : cNever v = false) (h7 : cNext v = false) (h8 : ¬ cDead v) : ruleW used v = rUnused used v := by
  unfold ruleW
  rw [rFold_n h1, rNeutral_f h2, rRegroup_n h3, rSame_f h4, rDouble_f h5, rNever_f h6, rNext_f h7, rDead_f h8]
  rfl
end
end Go.Stele
namespace Go.Stele
open Go.Lib
/-- The characters of a label. -/
def nameSet : List UInt8 := [97, 98, 99, 100, 101, 102, 103, 104, 105, 106, 107, 108, 109, 110, 111, 112, 113, 114, 115, 116, 117, 118, 119, 120, 121, 122, 48, 49, 50, 51, 52, 53, 54, 55, 56, 57, 95]
theorem nameSet_inner : ∀ n : Nat, n < 256 → nameSet.contains (UInt8.ofNat n) = isInner (UInt8.ofNat n) := by decide +kernel
theorem set_inner (c : UInt8) : nameSet.contains c = isInner c := by
  have h := nameSet_inner c.toNat c.toNat_lt
  rwa [UInt8.ofNat_toNat] at h
theorem dropWhile_nil {p : UInt8 → Bool} : ∀ {l : List UInt8}, l.dropWhile p = [] ↔ l.all p = true
  | [] => by simp
  | c :: l => by
    rw [List.dropWhile_cons, List.all_cons]
    cases h : p c with
    | true => simpa using dropWhile_nil
    | false => simp
theorem trim_nil (s : List UInt8) : (trimS s nameSet = []) ↔ s.all isInner = true := by
  have he : (fun c => nameSet.contains c) = isInner := funext set_inner
  unfold trimS trimLeftS trimRightS
  rw [he, dropWhile_nil]
  constructor
  · intro h
    by_cases h2 : s.reverse.dropWhile isInner = []
    · rw [dropWhile_nil] at h2
      rw [List.all_reverse] at h2
      exact h2
    · exfalso
      obtain ⟨c, r, hcr⟩ := List.exists_cons_of_ne_nil h2
      have h3 : isInner c = false := by
        have := List.head?_dropWhile_not isInner s.reverse
        rw [hcr] at this
        simpa using this
      rw [hcr, List.all_reverse, List.all_cons, h3] at h
      cases h
  · intro h
    have h2 : s.reverse.dropWhile isInner = [] := by rw [dropWhile_nil, List.all_reverse]; exact h
    rw [h2]
    rfl
theorem cv_nat (c : UInt8) (n : Nat) (h : n < 256) : (c = UInt8.ofNat n) ↔ (c.toNat : Int) = n := by
  constructor
  · rintro rfl
    rw [UInt8.toNat_ofNat']
    omega
  · intro h1
    apply UInt8.toNat_inj.1
    rw [UInt8.toNat_ofNat']
    omega
theorem pre_hit (r : List UInt8) : hasPrefix (38 :: r) [38] = true ∧ trimPrefix (38 :: r) [38] = r := by
  simp [trimPrefix, hasPrefix, List.isPrefixOf]
theorem pre_miss {c : UInt8} (h : c ≠ 38) (r : List UInt8) : hasPrefix (c :: r) [38] = false := by
  have : ¬ (38 : UInt8) = c := fun e => h e.symm
  simp [hasPrefix, List.isPrefixOf, this]
/-- The label behind the sign of a reference. -/
theorem ref_eq (w : Wd) : refW w = if hasPrefix w [38] = true ∧ nameW (trimPrefix w [38]) = true then some (trimPrefix w [38]) else none := by
  cases w with
  | nil => rfl
  | cons c r =>
    by_cases h : c = 38
    · subst h
      rw [(pre_hit r).1, (pre_hit r).2]
      simp [refW]
    · rw [pre_miss h]
      simp [refW, h]
theorem suffix_one (w : Wd) : hasSuffix w [58] = decide (w.getLast? = some 58) := by
  unfold hasSuffix
  rw [Bool.eq_iff_iff, List.isSuffixOf_iff_suffix, decide_eq_true_iff]
  constructor
  · rintro ⟨t, rfl⟩
    simp
  · intro h
    rw [List.getLast?_eq_some_iff] at h
    obtain ⟨t, rfl⟩ := h
    exact ⟨t, rfl⟩
theorem def_eq (w : Wd) : defW w = if hasSuffix w [58] = true ∧ nameW (trimSuffix w [58]) = true then some (trimSuffix w [58]) else none := by
  rw [suffix_one]
  unfold defW
  by_cases h : w.getLast? = some 58
  · have h2 : trimSuffix w [58] = w.dropLast := by
      unfold trimSuffix
      rw [suffix_one, decide_eq_true h, if_pos rfl, List.dropLast_eq_take]
      rfl
    rw [h2]
    simp [h]
  · simp [h]
end Go.Stele
namespace Go.Proofs.YtkjjenppmmipmaaGreatDoor
open Go.GL Go.RowKit Go.Stele
set_option maxRecDepth 100000
set_option maxHeartbeats 4000000
noncomputable abbrev KC (B0 : Nat) (w0 : World) : Ctx := ⟨Tryz.prog, B0, w0⟩
theorem map_get {A : Type} (f : A → LV) (l : List A) (i : Nat) (h : i < l.length) : (l.map f)[((i : Nat) : Int).toNat]? = some (f l[i]) := by
  rw [Int.toNat_natCast, List.getElem?_map, List.getElem?_eq_getElem h]
  rfl
attribute [local irreducible] LOps LCode LStep LCalls Go.GL.Pure QThen QBlock RetPost LQ LAny LLate LLateOp
/-- What the world before the call holds: the table of powers of ten, the two errors of numbers, a length. -/
structure GW (B0 : Nat) (w0 : World) : Prop where
  pow10 : Go.Lib.TabIs Tryz.prog w0 "internal/strconv.uint64pow10" .u64 Go.Lib.pow10Tab
  errRange : ∃ tp p, w0.var? Tryz.prog "strconv.ErrRange" = some #[.iface tp p]
  errSyntax : ∃ tp p, w0.var? Tryz.prog "strconv.ErrSyntax" = some #[.iface tp p]
  maxLen : ∃ m, w0.cell? ⟨0, 0, none⟩ = some (.int .i64 m)
  big : 8 ≤ B0
section
variable {B0 : Nat} {w0 : World}
theorem GW.tab (h : GW B0 w0) {w : World} (hb : Below B0 w0 w) : Go.Lib.TabIs Tryz.prog w "internal/strconv.uint64pow10" .u64 Go.Lib.pow10Tab := by
  have hg : Tryz.prog.globalNamed "internal/strconv.uint64pow10" = some 1 := by kernel_rfl
  exact var?_below hb hg (Nat.lt_of_lt_of_le (by decide) h.big) h.pow10
theorem GW.range (h : GW B0 w0) {w : World} (hb : Below B0 w0 w) : ∃ tp p, w.var? Tryz.prog "strconv.ErrRange" = some #[.iface tp p] := by
  have hg : Tryz.prog.globalNamed "strconv.ErrRange" = some 3 := by kernel_rfl
  obtain ⟨tp, p, hv⟩ := h.errRange
  exact ⟨tp, p, var?_below hb hg (Nat.lt_of_lt_of_le (by decide) h.big) hv⟩
theorem GW.syn (h : GW B0 w0) {w : World} (hb : Below B0 w0 w) : ∃ tp p, w.var? Tryz.prog "strconv.ErrSyntax" = some #[.iface tp p] := by
  have hg : Tryz.prog.globalNamed "strconv.ErrSyntax" = some 2 := by kernel_rfl
  obtain ⟨tp, p, hv⟩ := h.errSyntax
  exact ⟨tp, p, var?_below hb hg (Nat.lt_of_lt_of_le (by decide) h.big) hv⟩
theorem fmtUint_spec (hG : GW B0 w0) (u : Nat) (hu : u < 18446744073709551616) : LCalls (KC B0 w0) 44 [int .u64 u, int .i64 10] [] (Ret (str (Go.Lib.decDigits u))) := by
  refine LCalls.intro Tryz.func44 rfl (n := 8) rfl rfl rfl ?_
  repeat first
    | refine LOps.nil ?_
    | refine LCode.seq ?_
    | refine LCode.region ?_
    | refine LCode.skip ?_
    | refine LCode.ret ?_
    | refine LCode.exit ?_
    | refine LCode.block ?_
    | refine QThen.normal ?_
    | refine QThen.exit ?_
    | refine QThen.ret ?_
    | refine QBlock.hit ?_
    | refine QBlock.miss (by decide) ?_
    | refine QBlock.normal ?_
    | refine QBlock.ret ?_
    | refine LOps.pure (Pure.as (lv := .atom _) rfl) rfl ?_
    | refine LOps.pure (Pure.mv (lv := .atom _) rfl) rfl ?_
  refine LOps.step (S.fn [_, _] rfl (LCalls.ret_of (vs := [.int .u64 u, .int .i64 10]) fun w hw => formatUint_main u hu w (hG.tab hw)) ?_) rfl
  repeat first
    | refine LOps.nil ?_
    | refine LCode.seq ?_
    | refine LCode.region ?_
    | refine LCode.skip ?_
    | refine LCode.ret ?_
    | refine LCode.exit ?_
    | refine LCode.block ?_
    | refine QThen.normal ?_
    | refine QThen.exit ?_
    | refine QThen.ret ?_
    | refine QBlock.hit ?_
    | refine QBlock.miss (by decide) ?_
    | refine QBlock.normal ?_
    | refine QBlock.ret ?_
    | refine LOps.pure (Pure.as (lv := .atom _) rfl) rfl ?_
    | refine LOps.pure (Pure.mv (lv := .atom _) rfl) rfl ?_
  exact retRet rfl (AllRes.cons (ResIs.tmp (v := .atom _) rfl (LV.Sub.refl _)) AllRes.nil) rfl
/-- strconv.ParseUint(s, 10, 32): the number and nil, or an error that is not nil. -/
theorem parseUint_any (hG : GW B0 w0) (s : List UInt8) (hs : s.length ≤ 1000000000) : LCalls (KC B0 w0) 83 [str s, int .i64 10, int .i64 32] []
    (RetIf fun lv => (∃ u, Go.Lib.parseUintB 32 s = .ok u ∧ lv = .tuple [int .u64 u, .atom .nilIface]) ∨ ((∀ u, Go.Lib.parseUintB 32 s ≠ .ok u) ∧ ∃ v t p, lv = .tuple [int .u64 v, .atom (.iface t p)])) := by
  have hsz : ∀ k, 1000000000 ≤ k → s.toArray.size ≤ k := fun k hk => by simp; omega
  refine LCalls.mono (LCalls.of_belowT (vs := [.string ⟨s.toArray⟩, .int .i64 10, .int .i64 32]) (p := fun us => (∃ u, Go.Lib.parseUintB 32 s = .ok u ∧ us = [.int .u64 u, .nilIface]) ∨ ((∀ u, Go.Lib.parseUintB 32 s ≠ .ok u) ∧ ∃ v t p, us = [.int .u64 v, .iface t p])) fun w hw => ?_) ?_
  · cases h : Go.Lib.parseUintB 32 s with
    | ok u =>
      refine (Tryz.strconv_ParseUint_10_at32_ok ⟨s.toArray⟩ (hsz _ (by decide)) u (by simpa using h) w).mono fun e w' he => ⟨_, he.1, .inl ⟨u, rfl, rfl⟩, ?_⟩
      rcases he.2 with h2 | h2
      · rw [h2]; exact Below.refl _ _
      · rw [h2]
        exact ⟨rfl, rfl, rfl, by rw [Go.Lib.bytesWorld_size]; omega, fun k hk => Go.Lib.bytesWorld_at_old w 5 _ k hk⟩
    | range =>
      obtain ⟨tp, p, hv⟩ := hG.range hw
      refine (Tryz.strconv_ParseUint_10_at32_range_var ⟨s.toArray⟩ (hsz _ (by decide)) (by simpa using h) tp p w hv).mono fun e w' he => ?_
      obtain ⟨N, h1, _, _, h4⟩ := he
      exact ⟨_, h1, .inr ⟨(fun u hu => by cases hu), _, _, _, rfl⟩, h4⟩
    | _ =>
      obtain ⟨tp, p, hv⟩ := hG.syn hw
      refine (Tryz.strconv_ParseUint_10_at32_syntax_var ⟨s.toArray⟩ (hsz _ (by decide)) ⟨fun u hu => (by rw [h] at hu; cases hu), fun hu => (by rw [h] at hu; cases hu)⟩ tp p w hv).mono fun e w' he => ?_
      obtain ⟨N, h1, _, _, h4⟩ := he
      exact ⟨_, h1, .inr ⟨(fun u hu => by cases hu), _, _, _, rfl⟩, h4⟩
  · rintro r H ⟨v, rfl, ⟨us, hus, rfl⟩, rfl⟩
    refine ⟨_, rfl, ?_, rfl⟩
    rcases hus with ⟨u, h1, rfl⟩ | ⟨h1, v, t, p, rfl⟩
    · exact .inl ⟨u, h1, rfl⟩
    · exact .inr ⟨h1, v, t, p, rfl⟩
theorem cutPrefix_spec (s p : List UInt8) : LCalls (KC B0 w0) 48 [str s, str p] [] (Ret (.tuple [str (Go.Lib.trimPrefix s p), bool (Go.Lib.hasPrefix s p)])) := by
  refine LCalls.mono (LCalls.of_belowT (vs := [.string ⟨s.toArray⟩, .string ⟨p.toArray⟩]) (p := fun us => us = [.string ⟨(Go.Lib.trimPrefix s p).toArray⟩, .bool (Go.Lib.hasPrefix s p)]) fun w hw => ?_) ?_
  · refine (Tryz.strings_CutPrefix ⟨s.toArray⟩ ⟨p.toArray⟩ w).mono fun e w' he => ⟨_, he.1, rfl, by rw [he.2]; exact Below.refl _ _⟩
  · rintro r H ⟨v, rfl, ⟨us, rfl, rfl⟩, rfl⟩
    exact ⟨rfl, rfl⟩
theorem cutSuffix_spec (s p : List UInt8) (hs : s.length ≤ 1000000000) : LCalls (KC B0 w0) 84 [str s, str p] [] (Ret (.tuple [str (Go.Lib.trimSuffix s p), bool (Go.Lib.hasSuffix s p)])) := by
  refine LCalls.mono (LCalls.of_belowT (vs := [.string ⟨s.toArray⟩, .string ⟨p.toArray⟩]) (p := fun us => us = [.string ⟨(Go.Lib.trimSuffix s p).toArray⟩, .bool (Go.Lib.hasSuffix s p)]) fun w hw => ?_) ?_
  · refine (Tryz.strings_CutSuffix ⟨s.toArray⟩ ⟨p.toArray⟩ w (by show s.toArray.size ≤ _; simp; omega)).mono fun e w' he => ⟨_, he.1, rfl, by rw [he.2]; exact Below.refl _ _⟩
  · rintro r H ⟨v, rfl, ⟨us, rfl, rfl⟩, rfl⟩
    exact ⟨rfl, rfl⟩
theorem trim_spec (s : List UInt8) (hs : s.length ≤ 1000000000) : LCalls (KC B0 w0) 81 [str s, str nameSet] [] (Ret (str (Go.Lib.trimS s nameSet))) :=
  LCalls.ret_of (vs := [.string ⟨s.toArray⟩, .string ⟨nameSet.toArray⟩]) fun w hw => (Go.Proofs.Any.strings_Trim_laid Tryz.lays160 (by kernel_rfl) ⟨s.toArray⟩ ⟨nameSet.toArray⟩ w (by show s.toArray.size ≤ _; simp; omega) (by decide) (Go.Proofs.ascii_of_all (by decide)))
end
end Go.Proofs.YtkjjenppmmipmaaGreatDoor
namespace Go.Proofs.YtkjjenppmmipmaaGreatDoor
open Go.GL Go.RowKit Go.Stele
set_option maxRecDepth 100000
set_option maxHeartbeats 4000000
theorem wrapU32 {n : Int} (h : 0 ≤ n ∧ n ≤ 4294967295) : IntKind.u32.wrap n = n := by
  simp only [IntKind.wrap, IntKind.bits, IntKind.signed, Bool.false_and]
  simp
  omega
theorem wrapU64 {n : Int} (h : 0 ≤ n ∧ n ≤ 4294967295) : IntKind.u64.wrap n = n := by
  simp only [IntKind.wrap, IntKind.bits, IntKind.signed, Bool.false_and]
  simp
  omega
theorem wrapU32m (n : Int) : IntKind.u32.wrap n = n % 4294967296 := by
  simp only [IntKind.wrap, IntKind.bits, IntKind.signed, Bool.false_and]
  simp
instance : TIface Tryz.prog 61 := .of (by kernel_rfl)
attribute [local irreducible] LOps LCode LStep LCalls Go.GL.Pure QThen QBlock RetPost LQ LAny LLate LLateOp
section
variable {B0 : Nat} {w0 : World}
theorem isName_spec (s : List UInt8) (hs : s.length ≤ 1000000000) : LCalls (KC B0 w0) 49 [str s] [] (Ret (bool (nameW s))) := by
  have hT := trim_spec (B0 := B0) (w0 := w0) s hs
  have hnil := trim_nil s
  cases s with
  | nil =>
    refine LCalls.intro Tryz.func49 rfl (n := 25) rfl rfl rfl ?_
    repeat first
      | refine LOps.nil ?_
      | refine LCode.seq ?_
      | refine LCode.region ?_
      | refine LCode.ret ?_
      | refine QThen.normal ?_
      | refine LOps.pure (Pure.as (lv := .atom _) rfl) rfl ?_
      | refine LOps.pure (Pure.mv (lv := .atom _) rfl) rfl ?_
      | refine LOps.pure (Pure.sneq rfl rfl) rfl ?_
      | refine LOps.pure (Pure.pickF (lv := .atom _) rfl rfl) rfl ?_
      | refine LOps.skip rfl rfl rfl rfl ?_
    exact retRet rfl (AllRes.cons (ResIs.tmp (v := .atom _) rfl (LV.Sub.refl _)) AllRes.nil) rfl
  | cons c r =>
    have hN : nameW (c :: r) = (decide ((c :: r).length ≤ 40) && isLetter c && (c :: r).all isInner) := rfl
    rw [isLetter] at hN
    refine LCalls.intro Tryz.func49 rfl (n := 25) rfl rfl rfl ?_
    repeat first
      | refine LOps.nil ?_
      | refine LCode.seq ?_
      | refine LCode.region ?_
      | refine QThen.normal ?_
      | refine LOps.pure (Pure.as (lv := .atom _) rfl) rfl ?_
      | refine LOps.pure (Pure.mv (lv := .atom _) rfl) rfl ?_
      | refine LOps.pure (Pure.sneq rfl rfl) rfl ?_
      | refine LOps.pure (Pure.slen rfl) rfl ?_
      | refine LOps.pure (Pure.leq rfl rfl) rfl ?_
      | refine LOps.pure (Pure.pickT (lv := .atom _) rfl rfl) rfl ?_
      | refine LOps.want rfl rfl ?_
    refine LOps.bcase 5 rfl (fun h1 => ?_) (fun h1 => absurd h1 (by simp))
    refine LOps.bcase 10 rfl (fun h2 => ?_) (fun h2 => ?_)
    · have h2' : (c :: r).length ≤ 40 := by have := of_decide_eq_true h2; omega
      rw [decide_eq_true h2', Bool.true_and] at hN
      repeat first
        | refine LOps.pure (Pure.mv (lv := .atom _) rfl) rfl ?_
        | refine LOps.want rfl rfl ?_
      refine LOps.pure (Pure.sindex (c := c) rfl rfl (by omega) rfl) rfl ?_
      repeat first
        | refine LOps.pure (Pure.mv (lv := .atom _) rfl) rfl ?_
        | refine LOps.pure (Pure.pickT (lv := .atom _) rfl rfl) rfl ?_
        | refine LOps.pure (Pure.geq rfl rfl) rfl ?_
        | refine LOps.want rfl rfl ?_
      refine LOps.bcase 15 rfl (fun h3 => ?_) (fun h3 => ?_)
      · have h3' : decide (97 ≤ cv c) = true := h3
        rw [h3', Bool.true_and] at hN
        repeat first
          | refine LOps.pure (Pure.mv (lv := .atom _) rfl) rfl ?_
          | refine LOps.want rfl rfl ?_
        refine LOps.pure (Pure.sindex (c := c) rfl rfl (by omega) rfl) rfl ?_
        repeat first
          | refine LOps.pure (Pure.mv (lv := .atom _) rfl) rfl ?_
          | refine LOps.pure (Pure.leq rfl rfl) rfl ?_
          | refine LOps.pure (Pure.pickT (lv := .atom _) rfl rfl) rfl ?_
          | refine LOps.want rfl rfl ?_
        refine LOps.bcase 20 rfl (fun h4 => ?_) (fun h4 => ?_)
        · have h4' : decide (cv c ≤ 122) = true := h4
          rw [h4', Bool.true_and] at hN
          repeat first
            | refine LOps.pure (Pure.mv (lv := .atom _) rfl) rfl ?_
            | refine LOps.want rfl rfl ?_
          refine LOps.step (S.fn [_, _] rfl hT ?_) rfl
          repeat first
            | refine LOps.nil ?_
            | refine LCode.ret ?_
            | refine QThen.normal ?_
            | refine LOps.pure (Pure.as (lv := .atom _) rfl) rfl ?_
            | refine LOps.pure (Pure.pickT (lv := .atom _) rfl rfl) rfl ?_
            | refine LOps.pure (Pure.seq rfl rfl) rfl ?_
            | refine LOps.want rfl rfl ?_
          exact retRet rfl (AllRes.cons (ResIs.tmp (v := .atom _) rfl (LV.Sub.refl _)) AllRes.nil) (bool_eq (by
            rw [hN, Bool.eq_iff_iff, decide_eq_true_iff]
            exact hnil))
        · have h4' : decide (cv c ≤ 122) = false := h4
          rw [h4', Bool.false_and] at hN
          repeat first
            | refine LOps.nil ?_
            | refine LCode.ret ?_
            | refine QThen.normal ?_
            | refine LOps.pure (Pure.as (lv := .atom _) rfl) rfl ?_
            | refine LOps.pure (Pure.pickF (lv := .atom _) rfl rfl) rfl ?_
            | refine LOps.skip rfl rfl rfl rfl ?_
          exact retRet rfl (AllRes.cons (ResIs.tmp (v := .atom _) rfl (LV.Sub.refl _)) AllRes.nil) (bool_eq hN.symm)
      · have h3' : decide (97 ≤ cv c) = false := h3
        rw [h3', Bool.false_and, Bool.false_and] at hN
        repeat first
          | refine LOps.nil ?_
          | refine LCode.ret ?_
          | refine QThen.normal ?_
          | refine LOps.pure (Pure.as (lv := .atom _) rfl) rfl ?_
          | refine LOps.pure (Pure.mv (lv := .atom _) rfl) rfl ?_
          | refine LOps.pure (Pure.pickF (lv := .atom _) rfl rfl) rfl ?_
          | refine LOps.skip rfl rfl rfl rfl ?_
        exact retRet rfl (AllRes.cons (ResIs.tmp (v := .atom _) rfl (LV.Sub.refl _)) AllRes.nil) (bool_eq hN.symm)
    · have h2' : ¬ (c :: r).length ≤ 40 := by have := of_decide_eq_false h2; omega
      rw [decide_eq_false h2', Bool.false_and, Bool.false_and] at hN
      repeat first
        | refine LOps.nil ?_
        | refine LCode.ret ?_
        | refine QThen.normal ?_
        | refine LOps.pure (Pure.as (lv := .atom _) rfl) rfl ?_
        | refine LOps.pure (Pure.mv (lv := .atom _) rfl) rfl ?_
        | refine LOps.pure (Pure.pickF (lv := .atom _) rfl rfl) rfl ?_
        | refine LOps.skip rfl rfl rfl rfl ?_
      exact retRet rfl (AllRes.cons (ResIs.tmp (v := .atom _) rfl (LV.Sub.refl _)) AllRes.nil) (bool_eq hN.symm)
theorem number_spec (hG : GW B0 w0) (w : Wd) (hs : w.length ≤ 1000000000) : LCalls (KC B0 w0) 52 [str w] [] (Ret (.tuple [int .u32 ((numW w).getD 0 : Nat), bool (numW w).isSome])) := by
  have hP := parseUint_any hG w hs
  refine LCalls.intro Tryz.func52 rfl (n := 21) rfl rfl rfl ?_
  repeat first
    | refine LOps.nil ?_
    | refine LCode.seq ?_
    | refine LCode.region ?_
    | refine QThen.normal ?_
    | refine LOps.pure (Pure.as (lv := .atom _) rfl) rfl ?_
    | refine LOps.pure (Pure.mv (lv := .atom _) rfl) rfl ?_
  refine LOps.step (S.fnIf [_, _, _] rfl hP ?_) rfl
  rintro lv (⟨u, hu, rfl⟩ | ⟨hno, v, t, p, rfl⟩)
  · have hlt := pu32_lt hu
    repeat first
      | refine LOps.nil ?_
      | refine LCode.seq ?_
      | refine LCode.region ?_
      | refine QThen.normal ?_
      | refine LOps.pure (Pure.as (lv := .atom _) rfl) rfl ?_
      | refine LOps.pure (Pure.mv (lv := .atom _) rfl) rfl ?_
      | refine LOps.pure (Pure.mv (lv := .tuple _) rfl) rfl ?_
      | refine LOps.pure (Pure.extract (c := .atom _) rfl rfl) rfl ?_
      | refine LOps.pure (Pure.nilNeqNil rfl) rfl ?_
      | refine LOps.want rfl rfl ?_
    refine LOps.step (S.fn [_, _] rfl (fmtUint_spec hG u (by omega)) ?_) rfl
    repeat first
      | refine LOps.nil ?_
      | refine QThen.normal ?_
      | refine LOps.pure (Pure.mv (lv := .atom _) rfl) rfl ?_
      | refine LOps.pure (Pure.sneq rfl rfl) rfl ?_
      | refine LOps.pure (Pure.pickF (lv := .atom _) rfl rfl) rfl ?_
      | refine LOps.want rfl rfl ?_
    refine LCode.cond rfl (fun h => ?_) (fun h => ?_)
    · have hne : ¬ Go.Lib.decDigits u = w := by simpa using h
      have hn : numW w = none := by unfold numW; rw [hu]; exact if_neg hne
      repeat first
        | refine LOps.nil ?_
        | refine LCode.seq ?_
        | refine LCode.region ?_
        | refine LCode.ret ?_
        | refine QThen.normal ?_
        | refine QThen.ret ?_
        | refine LOps.pure (Pure.as (lv := .atom _) rfl) rfl ?_
      exact retRet rfl (AllRes.cons (ResIs.tmp (v := .atom _) rfl (LV.Sub.refl _)) (AllRes.cons (ResIs.tmp (v := .atom _) rfl (LV.Sub.refl _)) AllRes.nil)) (by rw [hn]; rfl)
    · have he : Go.Lib.decDigits u = w := by simpa using h
      have hn : numW w = some u := by unfold numW; rw [hu]; exact if_pos he
      repeat first
        | refine LOps.nil ?_
        | refine LCode.seq ?_
        | refine LCode.region ?_
        | refine LCode.skip ?_
        | refine LCode.ret ?_
        | refine QThen.normal ?_
        | refine LOps.pure (Pure.as (lv := .atom _) rfl) rfl ?_
        | refine LOps.pure (Pure.mv (lv := .atom _) rfl) rfl ?_
        | refine LOps.pure (Pure.cvt rfl) rfl ?_
      exact retRet rfl (AllRes.cons (ResIs.tmp (v := .atom _) rfl (LV.Sub.refl _)) (AllRes.cons (ResIs.tmp (v := .atom _) rfl (LV.Sub.refl _)) AllRes.nil)) (by
        rw [hn, wrapU32 (by omega)]
        rfl)
  · have hn : numW w = none := by
      unfold numW
      split
      · rename_i u hu
        exact absurd hu (hno u)
      · rfl
    repeat first
      | refine LOps.nil ?_
      | refine LCode.seq ?_
      | refine LCode.region ?_
      | refine QThen.normal ?_
      | refine LOps.pure (Pure.as (lv := .atom _) rfl) rfl ?_
      | refine LOps.pure (Pure.mv (lv := .atom _) rfl) rfl ?_
      | refine LOps.pure (Pure.mv (lv := .tuple _) rfl) rfl ?_
      | refine LOps.pure (Pure.extract (c := .atom _) rfl rfl) rfl ?_
      | refine LOps.pure (Pure.ifaceNeqNil rfl) rfl ?_
      | refine LOps.pure (Pure.pickT (lv := .atom _) rfl rfl) rfl ?_
      | refine LOps.skip rfl rfl rfl rfl ?_
    refine LCode.cond rfl (fun h => ?_) (fun h => ?_)
    · repeat first
        | refine LOps.nil ?_
        | refine LCode.seq ?_
        | refine LCode.region ?_
        | refine LCode.ret ?_
        | refine QThen.normal ?_
        | refine QThen.ret ?_
        | refine LOps.pure (Pure.as (lv := .atom _) rfl) rfl ?_
      exact retRet rfl (AllRes.cons (ResIs.tmp (v := .atom _) rfl (LV.Sub.refl _)) (AllRes.cons (ResIs.tmp (v := .atom _) rfl (LV.Sub.refl _)) AllRes.nil)) (by rw [hn]; rfl)
    · cases h
/-- A text and whether it is the one that is meant. -/
def OptLV (o : Option Wd) (lv : LV) : Prop := ∃ s, lv = .tuple [str s, bool o.isSome] ∧ ∀ l, o = some l → s = l
theorem OptLV.mk {o : Option Wd} {s : Wd} {b : Bool} (hb : o.isSome = b) (hs : ∀ l, o = some l → s = l) : OptLV o (.tuple [str s, bool b]) := ⟨s, by rw [hb], hs⟩
theorem ite_some {p q : Bool} {s : Wd} {o : Option Wd} (h : o = if p = true ∧ q = true then some s else none) : o.isSome = (p && q) ∧ ∀ l, o = some l → s = l := by
  subst h
  cases p <;> cases q <;> simp
theorem reference_spec (w : Wd) (hs : w.length ≤ 1000000000) : LCalls (KC B0 w0) 23 [str w] [] (RetIf (OptLV (refW w))) := by
  obtain ⟨r1, r2⟩ := ite_some (ref_eq w)
  have hlen : (Go.Lib.trimPrefix w [38]).length ≤ 1000000000 := by
    unfold Go.Lib.trimPrefix
    split
    · rw [List.length_drop]; omega
    · exact hs
  refine LCalls.intro Tryz.func23 rfl (n := 17) rfl rfl rfl ?_
  repeat first
    | refine LOps.nil ?_
    | refine LCode.seq ?_
    | refine LCode.region ?_
    | refine QThen.normal ?_
    | refine LOps.pure (Pure.as (lv := .atom _) rfl) rfl ?_
    | refine LOps.pure (Pure.mv (lv := .atom _) rfl) rfl ?_
  refine LOps.step (S.fn [_, _] rfl (cutPrefix_spec w [38]) ?_) rfl
  repeat first
    | refine LOps.nil ?_
    | refine LCode.seq ?_
    | refine LCode.region ?_
    | refine QThen.normal ?_
    | refine LOps.pure (Pure.as (lv := .atom _) rfl) rfl ?_
    | refine LOps.pure (Pure.mv (lv := .atom _) rfl) rfl ?_
    | refine LOps.pure (Pure.mv (lv := .tuple _) rfl) rfl ?_
    | refine LOps.pure (Pure.extract (c := .atom _) rfl rfl) rfl ?_
  refine LOps.bcase 13 rfl (fun h => ?_) (fun h => ?_)
  · rw [h, Bool.true_and] at r1
    repeat first
      | refine LOps.pure (Pure.mv (lv := .atom _) rfl) rfl ?_
      | refine LOps.want rfl rfl ?_
    refine LOps.step (S.fn [_] rfl (isName_spec _ hlen) ?_) rfl
    repeat first
      | refine LOps.nil ?_
      | refine LCode.ret ?_
      | refine QThen.normal ?_
      | refine LOps.pure (Pure.as (lv := .atom _) rfl) rfl ?_
      | refine LOps.pure (Pure.pickT (lv := .atom _) rfl rfl) rfl ?_
    exact retRetIf rfl (AllRes.cons (ResIs.tmp (v := .atom _) rfl (LV.Sub.refl _)) (AllRes.cons (ResIs.tmp (v := .atom _) rfl (LV.Sub.refl _)) AllRes.nil)) (OptLV.mk r1 r2)
  · rw [h, Bool.false_and] at r1
    repeat first
      | refine LOps.nil ?_
      | refine LCode.ret ?_
      | refine QThen.normal ?_
      | refine LOps.pure (Pure.as (lv := .atom _) rfl) rfl ?_
      | refine LOps.pure (Pure.pickF (lv := .atom _) rfl rfl) rfl ?_
      | refine LOps.skip rfl rfl rfl rfl ?_
    exact retRetIf rfl (AllRes.cons (ResIs.tmp (v := .atom _) rfl (LV.Sub.refl _)) (AllRes.cons (ResIs.tmp (v := .atom _) rfl (LV.Sub.refl _)) AllRes.nil)) (OptLV.mk r1 r2)
theorem definition_spec (w : Wd) (hs : w.length ≤ 1000000000) : LCalls (KC B0 w0) 55 [str w] [] (RetIf (OptLV (defW w))) := by
  obtain ⟨r1, r2⟩ := ite_some (def_eq w)
  have hlen : (Go.Lib.trimSuffix w [58]).length ≤ 1000000000 := by
    unfold Go.Lib.trimSuffix
    split
    · rw [List.length_take]; omega
    · exact hs
  refine LCalls.intro Tryz.func55 rfl (n := 17) rfl rfl rfl ?_
  repeat first
    | refine LOps.nil ?_
    | refine LCode.seq ?_
    | refine LCode.region ?_
    | refine QThen.normal ?_
    | refine LOps.pure (Pure.as (lv := .atom _) rfl) rfl ?_
    | refine LOps.pure (Pure.mv (lv := .atom _) rfl) rfl ?_
  refine LOps.step (S.fn [_, _] rfl (cutSuffix_spec w [58] hs) ?_) rfl
  repeat first
    | refine LOps.nil ?_
    | refine LCode.seq ?_
    | refine LCode.region ?_
    | refine QThen.normal ?_
    | refine LOps.pure (Pure.as (lv := .atom _) rfl) rfl ?_
    | refine LOps.pure (Pure.mv (lv := .atom _) rfl) rfl ?_
    | refine LOps.pure (Pure.mv (lv := .tuple _) rfl) rfl ?_
    | refine LOps.pure (Pure.extract (c := .atom _) rfl rfl) rfl ?_
  refine LOps.bcase 13 rfl (fun h => ?_) (fun h => ?_)
  · rw [h, Bool.true_and] at r1
    repeat first
      | refine LOps.pure (Pure.mv (lv := .atom _) rfl) rfl ?_
      | refine LOps.want rfl rfl ?_
    refine LOps.step (S.fn [_] rfl (isName_spec _ hlen) ?_) rfl
    repeat first
      | refine LOps.nil ?_
      | refine LCode.ret ?_
      | refine QThen.normal ?_
      | refine LOps.pure (Pure.as (lv := .atom _) rfl) rfl ?_
      | refine LOps.pure (Pure.pickT (lv := .atom _) rfl rfl) rfl ?_
    exact retRetIf rfl (AllRes.cons (ResIs.tmp (v := .atom _) rfl (LV.Sub.refl _)) (AllRes.cons (ResIs.tmp (v := .atom _) rfl (LV.Sub.refl _)) AllRes.nil)) (OptLV.mk r1 r2)
  · rw [h, Bool.false_and] at r1
    repeat first
      | refine LOps.nil ?_
      | refine LCode.ret ?_
      | refine QThen.normal ?_
      | refine LOps.pure (Pure.as (lv := .atom _) rfl) rfl ?_
      | refine LOps.pure (Pure.pickF (lv := .atom _) rfl rfl) rfl ?_
      | refine LOps.skip rfl rfl rfl rfl ?_
    exact retRetIf rfl (AllRes.cons (ResIs.tmp (v := .atom _) rfl (LV.Sub.refl _)) (AllRes.cons (ResIs.tmp (v := .atom _) rfl (LV.Sub.refl _)) AllRes.nil)) (OptLV.mk r1 r2)
/-- A view: words and the set of labels at m. -/
def viewLV (v : List Wd) (m : Nat) : LV := .agg [.list (v.map str), .atom (.map (some m))]
theorem word_spec (v : List Wd) (m i : Nat) (hv : v.length ≤ 1000000000) : LCalls (KC B0 w0) 51 [viewLV v m, int .i64 i] [] (Ret (str (wdAt v i))) := by
  have hla : (v.map str).length = v.length := List.length_map _
  unfold viewLV
  refine LCalls.intro Tryz.func51 rfl (n := 15) rfl rfl rfl ?_
  repeat first
    | refine LCode.seq ?_
    | refine LCode.region ?_
  refine LOps.step (S.box (cs := [.list (v.map str), .atom (.map (some m))]) rfl fun b2 => ?_) rfl
  repeat first
    | refine LOps.nil ?_
    | refine LCode.seq ?_
    | refine LCode.region ?_
    | refine QThen.normal ?_
    | refine LOps.pure (Pure.as (lv := .atom _) rfl) rfl ?_
    | refine LOps.pure (Pure.mv (lv := .atom _) rfl) rfl ?_
    | refine LOps.pure (Pure.fieldH rfl) rfl ?_
    | refine LOps.pure (Pure.loadH (c := .list _) rfl (List.Mem.head _) rfl) rfl ?_
    | refine LOps.pure (Pure.llen rfl) rfl ?_
    | refine LOps.pure (Pure.lss rfl rfl) rfl ?_
  refine LCode.cond rfl (fun h => ?_) (fun h => ?_)
  · have hlt : i < v.length := by have := of_decide_eq_true h; omega
    have hw : wdAt v i = v[i] := by unfold wdAt; rw [List.getElem?_eq_getElem hlt]; rfl
    repeat first
      | refine LCode.seq ?_
      | refine LCode.region ?_
      | refine LOps.pure (Pure.mv (lv := .atom _) rfl) rfl ?_
      | refine LOps.pure (Pure.fieldH rfl) rfl ?_
      | refine LOps.pure (Pure.loadH (c := .list _) rfl (List.Mem.head _) rfl) rfl ?_
    refine LOps.pure (Pure.ixRef (el' := str v[i]) (cs := [str v[i]]) rfl rfl (by omega) (map_get _ _ _ hlt) rfl rfl) rfl ?_
    repeat first
      | refine LOps.nil ?_
      | refine LCode.ret ?_
      | refine QThen.normal ?_
      | refine QThen.ret ?_
      | refine LOps.pure (Pure.as (lv := .atom _) rfl) rfl ?_
      | refine LOps.pure (Pure.loadRef (c := .atom _) rfl rfl) rfl ?_
    exact retRet rfl (AllRes.cons (ResIs.tmp (v := .atom _) rfl (LV.Sub.refl _)) AllRes.nil) (str_eq hw.symm)
  · have hge : v.length ≤ i := by have := of_decide_eq_false h; omega
    have hw : wdAt v i = [] := by unfold wdAt; rw [List.getElem?_eq_none hge]; rfl
    repeat first
      | refine LOps.nil ?_
      | refine LCode.seq ?_
      | refine LCode.region ?_
      | refine LCode.skip ?_
      | refine LCode.ret ?_
      | refine QThen.normal ?_
      | refine LOps.pure (Pure.as (lv := .atom _) rfl) rfl ?_
    exact retRet rfl (AllRes.cons (ResIs.tmp (v := .atom _) rfl (LV.Sub.refl _)) AllRes.nil) (str_eq hw.symm)
/-- No word is too long. -/
def Small (v : List Wd) : Prop := v.length ≤ 1000000 ∧ ∀ w ∈ v, w.length ≤ 1000000
theorem Small.at {v : List Wd} (h : Small v) (i : Nat) : (wdAt v i).length ≤ 1000000 := by
  unfold wdAt
  cases hi : v[i]? with
  | none => exact Nat.zero_le _
  | some w => exact h.2 w (List.mem_of_getElem? hi)
theorem jump_spec (v : List Wd) (m i : Nat) (hv : Small v) (hi : i ≤ 1000) : LCalls (KC B0 w0) 54 [viewLV v m, int .i64 i] [] (RetIf (OptLV (jumpW v i))) := by
  have h1 := word_spec (B0 := B0) (w0 := w0) v m i (by have := hv.1; omega)
  have h2 := word_spec (B0 := B0) (w0 := w0) v m (i + 1) (by have := hv.1; omega)
  have e2 : int .i64 ((i : Int) + 1) = int .i64 ((i + 1 : Nat) : Int) := int_eq (by omega)
  rw [← e2] at h2
  have hl := hv.at i
  have hJ : jumpW v i = match refW (wdAt v i) with
    | some l => if wdAt v (i + 1) = [63] then some l else none
    | none => none := rfl
  unfold viewLV at h1 h2 ⊢
  refine LCalls.intro Tryz.func54 rfl (n := 24) rfl rfl rfl ?_
  repeat first
    | refine LCode.seq ?_
    | refine LCode.region ?_
  refine LOps.step (S.box (cs := [.list (v.map str), .atom (.map (some m))]) rfl fun b2 => ?_) rfl
  repeat first
    | refine LOps.nil ?_
    | refine LCode.seq ?_
    | refine LCode.region ?_
    | refine QThen.normal ?_
    | refine LOps.pure (Pure.as (lv := .atom _) rfl) rfl ?_
    | refine LOps.pure (Pure.ldHAgg (cs' := [_, _]) rfl (List.Mem.head _) rfl rfl) rfl ?_
    | refine LOps.pure (Pure.mv (lv := .atom _) rfl) rfl ?_
  refine LOps.step (S.fn [_, _] rfl h1 ?_) rfl
  refine LOps.step (S.fnIf [_] rfl (reference_spec _ (by omega)) ?_) rfl
  rintro lv ⟨s, rfl, hs⟩
  repeat first
    | refine LOps.nil ?_
    | refine LCode.seq ?_
    | refine LCode.region ?_
    | refine QThen.normal ?_
    | refine LOps.pure (Pure.as (lv := .atom _) rfl) rfl ?_
    | refine LOps.pure (Pure.mv (lv := .atom _) rfl) rfl ?_
    | refine LOps.pure (Pure.mv (lv := .tuple _) rfl) rfl ?_
    | refine LOps.pure (Pure.extract (c := .atom _) rfl rfl) rfl ?_
  refine LOps.bcase 17 rfl (fun h => ?_) (fun h => ?_)
  · obtain ⟨l, hl2⟩ := Option.isSome_iff_exists.1 h
    have hsl := hs l hl2
    rw [hl2] at hJ
    repeat first
      | refine LOps.pure (Pure.ldHAgg (cs' := [_, _]) rfl (List.Mem.head _) rfl rfl) rfl ?_
      | refine LOps.pure (Pure.mv (lv := .atom _) rfl) rfl ?_
      | refine LOps.pure (Pure.add rfl rfl (by omega)) rfl ?_
      | refine LOps.want rfl rfl ?_
    refine LOps.step (S.fn [_, _] rfl h2 ?_) rfl
    repeat first
      | refine LOps.nil ?_
      | refine LCode.ret ?_
      | refine QThen.normal ?_
      | refine LOps.pure (Pure.as (lv := .atom _) rfl) rfl ?_
      | refine LOps.pure (Pure.seq rfl rfl) rfl ?_
      | refine LOps.pure (Pure.pickT (lv := .atom _) rfl rfl) rfl ?_
      | refine LOps.want rfl rfl ?_
    exact retRetIf rfl (AllRes.cons (ResIs.tmp (v := .atom _) rfl (LV.Sub.refl _)) (AllRes.cons (ResIs.tmp (v := .atom _) rfl (LV.Sub.refl _)) AllRes.nil)) (OptLV.mk (by rw [hJ]; simp only; split <;> simp_all) (by
      intro l' h'
      rw [hJ] at h'
      simp only at h'
      split at h'
      · injection h' with h'
        rw [hsl, h']
      · cases h'))
  · have hn : refW (wdAt v i) = none := by
      cases h3 : refW (wdAt v i) with
      | none => rfl
      | some l => rw [h3] at h; cases h
    rw [hn] at hJ
    repeat first
      | refine LOps.nil ?_
      | refine LCode.ret ?_
      | refine QThen.normal ?_
      | refine LOps.pure (Pure.as (lv := .atom _) rfl) rfl ?_
      | refine LOps.pure (Pure.pickF (lv := .atom _) rfl rfl) rfl ?_
      | refine LOps.skip rfl rfl rfl rfl ?_
    exact retRetIf rfl (AllRes.cons (ResIs.tmp (v := .atom _) rfl (LV.Sub.refl _)) (AllRes.cons (ResIs.tmp (v := .atom _) rfl (LV.Sub.refl _)) AllRes.nil)) (OptLV.mk (by rw [hJ]; rfl) (by
      intro l' h'
      rw [hJ] at h'
      cases h'))
end
end Go.Proofs.YtkjjenppmmipmaaGreatDoor
namespace Go.Proofs.YtkjjenppmmipmaaGreatDoor
open Go.GL Go.RowKit Go.Stele
set_option maxRecDepth 100000
set_option maxHeartbeats 4000000
theorem xor32 {a b : Nat} (ha : a < 4294967296) (hb : b < 4294967296) : IntKind.u32.wrap (((BitVec.ofInt IntKind.u32.bits (a : Int) ^^^ BitVec.ofInt IntKind.u32.bits (b : Int)).toNat : Nat) : Int) = ((a ^^^ b : Nat) : Int) := by
  have h1 : (BitVec.ofInt 32 (a : Int) ^^^ BitVec.ofInt 32 (b : Int)).toNat = a ^^^ b := by
    rw [BitVec.ofInt_natCast, BitVec.ofInt_natCast, BitVec.toNat_xor, BitVec.toNat_ofNat, BitVec.toNat_ofNat, Nat.mod_eq_of_lt ha, Nat.mod_eq_of_lt hb]
  have h2 : a ^^^ b < 4294967296 := Nat.xor_lt_two_pow (n := 32) ha hb
  show IntKind.u32.wrap (((BitVec.ofInt 32 (a : Int) ^^^ BitVec.ofInt 32 (b : Int)).toNat : Nat) : Int) = _
  rw [h1, wrapU32 (by omega)]
theorem wadd (a b : Nat) : IntKind.u32.wrap ((a : Int) + b) = (((a + b) % 4294967296 : Nat) : Int) := by
  rw [wrapU32m]
  omega
theorem wsub {a b : Nat} (hb : b < 4294967296) : IntKind.u32.wrap ((a : Int) - b) = (((a + 4294967296 - b) % 4294967296 : Nat) : Int) := by
  rw [wrapU32m]
  omega
theorem wmul (a b : Nat) : IntKind.u32.wrap ((a : Int) * b) = ((a * b % 4294967296 : Nat) : Int) := by
  rw [wrapU32m, Int.natCast_emod, Int.natCast_mul]
  rfl
theorem resT {n : Int} {m : Nat} {o : Option Nat} (ho : o = some m) (h : n = (m : Int)) : resLV [int .u32 n, bool true] = LV.tuple [int .u32 ((o.getD 0 : Nat) : Int), bool o.isSome] := by
  subst h
  subst ho
  rfl
attribute [local irreducible] LOps LCode LStep LCalls Go.GL.Pure QThen QBlock RetPost LQ LAny LLate LLateOp
section
variable {B0 : Nat} {w0 : World}
theorem compute_spec (a b : Nat) (op : Wd) (ha : a < 4294967296) (hb : b < 4294967296) : LCalls (KC B0 w0) 82 [int .u32 a, str op, int .u32 b] [] (Ret (.tuple [int .u32 ((compW a op b).getD 0 : Nat), bool (compW a op b).isSome])) := by
  have hC : compW a op b = compW a op b := rfl
  conv at hC => rhs; unfold compW
  refine LCalls.intro Tryz.func82 rfl (n := 47) rfl rfl rfl ?_
  repeat first
    | refine LOps.nil ?_
    | refine LCode.seq ?_
    | refine LCode.region ?_
    | refine LCode.block ?_
    | refine QThen.normal ?_
    | refine LOps.pure (Pure.as (lv := .atom _) rfl) rfl ?_
    | refine LOps.pure (Pure.mv (lv := .atom _) rfl) rfl ?_
    | refine LOps.pure (Pure.seq rfl rfl) rfl ?_
  refine LCode.cond rfl (fun h1 => ?_) (fun h1 => ?_)
  · rw [if_pos (of_decide_eq_true h1)] at hC
    repeat first
      | refine LCode.seq ?_
      | refine LCode.region ?_
      | refine LOps.pure (Pure.mv (lv := .atom _) rfl) rfl ?_
    refine LOps.pure (Pure.addW rfl rfl) rfl ?_
    repeat first
      | refine LOps.nil ?_
      | refine LCode.ret ?_
      | refine QThen.normal ?_
      | refine QThen.ret ?_
      | refine QBlock.ret ?_
      | refine LOps.pure (Pure.as (lv := .atom _) rfl) rfl ?_
    exact retRet rfl (AllRes.cons (ResIs.tmp (v := .atom _) rfl (LV.Sub.refl _)) (AllRes.cons (ResIs.tmp (v := .atom _) rfl (LV.Sub.refl _)) AllRes.nil)) (resT hC (wadd a b))
  rw [if_neg (of_decide_eq_false h1)] at hC
  repeat first
    | refine LOps.nil ?_
    | refine LCode.seq ?_
    | refine LCode.region ?_
    | refine QThen.normal ?_
    | refine LOps.pure (Pure.as (lv := .atom _) rfl) rfl ?_
    | refine LOps.pure (Pure.seq rfl rfl) rfl ?_
  refine LCode.cond rfl (fun h2 => ?_) (fun h2 => ?_)
  · rw [if_pos (of_decide_eq_true h2)] at hC
    repeat first
      | refine LCode.seq ?_
      | refine LCode.region ?_
      | refine LOps.pure (Pure.mv (lv := .atom _) rfl) rfl ?_
    refine LOps.pure (Pure.subW rfl rfl) rfl ?_
    repeat first
      | refine LOps.nil ?_
      | refine LCode.ret ?_
      | refine QThen.normal ?_
      | refine QThen.ret ?_
      | refine QBlock.ret ?_
      | refine LOps.pure (Pure.as (lv := .atom _) rfl) rfl ?_
    exact retRet rfl (AllRes.cons (ResIs.tmp (v := .atom _) rfl (LV.Sub.refl _)) (AllRes.cons (ResIs.tmp (v := .atom _) rfl (LV.Sub.refl _)) AllRes.nil)) (resT hC (wsub hb))
  rw [if_neg (of_decide_eq_false h2)] at hC
  repeat first
    | refine LOps.nil ?_
    | refine LCode.seq ?_
    | refine LCode.region ?_
    | refine QThen.normal ?_
    | refine LOps.pure (Pure.as (lv := .atom _) rfl) rfl ?_
    | refine LOps.pure (Pure.seq rfl rfl) rfl ?_
  refine LCode.cond rfl (fun h3 => ?_) (fun h3 => ?_)
  · rw [if_pos (of_decide_eq_true h3)] at hC
    repeat first
      | refine LCode.seq ?_
      | refine LCode.region ?_
      | refine LOps.pure (Pure.mv (lv := .atom _) rfl) rfl ?_
    refine LOps.pure (Pure.mulW rfl rfl) rfl ?_
    repeat first
      | refine LOps.nil ?_
      | refine LCode.ret ?_
      | refine QThen.normal ?_
      | refine QThen.ret ?_
      | refine QBlock.ret ?_
      | refine LOps.pure (Pure.as (lv := .atom _) rfl) rfl ?_
    exact retRet rfl (AllRes.cons (ResIs.tmp (v := .atom _) rfl (LV.Sub.refl _)) (AllRes.cons (ResIs.tmp (v := .atom _) rfl (LV.Sub.refl _)) AllRes.nil)) (resT hC (wmul a b))
  rw [if_neg (of_decide_eq_false h3)] at hC
  repeat first
    | refine LOps.nil ?_
    | refine LCode.seq ?_
    | refine LCode.region ?_
    | refine QThen.normal ?_
    | refine LOps.pure (Pure.as (lv := .atom _) rfl) rfl ?_
    | refine LOps.pure (Pure.seq rfl rfl) rfl ?_
  refine LCode.cond rfl (fun h4 => ?_) (fun h4 => ?_)
  · rw [if_pos (of_decide_eq_true h4)] at hC
    repeat first
      | refine LCode.seq ?_
      | refine LCode.region ?_
      | refine LOps.pure (Pure.mv (lv := .atom _) rfl) rfl ?_
    refine LOps.pure (Pure.xorW rfl rfl) rfl ?_
    repeat first
      | refine LOps.nil ?_
      | refine LCode.ret ?_
      | refine QThen.normal ?_
      | refine QThen.ret ?_
      | refine QBlock.ret ?_
      | refine LOps.pure (Pure.as (lv := .atom _) rfl) rfl ?_
    exact retRet rfl (AllRes.cons (ResIs.tmp (v := .atom _) rfl (LV.Sub.refl _)) (AllRes.cons (ResIs.tmp (v := .atom _) rfl (LV.Sub.refl _)) AllRes.nil)) (resT hC (xor32 ha hb))
  rw [if_neg (of_decide_eq_false h4)] at hC
  repeat first
    | refine LOps.nil ?_
    | refine LCode.seq ?_
    | refine LCode.region ?_
    | refine QThen.normal ?_
    | refine LOps.pure (Pure.as (lv := .atom _) rfl) rfl ?_
    | refine LOps.pure (Pure.seq rfl rfl) rfl ?_
  refine LCode.cond rfl (fun h5 => ?_) (fun h5 => ?_)
  · rw [if_pos (of_decide_eq_true h5)] at hC
    repeat first
      | refine LOps.nil ?_
      | refine LCode.seq ?_
      | refine LCode.region ?_
      | refine QThen.normal ?_
      | refine LOps.pure (Pure.mv (lv := .atom _) rfl) rfl ?_
      | refine LOps.pure (Pure.lss rfl rfl) rfl ?_
    refine LCode.cond rfl (fun h6 => ?_) (fun h6 => ?_)
    · have hlt : a < b := by have := of_decide_eq_true h6; omega
      repeat first
        | refine LOps.nil ?_
        | refine LCode.seq ?_
        | refine LCode.region ?_
        | refine LCode.ret ?_
        | refine QThen.normal ?_
        | refine QThen.ret ?_
        | refine QBlock.ret ?_
        | refine LOps.pure (Pure.as (lv := .atom _) rfl) rfl ?_
      exact retRet rfl (AllRes.cons (ResIs.tmp (v := .atom _) rfl (LV.Sub.refl _)) (AllRes.cons (ResIs.tmp (v := .atom _) rfl (LV.Sub.refl _)) AllRes.nil)) (by rw [hC, if_pos hlt]; rfl)
    · have hlt : ¬ a < b := by have := of_decide_eq_false h6; omega
      repeat first
        | refine LOps.nil ?_
        | refine LCode.seq ?_
        | refine LCode.region ?_
        | refine LCode.skip ?_
        | refine LCode.ret ?_
        | refine QThen.normal ?_
        | refine QThen.ret ?_
        | refine QBlock.ret ?_
        | refine LOps.pure (Pure.as (lv := .atom _) rfl) rfl ?_
      exact retRet rfl (AllRes.cons (ResIs.tmp (v := .atom _) rfl (LV.Sub.refl _)) (AllRes.cons (ResIs.tmp (v := .atom _) rfl (LV.Sub.refl _)) AllRes.nil)) (by rw [hC, if_neg hlt]; rfl)
  rw [if_neg (of_decide_eq_false h5)] at hC
  repeat first
    | refine LOps.nil ?_
    | refine LCode.seq ?_
    | refine LCode.region ?_
    | refine QThen.normal ?_
    | refine LOps.pure (Pure.as (lv := .atom _) rfl) rfl ?_
    | refine LOps.pure (Pure.seq rfl rfl) rfl ?_
  refine LCode.cut [(0, int .u32 a), (1, str op), (2, int .u32 b), (34, bool (decide (op = [47] ∨ op = [37])))] ?_ (fun j hj => ?_)
  · refine LCode.cond rfl (fun h6 => ?_) (fun h6 => ?_)
    · repeat first
        | refine LCode.skip ?_
        | refine QThen.normal ?_
      exact ⟨⟨rfl, rfl, rfl, bool_eq (by simp [of_decide_eq_true h6]), trivial⟩, rfl, rfl⟩
    · repeat first
        | refine LOps.nil ?_
        | refine LCode.region ?_
        | refine QThen.normal ?_
        | refine LOps.pure (Pure.as (lv := .atom _) rfl) rfl ?_
        | refine LOps.pure (Pure.seq rfl rfl) rfl ?_
      exact ⟨⟨rfl, rfl, rfl, bool_eq (by simp [of_decide_eq_false h6]), trivial⟩, rfl, rfl⟩
  refine LCode.cond rfl (fun h6 => ?_) (fun h6 => ?_)
  · have h6' : op = [47] ∨ op = [37] := of_decide_eq_true h6
    repeat first
      | refine LOps.nil ?_
      | refine LCode.seq ?_
      | refine LCode.region ?_
      | refine QThen.normal ?_
      | refine LOps.pure (Pure.mv (lv := .atom _) rfl) rfl ?_
      | refine LOps.pure (Pure.eql rfl rfl) rfl ?_
    refine LCode.cond rfl (fun h7 => ?_) (fun h7 => ?_)
    · have hb0 : b = 0 := by have := of_decide_eq_true h7; omega
      have hCn : compW a op b = none := by
        rw [hC]
        rcases h6' with h | h
        · rw [if_pos h, if_pos hb0]
        · rw [if_neg (by rw [h]; decide), if_pos h, if_pos hb0]
      repeat first
        | refine LOps.nil ?_
        | refine LCode.seq ?_
        | refine LCode.region ?_
        | refine LCode.ret ?_
        | refine QThen.normal ?_
        | refine QThen.ret ?_
        | refine QBlock.ret ?_
        | refine LOps.pure (Pure.as (lv := .atom _) rfl) rfl ?_
      exact retRet hj (AllRes.cons (ResIs.tmp (v := .atom _) rfl (LV.Sub.refl _)) (AllRes.cons (ResIs.tmp (v := .atom _) rfl (LV.Sub.refl _)) AllRes.nil)) (by rw [hCn]; rfl)
    · have hb0 : ¬ b = 0 := by have := of_decide_eq_false h7; omega
      repeat first
        | refine LOps.nil ?_
        | refine LCode.seq ?_
        | refine LCode.region ?_
        | refine LCode.skip ?_
        | refine QThen.normal ?_
        | refine LOps.pure (Pure.mv (lv := .atom _) rfl) rfl ?_
        | refine LOps.pure (Pure.seq rfl rfl) rfl ?_
      refine LCode.cond rfl (fun h8 => ?_) (fun h8 => ?_)
      · rw [if_pos (of_decide_eq_true h8), if_neg hb0] at hC
        have hle : a / b ≤ a := Nat.div_le_self _ _
        have e1 : IntKind.u32.wrap ((a : Int).tdiv (b : Int)) = ((a / b : Nat) : Int) := by
          rw [Int.tdiv_eq_ediv_of_nonneg (by omega), ← Int.natCast_ediv]
          exact wrapU32 ⟨Int.natCast_nonneg _, Int.ofNat_le.2 (show a / b ≤ 4294967295 by omega)⟩
        repeat first
          | refine LCode.seq ?_
          | refine LCode.region ?_
          | refine LOps.pure (Pure.mv (lv := .atom _) rfl) rfl ?_
        refine LOps.pure (Pure.quoW rfl rfl (by omega)) rfl ?_
        repeat first
          | refine LOps.nil ?_
          | refine LCode.ret ?_
          | refine QThen.normal ?_
          | refine QThen.ret ?_
          | refine QBlock.ret ?_
          | refine LOps.pure (Pure.as (lv := .atom _) rfl) rfl ?_
        exact retRet hj (AllRes.cons (ResIs.tmp (v := .atom _) rfl (LV.Sub.refl _)) (AllRes.cons (ResIs.tmp (v := .atom _) rfl (LV.Sub.refl _)) AllRes.nil)) (resT hC e1)
      · have h9 : op = [37] := by
          rcases h6' with h | h
          · exact absurd h (of_decide_eq_false h8)
          · exact h
        rw [if_neg (of_decide_eq_false h8), if_pos h9, if_neg hb0] at hC
        have e1 : (a : Int).tmod (b : Int) = ((a % b : Nat) : Int) := by
          rw [Int.tmod_eq_emod_of_nonneg (by omega), ← Int.natCast_emod]
        repeat first
          | refine LCode.seq ?_
          | refine LCode.region ?_
          | refine LCode.skip ?_
          | refine QThen.normal ?_
          | refine LOps.pure (Pure.mv (lv := .atom _) rfl) rfl ?_
        refine LOps.pure (Pure.remW rfl rfl (by omega)) rfl ?_
        repeat first
          | refine LOps.nil ?_
          | refine LCode.ret ?_
          | refine QThen.normal ?_
          | refine QThen.ret ?_
          | refine QBlock.ret ?_
          | refine LOps.pure (Pure.as (lv := .atom _) rfl) rfl ?_
        exact retRet hj (AllRes.cons (ResIs.tmp (v := .atom _) rfl (LV.Sub.refl _)) (AllRes.cons (ResIs.tmp (v := .atom _) rfl (LV.Sub.refl _)) AllRes.nil)) (resT hC e1)
  · have h6' : ¬ (op = [47] ∨ op = [37]) := of_decide_eq_false h6
    have hCn : compW a op b = none := by
      rw [hC, if_neg (fun h => h6' (.inl h)), if_neg (fun h => h6' (.inr h))]
    repeat first
      | refine LOps.nil ?_
      | refine LCode.seq ?_
      | refine LCode.region ?_
      | refine LCode.skip ?_
      | refine LCode.ret ?_
      | refine QThen.normal ?_
      | refine QBlock.normal ?_
      | refine LOps.pure (Pure.as (lv := .atom _) rfl) rfl ?_
    exact retRet hj (AllRes.cons (ResIs.tmp (v := .atom _) rfl (LV.Sub.refl _)) (AllRes.cons (ResIs.tmp (v := .atom _) rfl (LV.Sub.refl _)) AllRes.nil)) (by rw [hCn]; rfl)
theorem joined_spec (hG : GW B0 w0) (x op y : Wd) (hx : x.length ≤ 1000000) (hy : y.length ≤ 1000000) : LCalls (KC B0 w0) 50 [str x, str op, str y] [] (RetIf (OptLV (joinedW x op y))) := by
  have n1 := number_spec hG x (by omega)
  have n2 := number_spec hG y (by omega)
  have hJ : joinedW x op y = match numW x, numW y with
    | some a, some b => match compW a op b with
      | some c => if (Go.Lib.decDigits c).length ≤ x.length + y.length + 1 then some (Go.Lib.decDigits c) else none
      | none => none
    | _, _ => none := rfl
  have ha : (numW x).getD 0 < 4294967296 := by
    cases h : numW x with
    | none => decide
    | some u => exact numW_lt h
  have hb : (numW y).getD 0 < 4294967296 := by
    cases h : numW y with
    | none => decide
    | some u => exact numW_lt h
  have n3 := compute_spec (B0 := B0) (w0 := w0) _ _ op ha hb
  have hc : (compW ((numW x).getD 0) op ((numW y).getD 0)).getD 0 < 4294967296 := by
    cases h : compW ((numW x).getD 0) op ((numW y).getD 0) with
    | none => decide
    | some u => exact comp_lt ha hb h
  have hdl := dec_len hc
  refine LCalls.intro Tryz.func50 rfl (n := 54) rfl rfl rfl ?_
  repeat first
    | refine LOps.nil ?_
    | refine LCode.seq ?_
    | refine LCode.region ?_
    | refine QThen.normal ?_
    | refine LOps.pure (Pure.as (lv := .atom _) rfl) rfl ?_
    | refine LOps.pure (Pure.mv (lv := .atom _) rfl) rfl ?_
  refine LOps.step (S.fn [_] rfl n1 ?_) rfl
  repeat first
    | refine LOps.nil ?_
    | refine LCode.seq ?_
    | refine LCode.region ?_
    | refine QThen.normal ?_
    | refine LOps.pure (Pure.as (lv := .atom _) rfl) rfl ?_
    | refine LOps.pure (Pure.mv (lv := .atom _) rfl) rfl ?_
    | refine LOps.pure (Pure.mv (lv := .tuple _) rfl) rfl ?_
    | refine LOps.pure (Pure.extract (c := .atom _) rfl rfl) rfl ?_
  refine LOps.step (S.fn [_] rfl n2 ?_) rfl
  repeat first
    | refine LOps.nil ?_
    | refine LCode.seq ?_
    | refine LCode.region ?_
    | refine QThen.normal ?_
    | refine LOps.pure (Pure.as (lv := .atom _) rfl) rfl ?_
    | refine LOps.pure (Pure.mv (lv := .atom _) rfl) rfl ?_
    | refine LOps.pure (Pure.mv (lv := .tuple _) rfl) rfl ?_
    | refine LOps.pure (Pure.extract (c := .atom _) rfl rfl) rfl ?_
  refine LOps.step (S.fn [_, _, _] rfl n3 ?_) rfl
  repeat first
    | refine LOps.nil ?_
    | refine LCode.seq ?_
    | refine LCode.region ?_
    | refine QThen.normal ?_
    | refine LOps.pure (Pure.as (lv := .atom _) rfl) rfl ?_
    | refine LOps.pure (Pure.mv (lv := .atom _) rfl) rfl ?_
    | refine LOps.pure (Pure.mv (lv := .tuple _) rfl) rfl ?_
    | refine LOps.pure (Pure.extract (c := .atom _) rfl rfl) rfl ?_
    | refine LOps.pure (Pure.cvt rfl) rfl ?_
  refine LOps.step (S.fn [_, _] (show _ = [int .u64 (IntKind.u64.wrap (((compW ((numW x).getD 0) op ((numW y).getD 0)).getD 0 : Nat) : Int)), int .i64 10] from rfl) (by rw [wrapU64 (by omega)]; exact fmtUint_spec hG _ (by omega)) ?_) rfl
  repeat first
    | refine LOps.nil ?_
    | refine LCode.seq ?_
    | refine LCode.region ?_
    | refine QThen.normal ?_
    | refine LOps.pure (Pure.as (lv := .atom _) rfl) rfl ?_
    | refine LOps.pure (Pure.mv (lv := .atom _) rfl) rfl ?_
  refine LOps.bcase 37 rfl (fun h1 => ?_) (fun h1 => ?_)
  · obtain ⟨a, ha2⟩ := Option.isSome_iff_exists.1 h1
    repeat first
      | refine LOps.pure (Pure.mv (lv := .atom _) rfl) rfl ?_
      | refine LOps.pure (Pure.pickT (lv := .atom _) rfl rfl) rfl ?_
      | refine LOps.want rfl rfl ?_
    refine LOps.bcase 40 rfl (fun h2 => ?_) (fun h2 => ?_)
    · obtain ⟨b, hb2⟩ := Option.isSome_iff_exists.1 h2
      rw [ha2, hb2] at hJ
      rw [ha2, hb2]
      simp only at hJ
      simp only [Option.getD_some]
      repeat first
        | refine LOps.pure (Pure.mv (lv := .atom _) rfl) rfl ?_
        | refine LOps.pure (Pure.pickT (lv := .atom _) rfl rfl) rfl ?_
        | refine LOps.want rfl rfl ?_
      refine LOps.bcase 43 rfl (fun h3 => ?_) (fun h3 => ?_)
      · obtain ⟨c, hc2⟩ := Option.isSome_iff_exists.1 h3
        rw [ha2, hb2] at hdl
        simp only [Option.getD_some] at hdl
        rw [hc2] at hJ hdl
        rw [hc2]
        simp only [Option.getD_some] at hJ hdl ⊢
        repeat first
          | refine LOps.nil ?_
          | refine LCode.ret ?_
          | refine QThen.normal ?_
          | refine LOps.pure (Pure.as (lv := .atom _) rfl) rfl ?_
          | refine LOps.pure (Pure.mv (lv := .atom _) rfl) rfl ?_
          | refine LOps.pure (Pure.pickT (lv := .atom _) rfl rfl) rfl ?_
          | refine LOps.pure (Pure.slen rfl) rfl ?_
          | refine LOps.pure (Pure.add rfl rfl (by omega)) rfl ?_
          | refine LOps.pure (Pure.leq rfl rfl) rfl ?_
          | refine LOps.want rfl rfl ?_
        exact retRetIf rfl (AllRes.cons (ResIs.tmp (v := .atom _) rfl (LV.Sub.refl _)) (AllRes.cons (ResIs.tmp (v := .atom _) rfl (LV.Sub.refl _)) AllRes.nil)) (OptLV.mk (by
          rw [hJ]
          by_cases hle : (Go.Lib.decDigits c).length ≤ x.length + y.length + 1
          · rw [if_pos hle, decide_eq_true (by omega)]; rfl
          · rw [if_neg hle, decide_eq_false (by omega)]; rfl) (by
          intro l' h'
          rw [hJ] at h'
          split at h'
          · injection h'
          · cases h'))
      · have hn : compW a op b = none := by
          cases h4 : compW a op b with
          | none => rfl
          | some l => rw [h4] at h3; cases h3
        rw [hn] at hJ
        repeat first
          | refine LOps.nil ?_
          | refine LCode.ret ?_
          | refine QThen.normal ?_
          | refine LOps.pure (Pure.as (lv := .atom _) rfl) rfl ?_
          | refine LOps.pure (Pure.pickF (lv := .atom _) rfl rfl) rfl ?_
          | refine LOps.skip rfl rfl rfl rfl ?_
        exact retRetIf rfl (AllRes.cons (ResIs.tmp (v := .atom _) rfl (LV.Sub.refl _)) (AllRes.cons (ResIs.tmp (v := .atom _) rfl (LV.Sub.refl _)) AllRes.nil)) (OptLV.mk (by rw [hJ]; rfl) (by
          intro l' h'
          rw [hJ] at h'
          cases h'))
    · have hn : numW y = none := by
        cases h3 : numW y with
        | none => rfl
        | some l => rw [h3] at h2; cases h2
      rw [ha2, hn] at hJ
      repeat first
        | refine LOps.nil ?_
        | refine LCode.ret ?_
        | refine QThen.normal ?_
        | refine LOps.pure (Pure.as (lv := .atom _) rfl) rfl ?_
        | refine LOps.pure (Pure.mv (lv := .atom _) rfl) rfl ?_
        | refine LOps.pure (Pure.pickF (lv := .atom _) rfl rfl) rfl ?_
        | refine LOps.skip rfl rfl rfl rfl ?_
      exact retRetIf rfl (AllRes.cons (ResIs.tmp (v := .atom _) rfl (LV.Sub.refl _)) (AllRes.cons (ResIs.tmp (v := .atom _) rfl (LV.Sub.refl _)) AllRes.nil)) (OptLV.mk (by rw [hJ]; rfl) (by
        intro l' h'
        rw [hJ] at h'
        cases h'))
  · have hn : numW x = none := by
      cases h3 : numW x with
      | none => rfl
      | some l => rw [h3] at h1; cases h1
    rw [hn] at hJ
    repeat first
      | refine LOps.nil ?_
      | refine LCode.ret ?_
      | refine QThen.normal ?_
      | refine LOps.pure (Pure.as (lv := .atom _) rfl) rfl ?_
      | refine LOps.pure (Pure.mv (lv := .atom _) rfl) rfl ?_
      | refine LOps.pure (Pure.pickF (lv := .atom _) rfl rfl) rfl ?_
      | refine LOps.skip rfl rfl rfl rfl ?_
    exact retRetIf rfl (AllRes.cons (ResIs.tmp (v := .atom _) rfl (LV.Sub.refl _)) (AllRes.cons (ResIs.tmp (v := .atom _) rfl (LV.Sub.refl _)) AllRes.nil)) (OptLV.mk (by rw [hJ]; rfl) (by
      intro l' h'
      rw [hJ] at h'
      cases h'))
end
end Go.Proofs.YtkjjenppmmipmaaGreatDoor
namespace Go.Proofs.YtkjjenppmmipmaaGreatDoor
open Go.GL Go.RowKit Go.Stele
set_option maxRecDepth 100000
set_option maxHeartbeats 4000000
/-- What a rule returns. -/
def ruleLV (r : RuleW) : LV := .tuple [int .i64 r.1, .list (r.2.map str)]
attribute [local irreducible] LOps LCode LStep LCalls Go.GL.Pure QThen QBlock RetPost LQ LAny LLate LLateOp
section
variable {B0 : Nat} {w0 : World}
theorem fold_spec (hG : GW B0 w0) (v : List Wd) (m : Nat) (hv : Small v) : LCalls (KC B0 w0) 24 [viewLV v m] [] (Ret (ruleLV (rFold v))) := by
  have k0 := word_spec (B0 := B0) (w0 := w0) v m 0 (by have := hv.1; omega)
  have k1 := word_spec (B0 := B0) (w0 := w0) v m 1 (by have := hv.1; omega)
  have k2 := word_spec (B0 := B0) (w0 := w0) v m 2 (by have := hv.1; omega)
  have kj := joined_spec hG (wdAt v 0) (wdAt v 2) (wdAt v 1) (hv.at 0) (hv.at 1)
  have hF : rFold v = match joinedW (wdAt v 0) (wdAt v 2) (wdAt v 1) with
    | some s => (3, [s])
    | none => (0, []) := rfl
  unfold viewLV at k0 k1 k2 ⊢
  generalize joinedW (wdAt v 0) (wdAt v 2) (wdAt v 1) = o at kj hF
  refine LCalls.intro Tryz.func24 rfl (n := 19) rfl rfl rfl ?_
  repeat first
    | refine LCode.seq ?_
    | refine LCode.region ?_
  refine LOps.step (S.box (cs := [.list (v.map str), .atom (.map (some m))]) rfl fun b1 => ?_) rfl
  repeat first
    | refine LOps.nil ?_
    | refine LCode.seq ?_
    | refine QThen.normal ?_
    | refine LOps.pure (Pure.as (lv := .atom _) rfl) rfl ?_
  refine LCode.draw (m := 12) rfl [(b1, .cells 53 [.list (v.map str), .atom (.map (some m))])] ?_
  refine LAny.take (i := 0) (by first | exact HSub.nil _ | exact HSub.refl _ | exact HSub.drop (HSub.refl _) | exact HSub.pick Pick.here (HSub.nil _) | exact HSub.pick (Pick.there Pick.here) (HSub.nil _) | exact HSub.pick (Pick.there (Pick.there Pick.here)) (HSub.nil _)) rfl (by kernel_rfl) (by kernel_rfl) (by kernel_rfl) rfl (Pure.ldHAgg (cs' := [_, _]) rfl (List.Mem.head _) rfl rfl) ?_
  refine LAny.take (i := 2) (by first | exact HSub.nil _ | exact HSub.refl _ | exact HSub.drop (HSub.refl _) | exact HSub.pick Pick.here (HSub.nil _) | exact HSub.pick (Pick.there Pick.here) (HSub.nil _) | exact HSub.pick (Pick.there (Pick.there Pick.here)) (HSub.nil _)) rfl (by kernel_rfl) (by kernel_rfl) (by kernel_rfl) rfl (Pure.ldHAgg (cs' := [_, _]) rfl (List.Mem.head _) rfl rfl) ?_
  refine LAny.take (i := 4) (by first | exact HSub.nil _ | exact HSub.refl _ | exact HSub.drop (HSub.refl _) | exact HSub.pick Pick.here (HSub.nil _) | exact HSub.pick (Pick.there Pick.here) (HSub.nil _) | exact HSub.pick (Pick.there (Pick.there Pick.here)) (HSub.nil _)) rfl (by kernel_rfl) (by kernel_rfl) (by kernel_rfl) rfl (Pure.ldHAgg (cs' := [_, _]) rfl (List.Mem.head _) rfl rfl) ?_
  refine LAny.late ?_ (HSub.refl _)
  refine LLate.one (i := 1) (by kernel_rfl) (LLateOp.step (H1 := []) rfl (.inl rfl) rfl (List.Perm.refl _) (HSub.refl _) (S.fn [_, _] rfl k0 ?_))
  refine LLate.one (i := 3) (by kernel_rfl) (LLateOp.step (H1 := []) rfl (.inl rfl) rfl (List.Perm.refl _) (HSub.refl _) (S.fn [_, _] rfl k2 ?_))
  refine LLate.one (i := 5) (by kernel_rfl) (LLateOp.step (H1 := []) rfl (.inl rfl) rfl (List.Perm.refl _) (HSub.refl _) (S.fn [_, _] rfl k1 ?_))
  refine LLate.one (i := 6) (by kernel_rfl) (LLateOp.step (H1 := []) rfl (.inl rfl) rfl (List.Perm.refl _) (HSub.refl _) (S.fnIf [_, _, _] rfl kj ?_))
  rintro lv ⟨s, rfl, hs⟩
  refine LLate.any [(b1, .cells 53 [.list (v.map str), .atom (.map (some m))])] (fun _ h => h) ?_
  refine LAny.take (i := 7) (by first | exact HSub.nil _ | exact HSub.refl _ | exact HSub.drop (HSub.refl _) | exact HSub.pick Pick.here (HSub.nil _) | exact HSub.pick (Pick.there Pick.here) (HSub.nil _) | exact HSub.pick (Pick.there (Pick.there Pick.here)) (HSub.nil _)) rfl (by kernel_rfl) (by kernel_rfl) (by kernel_rfl) rfl (Pure.mv (lv := .tuple _) rfl) ?_
  refine LAny.take (i := 8) (by first | exact HSub.nil _ | exact HSub.refl _ | exact HSub.drop (HSub.refl _) | exact HSub.pick Pick.here (HSub.nil _) | exact HSub.pick (Pick.there Pick.here) (HSub.nil _) | exact HSub.pick (Pick.there (Pick.there Pick.here)) (HSub.nil _)) rfl (by kernel_rfl) (by kernel_rfl) (by kernel_rfl) rfl (Pure.extract (c := .atom _) rfl rfl) ?_
  refine LAny.take (i := 9) (by first | exact HSub.nil _ | exact HSub.refl _ | exact HSub.drop (HSub.refl _) | exact HSub.pick Pick.here (HSub.nil _) | exact HSub.pick (Pick.there Pick.here) (HSub.nil _) | exact HSub.pick (Pick.there (Pick.there Pick.here)) (HSub.nil _)) rfl (by kernel_rfl) (by kernel_rfl) (by kernel_rfl) rfl (Pure.extract (c := .atom _) rfl rfl) ?_
  refine LAny.take (i := 10) (by first | exact HSub.nil _ | exact HSub.refl _ | exact HSub.drop (HSub.refl _) | exact HSub.pick Pick.here (HSub.nil _) | exact HSub.pick (Pick.there Pick.here) (HSub.nil _) | exact HSub.pick (Pick.there (Pick.there Pick.here)) (HSub.nil _)) rfl (by kernel_rfl) (by kernel_rfl) (by kernel_rfl) rfl (Pure.as (lv := .atom _) rfl) ?_
  refine LAny.take (i := 11) (by first | exact HSub.nil _ | exact HSub.refl _ | exact HSub.drop (HSub.refl _) | exact HSub.pick Pick.here (HSub.nil _) | exact HSub.pick (Pick.there Pick.here) (HSub.nil _) | exact HSub.pick (Pick.there (Pick.there Pick.here)) (HSub.nil _)) rfl (by kernel_rfl) (by kernel_rfl) (by kernel_rfl) rfl (Pure.as (lv := .atom _) rfl) ?_
  refine LAny.late ?_ (HSub.refl _)
  refine LLate.done (by kernel_rfl) ?_
  repeat first
    | refine QThen.normal ?_
  repeat first
    | refine LOps.nil ?_
    | refine LCode.seq ?_
    | refine LCode.region ?_
    | refine QThen.normal ?_
    | refine LOps.pure (Pure.mv (lv := .atom _) rfl) rfl ?_
  refine LCode.cond rfl (fun h => ?_) (fun h => ?_)
  · obtain ⟨l, rfl⟩ := Option.isSome_iff_exists.1 h
    obtain rfl := hs l rfl
    repeat first
      | refine LCode.seq ?_
      | refine LCode.region ?_
      | refine LOps.pure (Pure.mv (lv := .atom _) rfl) rfl ?_
    refine LOps.step (S.lit [_] rfl (elemsOk.cons rfl rfl elemsOk.nil) rfl rfl rfl ?_) rfl
    repeat first
      | refine LOps.nil ?_
      | refine LCode.ret ?_
      | refine QThen.normal ?_
      | refine QThen.ret ?_
      | refine LOps.pure (Pure.as (lv := .atom _) rfl) rfl ?_
      | refine LOps.pure (Pure.as (lv := .list _) rfl) rfl ?_
    exact retRet rfl (AllRes.cons (ResIs.tmp (v := .atom _) rfl (LV.Sub.refl _)) (AllRes.cons (ResIs.tmp (v := .list _) rfl (LV.Sub.refl _)) AllRes.nil)) (by rw [hF]; rfl)
  · obtain rfl : o = none := by
      cases o with
      | none => rfl
      | some l => cases h
    repeat first
      | refine LOps.nil ?_
      | refine LCode.seq ?_
      | refine LCode.region ?_
      | refine LCode.skip ?_
      | refine LCode.ret ?_
      | refine QThen.normal ?_
      | refine LOps.pure (Pure.as (lv := .atom _) rfl) rfl ?_
    exact retRet rfl (AllRes.cons (ResIs.tmp (v := .atom _) rfl (LV.Sub.refl _)) (AllRes.cons (ResIs.tmp (v := nilSlice) rfl LV.Sub.nil) AllRes.nil)) (by rw [hF]; rfl)
theorem never_spec (hG : GW B0 w0) (v : List Wd) (m : Nat) (hv : Small v) : LCalls (KC B0 w0) 29 [viewLV v m] [] (Ret (ruleLV (rNever v))) := by
  have k0 := word_spec (B0 := B0) (w0 := w0) v m 0 (by have := hv.1; omega)
  have kn := number_spec hG (wdAt v 0) (by have := hv.at 0; omega)
  have kj := jump_spec (B0 := B0) (w0 := w0) v m 1 hv (by omega)
  have hF : rNever v = match numW (wdAt v 0) with
    | some n => if n ≠ 0 ∧ (jumpW v 1).isSome = true then (3, []) else (0, [])
    | none => (0, []) := rfl
  unfold viewLV at k0 kj ⊢
  generalize numW (wdAt v 0) = on at kn hF
  generalize jumpW v 1 = oj at kj hF
  refine LCalls.intro Tryz.func29 rfl (n := 27) rfl rfl rfl ?_
  repeat first
    | refine LCode.seq ?_
    | refine LCode.region ?_
  refine LOps.step (S.box (cs := [.list (v.map str), .atom (.map (some m))]) rfl fun b1 => ?_) rfl
  repeat first
    | refine LOps.nil ?_
    | refine LCode.seq ?_
    | refine LCode.region ?_
    | refine QThen.normal ?_
    | refine LOps.pure (Pure.as (lv := .atom _) rfl) rfl ?_
    | refine LOps.pure (Pure.ldHAgg (cs' := [_, _]) rfl (List.Mem.head _) rfl rfl) rfl ?_
  refine LOps.step (S.fn [_, _] rfl k0 ?_) rfl
  refine LOps.step (S.fn [_] rfl kn ?_) rfl
  repeat first
    | refine LOps.nil ?_
    | refine LCode.seq ?_
    | refine LCode.region ?_
    | refine QThen.normal ?_
    | refine LOps.pure (Pure.as (lv := .atom _) rfl) rfl ?_
    | refine LOps.pure (Pure.ldHAgg (cs' := [_, _]) rfl (List.Mem.head _) rfl rfl) rfl ?_
    | refine LOps.pure (Pure.mv (lv := .tuple _) rfl) rfl ?_
    | refine LOps.pure (Pure.extract (c := .atom _) rfl rfl) rfl ?_
  refine LOps.step (S.fnIf [_, _] rfl kj ?_) rfl
  rintro lv ⟨s, rfl, hs⟩
  repeat first
    | refine LOps.nil ?_
    | refine LCode.seq ?_
    | refine LCode.region ?_
    | refine QThen.normal ?_
    | refine LOps.pure (Pure.as (lv := .atom _) rfl) rfl ?_
    | refine LOps.pure (Pure.mv (lv := .tuple _) rfl) rfl ?_
    | refine LOps.pure (Pure.extract (c := .atom _) rfl rfl) rfl ?_
    | refine LOps.pure (Pure.mv (lv := .atom _) rfl) rfl ?_
  refine LOps.bcase 20 rfl (fun h1 => ?_) (fun h1 => ?_)
  · rw [h1] at hF
    cases on with
    | none =>
      repeat first
        | refine LOps.nil ?_
        | refine QThen.normal ?_
        | refine LOps.pure (Pure.mv (lv := .atom _) rfl) rfl ?_
        | refine LOps.pure (Pure.pickT (lv := .atom _) rfl rfl) rfl ?_
        | refine LOps.pure (Pure.pickF (lv := .atom _) rfl rfl) rfl ?_
        | refine LOps.want rfl rfl ?_
        | refine LOps.skip rfl rfl rfl rfl ?_
      refine LCode.cond rfl (fun h => ?_) (fun h => ?_)
      · cases h
      · repeat first
          | refine LOps.nil ?_
          | refine LCode.seq ?_
          | refine LCode.region ?_
          | refine LCode.skip ?_
          | refine LCode.ret ?_
          | refine QThen.normal ?_
          | refine LOps.pure (Pure.as (lv := .atom _) rfl) rfl ?_
        exact retRet rfl (AllRes.cons (ResIs.tmp (v := .atom _) rfl (LV.Sub.refl _)) (AllRes.cons (ResIs.tmp (v := nilSlice) rfl LV.Sub.nil) AllRes.nil)) (by rw [hF]; rfl)
    | some n =>
      repeat first
        | refine LOps.nil ?_
        | refine QThen.normal ?_
        | refine LOps.pure (Pure.mv (lv := .atom _) rfl) rfl ?_
        | refine LOps.pure (Pure.pickT (lv := .atom _) rfl rfl) rfl ?_
        | refine LOps.pure (Pure.neq rfl rfl) rfl ?_
        | refine LOps.want rfl rfl ?_
      refine LCode.cond rfl (fun h => ?_) (fun h => ?_)
      · have hn : n ≠ 0 := by
          intro h0
          subst h0
          exact absurd h (by decide)
        simp only [hn, ne_eq, not_false_eq_true, and_self, if_true] at hF
        repeat first
          | refine LOps.nil ?_
          | refine LCode.seq ?_
          | refine LCode.region ?_
          | refine LCode.ret ?_
          | refine QThen.normal ?_
          | refine QThen.ret ?_
          | refine LOps.pure (Pure.as (lv := .atom _) rfl) rfl ?_
        exact retRet rfl (AllRes.cons (ResIs.tmp (v := .atom _) rfl (LV.Sub.refl _)) (AllRes.cons (ResIs.tmp (v := nilSlice) rfl LV.Sub.nil) AllRes.nil)) (by rw [hF]; rfl)
      · have hn : n = 0 := by
          have h0 : ¬ ¬ ((n : Int) = 0) := by simpa using h
          omega
        subst hn
        repeat first
          | refine LOps.nil ?_
          | refine LCode.seq ?_
          | refine LCode.region ?_
          | refine LCode.skip ?_
          | refine LCode.ret ?_
          | refine QThen.normal ?_
          | refine LOps.pure (Pure.as (lv := .atom _) rfl) rfl ?_
        exact retRet rfl (AllRes.cons (ResIs.tmp (v := .atom _) rfl (LV.Sub.refl _)) (AllRes.cons (ResIs.tmp (v := nilSlice) rfl LV.Sub.nil) AllRes.nil)) (by rw [hF]; rfl)
  · rw [h1] at hF
    repeat first
      | refine LOps.nil ?_
      | refine QThen.normal ?_
      | refine LOps.pure (Pure.mv (lv := .atom _) rfl) rfl ?_
      | refine LOps.pure (Pure.pickF (lv := .atom _) rfl rfl) rfl ?_
      | refine LOps.skip rfl rfl rfl rfl ?_
    refine LCode.cond rfl (fun h => ?_) (fun h => ?_)
    · cases h
    · repeat first
        | refine LOps.nil ?_
        | refine LCode.seq ?_
        | refine LCode.region ?_
        | refine LCode.skip ?_
        | refine LCode.ret ?_
        | refine QThen.normal ?_
        | refine LOps.pure (Pure.as (lv := .atom _) rfl) rfl ?_
      exact retRet rfl (AllRes.cons (ResIs.tmp (v := .atom _) rfl (LV.Sub.refl _)) (AllRes.cons (ResIs.tmp (v := nilSlice) rfl LV.Sub.nil) AllRes.nil)) (by
        rw [hF]
        cases on <;> simp <;> rfl)
theorem unused_spec (v : List Wd) (m : Nat) (hv : Small v) {es : Array MapEntry} {clock : Nat} {p : List UInt8 → Bool} (hs : SetMap es p) : LCalls (KC B0 w0) 32 [viewLV v m] [(m, .obj (.map es clock))] (fun r H => r = .ret (ruleLV (rUnused p v)) ∧ H = [(m, .obj (.map es clock))]) := by
  have k0 := word_spec (B0 := B0) (w0 := w0) v m 0 (by have := hv.1; omega)
  have kd := definition_spec (B0 := B0) (w0 := w0) (wdAt v 0) (by have := hv.at 0; omega)
  have hF : rUnused p v = match defW (wdAt v 0) with
    | some l => if p l = true then (0, []) else (1, [])
    | none => (0, []) := rfl
  unfold viewLV at k0 ⊢
  generalize defW (wdAt v 0) = o at kd hF
  refine LCalls.intro Tryz.func32 rfl (n := 20) rfl rfl rfl ?_
  repeat first
    | refine LCode.seq ?_
    | refine LCode.region ?_
  refine LOps.step (S.box (cs := [.list (v.map str), .atom (.map (some m))]) rfl fun b1 => ?_) rfl
  repeat first
    | refine LOps.nil ?_
    | refine LCode.seq ?_
    | refine LCode.region ?_
    | refine QThen.normal ?_
    | refine LOps.pure (Pure.as (lv := .atom _) rfl) rfl ?_
    | refine LOps.pure (Pure.ldHAgg (cs' := [_, _]) rfl (List.Mem.head _) rfl rfl) rfl ?_
  refine LOps.step (S.fn [_, _] rfl k0 ?_) rfl
  refine LOps.step (S.fnIf [_] rfl kd ?_) rfl
  rintro lv ⟨s, rfl, hs2⟩
  repeat first
    | refine LOps.nil ?_
    | refine LCode.seq ?_
    | refine LCode.region ?_
    | refine QThen.normal ?_
    | refine LOps.pure (Pure.as (lv := .atom _) rfl) rfl ?_
    | refine LOps.pure (Pure.mv (lv := .tuple _) rfl) rfl ?_
    | refine LOps.pure (Pure.extract (c := .atom _) rfl rfl) rfl ?_
    | refine LOps.pure (Pure.mv (lv := .atom _) rfl) rfl ?_
  refine LOps.bcase 13 rfl (fun h1 => ?_) (fun h1 => ?_)
  · obtain ⟨l, rfl⟩ := Option.isSome_iff_exists.1 h1
    obtain rfl := hs2 l rfl
    simp only at hF
    repeat first
      | refine LOps.pure (Pure.mv (lv := .atom _) rfl) rfl ?_
      | refine LOps.pure (Pure.fieldH rfl) rfl ?_
      | refine LOps.pure (Pure.loadH (c := .atom _) rfl (List.Mem.head _) rfl) rfl ?_
      | refine LOps.want rfl rfl ?_
    refine LOps.pure (Pure.setGet (t := 45) (kt := 9) (el := 4) (by kernel_rfl) (by kernel_rfl) (fun w => (Go.zero_of_info (P := Tryz.prog) (n := 1) (by kernel_rfl)).1 w) rfl rfl (List.Mem.tail _ (List.Mem.head _)) hs) rfl ?_
    repeat first
      | refine LOps.nil ?_
      | refine QThen.normal ?_
      | refine LOps.pure (Pure.not rfl) rfl ?_
      | refine LOps.pure (Pure.pickT (lv := .atom _) rfl rfl) rfl ?_
      | refine LOps.want rfl rfl ?_
    refine LCode.cond rfl (fun h => ?_) (fun h => ?_)
    · have hp : p s = false := by simpa using h
      repeat first
        | refine LOps.nil ?_
        | refine LCode.seq ?_
        | refine LCode.region ?_
        | refine LCode.ret ?_
        | refine QThen.normal ?_
        | refine QThen.ret ?_
        | refine LOps.pure (Pure.as (lv := .atom _) rfl) rfl ?_
      exact RetPost.ret rfl (AllRes.cons (ResIs.tmp (v := .atom _) rfl (LV.Sub.refl _)) (AllRes.cons (ResIs.tmp (v := nilSlice) rfl LV.Sub.nil) AllRes.nil)) (HSub.drop (HSub.refl _)) ⟨by rw [hF, hp]; rfl, rfl⟩
    · have hp : p s = true := by simpa using h
      repeat first
        | refine LOps.nil ?_
        | refine LCode.seq ?_
        | refine LCode.region ?_
        | refine LCode.skip ?_
        | refine LCode.ret ?_
        | refine QThen.normal ?_
        | refine LOps.pure (Pure.as (lv := .atom _) rfl) rfl ?_
      exact RetPost.ret rfl (AllRes.cons (ResIs.tmp (v := .atom _) rfl (LV.Sub.refl _)) (AllRes.cons (ResIs.tmp (v := nilSlice) rfl LV.Sub.nil) AllRes.nil)) (HSub.drop (HSub.refl _)) ⟨by rw [hF, hp]; rfl, rfl⟩
  · obtain rfl : o = none := by
      cases o with
      | none => rfl
      | some l => cases h1
    repeat first
      | refine LOps.nil ?_
      | refine QThen.normal ?_
      | refine LOps.pure (Pure.pickF (lv := .atom _) rfl rfl) rfl ?_
      | refine LOps.skip rfl rfl rfl rfl ?_
    refine LCode.cond rfl (fun h => ?_) (fun h => ?_)
    · cases h
    · repeat first
        | refine LOps.nil ?_
        | refine LCode.seq ?_
        | refine LCode.region ?_
        | refine LCode.skip ?_
        | refine LCode.ret ?_
        | refine QThen.normal ?_
        | refine LOps.pure (Pure.as (lv := .atom _) rfl) rfl ?_
      exact RetPost.ret rfl (AllRes.cons (ResIs.tmp (v := .atom _) rfl (LV.Sub.refl _)) (AllRes.cons (ResIs.tmp (v := nilSlice) rfl LV.Sub.nil) AllRes.nil)) (HSub.drop (HSub.refl _)) ⟨by rw [hF]; rfl, rfl⟩
end
end Go.Proofs.YtkjjenppmmipmaaGreatDoor
namespace Go.Proofs.YtkjjenppmmipmaaGreatDoor
open Go.GL Go.RowKit Go.Stele
set_option maxRecDepth 100000
set_option maxHeartbeats 4000000
/-- Whether these words stand from i on. -/
def isW (v : List Wd) : Nat → List Wd → Bool
  | _, [] => true
  | i, w :: r => decide (wdAt v i = w) && isW v (i + 1) r
attribute [local irreducible] LOps LCode LStep LCalls Go.GL.Pure QThen QBlock RetPost LQ LAny LLate LLateOp
section
variable {B0 : Nat} {w0 : World}
theorem is_spec (v : List Wd) (m i : Nat) (ws : List Wd) (hv : Small v) (hi : i ≤ 1000) (hw : ws.length ≤ 1000) : LCalls (KC B0 w0) 53 [viewLV v m, int .i64 i, .list (ws.map str)] [] (Ret (bool (isW v i ws))) := by
  have hla : (ws.map str).length = ws.length := List.length_map _
  have kw : ∀ k, LCalls (KC B0 w0) 51 [viewLV v m, int .i64 (k : Nat)] [] (Ret (str (wdAt v k))) := fun k => word_spec v m k (by have := hv.1; omega)
  unfold viewLV at kw ⊢
  refine LCalls.intro Tryz.func53 rfl (n := 24) rfl rfl rfl ?_
  repeat first
    | refine LCode.seq ?_
    | refine LCode.region ?_
  refine LOps.step (S.box (cs := [.list (v.map str), .atom (.map (some m))]) rfl fun b3 => ?_) rfl
  repeat first
    | refine LOps.nil ?_
    | refine LCode.seq ?_
    | refine LCode.region ?_
    | refine LCode.block ?_
    | refine QThen.normal ?_
    | refine LOps.pure (Pure.as (lv := .atom _) rfl) rfl ?_
    | refine LOps.pure (Pure.mv (lv := .list _) rfl) rfl ?_
    | refine LOps.pure (Pure.mv (lv := .atom _) rfl) rfl ?_
    | refine LOps.pure (Pure.llen rfl) rfl ?_
  refine LCode.loopI (fun k ls H => ∃ j, j ≤ ws.length ∧ k = ws.length - j ∧ ls = [(1, int .i64 i), (3, ptr b3 0), (9, .list (ws.map str)), (10, int .i64 ws.length), (11, int .i64 j)] ∧ H = [(b3, .cells 53 [.list (v.map str), .atom (.map (some m))])] ∧ isW v i ws = isW v (i + j) (ws.drop j))
    ⟨_, _, _, ⟨0, Nat.zero_le _, rfl, rfl, rfl, rfl⟩, ⟨rfl, rfl, rfl, int_eq (by omega), rfl, trivial⟩, HSub.refl _⟩ ?_
  rintro k ls H ⟨j, hj, rfl, rfl, rfl, hE⟩ j1 hj1
  repeat first
    | refine LOps.nil ?_
    | refine LCode.seq ?_
    | refine LCode.region ?_
    | refine QThen.normal ?_
    | refine LOps.pure (Pure.lss rfl rfl) rfl ?_
  refine LCode.cond rfl (fun hc => ?_) (fun hc => ?_)
  · have hlt : j < ws.length := by have := of_decide_eq_true hc; omega
    rw [List.drop_eq_getElem_cons hlt, isW] at hE
    have k1 := kw (i + j)
    have e1 : int .i64 ((i + j : Nat) : Int) = int .i64 ((i : Int) + j) := int_eq (by omega)
    rw [e1] at k1
    repeat first
      | refine LCode.seq ?_
      | refine LCode.region ?_
      | refine LCode.skip ?_
      | refine LCode.block ?_
      | refine QThen.normal ?_
      | refine LOps.pure (Pure.mv (lv := .atom _) rfl) rfl ?_
    refine LOps.pure (Pure.ixRef (el' := str ws[j]) (cs := [str ws[j]]) rfl rfl (by omega) (map_get _ _ _ hlt) rfl rfl) rfl ?_
    repeat first
      | refine LOps.nil ?_
      | refine LCode.seq ?_
      | refine LCode.region ?_
      | refine QThen.normal ?_
      | refine LOps.pure (Pure.as (lv := .atom _) rfl) rfl ?_
      | refine LOps.pure (Pure.mv (lv := .atom _) rfl) rfl ?_
      | refine LOps.pure (Pure.loadRef (c := .atom _) rfl rfl) rfl ?_
      | refine LOps.pure (Pure.ldHAgg (cs' := [_, _]) rfl (List.Mem.head _) rfl rfl) rfl ?_
      | refine LOps.pure (Pure.add rfl rfl (by omega)) rfl ?_
    refine LOps.step (S.fn [_, _] rfl k1 ?_) rfl
    repeat first
      | refine LOps.nil ?_
      | refine QThen.normal ?_
      | refine LOps.pure (Pure.mv (lv := .atom _) rfl) rfl ?_
      | refine LOps.pure (Pure.sneq rfl rfl) rfl ?_
    refine LCode.cond rfl (fun h => ?_) (fun h => ?_)
    · have hne : ¬ wdAt v (i + j) = ws[j] := by simpa using h
      rw [decide_eq_false hne, Bool.false_and] at hE
      repeat first
        | refine LOps.nil ?_
        | refine LCode.seq ?_
        | refine LCode.region ?_
        | refine LCode.ret ?_
        | refine QThen.normal ?_
        | refine QThen.ret ?_
        | refine QBlock.ret ?_
        | refine LOps.pure (Pure.as (lv := .atom _) rfl) rfl ?_
      exact retRet hj1 (AllRes.cons (ResIs.tmp (v := .atom _) rfl (LV.Sub.refl _)) AllRes.nil) (bool_eq hE.symm)
    · have he : wdAt v (i + j) = ws[j] := by simpa using h
      rw [decide_eq_true he, Bool.true_and] at hE
      repeat first
        | refine LOps.nil ?_
        | refine LCode.region ?_
        | refine LCode.skip ?_
        | refine QThen.normal ?_
        | refine QBlock.normal ?_
        | refine LOps.pure (Pure.mv (lv := .atom _) rfl) rfl ?_
        | refine LOps.pure (Pure.add rfl rfl (by omega)) rfl ?_
      exact ⟨_, _, _, by omega, ⟨j + 1, by omega, rfl, rfl, rfl, by rw [hE, Nat.add_assoc]⟩, ⟨rfl, rfl, rfl, rfl, int_eq (by omega), trivial⟩, HSub.refl _, hj1⟩
  · have hj' : j = ws.length := by have := of_decide_eq_false hc; omega
    subst hj'
    rw [List.drop_length, isW] at hE
    repeat first
      | refine LOps.nil ?_
      | refine LCode.seq ?_
      | refine LCode.region ?_
      | refine LCode.ret ?_
      | refine LCode.exit ?_
      | refine QThen.normal ?_
      | refine QThen.exit ?_
      | refine QBlock.hit ?_
      | refine LOps.pure (Pure.as (lv := .atom _) rfl) rfl ?_
    exact retRet hj1 (AllRes.cons (ResIs.tmp (v := .atom _) rfl (LV.Sub.refl _)) AllRes.nil) (bool_eq hE.symm)
theorem neutral_spec (v : List Wd) (m : Nat) (hv : Small v) : LCalls (KC B0 w0) 25 [viewLV v m] [] (Ret (ruleLV (rNeutral v))) := by
  have k0 := word_spec (B0 := B0) (w0 := w0) v m 0 (by have := hv.1; omega)
  have k1 := word_spec (B0 := B0) (w0 := w0) v m 1 (by have := hv.1; omega)
  have hF : rNeutral v = if wdAt v 0 = [48] ∧ (wdAt v 1 = [43] ∨ wdAt v 1 = [45] ∨ wdAt v 1 = [94]) ∨ wdAt v 0 = [49] ∧ (wdAt v 1 = [42] ∨ wdAt v 1 = [47]) then (2, []) else (0, []) := rfl
  unfold viewLV at k0 k1 ⊢
  generalize wdAt v 0 = a at k0 hF
  generalize wdAt v 1 = b at k1 hF
  refine LCalls.intro Tryz.func25 rfl (n := 36) rfl rfl rfl ?_
  repeat first
    | refine LCode.seq ?_
    | refine LCode.region ?_
  refine LOps.step (S.box (cs := [.list (v.map str), .atom (.map (some m))]) rfl fun b1 => ?_) rfl
  repeat first
    | refine LOps.nil ?_
    | refine LCode.seq ?_
    | refine QThen.normal ?_
    | refine LOps.pure (Pure.as (lv := .atom _) rfl) rfl ?_
  refine LCode.draw (m := 6) rfl [(b1, .cells 53 [.list (v.map str), .atom (.map (some m))])] ?_
  refine LAny.take (i := 0) (by first | exact HSub.nil _ | exact HSub.refl _ | exact HSub.drop (HSub.refl _) | exact HSub.pick Pick.here (HSub.nil _) | exact HSub.pick (Pick.there Pick.here) (HSub.nil _) | exact HSub.pick (Pick.there (Pick.there Pick.here)) (HSub.nil _)) rfl (by kernel_rfl) (by kernel_rfl) (by kernel_rfl) rfl (Pure.ldHAgg (cs' := [_, _]) rfl (List.Mem.head _) rfl rfl) ?_
  refine LAny.take (i := 2) (by first | exact HSub.nil _ | exact HSub.refl _ | exact HSub.drop (HSub.refl _) | exact HSub.pick Pick.here (HSub.nil _) | exact HSub.pick (Pick.there Pick.here) (HSub.nil _) | exact HSub.pick (Pick.there (Pick.there Pick.here)) (HSub.nil _)) rfl (by kernel_rfl) (by kernel_rfl) (by kernel_rfl) rfl (Pure.ldHAgg (cs' := [_, _]) rfl (List.Mem.head _) rfl rfl) ?_
  refine LAny.late ?_ (HSub.refl _)
  refine LLate.one (i := 1) (by kernel_rfl) (LLateOp.step (H1 := []) rfl (.inl rfl) rfl (List.Perm.refl _) (HSub.refl _) (S.fn [_, _] rfl k0 ?_))
  refine LLate.one (i := 3) (by kernel_rfl) (LLateOp.step (H1 := []) rfl (.inl rfl) rfl (List.Perm.refl _) (HSub.refl _) (S.fn [_, _] rfl k1 ?_))
  refine LLate.any [(b1, .cells 53 [.list (v.map str), .atom (.map (some m))])] (fun _ h => h) ?_
  refine LAny.take (i := 4) (by first | exact HSub.nil _ | exact HSub.refl _ | exact HSub.drop (HSub.refl _) | exact HSub.pick Pick.here (HSub.nil _) | exact HSub.pick (Pick.there Pick.here) (HSub.nil _) | exact HSub.pick (Pick.there (Pick.there Pick.here)) (HSub.nil _)) rfl (by kernel_rfl) (by kernel_rfl) (by kernel_rfl) rfl (Pure.as (lv := .atom _) rfl) ?_
  refine LAny.take (i := 5) (by first | exact HSub.nil _ | exact HSub.refl _ | exact HSub.drop (HSub.refl _) | exact HSub.pick Pick.here (HSub.nil _) | exact HSub.pick (Pick.there Pick.here) (HSub.nil _) | exact HSub.pick (Pick.there (Pick.there Pick.here)) (HSub.nil _)) rfl (by kernel_rfl) (by kernel_rfl) (by kernel_rfl) rfl (Pure.as (lv := .atom _) rfl) ?_
  refine LAny.late ?_ (HSub.refl _)
  refine LLate.done (by kernel_rfl) ?_
  repeat first
    | refine QThen.normal ?_
  repeat first
    | refine LCode.seq ?_
    | refine LCode.region ?_
    | refine LOps.pure (Pure.mv (lv := .atom _) rfl) rfl ?_
    | refine LOps.pure (Pure.seq rfl rfl) rfl ?_
  refine LOps.cut [(1, ptr b1 0), (35, bool (decide (a = [48] ∧ (b = [43] ∨ b = [45] ∨ b = [94]) ∨ a = [49] ∧ (b = [42] ∨ b = [47]))))] ?_ (fun j hj => ?_)
  · refine LOps.bcase 12 rfl (fun h1 => ?_) (fun h1 => ?_)
    · have e1 : a = [48] := of_decide_eq_true h1
      have n1 : ¬ a = [49] := by rw [e1]; decide
      repeat first
        | refine LOps.pure (Pure.mv (lv := .atom _) rfl) rfl ?_
        | refine LOps.pure (Pure.seq rfl rfl) rfl ?_
        | refine LOps.want rfl rfl ?_
      refine LOps.bcase 15 rfl (fun h2 => ?_) (fun h2 => ?_)
      · have e2 : b = [43] := of_decide_eq_true h2
        repeat first
          | refine LOps.nil ?_
          | refine QThen.normal ?_
          | refine LOps.pure (Pure.mv (lv := .atom _) rfl) rfl ?_
          | refine LOps.pure (Pure.pickT (lv := .atom _) rfl rfl) rfl ?_
          | refine LOps.want rfl rfl ?_
          | refine LOps.skip rfl rfl rfl rfl ?_
          | refine LOps.skipU rfl rfl rfl ?_
        exact ⟨⟨rfl, bool_eq (by simp [e1, e2]), trivial⟩, rfl, rfl⟩
      · have e2 : ¬ b = [43] := of_decide_eq_false h2
        repeat first
          | refine LOps.pure (Pure.mv (lv := .atom _) rfl) rfl ?_
          | refine LOps.pure (Pure.seq rfl rfl) rfl ?_
          | refine LOps.pure (Pure.pickF (lv := .atom _) rfl rfl) rfl ?_
          | refine LOps.want rfl rfl ?_
        refine LOps.bcase 19 rfl (fun h3 => ?_) (fun h3 => ?_)
        · have e3 : b = [45] := of_decide_eq_true h3
          repeat first
            | refine LOps.nil ?_
            | refine QThen.normal ?_
            | refine LOps.pure (Pure.mv (lv := .atom _) rfl) rfl ?_
            | refine LOps.pure (Pure.pickT (lv := .atom _) rfl rfl) rfl ?_
            | refine LOps.want rfl rfl ?_
            | refine LOps.skip rfl rfl rfl rfl ?_
            | refine LOps.skipU rfl rfl rfl ?_
          exact ⟨⟨rfl, bool_eq (by simp [e1, e3]), trivial⟩, rfl, rfl⟩
        · have e3 : ¬ b = [45] := of_decide_eq_false h3
          repeat first
            | refine LOps.pure (Pure.mv (lv := .atom _) rfl) rfl ?_
            | refine LOps.pure (Pure.seq rfl rfl) rfl ?_
            | refine LOps.pure (Pure.pickT (lv := .atom _) rfl rfl) rfl ?_
            | refine LOps.pure (Pure.pickF (lv := .atom _) rfl rfl) rfl ?_
            | refine LOps.want rfl rfl ?_
          refine LOps.bcase 24 rfl (fun h4 => ?_) (fun h4 => ?_)
          · have e4 : b = [94] := of_decide_eq_true h4
            repeat first
              | refine LOps.nil ?_
              | refine QThen.normal ?_
              | refine LOps.pure (Pure.pickT (lv := .atom _) rfl rfl) rfl ?_
              | refine LOps.skip rfl rfl rfl rfl ?_
              | refine LOps.skipU rfl rfl rfl ?_
            exact ⟨⟨rfl, bool_eq (by simp [e1, e4]), trivial⟩, rfl, rfl⟩
          · have e4 : ¬ b = [94] := of_decide_eq_false h4
            repeat first
              | refine LOps.pure (Pure.mv (lv := .atom _) rfl) rfl ?_
              | refine LOps.pure (Pure.seq rfl rfl) rfl ?_
              | refine LOps.want rfl rfl ?_
            refine LOps.bcase 27 rfl (fun h5 => absurd (of_decide_eq_true h5) n1) (fun h5 => ?_)
            repeat first
              | refine LOps.nil ?_
              | refine QThen.normal ?_
              | refine LOps.pure (Pure.pickF (lv := .atom _) rfl rfl) rfl ?_
              | refine LOps.want rfl rfl ?_
              | refine LOps.skip rfl rfl rfl rfl ?_
              | refine LOps.skipU rfl rfl rfl ?_
            exact ⟨⟨rfl, bool_eq (by simp [e2, e3, e4, n1]), trivial⟩, rfl, rfl⟩
    · have e1 : ¬ a = [48] := of_decide_eq_false h1
      repeat first
        | refine LOps.pure (Pure.mv (lv := .atom _) rfl) rfl ?_
        | refine LOps.pure (Pure.seq rfl rfl) rfl ?_
        | refine LOps.pure (Pure.pickF (lv := .atom _) rfl rfl) rfl ?_
        | refine LOps.want rfl rfl ?_
        | refine LOps.skip rfl rfl rfl rfl ?_
        | refine LOps.skipU rfl rfl rfl ?_
      refine LOps.bcase 27 rfl (fun h2 => ?_) (fun h2 => ?_)
      · have e2 : a = [49] := of_decide_eq_true h2
        repeat first
          | refine LOps.pure (Pure.mv (lv := .atom _) rfl) rfl ?_
          | refine LOps.pure (Pure.seq rfl rfl) rfl ?_
          | refine LOps.want rfl rfl ?_
        refine LOps.bcase 30 rfl (fun h3 => ?_) (fun h3 => ?_)
        · have e3 : b = [42] := of_decide_eq_true h3
          repeat first
            | refine LOps.nil ?_
            | refine QThen.normal ?_
            | refine LOps.pure (Pure.pickT (lv := .atom _) rfl rfl) rfl ?_
            | refine LOps.pure (Pure.pickF (lv := .atom _) rfl rfl) rfl ?_
            | refine LOps.want rfl rfl ?_
            | refine LOps.skip rfl rfl rfl rfl ?_
          exact ⟨⟨rfl, bool_eq (by simp [e2, e3]), trivial⟩, rfl, rfl⟩
        · have e3 : ¬ b = [42] := of_decide_eq_false h3
          repeat first
            | refine LOps.nil ?_
            | refine QThen.normal ?_
            | refine LOps.pure (Pure.mv (lv := .atom _) rfl) rfl ?_
            | refine LOps.pure (Pure.seq rfl rfl) rfl ?_
            | refine LOps.pure (Pure.pickT (lv := .atom _) rfl rfl) rfl ?_
            | refine LOps.pure (Pure.pickF (lv := .atom _) rfl rfl) rfl ?_
            | refine LOps.want rfl rfl ?_
          exact ⟨⟨rfl, bool_eq (by simp [e2, e3]), trivial⟩, rfl, rfl⟩
      · have e2 : ¬ a = [49] := of_decide_eq_false h2
        repeat first
          | refine LOps.nil ?_
          | refine QThen.normal ?_
          | refine LOps.pure (Pure.pickF (lv := .atom _) rfl rfl) rfl ?_
          | refine LOps.want rfl rfl ?_
          | refine LOps.skip rfl rfl rfl rfl ?_
          | refine LOps.skipU rfl rfl rfl ?_
        exact ⟨⟨rfl, bool_eq (by simp [e1, e2]), trivial⟩, rfl, rfl⟩
  refine LCode.cond rfl (fun h => ?_) (fun h => ?_)
  · rw [if_pos (of_decide_eq_true h)] at hF
    repeat first
      | refine LOps.nil ?_
      | refine LCode.seq ?_
      | refine LCode.region ?_
      | refine LCode.ret ?_
      | refine QThen.normal ?_
      | refine QThen.ret ?_
      | refine LOps.pure (Pure.as (lv := .atom _) rfl) rfl ?_
    exact retRet hj (AllRes.cons (ResIs.tmp (v := .atom _) rfl (LV.Sub.refl _)) (AllRes.cons (ResIs.tmp (v := nilSlice) rfl LV.Sub.nil) AllRes.nil)) (by rw [hF]; rfl)
  · rw [if_neg (of_decide_eq_false h)] at hF
    repeat first
      | refine LOps.nil ?_
      | refine LCode.seq ?_
      | refine LCode.region ?_
      | refine LCode.skip ?_
      | refine LCode.ret ?_
      | refine QThen.normal ?_
      | refine LOps.pure (Pure.as (lv := .atom _) rfl) rfl ?_
    exact retRet hj (AllRes.cons (ResIs.tmp (v := .atom _) rfl (LV.Sub.refl _)) (AllRes.cons (ResIs.tmp (v := nilSlice) rfl LV.Sub.nil) AllRes.nil)) (by rw [hF]; rfl)
end
end Go.Proofs.YtkjjenppmmipmaaGreatDoor
namespace Go.Proofs.YtkjjenppmmipmaaGreatDoor
open Go.GL Go.RowKit Go.Stele
set_option maxRecDepth 100000
set_option maxHeartbeats 4000000
theorem nextW_step (l : Wd) (v : List Wd) (i : Nat) : nextW l (v.drop i) = match defW (wdAt v i) with
    | some d => decide (d = l) || nextW l (v.drop (i + 1))
    | none => false := by
  by_cases h : i < v.length
  · have e : wdAt v i = v[i] := by unfold wdAt; rw [List.getElem?_eq_getElem h]; rfl
    rw [List.drop_eq_getElem_cons h, nextW, e]
    first | done | (cases defW v[i] <;> rfl)
  · have e : wdAt v i = [] := by unfold wdAt; rw [List.getElem?_eq_none (by omega)]; rfl
    rw [List.drop_eq_nil_of_le (by omega), e]
    rfl
theorem defW_lt {v : List Wd} {i : Nat} {d : Wd} (h : defW (wdAt v i) = some d) : i < v.length := by
  by_cases hl : i < v.length
  · exact hl
  · have e : wdAt v i = [] := by unfold wdAt; rw [List.getElem?_eq_none (by omega)]; rfl
    rw [e] at h
    cases h
attribute [local irreducible] LOps LCode LStep LCalls Go.GL.Pure QThen QBlock RetPost LQ LAny LLate LLateOp
section
variable {B0 : Nat} {w0 : World}
theorem next_spec (v : List Wd) (m : Nat) (hv : Small v) : LCalls (KC B0 w0) 30 [viewLV v m] [] (Ret (ruleLV (rNext v))) := by
  have k0 := word_spec (B0 := B0) (w0 := w0) v m 0 (by have := hv.1; omega)
  have kj := jump_spec (B0 := B0) (w0 := w0) v m 1 hv (by omega)
  have kw : ∀ k, LCalls (KC B0 w0) 51 [viewLV v m, int .i64 (k : Nat)] [] (Ret (str (wdAt v k))) := fun k => word_spec v m k (by have := hv.1; omega)
  have kd : ∀ k, LCalls (KC B0 w0) 55 [str (wdAt v k)] [] (RetIf (OptLV (defW (wdAt v k)))) := fun k => definition_spec (wdAt v k) (by have := hv.at k; omega)
  have hF : rNext v = match jumpW v 1 with
    | some l => if wdAt v 0 = [48] ∧ nextW l (v.drop 3) = true then (3, []) else (0, [])
    | none => (0, []) := rfl
  unfold viewLV at k0 kj kw ⊢
  generalize jumpW v 1 = oj at kj hF
  generalize wdAt v 0 = a at k0 hF
  refine LCalls.intro Tryz.func30 rfl (n := 35) rfl rfl rfl ?_
  repeat first
    | refine LCode.seq ?_
    | refine LCode.region ?_
  refine LOps.step (S.box (cs := [.list (v.map str), .atom (.map (some m))]) rfl fun b1 => ?_) rfl
  repeat first
    | refine LOps.nil ?_
    | refine LCode.seq ?_
    | refine LCode.region ?_
    | refine QThen.normal ?_
    | refine LOps.pure (Pure.as (lv := .atom _) rfl) rfl ?_
    | refine LOps.pure (Pure.ldHAgg (cs' := [_, _]) rfl (List.Mem.head _) rfl rfl) rfl ?_
  refine LOps.step (S.fnIf [_, _] rfl kj ?_) rfl
  rintro lv ⟨s, rfl, hs⟩
  repeat first
    | refine LOps.nil ?_
    | refine LCode.seq ?_
    | refine LCode.region ?_
    | refine QThen.normal ?_
    | refine LOps.pure (Pure.as (lv := .atom _) rfl) rfl ?_
    | refine LOps.pure (Pure.mv (lv := .tuple _) rfl) rfl ?_
    | refine LOps.pure (Pure.extract (c := .atom _) rfl rfl) rfl ?_
    | refine LOps.pure (Pure.mv (lv := .atom _) rfl) rfl ?_
    | refine LOps.pure (Pure.not rfl) rfl ?_
  refine LOps.bcase 16 rfl (fun h1 => ?_) (fun h1 => ?_)
  · obtain rfl : oj = none := by
      cases oj with
      | none => rfl
      | some l => cases h1
    repeat first
      | refine LOps.nil ?_
      | refine QThen.normal ?_
      | refine LOps.pure (Pure.pickT (lv := .atom _) rfl rfl) rfl ?_
      | refine LOps.skip rfl rfl rfl rfl ?_
    refine LCode.cond rfl (fun h => ?_) (fun h => ?_)
    · repeat first
        | refine LOps.nil ?_
        | refine LCode.seq ?_
        | refine LCode.region ?_
        | refine LCode.ret ?_
        | refine QThen.normal ?_
        | refine QThen.ret ?_
        | refine LOps.pure (Pure.as (lv := .atom _) rfl) rfl ?_
      exact retRet rfl (AllRes.cons (ResIs.tmp (v := .atom _) rfl (LV.Sub.refl _)) (AllRes.cons (ResIs.tmp (v := nilSlice) rfl LV.Sub.nil) AllRes.nil)) (by rw [hF]; rfl)
    · cases h
  · obtain ⟨l, rfl⟩ : ∃ l, oj = some l := by
      cases oj with
      | none => cases h1
      | some l => exact ⟨l, rfl⟩
    obtain rfl := hs l rfl
    simp only at hF
    repeat first
      | refine LOps.pure (Pure.ldHAgg (cs' := [_, _]) rfl (List.Mem.head _) rfl rfl) rfl ?_
      | refine LOps.want rfl rfl ?_
    refine LOps.step (S.fn [_, _] rfl k0 ?_) rfl
    repeat first
      | refine LOps.nil ?_
      | refine QThen.normal ?_
      | refine LOps.pure (Pure.sneq rfl rfl) rfl ?_
      | refine LOps.pure (Pure.pickF (lv := .atom _) rfl rfl) rfl ?_
      | refine LOps.want rfl rfl ?_
    refine LCode.cond rfl (fun h => ?_) (fun h => ?_)
    · have hne : ¬ a = [48] := by simpa using h
      rw [if_neg (fun hc => hne hc.1)] at hF
      repeat first
        | refine LOps.nil ?_
        | refine LCode.seq ?_
        | refine LCode.region ?_
        | refine LCode.ret ?_
        | refine QThen.normal ?_
        | refine QThen.ret ?_
        | refine LOps.pure (Pure.as (lv := .atom _) rfl) rfl ?_
      exact retRet rfl (AllRes.cons (ResIs.tmp (v := .atom _) rfl (LV.Sub.refl _)) (AllRes.cons (ResIs.tmp (v := nilSlice) rfl LV.Sub.nil) AllRes.nil)) (by rw [hF]; rfl)
    · have he : a = [48] := by simpa using h
      subst he
      simp only [true_and] at hF
      repeat first
        | refine LOps.nil ?_
        | refine LCode.seq ?_
        | refine LCode.region ?_
        | refine LCode.skip ?_
        | refine LCode.block ?_
        | refine QThen.normal ?_
        | refine LOps.pure (Pure.as (lv := .atom _) rfl) rfl ?_
      refine LCode.loopI (fun k ls H => ∃ i, (i ≤ v.length ∨ i = 3) ∧ k = v.length + 4 - i ∧ ls = [(1, ptr b1 0), (4, str s), (6, int .i64 (i : Nat))] ∧ H = [(b1, .cells 53 [.list (v.map str), .atom (.map (some m))])] ∧ nextW s (v.drop 3) = nextW s (v.drop i))
        ⟨_, _, _, ⟨3, Or.inr rfl, rfl, rfl, rfl, rfl⟩, ⟨rfl, rfl, rfl, trivial⟩, HSub.refl _⟩ ?_
      rintro k ls H ⟨i, hi, rfl, rfl, rfl, hE⟩ j1 hj1
      have hl := hv.1
      rw [nextW_step s v i] at hE
      repeat first
        | refine LCode.seq ?_
        | refine LCode.region ?_
        | refine LCode.block ?_
        | refine LOps.pure (Pure.ldHAgg (cs' := [_, _]) rfl (List.Mem.head _) rfl rfl) rfl ?_
        | refine LOps.pure (Pure.mv (lv := .atom _) rfl) rfl ?_
      refine LOps.step (S.fn [_, _] rfl (kw i) ?_) rfl
      refine LOps.step (S.fnIf [_] rfl (kd i) ?_) rfl
      rintro lv ⟨d, rfl, hd⟩
      repeat first
        | refine LOps.nil ?_
        | refine LCode.seq ?_
        | refine LCode.region ?_
        | refine QThen.normal ?_
        | refine LOps.pure (Pure.as (lv := .atom _) rfl) rfl ?_
        | refine LOps.pure (Pure.mv (lv := .tuple _) rfl) rfl ?_
        | refine LOps.pure (Pure.extract (c := .atom _) rfl rfl) rfl ?_
        | refine LOps.pure (Pure.mv (lv := .atom _) rfl) rfl ?_
        | refine LOps.pure (Pure.not rfl) rfl ?_
      refine LCode.cond rfl (fun h => ?_) (fun h => ?_)
      · have hn : defW (wdAt v i) = none := by
          cases ho : defW (wdAt v i) with
          | none => rfl
          | some l => rw [ho] at h; cases h
        rw [hn] at hE
        rw [hE] at hF
        repeat first
          | refine LOps.nil ?_
          | refine LCode.seq ?_
          | refine LCode.region ?_
          | refine LCode.ret ?_
          | refine QThen.normal ?_
          | refine QThen.ret ?_
          | refine QBlock.ret ?_
          | refine LOps.pure (Pure.as (lv := .atom _) rfl) rfl ?_
        exact retRet hj1 (AllRes.cons (ResIs.tmp (v := .atom _) rfl (LV.Sub.refl _)) (AllRes.cons (ResIs.tmp (v := nilSlice) rfl LV.Sub.nil) AllRes.nil)) (by rw [hF]; rfl)
      · obtain ⟨e, ho⟩ : ∃ e, defW (wdAt v i) = some e := by
          cases ho : defW (wdAt v i) with
          | none => rw [ho] at h; cases h
          | some l => exact ⟨l, rfl⟩
        have hlt := defW_lt ho
        obtain rfl := hd e ho
        rw [ho] at hE
        simp only at hE
        repeat first
          | refine LOps.nil ?_
          | refine LCode.seq ?_
          | refine LCode.region ?_
          | refine LCode.skip ?_
          | refine QThen.normal ?_
          | refine LOps.pure (Pure.mv (lv := .atom _) rfl) rfl ?_
          | refine LOps.pure (Pure.seq rfl rfl) rfl ?_
        refine LCode.cond rfl (fun h2 => ?_) (fun h2 => ?_)
        · have he : d = s := of_decide_eq_true h2
          rw [decide_eq_true he, Bool.true_or] at hE
          rw [hE] at hF
          repeat first
            | refine LOps.nil ?_
            | refine LCode.seq ?_
            | refine LCode.region ?_
            | refine LCode.ret ?_
            | refine QThen.normal ?_
            | refine QThen.ret ?_
            | refine QBlock.ret ?_
            | refine LOps.pure (Pure.as (lv := .atom _) rfl) rfl ?_
          exact retRet hj1 (AllRes.cons (ResIs.tmp (v := .atom _) rfl (LV.Sub.refl _)) (AllRes.cons (ResIs.tmp (v := nilSlice) rfl LV.Sub.nil) AllRes.nil)) (by rw [hF]; rfl)
        · have he : ¬ d = s := of_decide_eq_false h2
          rw [decide_eq_false he, Bool.false_or] at hE
          repeat first
            | refine LOps.nil ?_
            | refine LCode.region ?_
            | refine LCode.skip ?_
            | refine QThen.normal ?_
            | refine QBlock.normal ?_
            | refine LOps.pure (Pure.as (lv := .atom _) rfl) rfl ?_
            | refine LOps.pure (Pure.mv (lv := .atom _) rfl) rfl ?_
            | refine LOps.pure (Pure.add rfl rfl (by omega)) rfl ?_
          exact ⟨_, _, _, by omega, ⟨i + 1, Or.inl (by omega), rfl, rfl, rfl, hE⟩, ⟨rfl, rfl, int_eq (by omega), trivial⟩, HSub.refl _, hj1⟩
end
end Go.Proofs.YtkjjenppmmipmaaGreatDoor
