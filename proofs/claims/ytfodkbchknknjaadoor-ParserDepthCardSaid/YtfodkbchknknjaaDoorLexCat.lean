/- The lexer in plain Lean: two texts with a line feed between them. -/
import Derived.Test.YtfodkbchknknjaaDoorLexSpec2
set_option linter.unusedVariables false
set_option linter.unusedSimpArgs false
namespace Go.Stele
theorem skip_white {c : UInt8} (hc : isWhite c = true) (b : List UInt8) : skipLen (c :: b) = (b.takeWhile isWhite).length + 1 := by
  have h47 : ([47, 47] : List UInt8).isPrefixOf (c :: b) = false := by
    cases h : ([47, 47] : List UInt8).isPrefixOf (c :: b) with
    | false => rfl
    | true =>
      simp only [List.isPrefixOf, Bool.and_eq_true, beq_iff_eq] at h
      rw [← h.1] at hc
      exact absurd hc (by decide)
  unfold skipLen
  rw [h47, if_neg (by decide), List.takeWhile_cons_of_pos hc]
  rfl
theorem skip_zero {s : List UInt8} (h : skipLen s = 0) : ([47, 47] : List UInt8).isPrefixOf s = false ∧ s.takeWhile isWhite = [] := by
  unfold skipLen at h
  split at h
  · rename_i hp
    obtain ⟨r, rfl⟩ := List.isPrefixOf_iff_prefix.1 hp
    rw [List.cons_append, List.takeWhile_cons_of_pos (by decide)] at h
    cases h
  · rename_i hp
    exact ⟨Bool.eq_false_iff.2 hp, List.eq_nil_of_length_eq_zero h⟩
theorem lexP_fuel : ∀ (f g : Nat) (s : List UInt8) (line : Int), s.length ≤ f → s.length ≤ g → lexP f s line = lexP g s line
  | 0, g, s, line, hf, _ => by
    have : s = [] := List.eq_nil_of_length_eq_zero (by omega)
    subst this
    cases g with
    | zero => rfl
    | succ g => rw [lexP, lexP, if_pos rfl]
  | f + 1, 0, s, line, _, hg => by
    have : s = [] := List.eq_nil_of_length_eq_zero (by omega)
    subst this
    rw [lexP, lexP, if_pos rfl]
  | f + 1, g + 1, s, line, hf, hg => by
    rw [lexP, lexP]
    by_cases h0 : s = []
    · rw [if_pos h0, if_pos h0]
    rw [if_neg h0, if_neg h0]
    by_cases hk : skipLen s = 0
    · rw [if_pos hk, if_pos hk]
      by_cases he : (lexToken s).2.2 ≠ 0
      · rw [if_pos he, if_pos he]
      · rw [if_neg he, if_neg he]
        obtain ⟨h1, h2⟩ := lexToken_size s (by simpa using he)
        rw [lexP_fuel f g _ _ (by rw [List.length_drop]; omega) (by rw [List.length_drop]; omega)]
    · rw [if_neg hk, if_neg hk]
      exact lexP_fuel f g _ _ (by rw [List.length_drop]; omega) (by rw [List.length_drop]; omega)
/-- The tokens of s, as many as there are. -/
def lexAt (s : List UInt8) (line : Int) : Except (Int × Int) (List Tok) := lexP s.length s line
theorem lexAt_eq {f : Nat} {s : List UInt8} (h : s.length ≤ f) (line : Int) : lexP f s line = lexAt s line := lexP_fuel _ _ _ _ h (Nat.le_refl _)
theorem lexAt_nil (line : Int) : lexAt [] line = .ok [] := rfl
theorem lexAt_white {c : UInt8} (hc : isWhite c = true) (b : List UInt8) (line : Int) : lexAt (c :: b) line = lexAt b (line + (([c] : List UInt8).count 10 : Nat)) := by
  rw [← lexAt_eq (f := b.length + 1) (by simp), lexP, if_neg (by simp), if_neg (by rw [skip_white hc]; omega), skip_white hc, List.drop_succ_cons, List.take_succ_cons, lexAt_eq (by rw [List.length_drop]; omega)]
  cases b with
  | nil => simp [lexAt_nil]
  | cons d b =>
    by_cases hd : isWhite d = true
    · rw [← lexAt_eq (f := b.length + 1) (s := d :: b) (by simp), lexP, if_neg (by simp), if_neg (by rw [skip_white hd]; omega), skip_white hd, List.takeWhile_cons_of_pos hd, List.length_cons, List.drop_succ_cons, List.take_succ_cons, lexAt_eq (by rw [List.length_drop]; omega)]
      congr 1
      rw [List.count_cons, List.count_singleton, List.count_cons]
      omega
    · rw [List.takeWhile_cons_of_neg hd]
      simp
theorem tw_app {p : UInt8 → Bool} (hp : p 10 = false) (b : List UInt8) : ∀ s : List UInt8, (s ++ 10 :: b).takeWhile p = s.takeWhile p
  | [] => by rw [List.nil_append, List.takeWhile_cons_of_neg (by simp [hp])]; rfl
  | c :: s => by
    rw [List.cons_append]
    by_cases h : p c = true
    · rw [List.takeWhile_cons_of_pos h, List.takeWhile_cons_of_pos h, tw_app hp b s]
    · rw [List.takeWhile_cons_of_neg h, List.takeWhile_cons_of_neg h]
theorem pre_app (b : List UInt8) : ∀ (x s : List UInt8), (10 : UInt8) ∉ x → x.isPrefixOf (s ++ 10 :: b) = x.isPrefixOf s
  | [], s, _ => by simp
  | c :: x, [], h => by
    have : ¬ c = 10 := fun hc => h (by rw [hc]; exact List.mem_cons_self ..)
    simp [List.isPrefixOf, this]
  | c :: x, d :: s, h => by
    have := pre_app b x s fun hx => h (List.mem_cons_of_mem _ hx)
    simp only [List.cons_append, List.isPrefixOf, this]
theorem find_app (b s : List UInt8) : ∀ L : List (List UInt8), (∀ x ∈ L, (10 : UInt8) ∉ x) → L.find? (fun x => x.isPrefixOf (s ++ 10 :: b)) = L.find? (fun x => x.isPrefixOf s)
  | [], _ => rfl
  | x :: L, h => by
    rw [List.find?_cons, List.find?_cons, pre_app b x s (h x (List.mem_cons_self ..)), find_app b s L fun y hy => h y (List.mem_cons_of_mem _ hy)]
theorem wordNext_app (b s : List UInt8) {n : Nat} (hn : n ≤ s.length) : wordNext (s ++ 10 :: b) n = wordNext s n := by
  unfold wordNext
  rcases Nat.lt_or_ge n s.length with h | h
  · rw [List.getElem?_append_left h]
  · have : n = s.length := by omega
    subst this
    rw [List.getElem?_append_right (Nat.le_refl _), List.getElem?_eq_none (Nat.le_refl _)]
    rw [Nat.sub_self, List.getElem?_cons_zero]
    rfl
theorem lexToken_app (b s : List UInt8) (h : (lexToken s).2.2 = 0) : lexToken (s ++ 10 :: b) = lexToken s := by
  match s with
  | [] => simp [lexToken, tokErr] at h
  | c :: r =>
    simp only [List.cons_append, lexToken] at h ⊢
    by_cases hc : isDigit c = true
    · rw [if_pos hc, if_pos hc]
      unfold lexNumber
      have e1 : (c :: (r ++ 10 :: b)).takeWhile isDigit = (c :: r).takeWhile isDigit := tw_app (by decide) b (c :: r)
      have e2 := wordNext_app b (c :: r) (takeWhile_le isDigit (c :: r))
      rw [List.cons_append] at e2
      rw [e1, e2]
    rw [if_neg hc] at h ⊢
    rw [if_neg hc]
    by_cases hl : isLetter c = true
    · rw [if_pos hl, if_pos hl]
      unfold lexName
      have e1 : (c :: (r ++ 10 :: b)).takeWhile isInner = (c :: r).takeWhile isInner := tw_app (by decide) b (c :: r)
      rw [e1]
    rw [if_neg hl] at h ⊢
    rw [if_neg hl]
    by_cases hq : decide (cv c = 39) = true
    · rw [if_pos hq] at h ⊢
      rw [if_pos hq]
      match r with
      | [] => simp [lexLiteral, tokErr] at h
      | [d] => simp [lexLiteral, tokErr] at h
      | d :: e :: r => rfl
    · rw [if_neg hq, if_neg hq]
      unfold lexSign
      have e1 := find_app b (c :: r) signs (by decide)
      rw [List.cons_append] at e1
      rw [e1]
theorem lexAt_app (b : List UInt8) : ∀ (n : Nat) (s : List UInt8) (line : Int) (A : List Tok), s.length ≤ n → lexAt s line = .ok A → lexAt (s ++ 10 :: b) line = (lexAt b (line + (s.count 10 : Nat) + 1)).map (A ++ ·)
  | n, [], line, A, _, h => by
    rw [lexAt_nil] at h
    cases h
    rw [List.nil_append, lexAt_white (by decide)]
    simp
    cases lexAt b (line + 1) <;> rfl
  | 0, c :: r, _, _, hn, _ => by simp at hn
  | n + 1, c :: r, line, A, hn, h => by
    by_cases hw : isWhite c = true
    · rw [lexAt_white hw] at h
      rw [List.cons_append, lexAt_white hw, lexAt_app b n r _ A (by simpa using hn) h]
      rw [List.count_cons (l := r), List.count_singleton]
      congr 2
      omega
    have hkeep : (c :: r).takeWhile isWhite = [] := List.takeWhile_cons_of_neg hw
    have hp : ([47, 47] : List UInt8).isPrefixOf (c :: r ++ 10 :: b) = ([47, 47] : List UInt8).isPrefixOf (c :: r) := pre_app b [47, 47] (c :: r) (by decide)
    have hk : skipLen (c :: r ++ 10 :: b) = skipLen (c :: r) := by
      unfold skipLen
      rw [hp, tw_app (by decide), hkeep, List.cons_append, List.takeWhile_cons_of_neg hw]
    rw [← lexAt_eq (f := n + 1) hn, lexP, if_neg (by simp)] at h
    rw [← lexAt_eq (f := (r ++ 10 :: b).length + 1) (by simp), lexP, if_neg (by simp), hk]
    by_cases hz : skipLen (c :: r) = 0
    · rw [if_pos hz] at h ⊢
      by_cases he : (lexToken (c :: r)).2.2 ≠ 0
      · rw [if_pos he] at h
        cases h
      have he' : (lexToken (c :: r)).2.2 = 0 := by simpa using he
      rw [if_neg he] at h
      obtain ⟨h1, h2⟩ := lexToken_size _ he'
      rw [lexToken_app b _ he', if_neg he, List.drop_append_of_le_length h2, List.take_append_of_le_length h2]
      rw [lexAt_eq (by rw [List.length_drop]; omega)] at h
      rw [lexAt_eq (by simp only [List.length_append, List.length_drop, List.length_cons] at h2 ⊢; omega)]
      cases hx : lexAt ((c :: r).drop (lexToken (c :: r)).2.1) (line + (((c :: r).take (lexToken (c :: r)).2.1).count 10 : Nat)) with
      | error e => rw [hx] at h; cases h
      | ok A2 =>
        rw [hx] at h
        cases h
        rw [lexAt_app b n _ _ A2 (by rw [List.length_drop]; omega) hx]
        have hc : (c :: r).count 10 = ((c :: r).take (lexToken (c :: r)).2.1).count 10 + ((c :: r).drop (lexToken (c :: r)).2.1).count 10 := by rw [← List.count_append, List.take_append_drop]
        rw [show line + (((c :: r).take (lexToken (c :: r)).2.1).count 10 : Nat) + (((c :: r).drop (lexToken (c :: r)).2.1).count 10 : Nat) + 1 = line + ((c :: r).count 10 : Nat) + 1 by rw [hc]; omega]
        cases lexAt b (line + ((c :: r).count 10 : Nat) + 1) <;> rfl
    · rw [if_neg hz] at h ⊢
      have h2 := skipLen_le (c :: r)
      rw [List.drop_append_of_le_length h2, List.take_append_of_le_length h2]
      rw [lexAt_eq (by rw [List.length_drop]; omega)] at h
      rw [lexAt_eq (by simp only [List.length_append, List.length_drop, List.length_cons] at h2 ⊢; omega)]
      rw [lexAt_app b n _ _ A (by rw [List.length_drop]; omega) h]
      have hc : (c :: r).count 10 = ((c :: r).take (skipLen (c :: r))).count 10 + ((c :: r).drop (skipLen (c :: r))).count 10 := by rw [← List.count_append, List.take_append_drop]
      congr 2
      rw [hc]
      omega
def kt (t : Tok) : Int × List UInt8 := (t.kind, t.text)
/-- The number of the first line changes nothing but the lines. -/
theorem lexP_line : ∀ (f : Nat) (s : List UInt8) (l1 l2 : Int) (A : List Tok), lexP f s l1 = .ok A → ∃ B, lexP f s l2 = .ok B ∧ B.map kt = A.map kt
  | 0, _, _, _, _, h => by
    cases h
    exact ⟨[], rfl, rfl⟩
  | f + 1, s, l1, l2, A, h => by
    rw [lexP] at h ⊢
    split at h
    · rename_i h0
      cases h
      rw [if_pos h0]
      exact ⟨[], rfl, rfl⟩
    rename_i h0
    rw [if_neg h0]
    split at h
    · rename_i hk
      rw [if_pos hk]
      split at h
      · cases h
      · rename_i he
        rw [if_neg he]
        cases hx : lexP f (s.drop (lexToken s).2.1) (l1 + ((s.take (lexToken s).2.1).count 10 : Nat)) with
        | error e => rw [hx] at h; cases h
        | ok A2 =>
          rw [hx] at h
          cases h
          obtain ⟨B, h1, h2⟩ := lexP_line f _ _ (l2 + ((s.take (lexToken s).2.1).count 10 : Nat)) A2 hx
          rw [h1]
          exact ⟨_, rfl, by rw [List.map_cons, List.map_cons, h2]; rfl⟩
    · rename_i hk
      rw [if_neg hk]
      exact lexP_line f _ _ _ A h
end Go.Stele
