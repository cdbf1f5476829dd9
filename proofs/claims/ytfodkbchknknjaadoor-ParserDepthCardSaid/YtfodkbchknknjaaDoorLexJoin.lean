/- The lexer in plain Lean: every token on a line of its own. -/
import Derived.Test.YtfodkbchknknjaaDoorLexCat
import Derived.Test.YtfodkbchknknjaaDoorParTok
import Derived.Lib.Join
set_option linter.unusedVariables false
set_option linter.unusedSimpArgs false
namespace Go.Stele
open Go.Lib
/-- A token's text is read as that token. -/
def Again (t : Tok) : Prop := t.text.length ≤ 24 ∧ t.text ≠ [] ∧ skipLen t.text = 0 ∧ (10 : UInt8) ∉ t.text ∧ lexToken t.text = (⟨t.kind, t.text, 0⟩, t.text.length, 0)
theorem skip_head {c : UInt8} {r : List UInt8} (hw : isWhite c = false) (h47 : c ≠ 47) : skipLen (c :: r) = 0 := by
  have h : ([47, 47] : List UInt8).isPrefixOf (c :: r) = false := by
    cases h : ([47, 47] : List UInt8).isPrefixOf (c :: r) with
    | false => rfl
    | true =>
      simp only [List.isPrefixOf, Bool.and_eq_true, beq_iff_eq] at h
      exact absurd h.1.symm h47
  unfold skipLen
  rw [h, if_neg (by decide), List.takeWhile_cons_of_neg (by rw [hw]; decide)]
  rfl
theorem digit_of {d : Nat} (h : d < 10) : isDigit (UInt8.ofNat (48 + d)) = true := by
  have h1 : (UInt8.ofNat (48 + d)).toNat = 48 + d := digit_toNat h
  unfold isDigit cv
  rw [h1]
  simp
  omega
theorem dec_digits (u : Nat) : ∀ c ∈ decDigits u, isDigit c = true := by
  induction u using Nat.strongRecOn with
  | ind u ih =>
    intro c hc
    by_cases h : u < 10
    · rw [decDigits_one h] at hc
      rw [List.mem_singleton.1 hc]
      exact digit_of h
    · rw [decDigits, dif_neg h] at hc
      rcases List.mem_append.1 hc with hc | hc
      · exact ih (u / 10) (by omega) c hc
      · rw [List.mem_singleton.1 hc]
        exact digit_of (by omega)
theorem digit_white {c : UInt8} (h : isDigit c = true) : isWhite c = false ∧ c ≠ 47 := by
  unfold isDigit at h
  rw [Bool.and_eq_true, decide_eq_true_eq, decide_eq_true_eq] at h
  refine ⟨?_, fun hc => ?_⟩
  · unfold isWhite
    simp only [Bool.or_eq_false_iff, decide_eq_false_iff_not]
    omega
  · subst hc
    exact absurd h.1 (by decide)
theorem letter_white {c : UInt8} (h : isLetter c = true) : isWhite c = false ∧ c ≠ 47 := by
  unfold isLetter at h
  rw [Bool.and_eq_true, decide_eq_true_eq, decide_eq_true_eq] at h
  refine ⟨?_, fun hc => ?_⟩
  · unfold isWhite
    simp only [Bool.or_eq_false_iff, decide_eq_false_iff_not]
    omega
  · subst hc
    exact absurd h.1 (by decide)
theorem tw_self {p : UInt8 → Bool} : ∀ {s : List UInt8}, (∀ c ∈ s, p c = true) → s.takeWhile p = s
  | [], _ => rfl
  | c :: s, h => by rw [List.takeWhile_cons_of_pos (h c (List.mem_cons_self ..)), tw_self fun d hd => h d (List.mem_cons_of_mem _ hd)]
theorem tw_mem {p : UInt8 → Bool} : ∀ {s : List UInt8} {c : UInt8}, c ∈ s.takeWhile p → p c = true
  | [], _, h => by cases h
  | d :: s, c, h => by
    by_cases hd : p d = true
    · rw [List.takeWhile_cons_of_pos hd] at h
      rcases List.mem_cons.1 h with rfl | h
      · exact hd
      · exact tw_mem h
    · rw [List.takeWhile_cons_of_neg hd] at h
      cases h
theorem again_dec {u : Nat} (hu : u < 4294967296) (l : Int) : Again ⟨1, decDigits u, l⟩ := by
  have hd := dec_digits u
  have hne := decDigits_ne u
  refine ⟨by have := dec_len hu; simp only; omega, hne, ?_, fun h => by have := hd _ h; exact absurd this (by decide), ?_⟩
  · show skipLen (decDigits u) = 0
    cases hD : decDigits u with
    | nil => exact absurd hD hne
    | cons c r =>
      have := digit_white (hd c (by rw [hD]; exact List.mem_cons_self ..))
      exact skip_head this.1 this.2
  · show lexToken (decDigits u) = (⟨1, decDigits u, 0⟩, (decDigits u).length, 0)
    have h1 : lexToken (decDigits u) = lexNumber (decDigits u) := by
      cases hD : decDigits u with
      | nil => exact absurd hD hne
      | cons c r => rw [lexToken, if_pos (hd c (by rw [hD]; exact List.mem_cons_self ..))]
    rw [h1]
    unfold lexNumber
    rw [tw_self hd, pu32_dec u hu, if_neg]
    unfold wordNext
    rw [List.getElem?_eq_none (Nat.le_refl _)]
    decide
theorem again_sign : ∀ x ∈ signs, x.length ≤ 24 ∧ x ≠ [] ∧ skipLen x = 0 ∧ (10 : UInt8) ∉ x ∧ lexToken x = (⟨4, x, 0⟩, x.length, 0) := by decide +kernel
theorem lexToken_again (s : List UInt8) (h : (lexToken s).2.2 = 0) : Again (lexToken s).1 := by
  match s with
  | [] => simp [lexToken, tokErr] at h
  | c :: r =>
    simp only [lexToken] at h ⊢
    split at h <;> rename_i hc
    · rw [if_pos hc]
      unfold lexNumber at h ⊢
      split at h
      · simp [tokErr] at h
      · rename_i hw
        rw [if_neg hw]
        split at h
        · rename_i u hu
          exact again_dec (pu32_lt hu) 0
        · simp [tokErr] at h
    · rw [if_neg hc]
      split at h <;> rename_i hl
      · rw [if_pos hl]
        unfold lexName at h ⊢
        split at h
        · simp [tokErr] at h
        · rename_i hw
          rw [if_neg hw]
          have hin : isInner c = true := by simp [isInner, hl]
          have hW : (c :: r).takeWhile isInner = c :: r.takeWhile isInner := List.takeWhile_cons_of_pos hin
          have hall : ∀ d ∈ (c :: r).takeWhile isInner, isInner d = true := fun d hd => tw_mem hd
          have hww := letter_white hl
          refine ⟨by simp only; omega, by simp only; rw [hW]; simp, by simp only; rw [hW]; exact skip_head hww.1 hww.2, fun h10 => absurd (hall _ h10) (by decide), ?_⟩
          simp only
          have h1 : lexToken ((c :: r).takeWhile isInner) = lexName ((c :: r).takeWhile isInner) := by
            rw [hW, lexToken, if_neg hc, if_pos hl]
          rw [h1]
          unfold lexName
          rw [tw_self hall, if_neg hw]
      · rw [if_neg hl]
        split at h <;> rename_i hq
        · rw [if_pos hq]
          unfold lexLiteral at h ⊢
          split at h
          · split at h
            · simp [tokErr] at h
            · rename_i hx
              rename_i heq
              rename_i b _ _
              rw [if_neg hx]
              exact again_dec (Nat.lt_trans (UInt8.toNat_lt b) (by decide)) 0
          · simp [tokErr] at h
        · rw [if_neg hq]
          unfold lexSign at h ⊢
          split at h
          · rename_i x hx
            exact again_sign x (List.mem_of_find?_eq_some hx)
          · simp [tokErr] at h
theorem lexP_again : ∀ (f : Nat) (s : List UInt8) (line : Int) (T : List Tok), lexP f s line = .ok T → ∀ t ∈ T, Again t
  | 0, s, line, T, h => by
    rw [lexP] at h
    cases h
    simp
  | f + 1, s, line, T, h => by
    rw [lexP] at h
    split at h
    · cases h
      simp
    · split at h
      · split at h
        · cases h
        · rename_i he
          obtain ⟨T', h1, rfl⟩ := map_ok h
          have k2 := lexP_again f _ _ _ h1
          intro t ht
          rcases List.mem_cons.1 ht with rfl | ht
          · exact lexToken_again s (by omega)
          · exact k2 t ht
      · exact lexP_again f _ _ _ h
theorem lexAt_tok {t : Tok} (h : Again t) (line : Int) : lexAt t.text line = .ok [⟨t.kind, t.text, line⟩] := by
  obtain ⟨_, hne, hs, _, ht⟩ := h
  have hlen : 0 < t.text.length := List.length_pos_iff.2 hne
  rw [← lexAt_eq (f := t.text.length + 1) (by omega), lexP, if_neg hne, if_pos hs, ht, if_neg (by simp)]
  simp only [List.drop_length]
  rw [lexAt_eq (by simp), lexAt_nil]
  rfl
/-- The tokens, one on each line, from this line on. -/
def reline : List Tok → Int → List Tok
  | [], _ => []
  | t :: r, l => ⟨t.kind, t.text, l⟩ :: reline r (l + 1)
theorem reline_kt : ∀ (T : List Tok) (l : Int), (reline T l).map kt = T.map kt
  | [], _ => rfl
  | t :: r, l => by rw [reline, List.map_cons, List.map_cons, reline_kt r]; rfl
theorem reline_len (T : List Tok) (l : Int) : (reline T l).length = T.length := by simpa using congrArg List.length (reline_kt T l)
theorem reline_line : ∀ (T : List Tok) (l : Int) (j : Nat) (t : Tok), (reline T l)[j]? = some t → t.line = l + j
  | [], _, _, _, h => by simp [reline] at h
  | u :: r, l, 0, t, h => by
    simp [reline] at h
    rw [← h]
    simp
  | u :: r, l, j + 1, t, h => by
    rw [reline, List.getElem?_cons_succ] at h
    rw [reline_line r _ j t h]
    omega
theorem join_cons (x y : List UInt8) (r : List (List UInt8)) : join (x :: y :: r) [10] = x ++ 10 :: join (y :: r) [10] := by
  simp [join, List.intercalate, List.intersperse]
theorem lexAt_join : ∀ (T : List Tok) (l : Int), (∀ t ∈ T, Again t) → lexAt (join (T.map (·.text)) [10]) l = .ok (reline T l)
  | [], l, _ => by
    rw [show join (([] : List Tok).map (·.text)) [10] = [] by simp [join, List.intercalate], lexAt_nil]
    rfl
  | [t], l, h => by
    rw [show join (([t] : List Tok).map (·.text)) [10] = t.text by simp [join, List.intercalate], lexAt_tok (h t (List.mem_cons_self ..))]
    rfl
  | t :: u :: r, l, h => by
    have ht := h t (List.mem_cons_self ..)
    have ih := lexAt_join (u :: r) (l + 1) fun v hv => h v (List.mem_cons_of_mem _ hv)
    rw [List.map_cons, List.map_cons, join_cons, lexAt_app _ t.text.length _ _ _ (Nat.le_refl _) (lexAt_tok ht l), List.count_eq_zero.2 ht.2.2.2.1]
    rw [List.map_cons] at ih
    simp only [Int.natCast_zero, Int.add_zero]
    rw [ih]
    rfl
theorem join_len : ∀ (T : List Tok), (∀ t ∈ T, Again t) → (join (T.map (·.text)) [10]).length ≤ 25 * T.length
  | [], _ => by simp [join, List.intercalate]
  | [t], h => by
    rw [show join (([t] : List Tok).map (·.text)) [10] = t.text by simp [join, List.intercalate]]
    have := (h t (List.mem_cons_self ..)).1
    simp
    omega
  | t :: u :: r, h => by
    have ht := (h t (List.mem_cons_self ..)).1
    have ih := join_len (u :: r) fun v hv => h v (List.mem_cons_of_mem _ hv)
    rw [List.map_cons] at ih
    rw [List.map_cons, List.map_cons, join_cons, List.length_append, List.length_cons]
    simp only [List.length_cons] at ih ⊢
    omega
end Go.Stele
