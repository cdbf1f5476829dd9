/- What the lexer's tokens are, in plain Lean: not too many, not too long, numbers spelled as numbers. -/
import Derived.Test.YtfodkbchknknjaaDoorLexSpec2
namespace Go.Stele
open Go.Lib
theorem pu_append (M : Nat) : ∀ (l r : List UInt8) (acc u : Nat), parseUintM M acc l = .ok u → parseUintM M acc (l ++ r) = parseUintM M u r
  | [], r, acc, u, h => by
    rw [parseUintM] at h
    cases h
    rfl
  | c :: l, r, acc, u, h => by
    rw [parseUintM] at h
    rw [List.cons_append, parseUintM]
    split at h
    · rename_i hc
      rw [if_pos hc]
      split at h
      · cases h
      · rename_i h1
        rw [if_neg h1]
        split at h
        · cases h
        · rename_i h2
          rw [if_neg h2]
          exact pu_append M l r _ u h
    · cases h
theorem digit_toNat {d : Nat} (h : d < 10) : (UInt8.ofNat (48 + d)).toNat = 48 + d := by
  rw [UInt8.toNat_ofNat']
  omega
theorem pu_dec (M : Nat) (hM : M ≤ 4294967295) (u : Nat) (hu : u ≤ M) : parseUintM M 0 (decDigits u) = .ok u := by
  induction u using Nat.strongRecOn with
  | _ u ih =>
    have one : ∀ a d, d < 10 → a * 10 + d ≤ M → parseUintM M a [UInt8.ofNat (48 + d)] = .ok (a * 10 + d) := fun a d hd ha => by
      rw [parseUintM, digit_toNat hd, if_pos (by omega), if_neg (by omega), if_neg (by omega), parseUintM]
      congr 1
      omega
    rw [decDigits]
    split
    · have := one 0 u (by assumption) (by omega)
      simpa using this
    · rw [pu_append M _ _ 0 (u / 10) (ih (u / 10) (by omega) (by omega)), one _ _ (by omega) (by omega)]
      congr 1
      omega
theorem decDigits_ne (u : Nat) : decDigits u ≠ [] := by
  rw [decDigits]
  split <;> simp
theorem pu32_dec (u : Nat) (hu : u < 4294967296) : parseUintB 32 (decDigits u) = .ok u := by
  rw [parseUintB, if_neg (decDigits_ne u)]
  exact pu_dec _ (by decide) u (by omega)
theorem nDigits_le : ∀ (k u : Nat), u < 10 ^ (k + 1) → nDigits u ≤ k + 1
  | 0, u, h => by rw [nDigits_small (by simpa using h)]; omega
  | k + 1, u, h => by
    by_cases hu : u < 10
    · rw [nDigits_small hu]; omega
    · rw [nDigits_big hu]
      have := nDigits_le k (u / 10) (by rw [Nat.pow_succ] at h; omega)
      omega
theorem dec_len {u : Nat} (hu : u < 4294967296) : (decDigits u).length ≤ 10 := by
  rw [decDigits_length]
  exact nDigits_le 9 u (by omega)
theorem pu32_lt {l : List UInt8} {u : Nat} (h : parseUintB 32 l = .ok u) : u < 4294967296 := by
  have key : ∀ (l : List UInt8) (acc u : Nat), acc ≤ 4294967295 → parseUintM 4294967295 acc l = .ok u → u ≤ 4294967295 := by
    intro l
    induction l with
    | nil => intro acc u ha h; rw [parseUintM] at h; cases h; exact ha
    | cons c l ih =>
      intro acc u ha h
      rw [parseUintM] at h
      split at h
      · split at h
        · cases h
        · split at h
          · cases h
          · exact ih _ _ (by omega) h
      · cases h
  rw [parseUintB] at h
  split at h
  · cases h
  · have := key _ _ _ (by omega) h
    omega
/-- What a token is. -/
def TokOk (t : Tok) : Prop := t.text.length ≤ 100 ∧ (t.kind = 1 → ∃ u, u < 4294967296 ∧ parseUintB 32 t.text = .ok u ∧ t.text = decDigits u)
theorem lexToken_ok (s : List UInt8) (h : (lexToken s).2.2 = 0) : TokOk (lexToken s).1 := by
  match s with
  | [] => simp [lexToken, tokErr] at h
  | c :: r =>
    simp only [lexToken] at h ⊢
    split at h <;> rename_i hc
    · rw [if_pos hc]
      unfold lexNumber at h ⊢
      split at h
      · simp [tokErr] at h
      · rename_i hw
        rw [if_neg hw]
        split at h
        · rename_i u hu
          have hlt := pu32_lt hu
          exact ⟨by have := dec_len hlt; simp only; omega, fun _ => ⟨u, hlt, pu32_dec u hlt, rfl⟩⟩
        · simp [tokErr] at h
    · rw [if_neg hc]
      split at h <;> rename_i hl
      · rw [if_pos hl]
        unfold lexName at h ⊢
        split at h
        · simp [tokErr] at h
        · rename_i hw
          rw [if_neg hw]
          refine ⟨by simp only; omega, fun hk => ?_⟩
          simp only at hk
          split at hk <;> cases hk
      · rw [if_neg hl]
        split at h <;> rename_i hq
        · rw [if_pos hq]
          unfold lexLiteral at h ⊢
          split at h
          · split at h
            · simp [tokErr] at h
            · rename_i hx
              rename_i heq
              rename_i b _ _
              rw [if_neg hx]
              have hb : b.toNat < 4294967296 := Nat.lt_trans (UInt8.toNat_lt b) (by decide)
              exact ⟨by have := dec_len hb; simp only; omega, fun _ => ⟨b.toNat, hb, pu32_dec _ hb, rfl⟩⟩
          · simp [tokErr] at h
        · rw [if_neg hq]
          unfold lexSign at h ⊢
          split at h
          · rename_i x hx
            have h2 := List.mem_of_find?_eq_some hx
            have : ∀ x ∈ signs, x.length ≤ 100 := by decide
            exact ⟨this x h2, fun hk => by cases hk⟩
          · simp [tokErr] at h
theorem map_ok {A B : Type} {f : A → B} {r : Except (Int × Int) A} {b : B} (h : r.map f = .ok b) : ∃ a, r = .ok a ∧ f a = b := by
  cases r with
  | ok a => exact ⟨a, rfl, by injection h⟩
  | error e => cases h
theorem lexP_ok : ∀ (f : Nat) (s : List UInt8) (line : Int) (T : List Tok), lexP f s line = .ok T → T.length ≤ f ∧ ∀ t ∈ T, TokOk t
  | 0, s, line, T, h => by
    rw [lexP] at h
    cases h
    exact ⟨Nat.le_refl _, by simp⟩
  | f + 1, s, line, T, h => by
    rw [lexP] at h
    split at h
    · cases h
      exact ⟨Nat.zero_le _, by simp⟩
    · split at h
      · split at h
        · cases h
        · rename_i he
          obtain ⟨T', h1, rfl⟩ := map_ok h
          obtain ⟨k1, k2⟩ := lexP_ok f _ _ _ h1
          refine ⟨by rw [List.length_cons]; omega, fun t ht => ?_⟩
          rcases List.mem_cons.1 ht with rfl | ht
          · exact lexToken_ok s (by omega)
          · exact k2 t ht
      · obtain ⟨k1, k2⟩ := lexP_ok f _ _ _ h
        exact ⟨by omega, k2⟩
end Go.Stele
