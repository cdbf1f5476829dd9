/- What the lexer computes, in plain Lean. -/
import Derived.Lib.ParseIntB
import Derived.Lib.ItoaNum
namespace Go.Stele
@[reducible] def cv (c : UInt8) : Int := (c.toNat : Int)
def isDigit (c : UInt8) : Bool := decide (48 ≤ cv c) && decide (cv c ≤ 57)
def isLetter (c : UInt8) : Bool := decide (97 ≤ cv c) && decide (cv c ≤ 122)
def isInner (c : UInt8) : Bool := isLetter c || isDigit c || decide (cv c = 95)
def notNl (c : UInt8) : Bool := !decide (cv c = 10)
def isWhite (c : UInt8) : Bool := decide (cv c = 32) || decide (cv c = 9) || decide (cv c = 10)
structure Tok where
  kind : Int
  text : List UInt8
  line : Int
  deriving DecidableEq, Inhabited
end Go.Stele
namespace Go.Stele
theorem takeWhile_step {p : UInt8 → Bool} {s : List UInt8} {m : Nat} (hm : m < s.length) (h : s.takeWhile p = s.take m ++ (s.drop m).takeWhile p) :
    (p s[m] = true → s.takeWhile p = s.take (m + 1) ++ (s.drop (m + 1)).takeWhile p) ∧ (p s[m] = false → s.takeWhile p = s.take m) := by
  have h1 : s.drop m = s[m] :: s.drop (m + 1) := List.drop_eq_getElem_cons hm
  constructor
  · intro hp
    rw [h, h1, List.takeWhile_cons_of_pos hp, List.take_succ_eq_append_getElem hm]
    simp only [List.append_assoc, List.singleton_append]
  · intro hp
    rw [h, h1, List.takeWhile_cons_of_neg (by simp [hp])]
    simp
theorem takeWhile_end {p : UInt8 → Bool} {s : List UInt8} {m : Nat} (hm : s.length ≤ m) (h : s.takeWhile p = s.take m ++ (s.drop m).takeWhile p) : s.takeWhile p = s.take m := by
  rw [h, List.drop_eq_nil_of_le hm]
  simp
def skipLen (s : List UInt8) : Nat := if [47, 47].isPrefixOf s then (s.takeWhile notNl).length else (s.takeWhile isWhite).length
end Go.Stele
/- What the lexer computes, in plain Lean: tokens. -/
namespace Go.Stele
def zeroTok : Tok := ⟨0, [], 0⟩
/-- A token, its length, an error. -/
abbrev TokR := Tok × Nat × Int
def tokErr (e : Int) : TokR := (zeroTok, 0, e)
def wordNext (s : List UInt8) (n : Nat) : Bool := match s[n]? with
  | some c => isLetter c || decide (cv c = 95)
  | none => false
def lexNumber (s : List UInt8) : TokR :=
  if wordNext s (s.takeWhile isDigit).length then tokErr 3 else
    match Go.Lib.parseUintB 32 (s.takeWhile isDigit) with
    | .ok u => (⟨1, Go.Lib.decDigits u, 0⟩, (s.takeWhile isDigit).length, 0)
    | _ => tokErr 2
def lexLiteral : List UInt8 → TokR
  | _ :: b :: c :: _ => if (!decide (cv c = 39)) || decide (cv b < 32) || decide (126 < cv b) || decide (cv b = 39) || decide (cv b = 92) then tokErr 3 else (⟨1, Go.Lib.decDigits b.toNat, 0⟩, 3, 0)
  | _ => tokErr 3
def keywords : List (List UInt8) := [[97, 114, 114, 97, 121], [101, 108, 115, 101], [102, 117, 110, 99], [104, 97, 108, 116], [105, 102], [114, 101, 116, 117, 114, 110], [118, 97, 114], [119, 104, 105, 108, 101]]
def signs : List (List UInt8) := [[38, 38], [124, 124], [61, 61], [33, 61], [60, 61], [62, 61], [60], [62], [94], [43], [45], [42], [47], [37], [33], [61], [40], [41], [123], [125], [91], [93], [44], [59]]
def lexName (s : List UInt8) : TokR :=
  if 24 < (s.takeWhile isInner).length then tokErr 7 else (⟨if keywords.contains (s.takeWhile isInner) then 3 else 2, s.takeWhile isInner, 0⟩, (s.takeWhile isInner).length, 0)
def lexSign (s : List UInt8) : TokR := match signs.find? (fun x => x.isPrefixOf s) with
  | some x => (⟨4, x, 0⟩, x.length, 0)
  | none => tokErr 3
def lexToken (s : List UInt8) : TokR := match s with
  | [] => tokErr 3
  | c :: _ => if isDigit c then lexNumber s else if isLetter c then lexName s else if decide (cv c = 39) then lexLiteral s else lexSign s
/-- The tokens of s, whose first line has this number; or the line and the error. -/
def lexP : Nat → List UInt8 → Int → Except (Int × Int) (List Tok)
  | 0, _, _ => .ok []
  | fuel + 1, s, line =>
    if s = [] then .ok [] else
    if skipLen s = 0 then
      if (lexToken s).2.2 ≠ 0 then .error (line, (lexToken s).2.2)
      else (lexP fuel (s.drop (lexToken s).2.1) (line + ((s.take (lexToken s).2.1).count 10 : Nat))).map ({ (lexToken s).1 with line := line } :: ·)
    else lexP fuel (s.drop (skipLen s)) (line + ((s.take (skipLen s)).count 10 : Nat))
end Go.Stele
namespace Go.Stele
theorem takeWhile_le (p : UInt8 → Bool) (s : List UInt8) : (s.takeWhile p).length ≤ s.length := (List.takeWhile_prefix p).length_le
theorem lexToken_size (s : List UInt8) (h : (lexToken s).2.2 = 0) : 0 < (lexToken s).2.1 ∧ (lexToken s).2.1 ≤ s.length := by
  match s with
  | [] => simp [lexToken, tokErr] at h
  | c :: r =>
    simp only [lexToken] at h ⊢
    split at h <;> rename_i hc
    · rw [if_pos hc]
      unfold lexNumber at h ⊢
      split at h
      · simp [tokErr] at h
      · rename_i hw
        rw [if_neg hw]
        split at h
        · rename_i u hu
          refine ⟨?_, takeWhile_le _ _⟩
          rw [List.takeWhile_cons_of_pos hc]
          simp
        · simp [tokErr] at h
    · rw [if_neg hc]
      split at h <;> rename_i hl
      · rw [if_pos hl]
        unfold lexName at h ⊢
        split at h
        · simp [tokErr] at h
        · rename_i hw
          rw [if_neg hw]
          refine ⟨?_, takeWhile_le _ _⟩
          rw [List.takeWhile_cons_of_pos (by simp [isInner, hl])]
          simp
      · rw [if_neg hl]
        split at h <;> rename_i hq
        · rw [if_pos hq]
          unfold lexLiteral at h ⊢
          split at h
          · split at h
            · simp [tokErr] at h
            · rename_i hx
              rename_i heq
              rw [if_neg hx, heq]
              simp
          · simp [tokErr] at h
        · rw [if_neg hq]
          unfold lexSign at h ⊢
          split at h
          · rename_i x hx
            have h1 := List.find?_some hx
            have h2 := List.mem_of_find?_eq_some hx
            refine ⟨?_, (List.isPrefixOf_iff_prefix.1 h1).length_le⟩
            have : ∀ x ∈ signs, 0 < x.length := by decide
            exact this x h2
          · simp [tokErr] at h
theorem skipLen_le (s : List UInt8) : skipLen s ≤ s.length := by
  unfold skipLen
  split <;> exact takeWhile_le _ _
end Go.Stele
