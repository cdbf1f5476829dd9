/- Texts joined: RtProg, InpSrc, ParCat, ParOff, InpUnu, ParName, InpUnu2, InpUnu3, InpUnu4, InpWord, InpLaw, ChkRef2, InpKey, InpBnd, InpNodup, InpValid, InpAwake, InpOut, InpShort, InpSmall, InpW1, InpW2. -/
import Derived.KernelRfl
import Derived.Lib.Replace
import Derived.Deep.WholeRow
import Derived.Test.YtcbpcianefpniaaGreatDoorBRowIU1
import Derived.Test.YtcbpcianefpniaaGreatDoorBRowIU2
set_option linter.unusedVariables false
set_option linter.unusedSimpArgs false
set_option maxRecDepth 100000
namespace Go.Stele
section
variable {T : List Tok}
theorem At.kw {T : List Tok} {i : Nat} {x : List UInt8} {ks : List KT} (h : At T i ((3, x) :: ks)) (y : List UInt8) : isTok T i [y] = decide (x = y) := by
 rw [h.tok]
 simp [tokIn]
theorem At.nm {T : List Tok} {i : Nat} {x : List UInt8} {ks : List KT} (h : At T i ((2, x) :: ks)) (xs : List (List UInt8)) : isTok T i xs = false := by
 rw [h.tok, no_name]
theorem At.sgn {T : List Tok} {i : Nat} {c : UInt8} {ks : List KT} (h : At T i (sg c :: ks)) (y : List UInt8) : isTok T i [y] = decide ([c] = y) := by
 rw [h.tok]
 simp [tokIn, sg]
theorem expr0 {e : Ex} {ts ks : List KT} {d i op : Nat} {c : UInt8} (hc : c = 41 ∨ c = 93 ∨ c = 44 ∨ c = 59 ∨ c = 123) (hp : PE e 0 ts d) (hd : d ≤ 100 - op) (hA : At T i (ts ++ sg c :: ks)) : Evt (fun f => eLev T f 0 i op) (.ok e (i + ts.length) op) :=
 qe e 0 ts d i op _ (by omega) hp hd hA (fol_sg hc _ _)
/-- What is printed of a statement is read again. -/
def QS (T : List Tok) (s : Sm) : Prop := ∀ (ts : List KT) (d i op : Nat) (ks : List KT), PS s ts d → d ≤ 100 - op → At T i (ts ++ ks) → tokIn ks [kwElse] = false → Evt (fun f => sStmt T f i op) (.ok s (i + ts.length) op)
theorem ps_first {s : Sm} {ts : List KT} {d : Nat} (h : PS s ts d) : ∃ t r, ts = t :: r ∧ (t.1 = 2 ∨ t = (3, kwReturn) ∨ t = (3, kwHalt) ∨ t = (3, kwIf) ∨ t = (3, kwWhile)) := by
 cases h with
 | assign h he => exact ⟨_, _, rfl, .inl rfl⟩
 | store h hx he => exact ⟨_, _, rfl, .inl rfl⟩
 | call h hl => exact ⟨_, _, rfl, .inl rfl⟩
 | ret he => exact ⟨_, _, rfl, .inr (.inl rfl)⟩
 | halt => exact ⟨_, _, rfl, .inr (.inr (.inl rfl))⟩
 | ifElse he h1 h2 hne => exact ⟨_, _, rfl, .inr (.inr (.inr (.inl rfl)))⟩
 | ifThen he h1 => exact ⟨_, _, rfl, .inr (.inr (.inr (.inl rfl)))⟩
 | «while» he h1 => exact ⟨_, _, rfl, .inr (.inr (.inr (.inr rfl)))⟩
theorem ps_no {s : Sm} {ts ks : List KT} {d : Nat} (h : PS s ts d) {y : List UInt8} (hy : y = [125] ∨ y = kwElse ∨ y = kwVar) : tokIn (ts ++ ks) [y] = false := by
 obtain ⟨t, r, e, h⟩ := ps_first h
 rw [e]
 rcases h with h | rfl | rfl | rfl | rfl
 ·simp [tokIn, h]
 all_goals rcases hy with rfl | rfl | rfl <;> exact rfl
theorem stmts_parse : ∀ (l acc : List Sm) (ts ks : List KT) (d i op : Nat), (∀ s ∈ l, QS T s) → PSs l ts d → d ≤ 100 - op → At T i (ts ++ sg 125 :: ks) → Evt (fun f => sStmts T f acc i op) (.ok (acc ++ l) (i + ts.length) op)
 | [], acc, ts, ks, d, i, op, hq, hp, hd, hA => by
  cases hp with
  | nil =>
   refine ⟨1, fun f hf => ?_⟩
   obtain ⟨g, rfl⟩ : ∃ g, f = g + 1 := ⟨f - 1, by omega⟩
   show sStmts T (g + 1) acc i op = _
   rw [sStmts, if_pos (by rw [hA.tok]; exact tokIn_sg 125), List.append_nil]
   rfl
 | s :: l, acc, ts, ks, d, i, op, hq, hp, hd, hA => by
  cases hp with
  | cons h hl =>
   rename_i t1 t2 d1 d2
   rw [List.append_assoc] at hA
   have he : tokIn (t2 ++ sg 125 :: ks) [kwElse] = false := by
    cases hl with
    | nil => rfl
    | cons h' hl' => rw [List.append_assoc]; exact ps_no h' (.inr (.inl rfl))
   obtain ⟨f1, h1⟩ := hq s (List.mem_cons_self ..) t1 d1 i op _ h (by omega) hA he
   obtain ⟨f2, h2⟩ := stmts_parse l (acc ++ [s]) t2 ks d2 (i + t1.length) op (fun x hx => hq x (List.mem_cons_of_mem _ hx)) hl (by omega) hA.skip
   refine ⟨f1 + f2 + 1, fun f hf => ?_⟩
   obtain ⟨g, rfl⟩ : ∃ g, f = g + 1 := ⟨f - 1, by omega⟩
   have h1' := h1 g (by omega)
   have h2' := h2 g (by omega)
   simp only at h1' h2'
   show sStmts T (g + 1) acc i op = _
   rw [sStmts, if_neg (by rw [hA.tok, ps_no h (.inl rfl)]; decide), h1']
   show sStmts T g (acc ++ [s]) (i + t1.length) op = _
   rw [h2', List.append_assoc, List.length_append, Nat.add_assoc]
   rfl
theorem block_parse {l : List Sm} {ts ks : List KT} {d i op : Nat} (hq : ∀ s ∈ l, QS T s) (hp : PSs l ts d) (hd : d + 1 ≤ 100 - op) (hA : At T i (sg 123 :: (ts ++ sg 125 :: ks))) : Evt (fun f => sBlock T f i op) (.ok l (i + 2 + ts.length) op) := by
 obtain ⟨f1, h1⟩ := stmts_parse l [] ts ks d (i + 1) (op + 1) hq hp (by omega) hA.one
 refine ⟨f1 + 1, fun f hf => ?_⟩
 obtain ⟨g, rfl⟩ : ∃ g, f = g + 1 := ⟨f - 1, by omega⟩
 have h1' := h1 g (by omega)
 simp only at h1'
 show sBlock T (g + 1) i op = _
 rw [sBlock, hA.begin (by omega)]
 show obind (sStmts T g [] (i + 1) (op + 1)) _ = _
 rw [h1']
 show obind (some (sEnd T [125] (i + 1 + ts.length) (op + 1))) _ = _
 rw [hA.one.skip.fin]
 show some (Res.ok l (i + 1 + ts.length + 1) (op + 1 - 1)) = _
 congr 2
 omega
theorem simple_parse {i op i' : Nat} {s : Sm} {ks ks' : List KT} (hA : At T i ks) (h1 : tokIn ks [kwIf] = false) (h2 : tokIn ks [kwWhile] = false) (hA' : At T i' (sg 59 :: ks')) (h : Evt (fun f => sSimple T f i op) (.ok s i' op)) : Evt (fun f => sStmt T f i op) (.ok s (i' + 1) op) := by
 obtain ⟨f0, h⟩ := h
 refine ⟨f0 + 1, fun f hf => ?_⟩
 obtain ⟨g, rfl⟩ : ∃ g, f = g + 1 := ⟨f - 1, by omega⟩
 have h' := h g (by omega)
 simp only at h'
 show sStmt T (g + 1) i op = _
 rw [sStmt, if_neg (by rw [hA.tok, h1]; decide), if_neg (by rw [hA.tok, h2]; decide), h']
 show obind (some (sNeed T [59] i' op)) _ = _
 rw [hA'.need]
 rfl
theorem st_parse : ∀ (n : Nat) (s : Sm), nSm s ≤ n → QS T s
 | 0, .mk _ _ _ _ _ _, hn => by rw [nSm] at hn; omega
 | n + 1, s, hn => by
  intro ts d i op ks hp hd hA hE
  cases hp with
  | assign h he =>
   rename_i s e t1
   have hA1 : At T i ((2, s) :: sg 61 :: (t1 ++ sg 59 :: ks)) := by simpa only [List.cons_append, List.append_assoc, List.nil_append] using hA
   obtain ⟨f1, h1⟩ := expr0 (op := op) (.inr (.inr (.inr (.inl rfl)))) he hd hA1.one.one
   have e1 : i + ((2, s) :: sg 61 :: (t1 ++ [sg 59])).length = i + 1 + 1 + t1.length + 1 := by simp only [List.length_cons, List.length_append, List.length_nil]; omega
   rw [e1]
   refine simple_parse hA1 (no_name _ _ _) (no_name _ _ _) hA1.one.one.skip ⟨f1 + 1, fun f hf => ?_⟩
   obtain ⟨g, rfl⟩ : ∃ g, f = g + 1 := ⟨f - 1, by omega⟩
   have h1' := h1 g (by omega)
   simp only at h1'
   show sSimple T (g + 1) i op = _
   rw [sSimple, if_neg (by rw [hA1.nm]; decide), if_neg (by rw [hA1.nm]; decide), hA1.word]
   show (if isTok T (i + 1) [[40]] then _ else if isTok T (i + 1) [[91]] then _ else obind (some (sNeed T [61] (i + 1) op)) _) = _
   rw [if_neg (by rw [hA1.one.sgn]; decide), if_neg (by rw [hA1.one.sgn]; decide), hA1.one.need]
   show obind (eLev T g 0 (i + 1 + 1) op) _ = _
   rw [h1']
   rfl
  | store h hx he =>
   rename_i s x e t1 t2 d1 d2
   have hA1 : At T i ((2, s) :: sg 91 :: (t1 ++ sg 93 :: sg 61 :: (t2 ++ sg 59 :: ks))) := by simpa only [List.cons_append, List.append_assoc, List.nil_append] using hA
   obtain ⟨f1, h1⟩ := index_parse (op := op) (qe x) hx (by omega) hA1.one
   have hA2 : At T (i + 1 + 2 + t1.length) (sg 61 :: (t2 ++ sg 59 :: ks)) := by
    have := hA1.one.one.skip.one
    rw [show i + 1 + 2 + t1.length = i + 1 + 1 + t1.length + 1 by omega]
    exact this
   obtain ⟨f2, h2⟩ := expr0 (op := op) (.inr (.inr (.inr (.inl rfl)))) he (by omega) hA2.one
   have e1 : i + ((2, s) :: sg 91 :: (t1 ++ sg 93 :: sg 61 :: (t2 ++ [sg 59]))).length = i + 1 + 2 + t1.length + 1 + t2.length + 1 := by simp only [List.length_cons, List.length_append, List.length_nil]; omega
   rw [e1]
   refine simple_parse hA1 (no_name _ _ _) (no_name _ _ _) hA2.one.skip ⟨f1 + f2 + 1, fun f hf => ?_⟩
   obtain ⟨g, rfl⟩ : ∃ g, f = g + 1 := ⟨f - 1, by omega⟩
   have h1' := h1 g (by omega)
   have h2' := h2 g (by omega)
   simp only at h1' h2'
   show sSimple T (g + 1) i op = _
   rw [sSimple, if_neg (by rw [hA1.nm]; decide), if_neg (by rw [hA1.nm]; decide), hA1.word]
   show (if isTok T (i + 1) [[40]] then _ else if isTok T (i + 1) [[91]] then obind (eIndex T g (i + 1) op) _ else _) = _
   rw [if_neg (by rw [hA1.one.sgn]; decide), if_pos (by rw [hA1.one.sgn]; decide), h1']
   show obind (some (sNeed T [61] (i + 1 + 2 + t1.length) op)) _ = _
   rw [hA2.need]
   show obind (eLev T g 0 (i + 1 + 2 + t1.length + 1) op) _ = _
   rw [h2']
   rfl
  | call h hl =>
   rename_i s l t1 d1
   have hA1 : At T i ((2, s) :: sg 40 :: (t1 ++ sg 41 :: sg 59 :: ks)) := by simpa only [List.cons_append, List.append_assoc, List.nil_append] using hA
   obtain ⟨f1, h1⟩ := args_parse (op := op) (fun x _ => qe x) hl (by omega) hA1.one
   have hA2 : At T (i + 1 + 2 + t1.length) (sg 59 :: ks) := by
    have := hA1.one.one.skip.one
    rw [show i + 1 + 2 + t1.length = i + 1 + 1 + t1.length + 1 by omega]
    exact this
   have e1 : i + ((2, s) :: sg 40 :: (t1 ++ [sg 41, sg 59])).length = i + 1 + 2 + t1.length + 1 := by simp only [List.length_cons, List.length_append, List.length_nil]; omega
   rw [e1]
   refine simple_parse hA1 (no_name _ _ _) (no_name _ _ _) hA2 ⟨f1 + 1, fun f hf => ?_⟩
   obtain ⟨g, rfl⟩ : ∃ g, f = g + 1 := ⟨f - 1, by omega⟩
   have h1' := h1 g (by omega)
   simp only at h1'
   show sSimple T (g + 1) i op = _
   rw [sSimple, if_neg (by rw [hA1.nm]; decide), if_neg (by rw [hA1.nm]; decide), hA1.word]
   show (if isTok T (i + 1) [[40]] then obind (eArgs T g (i + 1) op) _ else _) = _
   rw [if_pos (by rw [hA1.one.sgn]; decide), h1']
   rfl
  | ret he =>
   rename_i e t1
   have hA1 : At T i ((3, kwReturn) :: (t1 ++ sg 59 :: ks)) := by simpa only [List.cons_append, List.append_assoc, List.nil_append] using hA
   obtain ⟨f1, h1⟩ := expr0 (op := op) (.inr (.inr (.inr (.inl rfl)))) he hd hA1.one
   have e1 : i + ((3, kwReturn) :: (t1 ++ [sg 59])).length = i + 1 + t1.length + 1 := by simp only [List.length_cons, List.length_append, List.length_nil]; omega
   rw [e1]
   refine simple_parse hA1 rfl rfl hA1.one.skip ⟨f1 + 1, fun f hf => ?_⟩
   obtain ⟨g, rfl⟩ : ∃ g, f = g + 1 := ⟨f - 1, by omega⟩
   have h1' := h1 g (by omega)
   simp only at h1'
   show sSimple T (g + 1) i op = _
   rw [sSimple, if_pos (by rw [hA1.kw]; decide), h1']
   rfl
  | halt =>
   have hA1 : At T i ((3, kwHalt) :: sg 59 :: ks) := hA
   refine simple_parse hA1 rfl rfl hA1.one ⟨1, fun f hf => ?_⟩
   obtain ⟨g, rfl⟩ : ∃ g, f = g + 1 := ⟨f - 1, by omega⟩
   show sSimple T (g + 1) i op = _
   rw [sSimple, if_neg (by rw [hA1.kw]; decide), if_pos (by rw [hA1.kw]; decide)]
  | ifElse he h1 h2 hne =>
   rename_i e th el t0 t1 t2 d0 d1 d2
   simp only [nSm, nExs] at hn
   have hA1 : At T i ((3, kwIf) :: (t0 ++ sg 123 :: (t1 ++ sg 125 :: (3, kwElse) :: sg 123 :: (t2 ++ sg 125 :: ks)))) := by simpa only [List.cons_append, List.append_assoc, List.nil_append] using hA
   obtain ⟨f1, g1⟩ := expr0 (op := op) (.inr (.inr (.inr (.inr rfl)))) he (by omega) hA1.one
   obtain ⟨f2, g2⟩ := block_parse (op := op) (fun x hx => st_parse n x (by have := nSms_mem hx; omega)) h1 (by omega) hA1.one.skip
   have hA2 : At T (i + 1 + t0.length + 2 + t1.length) ((3, kwElse) :: sg 123 :: (t2 ++ sg 125 :: ks)) := by
    have := hA1.one.skip.one.skip.one
    rw [show i + 1 + t0.length + 2 + t1.length = i + 1 + t0.length + 1 + t1.length + 1 by omega]
    exact this
   obtain ⟨f3, g3⟩ := block_parse (op := op) (fun x hx => st_parse n x (by have := nSms_mem hx; omega)) h2 (by omega) hA2.one
   refine ⟨f1 + f2 + f3 + 1, fun f hf => ?_⟩
   obtain ⟨g, rfl⟩ : ∃ g, f = g + 1 := ⟨f - 1, by omega⟩
   have g1' := g1 g (by omega)
   have g2' := g2 g (by omega)
   have g3' := g3 g (by omega)
   simp only at g1' g2' g3'
   show sStmt T (g + 1) i op = _
   rw [sStmt, if_pos (by rw [hA1.kw]; decide), g1']
   show obind (sBlock T g (i + 1 + t0.length) op) _ = _
   rw [g2']
   show (if isTok T (i + 1 + t0.length + 2 + t1.length) [kwElse] then obind (sBlock T g (i + 1 + t0.length + 2 + t1.length + 1) op) _ else _) = _
   rw [if_pos (by rw [hA2.kw]; decide), g3']
   show some (Res.ok (Sm.mk 3 [] [] [e] th el) _ op) = _
   congr 2
   simp only [List.length_cons, List.length_append, List.length_nil]
   omega
  | ifThen he h1 =>
   rename_i e th t0 t1 d0 d1
   simp only [nSm, nExs] at hn
   have hA1 : At T i ((3, kwIf) :: (t0 ++ sg 123 :: (t1 ++ sg 125 :: ks))) := by simpa only [List.cons_append, List.append_assoc, List.nil_append] using hA
   obtain ⟨f1, g1⟩ := expr0 (op := op) (.inr (.inr (.inr (.inr rfl)))) he (by omega) hA1.one
   obtain ⟨f2, g2⟩ := block_parse (op := op) (fun x hx => st_parse n x (by have := nSms_mem hx; omega)) h1 (by omega) hA1.one.skip
   have hA2 : At T (i + 1 + t0.length + 2 + t1.length) ks := by
    have := hA1.one.skip.one.skip.one
    rw [show i + 1 + t0.length + 2 + t1.length = i + 1 + t0.length + 1 + t1.length + 1 by omega]
    exact this
   refine ⟨f1 + f2 + 1, fun f hf => ?_⟩
   obtain ⟨g, rfl⟩ : ∃ g, f = g + 1 := ⟨f - 1, by omega⟩
   have g1' := g1 g (by omega)
   have g2' := g2 g (by omega)
   simp only at g1' g2'
   show sStmt T (g + 1) i op = _
   rw [sStmt, if_pos (by rw [hA1.kw]; decide), g1']
   show obind (sBlock T g (i + 1 + t0.length) op) _ = _
   rw [g2']
   show (if isTok T (i + 1 + t0.length + 2 + t1.length) [kwElse] then _ else _) = _
   rw [if_neg (by rw [hA2.tok, hE]; decide)]
   congr 2
   simp only [List.length_cons, List.length_append, List.length_nil]
   omega
  | «while» he h1 =>
   rename_i e th t0 t1 d0 d1
   simp only [nSm, nExs] at hn
   have hA1 : At T i ((3, kwWhile) :: (t0 ++ sg 123 :: (t1 ++ sg 125 :: ks))) := by simpa only [List.cons_append, List.append_assoc, List.nil_append] using hA
   obtain ⟨f1, g1⟩ := expr0 (op := op) (.inr (.inr (.inr (.inr rfl)))) he (by omega) hA1.one
   obtain ⟨f2, g2⟩ := block_parse (op := op) (fun x hx => st_parse n x (by have := nSms_mem hx; omega)) h1 (by omega) hA1.one.skip
   refine ⟨f1 + f2 + 1, fun f hf => ?_⟩
   obtain ⟨g, rfl⟩ : ∃ g, f = g + 1 := ⟨f - 1, by omega⟩
   have g1' := g1 g (by omega)
   have g2' := g2 g (by omega)
   simp only at g1' g2'
   show sStmt T (g + 1) i op = _
   rw [sStmt, if_neg (by rw [hA1.kw]; decide), if_pos (by rw [hA1.kw]; decide), g1']
   show obind (sBlock T g (i + 1 + t0.length) op) _ = _
   rw [g2']
   show some (Res.ok (Sm.mk 4 [] [] [e] th []) _ op) = _
   congr 2
   simp only [List.length_cons, List.length_append, List.length_nil]
   omega
theorem qs (s : Sm) : QS T s := st_parse _ s (Nat.le_refl _)
/-! ### Declarations -/
theorem namesLoop_parse : ∀ (l acc : List (List UInt8)) (ks : List KT) (i op : Nat), l ≠ [] → tokIn ks [[44]] = false → At T i (sg 44 :: (commas l ++ ks)) → Evt (fun f => sNamesLoop T f acc i op) (.ok (acc ++ l) (i + 1 + (commas l).length) op)
 | [], _, _, _, _, h, _, _ => absurd rfl h
 | [a], acc, ks, i, op, _, hk, hA => by
  refine ⟨2, fun f hf => ?_⟩
  obtain ⟨g, rfl⟩ : ∃ g, f = g + 2 := ⟨f - 2, by omega⟩
  have hA1 : At T (i + 1) ((2, a) :: ks) := hA.one
  show sNamesLoop T (g + 1 + 1) acc i op = _
  rw [sNamesLoop, if_pos (by rw [hA.tok, tokIn_sg]), hA1.word]
  show sNamesLoop T (g + 1) (acc ++ [a]) (i + 1 + 1) op = _
  rw [sNamesLoop, if_neg (by rw [hA1.one.tok, hk]; decide)]
  rfl
 | a :: b :: l, acc, ks, i, op, _, hk, hA => by
  have hA1 : At T (i + 1) ((2, a) :: sg 44 :: (commas (b :: l) ++ ks)) := hA.one
  obtain ⟨f1, h1⟩ := namesLoop_parse (b :: l) (acc ++ [a]) ks (i + 1 + 1) op (by simp) hk hA1.one
  refine ⟨f1 + 1, fun f hf => ?_⟩
  obtain ⟨g, rfl⟩ : ∃ g, f = g + 1 := ⟨f - 1, by omega⟩
  have h1' := h1 g (by omega)
  simp only at h1'
  show sNamesLoop T (g + 1) acc i op = _
  rw [sNamesLoop, if_pos (by rw [hA.tok, tokIn_sg]), hA1.word]
  show sNamesLoop T g (acc ++ [a]) (i + 1 + 1) op = _
  rw [h1', List.append_assoc]
  congr 2
  simp only [commas, List.length_cons]
  omega
theorem names_parse {l : List (List UInt8)} {ks : List KT} {i op : Nat} (hl : l ≠ []) (hk : tokIn ks [[44]] = false) (hA : At T i (commas l ++ ks)) : Evt (fun f => sNames T f i op) (.ok l (i + (commas l).length) op) := by
 match l, hl, hA with
 | [a], _, hA =>
  have hA1 : At T i ((2, a) :: ks) := hA
  refine ⟨1, fun f hf => ?_⟩
  obtain ⟨g, rfl⟩ : ∃ g, f = g + 1 := ⟨f - 1, by omega⟩
  show sNames T (g + 1) i op = _
  unfold sNames
  rw [hA1.word]
  show sNamesLoop T (g + 1) [a] (i + 1) op = _
  rw [sNamesLoop, if_neg (by rw [hA1.one.tok, hk]; decide)]
  rfl
 | a :: b :: l, _, hA =>
  have hA1 : At T i ((2, a) :: sg 44 :: (commas (b :: l) ++ ks)) := hA
  obtain ⟨f1, h1⟩ := namesLoop_parse (b :: l) [a] ks (i + 1) op (by simp) hk hA1.one
  refine ⟨f1, fun f hf => ?_⟩
  have h1' := h1 f hf
  simp only at h1'
  show sNames T f i op = _
  unfold sNames
  rw [hA1.word]
  show sNamesLoop T f [a] (i + 1) op = _
  rw [h1']
  show some (Res.ok (a :: b :: l) _ op) = _
  congr 2
  simp only [commas, List.length_cons]
  omega
theorem vars_parse {l : List (List UInt8)} {ks : List KT} {i op : Nat} (hk : tokIn ks [kwVar] = false) (hA : At T i (varK l ++ ks)) : Evt (fun f => sVars T f [] i op) (.ok l (i + (varK l).length) op) := by
 unfold varK at hA ⊢
 by_cases hl : l = []
 ·rw [if_pos hl] at hA ⊢
  subst hl
  refine ⟨1, fun f hf => ?_⟩
  obtain ⟨g, rfl⟩ : ∃ g, f = g + 1 := ⟨f - 1, by omega⟩
  show sVars T (g + 1) [] i op = _
  rw [sVars, if_neg (by rw [hA.tok]; rw [List.nil_append, hk]; decide)]
  rfl
 ·rw [if_neg hl] at hA ⊢
  have hA1 : At T i ((3, kwVar) :: (commas l ++ sg 59 :: ks)) := by simpa only [List.cons_append, List.append_assoc, List.nil_append] using hA
  obtain ⟨f1, h1⟩ := names_parse (op := op) hl (by simp [tokIn, sg]) hA1.one
  refine ⟨f1 + 2, fun f hf => ?_⟩
  obtain ⟨g, rfl⟩ : ∃ g, f = g + 2 := ⟨f - 2, by omega⟩
  have h1' := h1 (g + 1) (by omega)
  simp only at h1'
  show sVars T (g + 1 + 1) [] i op = _
  rw [sVars, if_pos (by rw [hA1.kw]; decide), h1']
  show obind (some (sNeed T [59] (i + 1 + (commas l).length) op)) _ = _
  rw [hA1.one.skip.need]
  show sVars T (g + 1) ([] ++ l) (i + 1 + (commas l).length + 1) op = _
  rw [sVars, if_neg (by rw [hA1.one.skip.one.tok, hk]; decide), List.nil_append]
  congr 2
  simp only [List.length_cons, List.length_append, List.length_nil]
  omega
theorem func_parse {a : FnD} {ts ks : List KT} {d i : Nat} (hp : PF a ts d) (hd : d ≤ 100) (hA : At T i (ts ++ ks)) : isTok T i [kwFunc] = true ∧ isTok T i [kwArray] = false ∧ isTok T i [kwVar] = false ∧ Evt (fun f => sFunc T f (i + 1) 0) (.ok a (i + ts.length) 0) := by
 cases hp with
 | mk h hps hls hb =>
  rename_i nm ps ls b t1 d1
  have hA1 : At T i ((3, kwFunc) :: (2, nm) :: sg 40 :: (commas ps ++ sg 41 :: sg 123 :: (varK ls ++ (t1 ++ sg 125 :: ks)))) := by simpa only [List.cons_append, List.append_assoc, List.nil_append] using hA
  refine ⟨by rw [hA1.kw]; decide, by rw [hA1.kw]; decide, by rw [hA1.kw]; decide, ?_⟩
  have hA3 := hA1.one.one.one
  have key : Evt (fun f => if isTok T (i + 1 + 1 + 1) [[41]] then some (.ok [] (i + 1 + 1 + 1) 1) else sNames T f (i + 1 + 1 + 1) 1) (.ok ps (i + 1 + 1 + 1 + (commas ps).length) 1) := by
   by_cases hne : ps = []
   ·subst hne
    refine ⟨0, fun f _ => ?_⟩
    simp only
    rw [if_pos (by rw [hA3.tok]; exact tokIn_sg 41)]
    rfl
   ·obtain ⟨f1, h1⟩ := names_parse (op := 1) hne (by simp [tokIn, sg]) hA3
    refine ⟨f1, fun f hf => ?_⟩
    simp only
    rw [if_neg ?_]
    ·exact h1 f hf
    ·rw [hA3.tok]
     match ps, hne with
     | [x], _ => simp [tokIn, commas]
     | x :: y :: r, _ => simp [tokIn, commas]
  obtain ⟨f1, h1⟩ := key
  have hA4 := hA3.skip
  have hv : tokIn (t1 ++ sg 125 :: ks) [kwVar] = false := by
   cases hb with
   | nil => rfl
   | cons h' hl' => rw [List.append_assoc]; exact ps_no h' (.inr (.inr rfl))
  obtain ⟨f2, h2⟩ := vars_parse (op := 1) hv hA4.one.one
  obtain ⟨f3, h3⟩ := stmts_parse b [] t1 ks d1 _ 1 (fun x _ => qs x) hb (by omega) hA4.one.one.skip
  refine ⟨f1 + f2 + f3, fun f hf => ?_⟩
  have h1' := h1 f (by omega)
  have h2' := h2 f (by omega)
  have h3' := h3 f (by omega)
  simp only at h1' h2' h3'
  show sFunc T f (i + 1) 0 = _
  unfold sFunc
  rw [hA1.one.word]
  show obind (some (sBegin T [40] (i + 1 + 1) 0)) _ = _
  rw [hA1.one.one.begin (by omega)]
  show obind (if isTok T (i + 1 + 1 + 1) [[41]] then some (.ok [] (i + 1 + 1 + 1) 1) else sNames T f (i + 1 + 1 + 1) 1) _ = _
  rw [h1']
  show obind (some (sEnd T [41] (i + 1 + 1 + 1 + (commas ps).length) 1)) _ = _
  rw [hA4.fin]
  show obind (some (sBegin T [123] (i + 1 + 1 + 1 + (commas ps).length + 1) 0)) _ = _
  rw [hA4.one.begin (by omega)]
  show obind (sVars T f [] (i + 1 + 1 + 1 + (commas ps).length + 1 + 1) 1) _ = _
  rw [h2']
  show obind (sStmts T f [] (i + 1 + 1 + 1 + (commas ps).length + 1 + 1 + (varK ls).length) 1) _ = _
  rw [h3']
  show obind (some (sEnd T [125] (i + 1 + 1 + 1 + (commas ps).length + 1 + 1 + (varK ls).length + t1.length) 1)) _ = _
  rw [hA4.one.one.skip.skip.fin]
  show some (Res.ok (FnD.mk nm ps ls b) _ 0) = _
  congr 2
  simp only [List.length_cons, List.length_append, List.length_nil]
  omega
theorem At.lt {i : Nat} {t : KT} {ks : List KT} (h : At T i (t :: ks)) : i < T.length := by
 obtain ⟨t', h1, _⟩ := h.get
 exact get_lt h1
end
end Go.Stele
set_option maxRecDepth 100000
namespace Go.Stele
open Go.Lib
namespace Src
/-- Tokens ahead of the others. -/
def nest : List Tok → Except (Int × Int) (List Tok) → Except (Int × Int) (List Tok)
 | [], r => r
 | t :: A, r => (nest A r).map (t :: ·)
theorem nest_ok : ∀ (A B : List Tok), nest A (.ok B) = .ok (A ++ B)
 | [], B => rfl
 | t :: A, B => by rw [nest, nest_ok A B]; rfl
/-! ### The source of InterpreterArithmetic -/
/-! ### The source of InterpreterStatic -/
def outB : List UInt8 := [111, 117, 116]
theorem out_again : Again ⟨2, outB, 0⟩ := by unfold Again; decide +kernel
/-! ### The source of InterpreterLoop -/
end Src
end Go.Stele
namespace Go.Stele
def Pr.app (p q : Pr) : Pr := ⟨p.vars ++ q.vars, p.arrays ++ q.arrays, p.funcs ++ q.funcs⟩
section
variable {T T' : List Tok} {d : Nat}
end
end Go.Stele
namespace Go.Stele
/-- The same, d tokens further on, but for the line of an error. -/
def Off {A : Type} (d : Nat) (r r' : OR A) : Prop := match r, r' with
 | none, none => True
 | some (.ok v i op), some (.ok v' i' op') => v = v' ∧ i + d = i' ∧ op = op'
 | some (.err _ e), some (.err _ e') => e = e'
 | _, _ => False
/-- The tokens of T stand in T' from d on, but for their lines. -/
structure OffT (T T' : List Tok) (d : Nat) : Prop where
 tok : ∀ i xs, isTok T' (i + d) xs = isTok T i xs
 text : ∀ i, textAt T' (i + d) = textAt T i
 kind : ∀ i, kindAt T' (i + d) = kindAt T i
 len : T'.length = T.length + d
theorem OffT.of (A T : List Tok) : OffT T (A ++ T) A.length := by
 have hg : ∀ i : Nat, (A ++ T)[i + A.length]? = T[i]? := fun i => by rw [List.getElem?_append_right (by omega), Nat.add_sub_cancel]
 refine ⟨fun i xs => ?_, fun i => ?_, fun i => ?_, by rw [List.length_append, Nat.add_comm]⟩
 ·unfold isTok; rw [hg]
 ·unfold textAt; rw [hg]
 ·unfold kindAt; rw [hg]
theorem Off.ok {A : Type} {d : Nat} {v : A} {i op : Nat} : Off d (some (.ok v i op)) (some (.ok v (i + d) op)) := ⟨rfl, rfl, rfl⟩
theorem Off.ok1 {A : Type} {d : Nat} {v : A} {i op : Nat} : Off d (some (.ok v (i + 1) op)) (some (.ok v (i + d + 1) op)) := ⟨rfl, by omega, rfl⟩
theorem Off.none {A : Type} {d : Nat} : Off (A := A) d none none := trivial
theorem Off.syn {A : Type} {T T' : List Tok} {i j d : Nat} : Off (A := A) d (some (synErr T i)) (some (synErr T' j)) := rfl
theorem Off.bind {A B : Type} {d : Nat} {r r' : OR A} {f f' : A → Nat → Nat → OR B} (h : Off d r r') (hf : ∀ v i op, Off d (f v i op) (f' v (i + d) op)) : Off d (obind r f) (obind r' f') := by
 match r, r', h with
 | .none, .none, _ => exact trivial
 | .some (.ok v i op), .some (.ok v' i' op'), ⟨h1, h2, h3⟩ =>
  subst h1 h2 h3
  exact hf v i op
 | .some (.err l e), .some (.err l' e'), h => exact h
theorem Off.ite {A : Type} {d : Nat} {c : Prop} [Decidable c] {a b a' b' : OR A} (h1 : Off d a a') (h2 : Off d b b') : Off d (if c then a else b) (if c then a' else b') := by
 split
 ·exact h1
 ·exact h2
section
variable {T T' : List Tok} {d : Nat} (hS : OffT T T' d)
include hS
theorem off_word (k : Int) (i op : Nat) : Off d (some (sWord T k i op)) (some (sWord T' k (i + d) op)) := by
 have h1 := hS.kind i
 have h2 := hS.text i
 have h3 := hS.len
 unfold sWord
 unfold kindAt at h1
 unfold textAt at h2
 cases ha : T[i]? with
 | none =>
  have : T'[i + d]? = .none := by
   rw [List.getElem?_eq_none_iff] at ha ⊢
   omega
  rw [this]
  exact Off.syn
 | some t =>
  have hi := get_lt ha
  have : T'[i + d]? = some T'[i + d] := List.getElem?_eq_getElem (by omega)
  rw [this] at h1 h2 ⊢
  rw [ha] at h1 h2
  simp only at h1 h2 ⊢
  rw [h1, h2]
  split
  ·exact Off.ok1
  ·exact Off.syn
theorem off_need (x : List UInt8) (i op : Nat) : Off d (some (sNeed T x i op)) (some (sNeed T' x (i + d) op)) := by
 unfold sNeed
 rw [hS.tok]
 split
 ·exact Off.ok1
 ·exact Off.syn
theorem off_begin (x : List UInt8) (i op : Nat) : Off d (some (sBegin T x i op)) (some (sBegin T' x (i + d) op)) := by
 unfold sBegin
 rw [hS.tok]
 split
 ·split
  ·exact rfl
  ·exact Off.ok1
 ·exact Off.syn
theorem off_end (x : List UInt8) (i op : Nat) : Off d (some (sEnd T x i op)) (some (sEnd T' x (i + d) op)) := by
 unfold sEnd sNeed
 rw [hS.tok]
 split
 ·exact Off.ok1
 ·exact Off.syn
theorem off_number (i op : Nat) : Off d (some (sNumber T i op)) (some (sNumber T' (i + d) op)) := by
 have := off_word hS 1 i op
 unfold sNumber
 match sWord T 1 i op, sWord T' 1 (i + d) op, this with
 | .ok v i op, .ok v' i' op', ⟨h1, h2, h3⟩ =>
  subst h1 h2 h3
  exact Off.ok
 | .err l e, .err l' e', h => exact h
theorem namesLoop_off : ∀ (f : Nat) (acc : List (List UInt8)) (i op : Nat), Off d (sNamesLoop T f acc i op) (sNamesLoop T' f acc (i + d) op)
 | 0, _, _, _ => Off.none
 | f + 1, acc, i, op => by
  rw [sNamesLoop, sNamesLoop]
  try simp only [Nat.add_right_comm _ d 1]
  rw [hS.tok]
  exact Off.ite (Off.bind (off_word hS _ _ _) fun _ _ _ => namesLoop_off f _ _ _) Off.ok
theorem names_off (f i op : Nat) : Off d (sNames T f i op) (sNames T' f (i + d) op) := Off.bind (off_word hS _ _ _) fun _ _ _ => namesLoop_off hS f _ _ _
theorem ex_off : ∀ f : Nat, (∀ k i op, Off d (eLev T f k i op) (eLev T' f k (i + d) op)) ∧ (∀ k e i op, Off d (eLoop T f k e i op) (eLoop T' f k e (i + d) op)) ∧ (∀ i op, Off d (eUnary T f i op) (eUnary T' f (i + d) op)) ∧ (∀ i op, Off d (ePrim T f i op) (ePrim T' f (i + d) op)) ∧
  (∀ i op, Off d (eIndex T f i op) (eIndex T' f (i + d) op)) ∧ (∀ i op, Off d (eArgs T f i op) (eArgs T' f (i + d) op)) ∧ (∀ acc i op, Off d (eArgsLoop T f acc i op) (eArgsLoop T' f acc (i + d) op))
 | 0 => ⟨fun _ _ _ => by rw [eLev, eLev]; exact Off.none, fun _ _ _ _ => by rw [eLoop, eLoop]; exact Off.none, fun _ _ => by rw [eUnary, eUnary]; exact Off.none, fun _ _ => by rw [ePrim, ePrim]; exact Off.none, fun _ _ => by rw [eIndex, eIndex]; exact Off.none, fun _ _ => by rw [eArgs, eArgs]; exact Off.none, fun _ _ _ => by rw [eArgsLoop, eArgsLoop]; exact Off.none⟩
 | f + 1 => by
  obtain ⟨hL, hO, hU, hP, hI, hA, hB⟩ := ex_off f
  refine ⟨fun k i op => ?_, fun k e i op => ?_, fun i op => ?_, fun i op => ?_, fun i op => ?_, fun i op => ?_, fun acc i op => ?_⟩
  ·rw [eLev, eLev]
   try simp only [Nat.add_right_comm _ d 1]
   exact Off.ite (hU _ _) (Off.bind (hL _ _ _) fun _ _ _ => hO _ _ _ _)
  ·rw [eLoop, eLoop]
   try simp only [Nat.add_right_comm _ d 1]
   rw [hS.tok, hS.text]
   exact Off.ite (Off.bind (hL _ _ _) fun _ _ _ => Off.ite Off.ok (hO _ _ _ _)) Off.ok
  ·rw [eUnary, eUnary]
   try simp only [Nat.add_right_comm _ d 1]
   rw [hS.tok, hS.tok]
   exact Off.ite (Off.bind (off_begin hS _ _ _) fun _ _ _ => Off.bind (hU _ _) fun _ _ _ => Off.ok) (Off.ite (Off.bind (off_begin hS _ _ _) fun _ _ _ => Off.bind (hU _ _) fun _ _ _ => Off.ok) (hP _ _))
  ·rw [ePrim, ePrim]
   try simp only [Nat.add_right_comm _ d 1]
   rw [hS.tok, hS.kind]
   refine Off.ite (Off.bind (off_begin hS _ _ _) fun _ _ _ => Off.bind (hL _ _ _) fun _ _ _ => Off.bind (off_end hS _ _ _) fun _ _ _ => Off.ok) (Off.ite (Off.bind (off_number hS _ _) fun _ _ _ => Off.ok) (Off.bind (off_word hS _ _ _) fun _ _ _ => ?_))
   rw [hS.tok, hS.tok]
   exact Off.ite (Off.bind (hI _ _) fun _ _ _ => Off.ok) (Off.ite (Off.bind (hA _ _) fun _ _ _ => Off.ok) Off.ok)
  ·rw [eIndex, eIndex]
   try simp only [Nat.add_right_comm _ d 1]
   exact Off.bind (off_begin hS _ _ _) fun _ _ _ => Off.bind (hL _ _ _) fun _ _ _ => Off.bind (off_end hS _ _ _) fun _ _ _ => Off.ok
  ·rw [eArgs, eArgs]
   try simp only [Nat.add_right_comm _ d 1]
   exact Off.bind (off_begin hS _ _ _) fun _ _ _ => Off.bind (hB _ _ _) fun _ _ _ => Off.bind (off_end hS _ _ _) fun _ _ _ => Off.ok
  ·rw [eArgsLoop, eArgsLoop]
   try simp only [Nat.add_right_comm _ d 1]
   try simp only [Nat.add_right_comm _ d 1]
   rw [hS.tok]
   refine Off.ite Off.ok (Off.bind ?_ fun _ _ _ => Off.bind (hL _ _ _) fun _ _ _ => hB _ _ _)
   split
   ·exact Off.ok
   ·exact off_need hS _ _ _
theorem st_off : ∀ f : Nat, (∀ i op, Off d (sBlock T f i op) (sBlock T' f (i + d) op)) ∧ (∀ acc i op, Off d (sStmts T f acc i op) (sStmts T' f acc (i + d) op)) ∧ (∀ i op, Off d (sStmt T f i op) (sStmt T' f (i + d) op)) ∧ (∀ i op, Off d (sSimple T f i op) (sSimple T' f (i + d) op))
 | 0 => ⟨fun _ _ => by rw [sBlock, sBlock]; exact Off.none, fun _ _ _ => by rw [sStmts, sStmts]; exact Off.none, fun _ _ => by rw [sStmt, sStmt]; exact Off.none, fun _ _ => by rw [sSimple, sSimple]; exact Off.none⟩
 | f + 1 => by
  obtain ⟨hB, hC, hT, hM⟩ := st_off f
  obtain ⟨hL, _, _, _, hI, hA, _⟩ := ex_off hS f
  refine ⟨fun i op => ?_, fun acc i op => ?_, fun i op => ?_, fun i op => ?_⟩
  ·rw [sBlock, sBlock]
   try simp only [Nat.add_right_comm _ d 1]
   exact Off.bind (off_begin hS _ _ _) fun _ _ _ => Off.bind (hC _ _ _) fun _ _ _ => Off.bind (off_end hS _ _ _) fun _ _ _ => Off.ok
  ·rw [sStmts, sStmts]
   try simp only [Nat.add_right_comm _ d 1]
   try simp only [Nat.add_right_comm _ d 1]
   rw [hS.tok]
   exact Off.ite Off.ok (Off.bind (hT _ _) fun _ _ _ => hC _ _ _)
  ·rw [sStmt, sStmt]
   try simp only [Nat.add_right_comm _ d 1]
   rw [hS.tok, hS.tok]
   refine Off.ite (Off.bind (hL _ _ _) fun _ _ _ => Off.bind (hB _ _) fun _ _ _ => ?_) (Off.ite (Off.bind (hL _ _ _) fun _ _ _ => Off.bind (hB _ _) fun _ _ _ => Off.ok) (Off.bind (hM _ _) fun _ _ _ => Off.bind (off_need hS _ _ _) fun _ _ _ => Off.ok))
   try simp only [Nat.add_right_comm _ d 1]
   rw [hS.tok]
   exact Off.ite (Off.bind (hB _ _) fun _ _ _ => Off.ok) Off.ok
  ·rw [sSimple, sSimple]
   try simp only [Nat.add_right_comm _ d 1]
   rw [hS.tok, hS.tok]
   refine Off.ite (Off.bind (hL _ _ _) fun _ _ _ => Off.ok) (Off.ite Off.ok (Off.bind (off_word hS _ _ _) fun _ _ _ => ?_))
   rw [hS.tok, hS.tok]
   exact Off.ite (Off.bind (hA _ _) fun _ _ _ => Off.ok) (Off.ite (Off.bind (hI _ _) fun _ _ _ => Off.bind (off_need hS _ _ _) fun _ _ _ => Off.bind (hL _ _ _) fun _ _ _ => Off.ok) (Off.bind (off_need hS _ _ _) fun _ _ _ => Off.bind (hL _ _ _) fun _ _ _ => Off.ok))
theorem vars_off : ∀ (f : Nat) (acc : List (List UInt8)) (i op : Nat), Off d (sVars T f acc i op) (sVars T' f acc (i + d) op)
 | 0, _, _, _ => Off.none
 | f + 1, acc, i, op => by
  rw [sVars, sVars]
  try simp only [Nat.add_right_comm _ d 1]
  rw [hS.tok]
  exact Off.ite (Off.bind (names_off hS f _ _) fun _ _ _ => Off.bind (off_need hS _ _ _) fun _ _ _ => vars_off f _ _ _) Off.ok
theorem func_off (f i op : Nat) : Off d (sFunc T f i op) (sFunc T' f (i + d) op) := by
 unfold sFunc
 refine Off.bind (off_word hS _ _ _) fun _ _ _ => Off.bind (off_begin hS _ _ _) fun _ _ _ => Off.bind ?_ fun _ _ _ => Off.bind (off_end hS _ _ _) fun _ _ _ => Off.bind (off_begin hS _ _ _) fun _ _ _ => Off.bind (vars_off hS f _ _ _) fun _ _ _ => Off.bind ((st_off hS f).2.1 _ _ _) fun _ _ _ => Off.bind (off_end hS _ _ _) fun _ _ _ => Off.ok
 rw [hS.tok]
 exact Off.ite Off.ok (names_off hS f _ _)
theorem array_off (i op : Nat) : Off d (sArray T i op) (sArray T' (i + d) op) := by
 unfold sArray
 exact Off.bind (off_word hS _ _ _) fun _ _ _ => Off.bind (off_begin hS _ _ _) fun _ _ _ => Off.bind (off_number hS _ _) fun _ _ _ => Off.bind (off_end hS _ _ _) fun _ _ _ => Off.bind (off_need hS _ _ _) fun _ _ _ => Off.ok
/-- The same program behind another one. -/
def OffQ (q : Pr) (d : Nat) (r r' : OR Pr) : Prop := match r, r' with
 | none, none => True
 | some (.ok v i op), some (.ok v' i' op') => v' = q.app v ∧ i + d = i' ∧ op = op'
 | some (.err _ e), some (.err _ e') => e = e'
 | _, _ => False
omit hS in
theorem OffQ.bind {A : Type} {q : Pr} {r r' : OR A} {f f' : A → Nat → Nat → OR Pr} (h : Off d r r') (hf : ∀ v i op, OffQ q d (f v i op) (f' v (i + d) op)) : OffQ q d (obind r f) (obind r' f') := by
 match r, r', h with
 | .none, .none, _ => exact trivial
 | .some (.ok v i op), .some (.ok v' i' op'), ⟨h1, h2, h3⟩ =>
  subst h1 h2 h3
  exact hf v i op
 | .some (.err l e), .some (.err l' e'), h => exact h
omit hS in
theorem OffQ.ite {q : Pr} {c : Prop} [Decidable c] {a b a' b' : OR Pr} (h1 : OffQ q d a a') (h2 : OffQ q d b b') : OffQ q d (if c then a else b) (if c then a' else b') := by
 split
 ·exact h1
 ·exact h2
theorem prog_off (q : Pr) : ∀ (f : Nat) (p : Pr) (i op : Nat), OffQ q d (sProg T f p i op) (sProg T' f (q.app p) (i + d) op)
 | 0, _, _, _ => trivial
 | f + 1, p, i, op => by
  rw [sProg, sProg]
  try simp only [Nat.add_right_comm _ d 1]
  rw [hS.tok, hS.tok, hS.tok, hS.len]
  have e1 : (T.length + d ≤ i + d) = (T.length ≤ i) := by apply propext; omega
  have e2 : ∀ l, { q.app p with vars := (q.app p).vars ++ l } = q.app { p with vars := p.vars ++ l } := fun l => by simp only [Pr.app, List.append_assoc]
  have e3 : ∀ a, { q.app p with arrays := (q.app p).arrays ++ [a] } = q.app { p with arrays := p.arrays ++ [a] } := fun l => by simp only [Pr.app, List.append_assoc]
  have e4 : ∀ a, { q.app p with funcs := (q.app p).funcs ++ [a] } = q.app { p with funcs := p.funcs ++ [a] } := fun l => by simp only [Pr.app, List.append_assoc]
  simp only [e1, e2, e3, e4]
  refine OffQ.ite ⟨rfl, rfl, rfl⟩ (OffQ.ite (OffQ.bind (vars_off hS f _ _ _) fun _ _ _ => prog_off q f _ _ _) (OffQ.ite (OffQ.bind (array_off hS _ _) fun _ _ _ => prog_off q f _ _ _) (OffQ.ite (OffQ.bind (func_off hS f _ _) fun _ _ _ => prog_off q f _ _ _) ?_)))
  exact (rfl : (3 : Int) = 3)
end
end Go.Stele
set_option maxRecDepth 100000
namespace Go.Stele
namespace Unu
/-- The declarations, a blank short. -/
def U : List UInt8 := [118, 97, 114, 32, 117, 110, 117, 115, 101, 100, 97, 59, 32, 102, 117, 110, 99, 32, 117, 110, 117, 115, 101, 100, 99, 40, 117, 110, 117, 115, 101, 100, 100, 41, 32, 123, 32, 117, 110, 117, 115, 101, 100, 97, 32, 61, 32, 117, 110, 117, 115, 101, 100, 100, 59, 32, 111, 117, 116, 40, 49, 41, 59, 32, 114, 101, 116, 117, 114, 110, 32, 117, 110, 117, 115, 101, 100, 97, 59, 32, 125]
def UT : List Tok := [⟨3, [118, 97, 114], 1⟩, ⟨2, [117, 110, 117, 115, 101, 100, 97], 1⟩, ⟨4, [59], 1⟩, ⟨3, [102, 117, 110, 99], 1⟩, ⟨2, [117, 110, 117, 115, 101, 100, 99], 1⟩, ⟨4, [40], 1⟩, ⟨2, [117, 110, 117, 115, 101, 100, 100], 1⟩, ⟨4, [41], 1⟩, ⟨4, [123], 1⟩, ⟨2, [117, 110, 117, 115, 101, 100, 97], 1⟩, ⟨4, [61], 1⟩, ⟨2, [117, 110, 117, 115, 101, 100, 100], 1⟩, ⟨4, [59], 1⟩, ⟨2, [111, 117, 116], 1⟩, ⟨4, [40], 1⟩, ⟨1, [49], 1⟩, ⟨4, [41], 1⟩, ⟨4, [59], 1⟩, ⟨3, [114, 101, 116, 117, 114, 110], 1⟩, ⟨2, [117, 110, 117, 115, 101, 100, 97], 1⟩, ⟨4, [59], 1⟩, ⟨4, [125], 1⟩]
def ka : Nm := [117, 110, 117, 115, 101, 100, 97]
def kc : Nm := [117, 110, 117, 115, 101, 100, 99]
def kd : Nm := [117, 110, 117, 115, 101, 100, 100]
def word : Nm := [117, 110, 117, 115, 101, 100]
def fn : FnD := ⟨kc, [kd], [], [.mk 1 ka [] [.mk nVar 0 kd []] [] [], .mk 6 [] [] [.mk nCall 0 [111, 117, 116] [.mk nNum 1 [] []]] [] [], .mk 5 [] [] [.mk nVar 0 ka []] [] []]⟩
def prog : Pr := ⟨[ka], [], [fn]⟩
theorem lex_nest (F : Nat) (X : List UInt8) : lexP (F + 33) (U ++ 32 :: X) 1 = Src.nest UT (lexP F (32 :: X) 1) := by kernel_rfl
theorem lex_at (X : List UInt8) : lexAt (U ++ 32 :: X) 1 = Src.nest UT (lexAt X 1) := by
 have e1 := lex_nest ((U ++ 32 :: X).length) X
 rw [lexAt_eq (by omega), lexAt_eq (by rw [List.length_append]; omega), lexAt_white (by decide)] at e1
 exact e1
theorem lex_ok {s : List UInt8} {B : List Tok} (h : lexAt s 1 = .ok B) : lexAt (U ++ 32 :: s) 1 = .ok (UT ++ B) := by
 rw [lex_at, h, Src.nest_ok]
theorem nest_err : ∀ (A : List Tok) (x : Int × Int), Src.nest A (.error x) = .error x
 | [], x => rfl
 | t :: A, x => by rw [Src.nest, nest_err A x]; rfl
theorem lex_err {s : List UInt8} {x : Int × Int} (h : lexAt s 1 = .error x) : lexAt (U ++ 32 :: s) 1 = .error x := by
 rw [lex_at, h, nest_err]
theorem again_a : Again ⟨2, ka, 0⟩ := by unfold Again; decide +kernel
theorem again_c : Again ⟨2, kc, 0⟩ := by unfold Again; decide +kernel
theorem again_d : Again ⟨2, kd, 0⟩ := by unfold Again; decide +kernel
def fnK : List KT := (3, kwFunc) :: (2, kc) :: sg 40 :: ([(2, kd)] ++ sg 41 :: sg 123 :: (varK [] ++ ([(2, ka), sg 61, (2, kd), sg 59, (2, Src.outB), sg 40, (1, Go.Lib.decDigits 1), sg 41, sg 59, (3, kwReturn), (2, ka), sg 59] ++ [sg 125])))
theorem fn_print : PF fn fnK 2 := by
 have h1 : PS (.mk 1 ka [] [.mk nVar 0 kd []] [] []) _ _ := PS.assign again_a (.var again_d)
 have h2 : PS (.mk 6 [] [] [.mk nCall 0 [111, 117, 116] [.mk nNum 1 [] []]] [] []) _ _ := PS.call Src.out_again (.one (.num (by decide)))
 have h3 : PS (.mk 5 [] [] [.mk nVar 0 ka []] [] []) _ _ := PS.ret (.var again_a)
 exact PF.mk (nm := kc) (ps := [kd]) (ls := []) again_c (fun y hy => by rw [List.mem_singleton.1 hy]; exact again_d) (fun y hy => by cases hy) (PSs.cons h1 (.cons h2 (.cons h3 .nil)))
theorem UT_kt : UT.map kt = varK [ka] ++ fnK := by decide +kernel
theorem first (B : List Tok) : ∃ f0, ∀ f, f0 ≤ f → sProg (UT ++ B) (f + 2) ⟨[], [], []⟩ 0 0 = sProg (UT ++ B) f prog 22 0 := by
 have hA : At (UT ++ B) 0 (varK [ka] ++ (fnK ++ B.map kt)) := by
  unfold At
  rw [List.drop_zero, List.map_append, UT_kt, List.append_assoc]
 obtain ⟨f1, h1⟩ := vars_parse (op := 0) rfl hA
 obtain ⟨e1, e2, e3, f2, h2⟩ := func_parse fn_print (by decide) hA.skip
 have hA1 : At (UT ++ B) 0 ((3, kwVar) :: (2, ka) :: sg 59 :: (fnK ++ B.map kt)) := hA
 refine ⟨f1 + f2, fun f hf => ?_⟩
 have h1' := h1 (f + 1) (by omega)
 have h2' := h2 f (by omega)
 simp only at h1' h2'
 rw [sProg, if_neg (by have := hA1.lt; omega), if_pos (by rw [hA1.kw]; decide), h1']
 show sProg (UT ++ B) (f + 1) ⟨[ka], [], []⟩ (0 + (varK [ka]).length) 0 = _
 rw [sProg, if_neg (by have := isTok_lt e1; omega), if_neg (by rw [e3]; decide), if_neg (by rw [e2]; decide), if_pos e1, h2']
 rfl
/-- The program with the declarations, or the same error. -/
theorem parse {B : List Tok} {r : Res Pr} (h : sProg B (10 * B.length + 20) ⟨[], [], []⟩ 0 0 = some r) :
  match r with
  | .ok p i op => ∃ i', sProg (UT ++ B) (10 * (UT ++ B).length + 20) ⟨[], [], []⟩ 0 0 = some (.ok (prog.app p) i' op)
  | .err l e => ∃ l', sProg (UT ++ B) (10 * (UT ++ B).length + 20) ⟨[], [], []⟩ 0 0 = some (.err l' e) := by
 obtain ⟨f0, hf⟩ := first B
 obtain ⟨r', hr'⟩ := sProg_ends (UT ++ B) (10 * (UT ++ B).length + 20) ⟨[], [], []⟩ 0 0 (Nat.zero_le _) (by omega)
 have hl : (UT ++ B).length = 22 + B.length := by rw [List.length_append]; rfl
 have h1 := prog_off (OffT.of UT B) prog (10 * (UT ++ B).length + 20 + f0) ⟨[], [], []⟩ 0 0
 have h2 := prog_le B (10 * B.length + 20) (10 * (UT ++ B).length + 20 + f0) _ 0 0 (by omega) _ h
 have h3 := prog_le (UT ++ B) (10 * (UT ++ B).length + 20) (10 * (UT ++ B).length + 20 + f0 + 2) _ 0 0 (by omega) _ hr'
 rw [hf _ (by omega)] at h3
 rw [h2, show prog.app ⟨[], [], []⟩ = prog from rfl, Nat.zero_add, show UT.length = 22 from rfl, h3] at h1
 rw [hr']
 match r, r', h1 with
 | .ok v i op, .ok v' i' op', ⟨g1, g2, g3⟩ => exact ⟨i', by rw [g1, g3]⟩
 | .err l e, .err l' e', g => exact ⟨l', by have : e = e' := g; rw [this]⟩
end Unu
end Go.Stele
namespace Go.Stele
mutual
/-- All names in the expression are so. -/
def nmE (Q : List UInt8 → Prop) : Ex → Prop
 | .mk op num name args => Q name ∧ nmEs Q args
def nmEs (Q : List UInt8 → Prop) : List Ex → Prop
 | [] => True
 | x :: l => nmE Q x ∧ nmEs Q l
end
mutual
def nmS (Q : List UInt8 → Prop) : Sm → Prop
 | .mk kind name index value thn els => Q name ∧ nmEs Q index ∧ nmEs Q value ∧ nmSs Q thn ∧ nmSs Q els
def nmSs (Q : List UInt8 → Prop) : List Sm → Prop
 | [] => True
 | x :: l => nmS Q x ∧ nmSs Q l
end
structure nmF (Q : List UInt8 → Prop) (f : FnD) : Prop where
 name : Q f.name
 params : ∀ x ∈ f.params, Q x
 locals : ∀ x ∈ f.locals, Q x
 body : nmSs Q f.body
structure nmP (Q : List UInt8 → Prop) (p : Pr) : Prop where
 vars : ∀ x ∈ p.vars, Q x
 arrays : ∀ a ∈ p.arrays, Q a.name
 funcs : ∀ f ∈ p.funcs, nmF Q f
theorem nmEs_snoc {Q : List UInt8 → Prop} {a : Ex} (ha : nmE Q a) : ∀ {l : List Ex}, nmEs Q l → nmEs Q (l ++ [a])
 | [], _ => ⟨ha, trivial⟩
 | x :: l, h => ⟨h.1, nmEs_snoc ha h.2⟩
theorem nmSs_snoc {Q : List UInt8 → Prop} {a : Sm} (ha : nmS Q a) : ∀ {l : List Sm}, nmSs Q l → nmSs Q (l ++ [a])
 | [], _ => ⟨ha, trivial⟩
 | x :: l, h => ⟨h.1, nmSs_snoc ha h.2⟩
section
variable {T : List Tok} {Q : List UInt8 → Prop}
def Nms (T : List Tok) (Q : List UInt8 → Prop) : Prop := Q [] ∧ ∀ t ∈ T, t.kind = 2 → Q t.text
theorem wh_word (hT : Nms T Q) {i op : Nat} : Wh (fun s _ _ => Q s) (some (sWord T 2 i op)) := fun v i' op' h => by
 injection h with h
 unfold sWord at h
 split at h
 ·rename_i t ht
  split at h
  ·rename_i hk
   cases h
   exact hT.2 t (List.mem_of_getElem? ht) hk
  ·cases h
 ·cases h
theorem wh_do {A B : Type} {r : OR A} {k : A → Nat → Nat → OR B} {R : B → Nat → Nat → Prop} (hk : ∀ v i op, Wh R (k v i op)) : Wh R (obind r k) := wh_any fun v i op _ => hk v i op
theorem ex_nms (hT : Nms T Q) : ∀ f : Nat, (∀ k i op, Wh (fun e _ _ => nmE Q e) (eLev T f k i op)) ∧ (∀ k e i op, nmE Q e → Wh (fun e _ _ => nmE Q e) (eLoop T f k e i op)) ∧
  (∀ i op, Wh (fun e _ _ => nmE Q e) (eUnary T f i op)) ∧ (∀ i op, Wh (fun e _ _ => nmE Q e) (ePrim T f i op)) ∧ (∀ i op, Wh (fun e _ _ => nmE Q e) (eIndex T f i op)) ∧ (∀ i op, Wh (fun l _ _ => nmEs Q l) (eArgs T f i op)) ∧
  (∀ acc i op, nmEs Q acc → Wh (fun l _ _ => nmEs Q l) (eArgsLoop T f acc i op))
 | 0 => ⟨fun _ _ _ => by rw [eLev]; exact wh_none, fun _ _ _ _ _ => by rw [eLoop]; exact wh_none, fun _ _ => by rw [eUnary]; exact wh_none, fun _ _ => by rw [ePrim]; exact wh_none, fun _ _ => by rw [eIndex]; exact wh_none, fun _ _ => by rw [eArgs]; exact wh_none, fun _ _ _ _ => by rw [eArgsLoop]; exact wh_none⟩
 | f + 1 => by
  obtain ⟨hL, hO, hU, hP, hI, hA, hB⟩ := ex_nms hT f
  refine ⟨fun k i op => ?_, fun k e i op hP0 => ?_, fun i op => ?_, fun i op => ?_, fun i op => ?_, fun i op => ?_, fun acc i op hP0 => ?_⟩
  ·rw [eLev]
   split
   ·exact hU i op
   ·exact wh_bind (hL _ _ _) fun v i' op' h => hO _ _ _ _ h
  ·rw [eLoop]
   split
   ·refine wh_bind (hL _ _ _) fun v i' op' h => ?_
    have hb : nmE Q (.mk (textAt T i) 0 [] [e, v]) := ⟨hT.1, hP0, h, trivial⟩
    split
    ·exact wh_ok hb
    ·exact hO _ _ _ _ hb
   ·exact wh_ok hP0
  ·rw [eUnary]
   split
   ·exact wh_do fun _ _ _ => wh_bind (hU _ _) fun v i' op' h => wh_ok ⟨hT.1, h, trivial⟩
   ·split
    ·exact wh_do fun _ _ _ => wh_bind (hU _ _) fun v i' op' h => wh_ok ⟨hT.1, h, trivial⟩
    ·exact hP i op
  ·rw [ePrim]
   split
   ·exact wh_do fun _ _ _ => wh_bind (hL _ _ _) fun v i' op' h => wh_do fun _ _ _ => wh_ok h
   ·split
    ·exact wh_do fun _ _ _ => wh_ok ⟨hT.1, trivial⟩
    ·refine wh_bind (wh_word hT) fun s _ _ hs => ?_
     split
     ·exact wh_bind (hI _ _) fun v i' op' h => wh_ok ⟨hs, h, trivial⟩
     ·split
      ·exact wh_bind (hA _ _) fun v i' op' h => wh_ok ⟨hs, h⟩
      ·exact wh_ok ⟨hs, trivial⟩
  ·rw [eIndex]
   exact wh_do fun _ _ _ => wh_bind (hL _ _ _) fun v i' op' h => wh_do fun _ _ _ => wh_ok h
  ·rw [eArgs]
   exact wh_do fun _ _ _ => wh_bind (hB [] _ _ trivial) fun v i' op' h => wh_do fun _ _ _ => wh_ok h
  ·rw [eArgsLoop]
   split
   ·exact wh_ok hP0
   ·exact wh_do fun _ _ _ => wh_bind (hL _ _ _) fun v i' op' h => hB _ _ _ (nmEs_snoc h hP0)
theorem st_nms (hT : Nms T Q) : ∀ f : Nat, (∀ i op, Wh (fun l _ _ => nmSs Q l) (sBlock T f i op)) ∧ (∀ acc i op, nmSs Q acc → Wh (fun l _ _ => nmSs Q l) (sStmts T f acc i op)) ∧
  (∀ i op, Wh (fun s _ _ => nmS Q s) (sStmt T f i op)) ∧ (∀ i op, Wh (fun s _ _ => nmS Q s) (sSimple T f i op))
 | 0 => ⟨fun _ _ => by rw [sBlock]; exact wh_none, fun _ _ _ _ => by rw [sStmts]; exact wh_none, fun _ _ => by rw [sStmt]; exact wh_none, fun _ _ => by rw [sSimple]; exact wh_none⟩
 | f + 1 => by
  obtain ⟨hB, hL, hS, hM⟩ := st_nms hT f
  obtain ⟨eL, _, _, _, eI, eA, _⟩ := ex_nms hT f
  refine ⟨fun i op => ?_, fun acc i op hP0 => ?_, fun i op => ?_, fun i op => ?_⟩
  ·rw [sBlock]
   exact wh_do fun _ _ _ => wh_bind (hL [] _ _ trivial) fun v i' op' h => wh_do fun _ _ _ => wh_ok h
  ·rw [sStmts]
   split
   ·exact wh_ok hP0
   ·exact wh_bind (hS i op) fun v i' op' h => hL _ _ _ (nmSs_snoc h hP0)
  ·rw [sStmt]
   split
   ·refine wh_bind (eL 0 _ _) fun v i1 op1 h => wh_bind (hB _ _) fun th i2 op2 h2 => ?_
    split
    ·exact wh_bind (hB _ _) fun el i3 op3 h3 => wh_ok ⟨hT.1, trivial, ⟨h, trivial⟩, h2, h3⟩
    ·exact wh_ok ⟨hT.1, trivial, ⟨h, trivial⟩, h2, trivial⟩
   ·split
    ·exact wh_bind (eL 0 _ _) fun v i1 op1 h => wh_bind (hB _ _) fun th i2 op2 h2 => wh_ok ⟨hT.1, trivial, ⟨h, trivial⟩, h2, trivial⟩
    ·exact wh_bind (hM i op) fun v i1 op1 h => wh_do fun _ _ _ => wh_ok h
  ·rw [sSimple]
   split
   ·exact wh_bind (eL 0 _ _) fun v i1 op1 h => wh_ok ⟨hT.1, trivial, ⟨h, trivial⟩, trivial, trivial⟩
   ·split
    ·exact wh_ok ⟨hT.1, trivial, trivial, trivial, trivial⟩
    ·refine wh_bind (wh_word hT) fun s _ _ hs => ?_
     split
     ·exact wh_bind (eA _ _) fun v i1 op1 h => wh_ok ⟨hT.1, trivial, ⟨⟨hs, h⟩, trivial⟩, trivial, trivial⟩
     ·split
      ·exact wh_bind (eI _ _) fun v i1 op1 h => wh_do fun _ _ _ => wh_bind (eL 0 _ _) fun e i2 op2 h2 => wh_ok ⟨hs, ⟨h, trivial⟩, ⟨h2, trivial⟩, trivial, trivial⟩
      ·exact wh_do fun _ _ _ => wh_bind (eL 0 _ _) fun e i2 op2 h2 => wh_ok ⟨hs, trivial, ⟨h2, trivial⟩, trivial, trivial⟩
theorem mem_snoc {l : List (List UInt8)} {s : List UInt8} (h : ∀ x ∈ l, Q x) (hs : Q s) : ∀ x ∈ l ++ [s], Q x := fun x hx => by
 rcases List.mem_append.1 hx with h1 | h1
 ·exact h x h1
 ·rw [List.mem_singleton.1 h1]; exact hs
theorem namesLoop_nms (hT : Nms T Q) : ∀ (f : Nat) (acc : List (List UInt8)) (i op : Nat), (∀ x ∈ acc, Q x) → Wh (fun l _ _ => ∀ x ∈ l, Q x) (sNamesLoop T f acc i op)
 | 0, acc, i, op, _ => by rw [sNamesLoop]; exact wh_none
 | f + 1, acc, i, op, h => by
  rw [sNamesLoop]
  split
  ·exact wh_bind (wh_word hT) fun s _ _ hs => namesLoop_nms hT f _ _ _ (mem_snoc h hs)
  ·exact wh_ok h
theorem names_nms (hT : Nms T Q) (f i op : Nat) : Wh (fun l _ _ => ∀ x ∈ l, Q x) (sNames T f i op) := by
 unfold sNames
 exact wh_bind (wh_word hT) fun s _ _ hs => namesLoop_nms hT f _ _ _ fun x hx => by rw [List.mem_singleton.1 hx]; exact hs
theorem vars_nms (hT : Nms T Q) : ∀ (f : Nat) (acc : List (List UInt8)) (i op : Nat), (∀ x ∈ acc, Q x) → Wh (fun l _ _ => ∀ x ∈ l, Q x) (sVars T f acc i op)
 | 0, acc, i, op, _ => by rw [sVars]; exact wh_none
 | f + 1, acc, i, op, h => by
  rw [sVars]
  split
  ·exact wh_bind (names_nms hT f _ _) fun l _ _ hl => wh_do fun _ _ _ => vars_nms hT f _ _ _ fun x hx => by
    rcases List.mem_append.1 hx with h1 | h1
    ·exact h x h1
    ·exact hl x h1
  ·exact wh_ok h
theorem func_nms (hT : Nms T Q) (f i op : Nat) : Wh (fun a _ _ => nmF Q a) (sFunc T f i op) := by
 unfold sFunc
 refine wh_bind (wh_word hT) fun nm _ _ hnm => wh_do fun _ _ _ => wh_bind (P := fun l _ _ => ∀ x ∈ l, Q x) ?_ fun ps _ _ hps => wh_do fun _ _ _ => wh_do fun _ _ _ => wh_bind (vars_nms hT f [] _ _ fun x hx => by cases hx) fun ls _ _ hls => wh_bind ((st_nms hT f).2.1 [] _ _ trivial) fun b _ _ hb => wh_do fun _ _ _ => wh_ok ⟨hnm, hps, hls, hb⟩
 split
 ·exact wh_ok fun x hx => by cases hx
 ·exact names_nms hT f _ _
theorem array_nms (hT : Nms T Q) (i op : Nat) : Wh (fun a _ _ => Q a.name) (sArray T i op) := by
 unfold sArray
 exact wh_bind (wh_word hT) fun nm _ _ hnm => wh_do fun _ _ _ => wh_do fun _ _ _ => wh_do fun _ _ _ => wh_do fun _ _ _ => wh_ok hnm
/-- The names of a parsed program are words of its source. -/
theorem prog_nms (hT : Nms T Q) : ∀ (f : Nat) (p : Pr) (i op : Nat), nmP Q p → Wh (fun q _ _ => nmP Q q) (sProg T f p i op)
 | 0, _, _, _, _ => by rw [sProg]; exact wh_none
 | f + 1, p, i, op, hp => by
  rw [sProg]
  split
  ·exact wh_ok hp
  split
  ·exact wh_bind (vars_nms hT f [] _ _ fun x hx => by cases hx) fun l _ _ hl => prog_nms hT f _ _ _ ⟨fun x hx => by
    rcases List.mem_append.1 hx with h1 | h1
    ·exact hp.vars x h1
    ·exact hl x h1, hp.arrays, hp.funcs⟩
  split
  ·exact wh_bind (array_nms hT _ _) fun a _ _ ha => prog_nms hT f _ _ _ ⟨hp.vars, fun x hx => by
    rcases List.mem_append.1 hx with h1 | h1
    ·exact hp.arrays x h1
    ·rw [List.mem_singleton.1 h1]; exact ha, hp.funcs⟩
  split
  ·exact wh_bind (func_nms hT f _ _) fun a _ _ ha => prog_nms hT f _ _ _ ⟨hp.vars, hp.arrays, fun x hx => by
    rcases List.mem_append.1 hx with h1 | h1
    ·exact hp.funcs x h1
    ·rw [List.mem_singleton.1 h1]; exact ha⟩
  ·exact fun _ _ _ e => by cases e
end
theorem nmP_none {Q : List UInt8 → Prop} : nmP Q ⟨[], [], []⟩ := ⟨(fun x hx => (List.not_mem_nil hx).elim), (fun x hx => (List.not_mem_nil hx).elim), (fun x hx => (List.not_mem_nil hx).elim)⟩
/-! ### A program without the word "in" reads nothing -/
end Go.Stele
namespace Go.Stele
theorem nmEs_mem {Q : List UInt8 → Prop} : ∀ {l : List Ex} {x : Ex}, nmEs Q l → x ∈ l → nmE Q x
 | a :: l, x, h, hx => by
  rcases List.mem_cons.1 hx with rfl | hx
  ·exact h.1
  ·exact nmEs_mem h.2 hx
theorem nmSs_mem {Q : List UInt8 → Prop} : ∀ {l : List Sm} {x : Sm}, nmSs Q l → x ∈ l → nmS Q x
 | a :: l, x, h, hx => by
  rcases List.mem_cons.1 hx with rfl | hx
  ·exact h.1
  ·exact nmSs_mem h.2 hx
theorem nmE_head {Q : List UInt8 → Prop} (h0 : Q []) {l : List Ex} (h : nmEs Q l) : nmE Q (l.headD default) := by
 cases l with
 | nil => exact ⟨h0, trivial⟩
 | cons a l => exact h.1
theorem mapR_eq {A : Type} {g g' : A → IS → IR Nat} : ∀ (l : List A) (s : IS), (∀ a ∈ l, ∀ s, g a s = g' a s) → mapR g l s = mapR g' l s
 | [], s, _ => rfl
 | a :: l, s, h => by
  rw [mapR, mapR, h a (List.mem_cons_self ..) s]
  have : ∀ s, mapR g l s = mapR g' l s := fun s => mapR_eq l s fun b hb => h b (List.mem_cons_of_mem _ hb)
  simp only [this]
theorem blkR_eq {g g' : Sm → IS → IR (Option Nat)} : ∀ (l : List Sm) (s : IS), (∀ a ∈ l, ∀ s, g a s = g' a s) → blkR g l s = blkR g' l s
 | [], s, _ => rfl
 | a :: l, s, h => by
  rw [blkR, blkR, h a (List.mem_cons_self ..) s]
  have : ∀ s, blkR g l s = blkR g' l s := fun s => blkR_eq l s fun b hb => h b (List.mem_cons_of_mem _ hb)
  congr 1
  funext r s
  cases r with
  | some v => rfl
  | none => exact this s
namespace Unu
/-- A name of the source. -/
def Own (s : List UInt8) : Prop := s ≠ ka ∧ s ≠ kc ∧ s ≠ kd
theorem own_nil : Own [] := ⟨by decide, by decide, by decide⟩
theorem fn_same (p : Pr) {name : Nm} (h : Own name) : fnI (prog.app p) name = fnI p name := by
 unfold fnI
 rw [show (prog.app p).funcs = fn :: p.funcs from rfl, List.find?_cons, show decide (fn.name = name) = false from decide_eq_false fun e => h.2.1 e.symm]
theorem fn_own {p : Pr} (hp : nmP Own p) (name : Nm) : nmSs Own (fnI p name).body := by
 unfold fnI
 cases h : p.funcs.find? fun f => decide (f.name = name) with
 | none => exact trivial
 | some f => exact (hp.funcs f (List.mem_of_find?_eq_some h)).body
theorem run_all {p : Pr} (hp : nmP Own p) : ∀ n : Nat, (∀ f x s, nmE Own x → evI (prog.app p) n f x s = evI p n f x s) ∧ ∀ f x s, nmS Own x → stI (prog.app p) n f x s = stI p n f x s
 | 0 => ⟨fun f x s _ => by unfold evI; rfl, fun f x s _ => by unfold stI; rfl⟩
 | n + 1 => by
  obtain ⟨i1, i2⟩ := run_all hp n
  have hB : ∀ f l s, nmSs Own l → blkR (stI (prog.app p) n f) l s = blkR (stI p n f) l s := fun f l s hl => blkR_eq l s fun a ha s => i2 f a s (nmSs_mem hl ha)
  refine ⟨fun f x s hx => ?_, fun f x s hx => ?_⟩
  ·obtain ⟨op, num, name, args⟩ := x
   unfold evI
   congr 1
   funext _ s
   rw [mapR_eq args s fun a ha s => i1 f a s (nmEs_mem hx.2 ha)]
   congr 1
   funext vs s
   unfold opI callI
   rw [fn_same p hx.1, hB _ _ _ (fn_own hp name)]
  ·obtain ⟨kind, name, index, value, thn, els⟩ := x
   obtain ⟨h1, h2, h3, h4, h5⟩ := hx
   unfold stI
   have e1 : ∀ s, evI (prog.app p) n f (value.headD default) s = evI p n f (value.headD default) s := fun s => i1 f _ s (nmE_head own_nil h3)
   have e2 : ∀ s, evI (prog.app p) n f (index.headD default) s = evI p n f (index.headD default) s := fun s => i1 f _ s (nmE_head own_nil h2)
   have e3 : ∀ s, blkR (stI (prog.app p) n f) thn s = blkR (stI p n f) thn s := fun s => hB f _ s h4
   have e4 : ∀ s, blkR (stI (prog.app p) n f) els s = blkR (stI p n f) els s := fun s => hB f _ s h5
   have e5 : evI (prog.app p) n f (value.headD default) = evI p n f (value.headD default) := funext e1
   have e6 : blkR (stI (prog.app p) n f) thn = blkR (stI p n f) thn := funext e3
   simp only [e2, e4, e5, e6]
/-- The run is the same. -/
theorem run_same {p : Pr} (hp : nmP Own p) (hne : p.funcs ≠ []) (inp : List Nat) (limit : Nat) : runI (prog.app p) inp limit = runI p inp limit := by
 have hm : mainI (prog.app p) = mainI p := by
  unfold mainI
  rw [show (prog.app p).funcs = fn :: p.funcs from rfl]
  cases h : p.funcs with
  | nil => exact absurd h hne
  | cons a l => rw [List.getLast?_cons_cons]
 have hb : nmSs Own (mainI p).body := by
  rcases fnMain_mem p with h | h
  ·exact (hp.funcs _ h).body
  ·rw [h]; exact trivial
 unfold runI
 rw [hm, show startI (prog.app p) inp limit = startI p inp limit from rfl, blkR_eq _ _ fun a ha s => (run_all hp limit).2 (mainI p) a s (nmSs_mem hb ha)]
end Unu
end Go.Stele
namespace Go.Stele
namespace Unu
/-- What is known about the unused function. -/
def S0 : FSum := ⟨kc, 1, 2, 1⟩
def wide (c : CEnv) : CEnv := ⟨ka :: c.vars, c.arrays, kc :: c.later, c.own, S0 :: c.funcs⟩
section
variable (c : CEnv) {name : Nm} (h : Own name)
include h
theorem wide_vars : (name ∈ (wide c).vars) = (name ∈ c.vars) := by
 apply propext
 show name ∈ ka :: c.vars ↔ _
 rw [List.mem_cons]
 exact ⟨fun g => g.resolve_left h.1, .inr⟩
theorem wide_globals : (name ∈ (wide c).globals) = (name ∈ c.globals) := by
 apply propext
 show name ∈ (ka :: c.vars) ++ c.arrays ++ (kc :: c.later) ↔ name ∈ c.vars ++ c.arrays ++ c.later
 simp only [List.mem_append, List.mem_cons, h.1, h.2.1, false_or]
theorem wide_fn : (wide c).fn name = c.fn name := by
 unfold CEnv.fn
 rw [show (wide c).funcs = S0 :: c.funcs from rfl, List.find?_cons, show decide (S0.name = name) = false from decide_eq_false fun e => h.2.1 e.symm]
theorem wide_scalar : scalarE (wide c) name = scalarE c name := by
 unfold scalarE
 simp only [wide_vars c h, wide_globals c h]
 rfl
theorem wide_array : arrayE (wide c) name = arrayE c name := by
 unfold arrayE
 simp only [wide_globals c h]
 rfl
theorem wide_call (n : Nat) : callE (wide c) name n = callE c name n := by
 unfold callE
 simp only [wide_vars c h, wide_fn c h]
 rfl
theorem wide_use (op : Nm) (n : Nat) : useE (wide c) op name n = useE c op name n := by
 unfold useE
 rw [wide_scalar c h, wide_array c h, wide_call c h]
theorem wide_opN (op : Nm) (ns : List Nat) : opN (wide c) op name ns = opN c op name ns := by
 unfold opN callN
 rw [wide_fn c h]
theorem wide_callD (op : Nm) : callD (wide c) op name = callD c op name := by
 unfold callD
 rw [wide_fn c h]
end
mutual
theorem wide_errE (c : CEnv) : ∀ x : Ex, nmE Own x → errE (wide c) x = errE c x
 | .mk op num name args, h => by rw [errE, errE, wide_errEs c args h.2, wide_use c h.1]
theorem wide_errEs (c : CEnv) : ∀ l : List Ex, nmEs Own l → errEs (wide c) l = errEs c l
 | [], _ => rfl
 | x :: l, h => by rw [errEs, errEs, wide_errE c x h.1, wide_errEs c l h.2]
end
mutual
theorem wide_needE (c : CEnv) : ∀ x : Ex, nmE Own x → needE (wide c) x = needE c x
 | .mk op num name args, h => by rw [needE, needE, wide_needEs c args h.2, wide_opN c h.1]
theorem wide_needEs (c : CEnv) : ∀ l : List Ex, nmEs Own l → needEs (wide c) l = needEs c l
 | [], _ => rfl
 | x :: l, h => by rw [needEs, needEs, wide_needE c x h.1, wide_needEs c l h.2]
end
mutual
theorem wide_depE (c : CEnv) : ∀ x : Ex, nmE Own x → depE (wide c) x = depE c x
 | .mk op num name args, h => by rw [depE, depE, wide_depEs c args h.2, wide_callD c h.1]
theorem wide_depEs (c : CEnv) : ∀ l : List Ex, nmEs Own l → depEs (wide c) l = depEs c l
 | [], _ => rfl
 | x :: l, h => by rw [depEs, depEs, wide_depE c x h.1, wide_depEs c l h.2]
end
mutual
theorem wide_errS (c : CEnv) : ∀ x : Sm, nmS Own x → errS (wide c) x = errS c x
 | .mk kind name index value thn els, h => by
  rw [errS, errS, wide_errEs c value h.2.2.1, wide_errEs c index h.2.1, wide_scalar c h.1, wide_array c h.1, wide_errSs c thn h.2.2.2.1, wide_errSs c els h.2.2.2.2]
theorem wide_errSs (c : CEnv) : ∀ l : List Sm, nmSs Own l → errSs (wide c) l = errSs c l
 | [], _ => rfl
 | x :: l, h => by rw [errSs, errSs, wide_errS c x h.1, wide_errSs c l h.2]
end
mutual
theorem wide_needS (c : CEnv) : ∀ x : Sm, nmS Own x → needS (wide c) x = needS c x
 | .mk kind name index value thn els, h => by
  rw [needS, needS, wide_needE c _ (nmE_head own_nil h.2.2.1), wide_needE c _ (nmE_head own_nil h.2.1), wide_needSs c thn h.2.2.2.1, wide_needSs c els h.2.2.2.2]
theorem wide_needSs (c : CEnv) : ∀ l : List Sm, nmSs Own l → needSs (wide c) l = needSs c l
 | [], _ => rfl
 | x :: l, h => by rw [needSs, needSs, wide_needS c x h.1, wide_needSs c l h.2]
end
mutual
theorem wide_depS (c : CEnv) : ∀ x : Sm, nmS Own x → depS (wide c) x = depS c x
 | .mk kind name index value thn els, h => by
  rw [depS, depS, wide_depEs c value h.2.2.1, wide_depEs c index h.2.1, wide_depSs c thn h.2.2.2.1, wide_depSs c els h.2.2.2.2]
theorem wide_depSs (c : CEnv) : ∀ l : List Sm, nmSs Own l → depSs (wide c) l = depSs c l
 | [], _ => rfl
 | x :: l, h => by rw [depSs, depSs, wide_depS c x h.1, wide_depSs c l h.2]
end
/-! ### Names -/
theorem fresh_ext : ∀ (l k k' : List Nm), (∀ s ∈ l, (s ∈ k' ↔ s ∈ k)) → freshE k' l = freshE k l
 | [], k, k', h => by rw [freshE, freshE]
 | s :: l, k, k', h => by
  rw [freshE, freshE, fresh_ext l (s :: k) (s :: k') fun x hx => by rw [List.mem_cons, List.mem_cons, h x (List.mem_cons_of_mem _ hx)]]
  simp only [h s (List.mem_cons_self ..)]
theorem fresh_mid {x : Nm} (hx : isNm x = true) : ∀ (a b k : List Nm), x ∉ k → x ∉ a → x ∉ b → freshE k (a ++ x :: b) = freshE k (a ++ b)
 | [], b, k, h1, _, h3 => by
  rw [List.nil_append, List.nil_append, freshE, if_neg (by rw [hx]; decide), if_neg h1]
  exact fresh_ext b k (x :: k) fun s hs => by
   rw [List.mem_cons]
   exact ⟨fun g => g.resolve_left fun e => h3 (e ▸ hs), .inr⟩
 | s :: a, b, k, h1, h2, h3 => by
  rw [List.cons_append, List.cons_append, freshE, freshE, fresh_mid hx a b (s :: k) (fun g => by
   rcases List.mem_cons.1 g with e | g
   ·exact h2 (e ▸ List.mem_cons_self ..)
   ·exact h1 g) (fun g => h2 (List.mem_cons_of_mem _ g)) h3]
/-! ### Functions -/
variable {vars arrays later : List Nm}
theorem errF_wide (known : List FSum) {f : FnD} (hf : nmF Own f) : errF (ka :: vars) arrays (kc :: later) (S0 :: known) f = errF vars arrays later known f := by
 unfold errF
 rw [show envF (ka :: vars) arrays (kc :: later) (S0 :: known) f = wide (envF vars arrays later known f) from rfl, wide_errSs _ _ hf.body]
 congr 1
 refine fresh_ext _ _ _ fun s hs => ?_
 have hs' : Own s := by
  rcases List.mem_append.1 hs with g | g
  ·exact hf.params s g
  ·exact hf.locals s g
 simp only [List.mem_append, List.mem_cons, hs'.1, hs'.2.1, false_or]
theorem sumF_wide (known : List FSum) {f : FnD} (hf : nmF Own f) : sumF (ka :: vars) arrays (kc :: later) (S0 :: known) f = sumF vars arrays later known f := by
 unfold sumF
 rw [show envF (ka :: vars) arrays (kc :: later) (S0 :: known) f = wide (envF vars arrays later known f) from rfl, wide_needSs _ _ hf.body, wide_depSs _ _ hf.body]
theorem errFs_wide : ∀ (fs : List FnD) (known : List FSum), (∀ f ∈ fs, nmF Own f) → errFs (ka :: vars) arrays (kc :: later) (S0 :: known) fs = errFs vars arrays later known fs
 | [], known, _ => by rw [errFs, errFs]
 | f :: l, known, h => by
  rw [errFs, errFs, errF_wide known (h f (List.mem_cons_self ..)), sumF_wide known (h f (List.mem_cons_self ..))]
  have := errFs_wide l (known ++ [sumF vars arrays later known f]) fun g hg => h g (List.mem_cons_of_mem _ hg)
  rw [← List.cons_append] at this
  rw [List.cons_append] at this ⊢
  rw [this]
theorem sumFs_wide : ∀ (fs : List FnD) (known : List FSum), (∀ f ∈ fs, nmF Own f) → sumFs (ka :: vars) arrays (kc :: later) (S0 :: known) fs = S0 :: sumFs vars arrays later known fs
 | [], known, _ => by rw [sumFs, sumFs]
 | f :: l, known, h => by
  rw [sumFs, sumFs, sumF_wide known (h f (List.mem_cons_self ..)), List.cons_append]
  exact sumFs_wide l (known ++ [sumF vars arrays later known f]) fun g hg => h g (List.mem_cons_of_mem _ hg)
theorem sumFs_len : ∀ (fs : List FnD) (known : List FSum), (sumFs vars arrays later known fs).length = known.length + fs.length
 | [], known => by rw [sumFs]; rfl
 | f :: l, known => by
  rw [sumFs, sumFs_len l, List.length_append, List.length_cons, List.length_cons, List.length_nil]
  omega
end Unu
end Go.Stele
namespace Go.Stele
namespace Unu
variable {vars arrays later : List Nm}
theorem S0_eq : sumF vars arrays later [] fn = S0 := by kernel_rfl
theorem body_err (E : CEnv) : errSs E fn.body = orE (orE (orE (scalarE E kd) 0) (orE 0 (orE (scalarE E ka) (orE 0 0)))) (orE 0 (orE (orE (orE (scalarE E ka) 0) (orE 0 (orE 0 (orE 0 0)))) 0)) := by kernel_rfl
theorem isNm_a : isNm ka = true := by decide +kernel
theorem isNm_c : isNm kc = true := by decide +kernel
theorem isNm_d : isNm kd = true := by decide +kernel
theorem fn_err (h : kd ∉ vars ∧ kd ∉ arrays ∧ kd ∉ later) : errF (ka :: vars) arrays (kc :: later) [] fn = 0 := by
 unfold errF
 refine orE_zero.2 ⟨?_, ?_⟩
 ·show freshE ((ka :: vars) ++ arrays ++ (kc :: later)) [kd] = 0
  rw [freshE, isNm_d, if_neg (by decide), if_neg, freshE]
  simp only [List.mem_append, List.mem_cons, h.1, h.2.1, h.2.2, or_false, false_or, not_or]
  decide
 ·rw [body_err]
  have s1 : scalarE (envF (ka :: vars) arrays (kc :: later) [] fn) ka = 0 := by
   unfold scalarE
   exact if_pos (Or.inl (List.mem_cons_self ..))
  have s2 : scalarE (envF (ka :: vars) arrays (kc :: later) [] fn) kd = 0 := by
   unfold scalarE
   exact if_pos (Or.inr (show kd ∈ [kd] ++ [] by decide))
  rw [s1, s2]
  decide
theorem main_wide (fs : List FnD) (sums : List FSum) (hl : sums.length = fs.length) (hs : (scalarsP vars fs).length ≤ 7000) : mainE (ka :: vars) (fn :: fs) (S0 :: sums) = mainE vars fs sums := by
 match fs, sums, hl with
 | [], [], _ =>
  show mainE (ka :: vars) [fn] [S0] = 9
  unfold mainE
  simp only [List.getLast?_singleton]
  rw [if_neg (by decide)]
 | f :: fs, s :: sums, _ =>
  unfold mainE
  rw [List.getLast?_cons_cons, List.getLast?_cons_cons]
  have e : (scalarsP (ka :: vars) (fn :: f :: fs)).length = (scalarsP vars (f :: fs)).length + 2 := by
   simp only [scalarsP, List.length_append, List.map_cons, List.flatten_cons, List.length_cons, List.length_map, fn, List.length_nil]
   omega
  rw [e]
  have e2 : ((scalarsP vars (f :: fs)).length + 2 ≤ 8000) = ((scalarsP vars (f :: fs)).length ≤ 8000) := by apply propext; omega
  simp only [e2]
/-- The check is the same. -/
theorem check_same {p : Pr} (hp : nmP Own p) (hs : (scalarsP p.vars p.funcs).length ≤ 7000) : checkPr (prog.app p) = checkPr p := by
 have hv : ∀ x ∈ p.vars, Own x := hp.vars
 have ha : ∀ x ∈ (p.arrays.map fun a => (a.name, (a.size : Int))).map (·.1), Own x := fun x hx => by
  rw [List.map_map] at hx
  obtain ⟨a, h1, rfl⟩ := List.mem_map.1 hx
  exact hp.arrays a h1
 have hf : ∀ x ∈ p.funcs.map (·.name), Own x := fun x hx => by
  obtain ⟨a, h1, rfl⟩ := List.mem_map.1 hx
  exact (hp.funcs a h1).name
 unfold checkPr checkP
 show orE (freshE [] ((ka :: p.vars) ++ (p.arrays.map fun a => (a.name, (a.size : Int))).map (·.1) ++ kc :: p.funcs.map (·.name))) (orE (sizesE 0 ((p.arrays.map fun a => (a.name, (a.size : Int))).map (·.2)))
  (orE (errFs (ka :: p.vars) ((p.arrays.map fun a => (a.name, (a.size : Int))).map (·.1)) (kc :: p.funcs.map (·.name)) [] (fn :: p.funcs)) (mainE (ka :: p.vars) (fn :: p.funcs) (sumFs (ka :: p.vars) ((p.arrays.map fun a => (a.name, (a.size : Int))).map (·.1)) (kc :: p.funcs.map (·.name)) [] (fn :: p.funcs))))) = _
 generalize (p.arrays.map fun a => (a.name, (a.size : Int))).map (·.1) = A at ha ⊢
 generalize p.funcs.map (·.name) = N at hf ⊢
 have f1 : freshE [] ((ka :: p.vars) ++ A ++ kc :: N) = freshE [] (p.vars ++ A ++ N) := by
  have g1 := fresh_mid isNm_a [] (p.vars ++ A ++ kc :: N) [] (by simp) (by simp) (by
   simp only [List.mem_append, List.mem_cons, not_or]
   exact ⟨⟨fun g => (hv _ g).1 rfl, fun g => (ha _ g).1 rfl⟩, by decide, fun g => (hf _ g).1 rfl⟩)
  have g2 := fresh_mid isNm_c (p.vars ++ A) N [] (by simp) (by
   simp only [List.mem_append, not_or]
   exact ⟨fun g => (hv _ g).2.1 rfl, fun g => (ha _ g).2.1 rfl⟩) (fun g => (hf _ g).2.1 rfl)
  exact g1.trans g2
 have f2 : errFs (ka :: p.vars) A (kc :: N) [] (fn :: p.funcs) = errFs p.vars A N [] p.funcs := by
  rw [errFs, fn_err ⟨fun g => (hv _ g).2.2 rfl, fun g => (ha _ g).2.2 rfl, fun g => (hf _ g).2.2 rfl⟩, S0_eq]
  have := errFs_wide (vars := p.vars) (arrays := A) (later := N) p.funcs [] hp.funcs
  show errFs (ka :: p.vars) A (kc :: N) [S0] p.funcs = _
  exact this
 have f3 : sumFs (ka :: p.vars) A (kc :: N) [] (fn :: p.funcs) = S0 :: sumFs p.vars A N [] p.funcs := by
  rw [sumFs, S0_eq]
  exact sumFs_wide p.funcs [] hp.funcs
 rw [f1, f2, f3, main_wide _ _ (by rw [sumFs_len]; exact Nat.zero_add _) hs]
end Unu
end Go.Stele
namespace Go.Stele
open Go.Lib
theorem last_app {u v : List UInt8} (hv : v ≠ []) : (u ++ v).getLast? = v.getLast? := by
 rw [List.getLast?_append]
 cases h : v.getLast? with
 | none => exact absurd (List.getLast?_eq_none_iff.1 h) hv
 | some c => rfl
theorem drop_tw {p : UInt8 → Bool} : ∀ {s : List UInt8} {c : UInt8} {r : List UInt8}, s.drop (s.takeWhile p).length = c :: r → p c = false
 | [], c, r, h => by cases h
 | a :: s, c, r, h => by
  by_cases ha : p a = true
  ·rw [List.takeWhile_cons_of_pos ha, List.length_cons, List.drop_succ_cons] at h
   exact drop_tw h
  ·rw [List.takeWhile_cons_of_neg ha, List.length_nil, List.drop_zero] at h
   cases h
   simpa using ha
theorem take_tw (p : UInt8 → Bool) (s : List UInt8) : s.take (s.takeWhile p).length = s.takeWhile p := (List.prefix_iff_eq_take.1 (List.takeWhile_prefix p)).symm
theorem last_tw {p : UInt8 → Bool} {s : List UInt8} {c : UInt8} (hc : p c = false) : (s.takeWhile p).getLast? ≠ some c := fun h => by
 have := tw_mem (List.mem_of_getLast? h)
 rw [hc] at this
 cases this
/-- What is read ahead of a name does not end in "a". -/
theorem token_last {s : List UInt8} {c : UInt8} {r : List UInt8} (h : (lexToken s).2.2 = 0) (hd : s.drop (lexToken s).2.1 = c :: r) (hc : isLetter c = true) : (s.take (lexToken s).2.1).getLast? ≠ some 97 := by
 cases s with
 | nil => simp at hd
 | cons a t =>
  simp only [lexToken] at h hd ⊢
  split at h
  ·rename_i h1
   rw [if_pos h1] at hd ⊢
   unfold lexNumber at h hd ⊢
   split at h
   ·cases h
   ·rename_i h2
    rw [if_neg h2] at hd ⊢
    split at h
    ·rename_i u hu
     simp only [hu] at hd ⊢
     rw [take_tw]
     exact last_tw (by decide)
    ·cases h
  ·rename_i h1
   rw [if_neg h1] at hd ⊢
   split at h
   ·rename_i h2
    rw [if_pos h2] at hd ⊢
    unfold lexName at h hd ⊢
    split at h
    ·cases h
    ·rename_i h3
     rw [if_neg h3] at hd ⊢
     simp only at hd ⊢
     have := drop_tw hd
     unfold isInner at this
     rw [hc] at this
     cases this
   ·rename_i h2
    rw [if_neg h2] at hd ⊢
    split at h
    ·rename_i h3
     rw [if_pos h3] at hd ⊢
     match t, h, hd with
     | [], h, _ => cases h
     | [_], h, _ => cases h
     | b :: d :: t', h, hd =>
      simp only [lexLiteral] at h ⊢
      split at h
      ·cases h
      ·rename_i h4
       rw [if_neg h4]
       intro he
       simp only [List.take_succ_cons, List.take_zero, List.getLast?_cons_cons, List.getLast?_singleton, Option.some.injEq] at he
       subst he
       simp [cv] at h4
    ·rename_i h3
     rw [if_neg h3] at hd ⊢
     unfold lexSign at h hd ⊢
     split at h
     ·rename_i x hx
      simp only [hx] at hd ⊢
      have hm := List.mem_of_find?_eq_some hx
      have hp := List.find?_some hx
      have hp' : x <+: a :: t := List.isPrefixOf_iff_prefix.1 hp
      rw [← List.prefix_iff_eq_take.1 hp']
      exact (by decide : ∀ x ∈ signs, x.getLast? ≠ some 97) x hm
     ·cases h
theorem skip_last {s : List UInt8} {c : UInt8} {r : List UInt8} (hd : s.drop (skipLen s) = c :: r) (hc : isLetter c = true) : (s.take (skipLen s)).getLast? ≠ some 97 := by
 unfold skipLen at hd ⊢
 split at hd
 ·rename_i h1
  have h2 := drop_tw hd
  unfold notNl at h2
  unfold isLetter at hc
  simp at h2 hc
  omega
 ·rename_i h1
  rw [if_neg h1, take_tw]
  exact last_tw (by decide)
theorem token_name {s : List UInt8} (h : (lexToken s).1.kind = 2) : (lexToken s).1.text = s.take (lexToken s).2.1 ∧ ∃ c r, (lexToken s).1.text = c :: r ∧ isLetter c = true := by
 cases s with
 | nil => cases h
 | cons a t =>
  simp only [lexToken] at h ⊢
  split at h
  ·rename_i h1
   unfold lexNumber at h
   split at h
   ·cases h
   ·split at h <;> cases h
  ·rename_i h1
   rw [if_neg h1]
   split at h
   ·rename_i h2
    rw [if_pos h2]
    unfold lexName at h ⊢
    split at h
    ·cases h
    ·rename_i h3
     rw [if_neg h3]
     simp only
     refine ⟨(take_tw _ _).symm, a, t.takeWhile isInner, ?_, h2⟩
     rw [List.takeWhile_cons_of_pos (by unfold isInner; rw [h2]; rfl)]
   ·split at h
    ·match t, h with
     | [], h => cases h
     | [_], h => cases h
     | b :: d :: t', h =>
      simp only [lexLiteral] at h
      split at h <;> cases h
    ·unfold lexSign at h
     split at h <;> cases h
/-- A name of the tokens stands in the source, and not behind an "a". -/
theorem name_stands : ∀ (f : Nat) (s : List UInt8) (line : Int) (T : List Tok), lexP f s line = .ok T → ∀ t ∈ T, t.kind = 2 → (∃ c r, t.text = c :: r ∧ isLetter c = true) ∧ ∃ u v, s = u ++ t.text ++ v ∧ u.getLast? ≠ some 97
 | 0, s, line, T, h, t, ht, hk => by
  rw [lexP] at h
  cases h
  cases ht
 | f + 1, s, line, T, h, t, ht, hk => by
  rw [lexP] at h
  split at h
  ·cases h; cases ht
  split at h
  ·split at h
   ·cases h
   ·rename_i h1 h2 h3
    have h3' : (lexToken s).2.2 = 0 := by simpa using h3
    obtain ⟨T', hT', rfl⟩ := map_ok h
    rcases List.mem_cons.1 ht with rfl | ht
    ·obtain ⟨g1, c, r, g2, g3⟩ := token_name (s := s) hk
     refine ⟨⟨c, r, g2, g3⟩, [], s.drop (lexToken s).2.1, ?_, by simp⟩
     simp only [List.nil_append]
     rw [g1, List.take_append_drop]
    ·obtain ⟨⟨c, r, g1, g2⟩, u, v, g3, g4⟩ := name_stands f _ _ _ hT' t ht hk
     refine ⟨⟨c, r, g1, g2⟩, s.take (lexToken s).2.1 ++ u, v, ?_, ?_⟩
     ·rw [List.append_assoc, List.append_assoc, ← List.append_assoc u, ← g3, List.take_append_drop]
     ·by_cases hu : u = []
      ·subst hu
       rw [List.append_nil]
       rw [g1, List.nil_append, List.cons_append] at g3
       exact token_last h3' g3 g2
      ·rw [last_app hu]
       exact g4
  ·obtain ⟨⟨c, r, g1, g2⟩, u, v, g3, g4⟩ := name_stands f _ _ _ h t ht hk
   refine ⟨⟨c, r, g1, g2⟩, s.take (skipLen s) ++ u, v, ?_, ?_⟩
   ·rw [List.append_assoc, List.append_assoc, ← List.append_assoc u, ← g3, List.take_append_drop]
   ·by_cases hu : u = []
    ·subst hu
     rw [List.append_nil]
     rw [g1, List.nil_append, List.cons_append] at g3
     exact skip_last g3 g2
    ·rw [last_app hu]
     exact g4
/-! ### Contains, ReplaceAll -/
theorem contains_split (u x v : List UInt8) : contains (u ++ x ++ v) x = true := by
 unfold contains
 rw [decide_eq_true_eq]
 rcases index_spec (u ++ x ++ v) x with ⟨_, h⟩ | ⟨i, h, _⟩
 ·have := h u.length (by simp only [List.length_append]; omega)
  unfold occAt at this
  rw [List.append_assoc, List.drop_left] at this
  rw [List.isPrefixOf_iff_prefix.2 (List.prefix_append x v)] at this
  cases this
 ·omega
/-- A source that lacks a word has no name that holds it. -/
theorem no_word {s w : List UInt8} (h : contains s w = false) {T : List Tok} {line : Int} (hT : lexAt s line = .ok T) : ∀ t ∈ T, t.kind = 2 → ∀ a b, t.text ≠ a ++ w ++ b := fun t ht hk a b he => by
 obtain ⟨_, u, v, h1, _⟩ := name_stands _ _ _ _ hT t ht hk
 have h2 : s = (u ++ a) ++ w ++ (b ++ v) := by rw [h1, he]; simp only [List.append_assoc]
 rw [h2, contains_split] at h
 cases h
end Go.Stele
namespace Go.Stele
open Go.Lib
/-- A source parsed: the program, and the error. -/
def parseQ (s : List UInt8) : Pr × Int := match lexAt s 1 with
 | .error (l, e) => (⟨[], [], []⟩, e)
 | .ok T => match sProg T (10 * T.length + 20) ⟨[], [], []⟩ 0 0 with
  | some (.ok p _ _) => (p, 0)
  | some (.err l e) => (⟨[], [], []⟩, e)
  | none => (⟨[], [], []⟩, 0)
/-- A valid program's run with any limit. -/
def limitI (p : Pr) (inp : List Nat) (steps : Int) : OutI := if 100000000 < steps then ⟨[], 6, 0⟩ else if steps ≤ 0 then ⟨[], 13, 0⟩ else runI p inp steps.toNat
/-- What Source returns. -/
def sourceI (s : List UInt8) (inp : List Nat) (steps : Int) : OutI :=
 if (parseQ s).2 ≠ 0 then ⟨[], (parseQ s).2, 0⟩ else if checkPr (parseQ s).1 ≠ 0 then ⟨[], checkPr (parseQ s).1, 0⟩ else limitI (parseQ s).1 inp steps
theorem source_ok {s : List UInt8} {p : Pr} (h : parseQ s = (p, 0)) (hc : checkPr p = 0) (inp : List Nat) (steps : Int) : sourceI s inp steps = limitI p inp steps := by
 unfold sourceI
 rw [h, if_neg (by simp), hc, if_neg (by simp)]
theorem parseQ_of {s : List UInt8} {T : List Tok} {p : Pr} {i op : Nat} (hT : lexAt s 1 = .ok T) (hs : sProg T (10 * T.length + 20) ⟨[], [], []⟩ 0 0 = some (.ok p i op)) : parseQ s = (p, 0) := by
 unfold parseQ
 rw [hT]
 simp only
 rw [hs]
/-! ### Limits -/
/-! ### Input -/
/-! ### The given sources -/
/-! ### Unused declarations -/
theorem commas_ge (l : List (List UInt8)) : l.length ≤ (commas l).length := by rw [commas_len]; omega
theorem varK_ge (l : List (List UInt8)) : l.length ≤ (varK l).length := by 
 rw [varK_len]
 by_cases h : l = []
 ·rw [h]; exact Nat.zero_le _
 ·rw [if_neg h]; omega
theorem funcs_scalars : ∀ (fs : List FnD) (ts : List KT), PFs fs ts → ((fs.map fun f => (f.params ++ f.locals).map fun x => f.name ++ [46] ++ x).flatten).length ≤ ts.length
 | [], ts, h => Nat.zero_le _
 | f :: fs, ts, h => by
  cases h with
  | cons h hd hl =>
   have := funcs_scalars fs _ hl
   rw [List.map_cons, List.flatten_cons, List.length_append, List.length_append, List.length_map]
   cases h with
   | mk hn hp hl hb =>
    rename_i nm ps ls b ts' d'
    have h1 := commas_ge ps
    have h2 := varK_ge ls
    simp only [List.length_append, List.length_cons, List.length_nil]
    omega
theorem scalars_le {p : Pr} {ts : List KT} (h : PP p ts) : (scalarsP p.vars p.funcs).length ≤ ts.length := by
 cases h with
 | mk hv ha hf =>
  rename_i v a f ts
  have h1 := funcs_scalars f ts hf
  have h2 := varK_ge v
  unfold scalarsP
  simp only [List.length_append]
  omega
theorem unused_law {s : List UInt8} (h : contains s Unu.word = false) (hl : s.length ≤ 1500) (inp : List Nat) (steps : Int) : sourceI s inp steps = sourceI (Unu.U ++ 32 :: s) inp steps := by
 cases hT : lexAt s 1 with
 | error x =>
  obtain ⟨l, e⟩ := x
  have h1 : parseQ s = (⟨[], [], []⟩, e) := by unfold parseQ; rw [hT]
  have h2 : parseQ (Unu.U ++ 32 :: s) = (⟨[], [], []⟩, e) := by unfold parseQ; rw [Unu.lex_err hT]
  unfold sourceI
  rw [h1, h2]
 | ok T =>
  obtain ⟨r, hr⟩ := sProg_ends T (10 * T.length + 20) ⟨[], [], []⟩ 0 0 (Nat.zero_le _) (by omega)
  have hu := Unu.parse hr
  match r, hr, hu with
  | .err l e, hr, ⟨l', hu⟩ =>
   have h1 : parseQ s = (⟨[], [], []⟩, e) := by unfold parseQ; rw [hT]; simp only; rw [hr]
   have h2 : parseQ (Unu.U ++ 32 :: s) = (⟨[], [], []⟩, e) := by unfold parseQ; rw [Unu.lex_ok hT]; simp only; rw [hu]
   unfold sourceI
   rw [h1, h2]
  | .ok p i op, hr, ⟨i', hu⟩ =>
   have h1 := parseQ_of hT hr
   have h2 := parseQ_of (Unu.lex_ok hT) hu
   have hag := lexP_again _ _ _ _ hT
   have hTl := (lexP_ok _ _ _ _ hT).1
   obtain ⟨ts, h3, h4⟩ := src_print hag hr
   have hw := no_word h hT
   have hown : nmP Unu.Own p := prog_nms (Q := Unu.Own) ⟨Unu.own_nil, fun t ht hk => ⟨hw t ht hk [] [97], hw t ht hk [] [99], hw t ht hk [] [100]⟩⟩ _ _ 0 0 nmP_none p i op hr
   have hc := Unu.check_same hown (by have := scalars_le h3; omega)
   unfold sourceI
   rw [h1, h2]
   simp only [hc]
   by_cases h0 : checkPr p = 0
   ·have hne : p.funcs ≠ [] := fun hn => by
     unfold checkPr checkP at h0
     have := (orE_zero.1 (orE_zero.1 (orE_zero.1 h0).2).2).2
     rw [hn] at this
     cases this
    unfold limitI
    rw [Unu.run_same hown hne]
   ·rw [if_neg (by simp), if_pos h0, if_neg (by simp), if_pos h0]
end Go.Stele
namespace Go.Stele
/-! ### Functions -/
theorem fresh_zero : ∀ (l k : List Nm), freshE k l = 0 → l.Nodup ∧ ∀ s ∈ l, s ∉ k ∧ isNm s = true
 | [], k, _ => ⟨List.nodup_nil, fun s hs => (List.not_mem_nil hs).elim⟩
 | s :: l, k, h => by
  rw [freshE] at h
  split at h
  ·cases h
  rename_i h1
  split at h
  ·cases h
  rename_i h2
  obtain ⟨g1, g2⟩ := fresh_zero l (s :: k) h
  refine ⟨List.nodup_cons.2 ⟨fun hm => (g2 s hm).1 (List.mem_cons_self ..), g1⟩, fun x hx => ?_⟩
  rcases List.mem_cons.1 hx with rfl | hx
  ·exact ⟨h2, by simpa using h1⟩
  ·exact ⟨fun hm => (g2 x hx).1 (List.mem_cons_of_mem _ hm), (g2 x hx).2⟩
end Go.Stele
namespace Go.Stele
theorem noDot {s : Nm} (h : isNm s = true) : (46 : UInt8) ∉ s := by
 unfold isNm at h
 rw [Bool.and_eq_true] at h
 have h2 := h.2
 cases s with
 | nil => exact List.not_mem_nil
 | cons c r =>
  simp only [Bool.and_eq_true] at h2
  intro hm
  rcases List.mem_cons.1 hm with rfl | hm
  ·exact absurd h2.1 (by decide)
  ·exact absurd (List.all_eq_true.1 h2.2 46 hm) (by decide)
theorem split_dot : ∀ (a b x y : Nm), (46 : UInt8) ∉ a → (46 : UInt8) ∉ b → a ++ 46 :: x = b ++ 46 :: y → a = b ∧ x = y
 | [], [], x, y, _, _, h => by
  injection h with _ h
  exact ⟨rfl, h⟩
 | [], d :: b, x, y, _, hb, h => by
  injection h with h1 _
  exact absurd (h1 ▸ List.mem_cons_self ..) hb
 | c :: a, [], x, y, ha, _, h => by
  injection h with h1 _
  exact absurd (h1 ▸ List.mem_cons_self ..) ha
 | c :: a, d :: b, x, y, ha, hb, h => by
  injection h with h1 h2
  obtain ⟨e1, e2⟩ := split_dot a b x y (fun g => ha (List.mem_cons_of_mem _ g)) (fun g => hb (List.mem_cons_of_mem _ g)) h2
  exact ⟨by rw [h1, e1], e2⟩
theorem nodup_inj {fs : List FnD} (h : (fs.map (·.name)).Nodup) {f g : FnD} (hf : f ∈ fs) (hg : g ∈ fs) (he : f.name = g.name) : f = g := by
 induction fs with
 | nil => cases hf
 | cons a l ih =>
  rw [List.map_cons, List.nodup_cons] at h
  rcases List.mem_cons.1 hf with rfl | hf'
  ·rcases List.mem_cons.1 hg with rfl | hg'
   ·rfl
   ·exact absurd (List.mem_map.2 ⟨g, hg', he.symm⟩) h.1
  ·rcases List.mem_cons.1 hg with rfl | hg'
   ·exact absurd (List.mem_map.2 ⟨f, hf', he⟩) h.1
   ·exact ih h.2 hf' hg'
/-- A function's own scalars are placed, and no others under its name. -/
theorem own_key {vars arrays : List Nm} {fs : List FnD} (h : freshE [] (vars ++ arrays ++ fs.map (·.name)) = 0) {f : FnD} (hf : f ∈ fs) (name : Nm) : f.name ++ [46] ++ name ∈ scalarsP vars fs ↔ name ∈ f.params ++ f.locals := by
 obtain ⟨h1, h2⟩ := fresh_zero _ _ h
 have hd : ∀ g ∈ fs, (46 : UInt8) ∉ g.name := fun g hg => noDot (h2 _ (List.mem_append.2 (.inr (List.mem_map.2 ⟨g, hg, rfl⟩)))).2
 unfold scalarsP
 rw [List.mem_append]
 constructor
 ·rintro (g | g)
  ·have := noDot (h2 _ (List.mem_append.2 (.inl (List.mem_append.2 (.inl g))))).2
   exact absurd (by simp) this
  ·obtain ⟨l, g1, g2⟩ := List.mem_flatten.1 g
   obtain ⟨k, g3, rfl⟩ := List.mem_map.1 g1
   obtain ⟨x, g4, g5⟩ := List.mem_map.1 g2
   have g6 : k.name ++ 46 :: x = f.name ++ 46 :: name := by simpa using g5
   obtain ⟨e1, rfl⟩ := split_dot _ _ _ _ (hd k g3) (hd f hf) g6
   rw [← nodup_inj (List.nodup_append.1 h1).2.1 g3 hf e1]
   exact g4
 ·intro g
  exact .inr (List.mem_flatten.2 ⟨_, List.mem_map.2 ⟨f, hf, rfl⟩, List.mem_map.2 ⟨name, g, rfl⟩⟩)
/-- The key that the interpreter finds is the reference's. -/
theorem key_eq {vars arrays : List Nm} {fs : List FnD} (h : freshE [] (vars ++ arrays ++ fs.map (·.name)) = 0) {f : FnD} (hf : f ∈ fs) (name : Nm) : (if f.name ++ [46] ++ name ∈ scalarsP vars fs then f.name ++ [46] ++ name else name) = keyI f name := by
 unfold keyI
 simp only [own_key h hf, List.mem_append]
/-- A name that the checker lets through as a scalar is placed. -/
theorem key_placed {vars arrays : List Nm} {fs : List FnD} {known : List FSum} {f : FnD} (hf : f ∈ fs) {name : Nm} (h : scalarE (envF vars arrays (fs.map (·.name)) known f) name = 0) : keyI f name ∈ scalarsP vars fs := by
 unfold scalarE at h
 unfold keyI scalarsP
 rw [List.mem_append]
 split at h
 ·rename_i h1
  split
  ·rename_i h2
   exact .inr (List.mem_flatten.2 ⟨_, List.mem_map.2 ⟨f, hf, rfl⟩, List.mem_map.2 ⟨name, List.mem_append.2 h2, rfl⟩⟩)
  ·rename_i h2
   rcases h1 with h1 | h1
   ·exact .inl h1
   ·exact absurd (List.mem_append.1 h1) h2
 ·split at h <;> cases h
/-- Where a name stands among different ones. -/
theorem fnI_mem {P : Pr} {f : FnD} (h : (P.funcs.map (·.name)).Nodup) (hf : f ∈ P.funcs) : fnI P f.name = f := by
 unfold fnI
 cases hg : P.funcs.find? fun g => decide (g.name = f.name) with
 | none => exact absurd (List.find?_eq_none.1 hg f hf) (by simp)
 | some g => exact nodup_inj h (List.mem_of_find?_eq_some hg) hf (of_decide_eq_true (List.find?_some (p := fun g : FnD => decide (g.name = f.name)) hg))
end Go.Stele
namespace Go.Stele
def Lt (v : Nat) : Prop := v < 4294967296
mutual
def numE : Ex → Prop
 | .mk op num name args => Lt num ∧ numEs args
def numEs : List Ex → Prop
 | [] => True
 | x :: l => numE x ∧ numEs l
end
mutual
def numS : Sm → Prop
 | .mk kind name index value thn els => numEs index ∧ numEs value ∧ numSs thn ∧ numSs els
def numSs : List Sm → Prop
 | [] => True
 | x :: l => numS x ∧ numSs l
end
theorem numEs_mem : ∀ {l : List Ex} {x : Ex}, numEs l → x ∈ l → numE x
 | a :: l, x, h, hx => by
  rcases List.mem_cons.1 hx with rfl | hx
  ·exact h.1
  ·exact numEs_mem h.2 hx
theorem numSs_mem : ∀ {l : List Sm} {x : Sm}, numSs l → x ∈ l → numS x
 | a :: l, x, h, hx => by
  rcases List.mem_cons.1 hx with rfl | hx
  ·exact h.1
  ·exact numSs_mem h.2 hx
theorem numE_head {l : List Ex} (h : numEs l) : numE (l.headD default) := by
 cases l with
 | nil => exact ⟨by unfold Lt; decide, trivial⟩
 | cons a l => exact h.1
/-- All values of the state are below 2^32. -/
structure Bnd (s : IS) : Prop where
 sc : ∀ k, Lt (s.sc k)
 ar : ∀ x, ∀ v ∈ s.ar x, Lt v
 inp : ∀ v ∈ s.inp, Lt v
def Bd {A : Type} (P : A → Prop) : IR A → Prop
 | .ok v s => P v ∧ Bnd s
 | .stop _ _ => True
theorem Bd.bind {A B : Type} {P : A → Prop} {Q : B → Prop} {r : IR A} {f : A → IS → IR B} (h : Bd P r) (hf : ∀ v s, P v → Bnd s → Bd Q (f v s)) : Bd Q (r.bind f) := by
 cases r with
 | ok v s => exact hf v s h.1 h.2
 | stop e s => trivial
def OptLt (r : Option Nat) : Prop := ∀ v, r = some v → Lt v
theorem OptLt.none : OptLt none := fun _ h => by cases h
theorem OptLt.some {v : Nat} (h : Lt v) : OptLt (some v) := fun _ e => by cases e; exact h
theorem tick_bd {s : IS} (h : Bnd s) : Bd (fun _ => True) (tick s) := by
 unfold tick
 split
 ·trivial
 ·exact ⟨trivial, h.sc, h.ar, h.inp⟩
theorem mapR_bd {A : Type} {g : A → IS → IR Nat} : ∀ (l : List A) (s : IS), (∀ a ∈ l, ∀ s, Bnd s → Bd Lt (g a s)) → Bnd s → Bd (fun vs => ∀ v ∈ vs, Lt v) (mapR g l s)
 | [], s, _, hs => ⟨fun v hv => (List.not_mem_nil hv).elim, hs⟩
 | a :: l, s, h, hs => by
  unfold mapR
  refine (h a (List.mem_cons_self ..) s hs).bind fun v s hv hs => (mapR_bd l s (fun b hb => h b (List.mem_cons_of_mem _ hb)) hs).bind fun vs s hvs hs => ⟨fun x hx => ?_, hs⟩
  rcases List.mem_cons.1 hx with rfl | hx
  ·exact hv
  ·exact hvs x hx
theorem blkR_bd {g : Sm → IS → IR (Option Nat)} : ∀ (l : List Sm) (s : IS), (∀ a ∈ l, ∀ s, Bnd s → Bd OptLt (g a s)) → Bnd s → Bd OptLt (blkR g l s)
 | [], s, _, hs => ⟨OptLt.none, hs⟩
 | a :: l, s, h, hs => by
  unfold blkR
  refine (h a (List.mem_cons_self ..) s hs).bind fun r s hr hs => ?_
  cases r with
  | some v => exact ⟨hr, hs⟩
  | none => exact blkR_bd l s (fun b hb => h b (List.mem_cons_of_mem _ hb)) hs
theorem whlR_bd {c : IS → IR Nat} {b : IS → IR (Option Nat)} (hc : ∀ s, Bnd s → Bd Lt (c s)) (hb : ∀ s, Bnd s → Bd OptLt (b s)) : ∀ (m v : Nat) (s : IS), Bnd s → Bd OptLt (whlR c b m v s)
 | 0, v, s, hs => by
  unfold whlR
  split
  ·exact ⟨OptLt.none, hs⟩
  ·trivial
 | m + 1, v, s, hs => by
  unfold whlR
  split
  ·exact ⟨OptLt.none, hs⟩
  ·refine (hb s hs).bind fun r s hr hs => ?_
   cases r with
   | some x => exact ⟨hr, hs⟩
   | none => exact (hc s hs).bind fun v s _ hs => whlR_bd hc hb m v s hs
theorem b2n_lt (b : Bool) : Lt (b2n b) := by unfold b2n Lt; split <;> decide
theorem binI_lt {op : List UInt8} {a b v : Nat} (ha : Lt a) (hb : Lt b) (h : binI op a b = some v) : Lt v := by
 have hm : ∀ n : Nat, Lt (n % 4294967296) := fun n => Nat.mod_lt _ (by decide)
 have hx : Lt (a ^^^ b) := Nat.xor_lt_two_pow (n := 32) ha hb
 have hi : ∀ {c : Prop} [Decidable c] {x y : Option Nat}, OptLt x → OptLt y → OptLt (if c then x else y) := fun h1 h2 => by
  split
  ·exact h1
  ·exact h2
 have hB : ∀ b, OptLt (some (b2n b)) := fun b => OptLt.some (b2n_lt b)
 have : OptLt (binI op a b) := hi (OptLt.some (hm _)) (hi (OptLt.some (hm _)) (hi (OptLt.some (hm _)) (hi (OptLt.some hx) (hi (hB _) (hi (hB _) (hi (hB _) (hi (hB _) (hi (hB _) (hi (hB _) (hi (hB _) (hi (hB _) (hi OptLt.none
  (hi (OptLt.some (Nat.lt_of_le_of_lt (Nat.div_le_self _ _) ha)) (OptLt.some (Nat.lt_of_le_of_lt (Nat.mod_le _ _) ha)))))))))))))))
 exact this v h
theorem setPs_bd (f : FnD) : ∀ (ps : List (List UInt8)) (vs : List Nat) (s : IS), (∀ v ∈ vs, Lt v) → Bnd s → Bnd (setPs f ps vs s)
 | p :: ps, v :: vs, s, hv, hs => by
  unfold setPs
  refine setPs_bd f ps vs _ (fun x hx => hv x (List.mem_cons_of_mem _ hx)) ⟨fun k => ?_, hs.ar, hs.inp⟩
  show Lt (if k = keyI f p then v else s.sc k)
  split
  ·exact hv v (List.mem_cons_self ..)
  ·exact hs.sc k
 | [], _, s, _, hs => by unfold setPs; exact hs
 | _ :: _, [], s, _, hs => by unfold setPs; exact hs
theorem head_lt {l : List Nat} (h : ∀ v ∈ l, Lt v) : Lt (l.headD 0) := by
 cases l with
 | nil => unfold Lt; decide
 | cons a l => exact h a (List.mem_cons_self ..)
theorem opI_bd {P : Pr} {g : FnD → Sm → IS → IR (Option Nat)} (hP : ∀ f ∈ P.funcs, numSs f.body) (hg : ∀ f x s, numS x → Bnd s → Bd OptLt (g f x s)) (f : FnD) (op : List UInt8) {num : Nat} (hn : Lt num) (name : List UInt8) {vs : List Nat} (hv : ∀ v ∈ vs, Lt v) {s : IS} (hs : Bnd s) : Bd Lt (opI P g f op num name vs s) := by
 have ht : Lt (vs.tail.headD 0) := head_lt fun v h => hv v (List.mem_of_mem_tail h)
 unfold opI
 split
 ·exact ⟨hn, hs⟩
 split
 ·exact ⟨hs.sc _, hs⟩
 split
 ·split
  ·rename_i v h
   exact ⟨hs.ar _ v (List.mem_of_getElem? h), hs⟩
  ·trivial
 split
 ·exact ⟨Nat.mod_lt _ (by decide), hs⟩
 split
 ·exact ⟨b2n_lt _, hs⟩
 split
 ·unfold callI
  split
  ·split
   ·exact ⟨by unfold Lt; decide, hs⟩
   ·rename_i v r h
    exact ⟨hs.inp v (by rw [h]; exact List.mem_cons_self ..), hs.sc, hs.ar, fun x hx => hs.inp x (by rw [h]; exact List.mem_cons_of_mem _ hx)⟩
  split
  ·exact ⟨by unfold Lt; decide, hs.sc, hs.ar, hs.inp⟩
  ·refine (blkR_bd _ _ (fun x hx s hs => hg _ x s ?_ hs) (setPs_bd _ _ _ _ hv hs)).bind fun r s hr hs => ⟨?_, hs⟩
   ·unfold fnI at hx
    cases hf : P.funcs.find? fun f => decide (f.name = name) with
    | none => rw [hf] at hx; cases hx
    | some f' =>
     rw [hf] at hx
     exact numSs_mem (hP f' (List.mem_of_find?_eq_some hf)) hx
   ·cases r with
    | none => show Lt 0; unfold Lt; decide
    | some v => exact hr v rfl
 ·split
  ·rename_i v h
   exact ⟨binI_lt (head_lt hv) ht h, hs⟩
  ·trivial
/-- What is evaluated is below 2^32. -/
theorem bd_all {P : Pr} (hP : ∀ f ∈ P.funcs, numSs f.body) : ∀ n : Nat, (∀ f x s, numE x → Bnd s → Bd Lt (evI P n f x s)) ∧ ∀ f x s, numS x → Bnd s → Bd OptLt (stI P n f x s)
 | 0 => ⟨fun f x s _ _ => by unfold evI; trivial, fun f x s _ _ => by unfold stI; trivial⟩
 | n + 1 => by
  obtain ⟨i1, i2⟩ := bd_all hP n
  refine ⟨fun f x s hx hs => ?_, fun f x s hx hs => ?_⟩
  ·obtain ⟨op, num, name, args⟩ := x
   unfold evI
   exact (tick_bd hs).bind fun _ s _ hs => (mapR_bd args s (fun a ha s hs => i1 f a s (numEs_mem hx.2 ha) hs) hs).bind fun vs s hvs hs => opI_bd hP i2 f op hx.1 name hvs hs
  ·obtain ⟨kind, name, index, value, thn, els⟩ := x
   obtain ⟨h1, h2, h3, h4⟩ := hx
   unfold stI
   refine (tick_bd hs).bind fun _ s _ hs => ?_
   split
   ·trivial
   refine (i1 f _ s (numE_head h2) hs).bind fun v s hv hs => ?_
   split
   ·refine ⟨OptLt.none, fun k => ?_, hs.ar, hs.inp⟩
    show Lt (if k = keyI f name then v else s.sc k)
    split
    ·exact hv
    ·exact hs.sc k
   split
   ·refine (i1 f _ s (numE_head h1) hs).bind fun i s hi hs => ?_
    split
    ·refine ⟨OptLt.none, hs.sc, fun x w hw => ?_, hs.inp⟩
     have hw' : w ∈ (if x = name then (s.ar name).set i v else s.ar x) := hw
     split at hw'
     ·rcases List.mem_or_eq_of_mem_set hw' with g | rfl
      ·exact hs.ar name w g
      ·exact hv
     ·exact hs.ar x w hw'
    ·trivial
   split
   ·exact ⟨OptLt.some hv, hs⟩
   split
   ·split
    ·exact blkR_bd _ _ (fun a ha s hs => i2 f a s (numSs_mem h3 ha) hs) hs
    ·exact blkR_bd _ _ (fun a ha s hs => i2 f a s (numSs_mem h4 ha) hs) hs
   split
   ·exact whlR_bd (fun s hs => i1 f _ s (numE_head h2) hs) (fun s hs => blkR_bd _ _ (fun a ha s hs => i2 f a s (numSs_mem h3 ha) hs) hs) n v s hs
   ·exact ⟨OptLt.none, hs⟩
end Go.Stele
namespace Go.Stele
theorem errFs_own {vars arrays later : List Nm} : ∀ (fs : List FnD) (known : List FSum), errFs vars arrays later known fs = 0 → ∀ f ∈ fs, (f.params ++ f.locals).Nodup ∧ ∀ x ∈ f.params ++ f.locals, x ∉ vars ++ arrays ++ later
 | [], known, _, f, hf => (List.not_mem_nil hf).elim
 | g :: l, known, h, f, hf => by
  rw [errFs] at h
  obtain ⟨h1, h2⟩ := orE_zero.1 h
  rcases List.mem_cons.1 hf with rfl | hf
  ·obtain ⟨g1, g2⟩ := fresh_zero _ _ (orE_zero.1 h1).1
   exact ⟨g1, fun x hx => (g2 x hx).1⟩
  ·exact errFs_own l _ h2 f hf
theorem nodup_map {A B : Type} {g : A → B} (hg : ∀ x y, g x = g y → x = y) : ∀ {l : List A}, l.Nodup → (l.map g).Nodup
 | [], _ => List.nodup_nil
 | a :: l, h => by
  rw [List.nodup_cons] at h
  rw [List.map_cons, List.nodup_cons]
  refine ⟨fun hm => ?_, nodup_map hg h.2⟩
  obtain ⟨b, hb, he⟩ := List.mem_map.1 hm
  exact h.1 (hg _ _ he ▸ hb)
theorem own_nodup {fs : List FnD} : (fs.map (·.name)).Nodup → (∀ f ∈ fs, (46 : UInt8) ∉ f.name) → (∀ f ∈ fs, (f.params ++ f.locals).Nodup) → ((fs.map fun f => (f.params ++ f.locals).map fun x => f.name ++ [46] ++ x).flatten).Nodup := by
 induction fs with
 | nil => intro _ _ _; exact List.nodup_nil
 | cons f l ih =>
  intro h1 h2 h3
  rw [List.map_cons, List.nodup_cons] at h1
  rw [List.map_cons, List.flatten_cons, List.nodup_append]
  refine ⟨?_, ih h1.2 (fun g hg => h2 g (List.mem_cons_of_mem _ hg)) (fun g hg => h3 g (List.mem_cons_of_mem _ hg)), ?_⟩
  ·exact nodup_map (fun x y hxy => List.append_cancel_left hxy) (h3 f (List.mem_cons_self ..))
  ·intro a ha b hb he
   subst he
   obtain ⟨x, _, rfl⟩ := List.mem_map.1 ha
   obtain ⟨L, g1, g2⟩ := List.mem_flatten.1 hb
   obtain ⟨g, g3, rfl⟩ := List.mem_map.1 g1
   obtain ⟨y, _, g5⟩ := List.mem_map.1 g2
   have g6 : g.name ++ 46 :: y = f.name ++ 46 :: x := by simpa using g5
   obtain ⟨e1, _⟩ := split_dot _ _ _ _ (h2 g (List.mem_cons_of_mem _ g3)) (h2 f (List.mem_cons_self ..)) g6
   exact h1.1 (List.mem_map.2 ⟨g, g3, e1⟩)
/-- The keys of a valid program's scalars are different. -/
theorem scal_nodup {vars arrays : List Nm} {fs : List FnD} (h : freshE [] (vars ++ arrays ++ fs.map (·.name)) = 0) (hf : errFs vars arrays (fs.map (·.name)) [] fs = 0) : (scalarsP vars fs).Nodup := by
 obtain ⟨h1, h2⟩ := fresh_zero _ _ h
 have ho := errFs_own fs [] hf
 unfold scalarsP
 rw [List.nodup_append]
 refine ⟨(List.nodup_append.1 (List.nodup_append.1 h1).1).1, own_nodup (List.nodup_append.1 h1).2.1 (fun f hf => noDot (h2 _ (List.mem_append.2 (.inr (List.mem_map.2 ⟨f, hf, rfl⟩)))).2) fun f hf => (ho f hf).1, ?_⟩
 intro a ha b hb he
 subst he
 obtain ⟨L, g1, g2⟩ := List.mem_flatten.1 hb
 obtain ⟨g, g3, rfl⟩ := List.mem_map.1 g1
 obtain ⟨y, _, g5⟩ := List.mem_map.1 g2
 have := noDot (h2 _ (List.mem_append.2 (.inl (List.mem_append.2 (.inl ha))))).2
 rw [← g5] at this
 exact absurd (by simp) this
end Go.Stele
namespace Go.Stele
/-- Known functions are functions of the program. -/
def Known (fs : List FnD) (known : List FSum) : Prop := ∀ k ∈ known, ∃ g ∈ fs, g.name = k.name ∧ g.params.length = k.params
theorem body_valid {vars arrays later : List Nm} {all : List FnD} : ∀ (fs : List FnD) (known : List FSum), errFs vars arrays later known fs = 0 → Known all known → (∀ f ∈ fs, f ∈ all) → ∀ f ∈ fs, ∃ kn, errSs (envF vars arrays later kn f) f.body = 0 ∧ Known all kn
 | [], known, _, _, _, f, hf => (List.not_mem_nil hf).elim
 | g :: l, known, h, hk, ha, f, hf => by
  rw [errFs] at h
  obtain ⟨h1, h2⟩ := orE_zero.1 h
  rcases List.mem_cons.1 hf with rfl | hf
  ·exact ⟨known, (orE_zero.1 h1).2, hk⟩
  ·refine body_valid l _ h2 (fun k hk' => ?_) (fun x hx => ha x (List.mem_cons_of_mem _ hx)) f hf
   rcases List.mem_append.1 hk' with g1 | g1
   ·exact hk k g1
   ·rw [List.mem_singleton.1 g1]
    exact ⟨g, ha g (List.mem_cons_self ..), rfl, rfl⟩
theorem sizes_valid : ∀ (l : List Int) (t : Int), 0 ≤ t → sizesE t l = 0 → ∀ n ∈ l, 0 < n ∧ t + n ≤ 150000
 | [], t, _, _, n, hn => (List.not_mem_nil hn).elim
 | a :: l, t, ht, h, n, hn => by
  rw [sizesE] at h
  split at h
  ·cases h
  split at h
  ·cases h
  rcases List.mem_cons.1 hn with rfl | hn
  ·constructor <;> omega
  ·have := sizes_valid l (t + a) (by omega) h n hn
   constructor <;> omega
/-- A program without a violated rule. -/
structure Valid (p : Pr) : Prop where
 names : freshE [] (p.vars ++ p.arrays.map (·.name) ++ p.funcs.map (·.name)) = 0
 sizes : ∀ a ∈ p.arrays, 0 < a.size ∧ a.size ≤ 150000
 own : ∀ f ∈ p.funcs, (f.params ++ f.locals).Nodup ∧ ∀ x ∈ f.params ++ f.locals, x ∉ p.vars ++ p.arrays.map (·.name) ++ p.funcs.map (·.name)
 bodies : ∀ f ∈ p.funcs, ∃ kn, errSs (envF p.vars (p.arrays.map (·.name)) (p.funcs.map (·.name)) kn f) f.body = 0 ∧ Known p.funcs kn
 keys : (scalarsP p.vars p.funcs).Nodup
 main : mainI p ∈ p.funcs ∧ (mainI p).name = [109, 97, 105, 110] ∧ (mainI p).params = []
 few : (scalarsP p.vars p.funcs).length ≤ 8000
theorem valid_of {p : Pr} (h : checkPr p = 0) : Valid p := by
 unfold checkPr checkP at h
 have e1 : (p.arrays.map fun a => (a.name, (a.size : Int))).map (·.1) = p.arrays.map (·.name) := by rw [List.map_map]; rfl
 rw [e1] at h
 obtain ⟨h1, h⟩ := orE_zero.1 h
 obtain ⟨h2, h⟩ := orE_zero.1 h
 obtain ⟨h3, h4⟩ := orE_zero.1 h
 have hm : mainI p ∈ p.funcs ∧ (mainI p).name = [109, 97, 105, 110] ∧ (mainI p).params = [] ∧ (scalarsP p.vars p.funcs).length ≤ 8000 := by
  unfold mainE at h4
  split at h4
  ·rename_i f m hf hms
   split at h4
   ·rename_i h5
    split at h4
    ·rename_i h6
     have e : mainI p = f := by unfold mainI; rw [hf]; rfl
     rw [e]
     exact ⟨List.mem_of_getLast? hf, h5.1, h5.2, h6.1⟩
    ·cases h4
   ·cases h4
  ·cases h4
 refine ⟨h1, fun a ha => ?_, errFs_own _ _ h3, body_valid _ _ h3 (fun k hk => (List.not_mem_nil hk).elim) (fun f hf => hf), scal_nodup h1 h3, ⟨hm.1, hm.2.1, hm.2.2.1⟩, hm.2.2.2⟩
 have := sizes_valid _ 0 (by decide) h2 (a.size : Int) (by
  rw [List.map_map]
  exact List.mem_map.2 ⟨a, ha, rfl⟩)
 constructor <;> omega
/-- A call that the checker lets through, of a function of the program. -/
theorem call_valid {p : Pr} {f : FnD} {kn : List FSum} (hv : Valid p) (hk : Known p.funcs kn) {name : Nm} {n : Nat} (h : callE (envF p.vars (p.arrays.map (·.name)) (p.funcs.map (·.name)) kn f) name n = 0) (h1 : name ≠ [105, 110]) (h2 : name ≠ [111, 117, 116]) : fnI p name ∈ p.funcs ∧ (fnI p name).name = name ∧ (fnI p name).params.length = n := by
 unfold callE at h
 rw [if_neg h1, if_neg h2] at h
 unfold CEnv.fn at h
 rw [show (envF p.vars (p.arrays.map (·.name)) (p.funcs.map (·.name)) kn f).funcs = kn from rfl] at h
 cases hf : kn.find? fun f => decide (f.name = name) with
 | none =>
  rw [hf] at h
  simp only at h
  split at h <;> cases h
 | some k =>
  rw [hf] at h
  simp only at h
  split at h
  ·rename_i hn
   obtain ⟨g, g1, g2, g3⟩ := hk k (List.mem_of_find?_eq_some hf)
   have hkn : k.name = name := of_decide_eq_true (List.find?_some (p := fun g : FSum => decide (g.name = name)) hf)
   have e := fnI_mem (P := p) (List.nodup_append.1 (fresh_zero _ _ hv.names).1).2.1 g1
   rw [g2, hkn] at e
   rw [e]
   exact ⟨g1, g2.trans hkn, by rw [g3, hn]⟩
  ·cases h
end Go.Stele
set_option maxRecDepth 100000
namespace Go.Stele
/-- `func main() { out(2 + 40); }` -/
def awakeS : List UInt8 := [102, 117, 110, 99, 32, 109, 97, 105, 110, 40, 41, 32, 123, 32, 111, 117, 116, 40, 50, 32, 43, 32, 52, 48, 41, 59, 32, 125]
def awakeP : Pr := ⟨[], [], [⟨[109, 97, 105, 110], [], [], [.mk 6 [] [] [.mk nCall 0 [111, 117, 116] [.mk [43] 0 [] [.mk nNum 2 [] [], .mk nNum 40 [] []]]] [] []]⟩]⟩
theorem awake_parse : parseQ awakeS = (awakeP, 0) := by kernel_rfl
theorem awake_check : checkPr awakeP = 0 := by decide +kernel
theorem awake_run : runI awakeP [] 100 = ⟨[42], 0, 5⟩ := by kernel_rfl
/-- The example of the chapter. -/
theorem awake_law : sourceI awakeS [] 100 = ⟨[42], 0, 5⟩ := by
 rw [source_ok awake_parse awake_check]
 exact awake_run
end Go.Stele
namespace Go.Stele
/-- Output and steps that are left grow by k at most. -/
def Few {A : Type} (k : Nat) (s : IS) (r : IR A) : Prop := r.st.out.length + r.st.left ≤ s.out.length + s.left + k
theorem Few.bind {A B : Type} {k : Nat} {s : IS} {r : IR A} {f : A → IS → IR B} (h : Few 0 s r) (hf : ∀ v s', Few k s' (f v s')) : Few k s (r.bind f) := by
 cases r with
 | ok v s' => exact Nat.le_trans (hf v s') (Nat.add_le_add_right h k)
 | stop e s' => exact Nat.le_trans h (Nat.le_add_right _ _)
theorem Few.bind' {A B : Type} {k : Nat} {s : IS} {r : IR A} {f : A → IS → IR B} (h : Few k s r) (hf : ∀ v s', Few 0 s' (f v s')) : Few k s (r.bind f) := by
 cases r with
 | ok v s' => exact Nat.le_trans (hf v s') h
 | stop e s' => exact h
theorem Few.refl {A : Type} {k : Nat} {v : A} {s : IS} : Few k s (.ok v s) := Nat.le_add_right _ _
theorem Few.reflS {A : Type} {k : Nat} {e : Int} {s : IS} : Few (A := A) k s (.stop e s) := Nat.le_add_right _ _
theorem Few.tick {B : Type} {s : IS} {f : Unit → IS → IR B} (hf : ∀ s', Few 1 s' (f () s')) : Few 0 s ((tick s).bind f) := by
 unfold Go.Stele.tick
 split
 ·exact Few.reflS
 ·rename_i h
  have := hf { s with left := s.left - 1 }
  unfold Few at this ⊢
  simp only at this
  show (f () { s with left := s.left - 1 }).st.out.length + (f () { s with left := s.left - 1 }).st.left ≤ _
  omega
theorem Few.up {A : Type} {s : IS} {r : IR A} (h : Few 0 s r) : Few 1 s r := Nat.le_trans h (Nat.le_add_right _ _)
theorem mapR_few {A : Type} {g : A → IS → IR Nat} (h : ∀ a s, Few 0 s (g a s)) : ∀ (l : List A) (s : IS), Few 0 s (mapR g l s)
 | [], s => Few.refl
 | a :: l, s => (h a s).bind fun v s => (mapR_few h l s).bind fun vs s => Few.refl
theorem blkR_few {g : Sm → IS → IR (Option Nat)} (h : ∀ a s, Few 0 s (g a s)) : ∀ (l : List Sm) (s : IS), Few 0 s (blkR g l s)
 | [], s => Few.refl
 | a :: l, s => (h a s).bind fun r s => by
  cases r with
  | none => exact blkR_few h l s
  | some v => exact Few.refl
theorem whlR_few {c : IS → IR Nat} {b : IS → IR (Option Nat)} (hc : ∀ s, Few 0 s (c s)) (hb : ∀ s, Few 0 s (b s)) : ∀ (m v : Nat) (s : IS), Few 0 s (whlR c b m v s)
 | 0, v, s => by
  unfold whlR
  split
  ·exact Few.refl
  ·exact Few.reflS
 | m + 1, v, s => by
  unfold whlR
  split
  ·exact Few.refl
  ·refine (hb s).bind fun r s => ?_
   cases r with
   | some x => exact Few.refl
   | none => exact (hc s).bind fun v s => whlR_few hc hb m v s
theorem opI_few {P : Pr} {g : FnD → Sm → IS → IR (Option Nat)} (h : ∀ f a s, Few 0 s (g f a s)) (f : FnD) (op : List UInt8) (num : Nat) (name : List UInt8) (vs : List Nat) (s : IS) : Few 1 s (opI P g f op num name vs s) := by
 unfold opI
 split
 ·exact Few.refl
 split
 ·exact Few.refl
 split
 ·split
  ·exact Few.refl
  ·exact Few.reflS
 split
 ·exact Few.refl
 split
 ·exact Few.refl
 split
 ·unfold callI
  split
  ·split
   ·exact Few.refl
   ·exact Nat.le_add_right _ _
  split
  ·unfold Few
   simp only [IR.st, List.length_append, List.length_cons, List.length_nil]
   omega
  ·refine Few.bind' (Few.up ?_) fun r s => Few.refl
   have := blkR_few (h (fnI P name)) (fnI P name).body (setPs (fnI P name) (fnI P name).params vs s)
   unfold Few at this ⊢
   rwa [(setPs_same _ _ _ _).1, (setPs_same _ _ _ _).2.1] at this
 ·split
  ·exact Few.refl
  ·exact Few.reflS
theorem few_all (P : Pr) : ∀ n : Nat, (∀ f x s, Few 0 s (evI P n f x s)) ∧ ∀ f x s, Few 0 s (stI P n f x s)
 | 0 => ⟨fun f x s => by unfold evI; exact Few.reflS, fun f x s => by unfold stI; exact Few.reflS⟩
 | n + 1 => by
  obtain ⟨h1, h2⟩ := few_all P n
  refine ⟨fun f x s => ?_, fun f x s => ?_⟩
  ·obtain ⟨op, num, name, args⟩ := x
   unfold evI
   exact Few.tick fun s => (mapR_few (h1 f) args s).bind fun vs s => opI_few h2 f op num name vs s
  ·obtain ⟨kind, name, index, value, thn, els⟩ := x
   unfold stI
   refine Few.tick fun s => Few.up ?_
   split
   ·exact Few.reflS
   refine (h1 f _ s).bind fun v s => ?_
   split
   ·exact Few.refl
   split
   ·refine (h1 f _ s).bind fun i s => ?_
    split
    ·exact Few.refl
    ·exact Few.reflS
   split
   ·exact Few.refl
   split
   ·split
    ·exact blkR_few (h2 f) _ _
    ·exact blkR_few (h2 f) _ _
   split
   ·exact whlR_few (h1 f _) (blkR_few (h2 f) _) _ _ _
   ·exact Few.refl
end Go.Stele
namespace Go.Stele
theorem nm_short {s : Nm} (h : isNm s = true) : s.length ≤ 24 := by
 unfold isNm at h
 simp only [Bool.and_eq_true, decide_eq_true_eq] at h
 exact h.1.1
theorem errFs_nm {vars arrays later : List Nm} : ∀ (fs : List FnD) (known : List FSum), errFs vars arrays later known fs = 0 → ∀ f ∈ fs, ∀ x ∈ f.params ++ f.locals, isNm x = true
 | [], known, _, f, hf => (List.not_mem_nil hf).elim
 | g :: l, known, h, f, hf => by
  rw [errFs] at h
  obtain ⟨h1, h2⟩ := orE_zero.1 h
  rcases List.mem_cons.1 hf with rfl | hf
  ·obtain ⟨g1, g2⟩ := fresh_zero _ _ (orE_zero.1 h1).1
   exact fun x hx => (g2 x hx).2
  ·exact errFs_nm l _ h2 f hf
theorem short_of {p : Pr} (h : checkPr p = 0) : (∀ f ∈ p.funcs, f.name.length ≤ 24) ∧ ∀ k ∈ scalarsP p.vars p.funcs, k.length ≤ 49 := by
 unfold checkPr checkP at h
 have e1 : (p.arrays.map fun a => (a.name, (a.size : Int))).map (·.1) = p.arrays.map (·.name) := by rw [List.map_map]; rfl
 rw [e1] at h
 obtain ⟨h1, h⟩ := orE_zero.1 h
 obtain ⟨h2, h⟩ := orE_zero.1 h
 obtain ⟨h3, h4⟩ := orE_zero.1 h
 have hn := (fresh_zero _ _ h1).2
 have hf : ∀ f ∈ p.funcs, f.name.length ≤ 24 := fun f hf => nm_short (hn _ (List.mem_append.2 (.inr (List.mem_map.2 ⟨f, hf, rfl⟩)))).2
 refine ⟨hf, fun k hk => ?_⟩
 unfold scalarsP at hk
 rcases List.mem_append.1 hk with g | g
 ·have := nm_short (hn k (List.mem_append.2 (.inl (List.mem_append.2 (.inl g))))).2
  omega
 ·obtain ⟨l, g1, g2⟩ := List.mem_flatten.1 g
  obtain ⟨f, g3, rfl⟩ := List.mem_map.1 g1
  obtain ⟨x, g4, rfl⟩ := List.mem_map.1 g2
  have a1 := hf f g3
  have a2 := nm_short (errFs_nm _ _ h3 f g3 x g4)
  simp only [List.length_append, List.length_cons, List.length_nil]
  omega
theorem own_short {p : Pr} (h : checkPr p = 0) : ∀ f ∈ p.funcs, f.name.length ≤ 1000 ∧ ∀ x ∈ f.params ++ f.locals, x.length ≤ 1000 := by
 have h0 := (short_of h).1
 unfold checkPr checkP at h
 have e1 : (p.arrays.map fun a => (a.name, (a.size : Int))).map (·.1) = p.arrays.map (·.name) := by rw [List.map_map]; rfl
 rw [e1] at h
 have h3 := (orE_zero.1 (orE_zero.1 (orE_zero.1 h).2).2).1
 exact fun f hf => ⟨Nat.le_trans (h0 f hf) (by decide), fun x hx => Nat.le_trans (nm_short (errFs_nm _ _ h3 f hf x hx)) (by decide)⟩
/-- What an execution asks of a program. -/
theorem key_short {p : Pr} {f : FnD} {name : Nm} (h : ∀ k ∈ scalarsP p.vars p.funcs, k.length ≤ 49) (hk : keyI f name ∈ scalarsP p.vars p.funcs) : name.length ≤ 49 := by
 have := h _ hk
 unfold keyI at this
 split at this
 ·simp only [List.length_append, List.length_cons, List.length_nil] at this
  omega
 ·exact this
end Go.Stele
namespace Go.Stele
def Few6 (n : Nat) : Prop := n ≤ 1000000
mutual
def smE : Ex → Prop
 | .mk op num name args => Few6 args.length ∧ smEs args
def smEs : List Ex → Prop
 | [] => True
 | x :: l => smE x ∧ smEs l
end
mutual
def smS : Sm → Prop
 | .mk kind name index value thn els => Few6 index.length ∧ Few6 value.length ∧ Few6 thn.length ∧ Few6 els.length ∧ smEs index ∧ smEs value ∧ smSs thn ∧ smSs els
def smSs : List Sm → Prop
 | [] => True
 | x :: l => smS x ∧ smSs l
end
structure SmF (f : FnD) : Prop where
 params : Few6 f.params.length
 locals : Few6 f.locals.length
 body : Few6 f.body.length
 stmts : smSs f.body
structure SmP (p : Pr) : Prop where
 vars : Few6 p.vars.length
 arrays : Few6 p.arrays.length
 funcs : Few6 p.funcs.length
 each : ∀ f ∈ p.funcs, SmF f
end Go.Stele
namespace Go.Proofs.YtcbpcianefpniaaGreatDoor.Inp
open Go.GL Go.RowKit Go.Stele
set_option maxRecDepth 100000
set_option maxHeartbeats 4000000
@[reducible] def u32 (n : Nat) : LV := int .u32 (n : Int)
def unitV : Unit → LV := fun _ => .tuple []
def retV : Option Nat → LV := fun r => .tuple [u32 (r.getD 0), bool r.isSome]
@[reducible] def fnV (f : FuncId) : LV := .atom (.func (.func f) #[] #[])
/-- The binary operators' functions; the divisor's cell is db. -/
def opsKV (db : Nat) : KV := [([43], fnV 58), ([45], fnV 59), ([42], fnV 60), ([47], .atom (.func (.func 61) #[] #[.pointer (some ⟨db, 0, none⟩)])), ([37], .atom (.func (.func 62) #[] #[.pointer (some ⟨db, 0, none⟩)])),
 ([94], fnV 63), ([61, 61], fnV 64), ([33, 61], fnV 66), ([60], fnV 67), ([62], fnV 68), ([60, 61], fnV 69), ([62, 61], fnV 70), ([38, 38], fnV 71), ([124, 124], fnV 72)]
/-- Where an execution's blocks lie. -/
structure Cfg where
 p : Pr
 rb : Nat
 db : Nat
 om : Nat
 sm : Nat
 am : Nat
 fm : Nat
 oc : Nat
 sc : Nat
 ac : Nat
 fc : Nat
 sb : List (List UInt8 × Nat)
 ab : List (List UInt8 × Nat × Nat)
 lim : Nat
def scKV (sb : List (List UInt8 × Nat)) : KV := sb.map fun q => (q.1, ptr q.2 0)
def arKV (ab : List (List UInt8 × Nat × Nat)) : KV := ab.map fun q => (q.1, rowV q.2.1 q.2.2)
def fnKV (fs : List FnD) : KV := fs.map fun f => (f.name, encFn f)
def runC (c : Cfg) (s : IS) (v : LV) : List LV := [.list (c.p.vars.map str), .list (c.p.arrays.map encAr), .list (c.p.funcs.map encFn), .atom (.map (some c.om)), .list (s.inp.map u32), v, int .i64 ((c.lim - s.left : Nat) : Int), int .i64 (s.left : Int), .atom (.map (some c.sm)), .atom (.map (some c.am)), .atom (.map (some c.fm))]
def scH (sb : List (List UInt8 × Nat)) (s : IS) : Heap := sb.map fun q => (q.2, LObj.cells 43 [u32 (s.sc q.1)])
def arH (ab : List (List UInt8 × Nat × Nat)) (s : IS) : Heap := ab.map fun q => (q.2.1, LObj.cells 43 ((s.ar q.1).map u32))
@[reducible] def divH (db : Nat) : Nat × LObj := (db, .cells 132 [fnV 57])
def stH (c : Cfg) (s : IS) (v : LV) (Ha : Heap) : Heap := (c.rb, .cells 72 (runC c s v)) :: (c.sm, .map (kvs (scKV c.sb)) c.sc) :: (c.am, .map (kvs (arKV c.ab)) c.ac) :: (c.fm, .map (kvs (fnKV c.p.funcs)) c.fc) :: (c.om, .map (kvs (opsKV c.db)) c.oc) :: divH c.db :: (scH c.sb s ++ (arH c.ab s ++ Ha))
/-- The state in memory. -/
def St (c : Cfg) (s : IS) (H : Heap) : Prop := (∀ q ∈ c.ab, (s.ar q.1).length = q.2.2) ∧ s.left ≤ c.lim ∧ ∃ v Ha, Acc 1 v (byts s.out) Ha [] ∧ H = stH c s v Ha
/-- What is the same in all states of a run. -/
structure CfgOk (c : Cfg) : Prop where
 valid : Valid c.p
 nums : ∀ f ∈ c.p.funcs, numSs f.body
 sbk : c.sb.map (·.1) = scalarsP c.p.vars c.p.funcs
 abk : c.ab.map (·.1) = c.p.arrays.map (·.name)
 small : SmP c.p
 asz : ∀ q ∈ c.ab, q.2.2 ≤ 150000
 lim : c.lim ≤ 100000000
 fshort : ∀ f ∈ c.p.funcs, f.name.length ≤ 24
 short : ∀ k ∈ scalarsP c.p.vars c.p.funcs, k.length ≤ 49
def panI (e : Int) : List PanicEntry := [{ v := .iface 131 (.agg #[.int .i64 e]), recovered := false }]
/-- A call that hands back a value or ends the execution. -/
def PostI {A : Type} (c : Cfg) (enc : A → LV) (r : IR A) (res : LRes) (H : Heap) : Prop := match r with
 | .ok v s => res = .ret (enc v) ∧ St c s H
 | .stop e s => res = .panic (panI e) ∧ St c s H
/-- A call that hands back this and leaves the heap as it was. -/
@[reducible] def Same (v : LV) (H : Heap) : LRes → Heap → Prop := fun r H' => r = .ret v ∧ H' = H
section steps
variable {C : Ctx} {n : Nat} {e : Env} {H : Heap} {dst : Option Nat} {ty : TypeId} {pos : String} {aft : Array Edge} {g : Option (Nat × Bool)} {K : LV → Heap → Prop} {X : List PanicEntry → Heap → Prop}
theorem S.callS {f : FuncId} [TEnter C.P f] (args : List Operand) {ats : Array TypeId} {av : List LV} {lv : LV} {H1 F : Heap} (has : args.map e.ev = av) (hp : H.Perm (H1 ++ F)) (hc : LCalls C f av H1 (Same lv H1)) (hk : K lv (H1 ++ F)) :
  LStep C ⟨dst, .call { callee := .value (.func f), args := args.toArray, argTypes := ats }, ty, pos, aft, g⟩ e H K X :=
 S.callH args has hp hc (by rintro v H' ⟨h, rfl⟩; cases h; exact hk) (by rintro ch H' ⟨h, _⟩; cases h)
theorem S.callI {A : Type} {c : Cfg} {enc : A → LV} {r : IR A} {f : FuncId} [TEnter C.P f] (args : List Operand) {ats : Array TypeId} {av : List LV} {H1 F : Heap} (has : args.map e.ev = av) (hp : H.Perm (H1 ++ F))
  (hc : LCalls C f av H1 (PostI c enc r)) (hk : ∀ v s H', r = .ok v s → St c s H' → K (enc v) (H' ++ F)) (hx : ∀ er s H', r = .stop er s → St c s H' → X (panI er) (H' ++ F)) :
  LStep C ⟨dst, .call { callee := .value (.func f), args := args.toArray, argTypes := ats }, ty, pos, aft, g⟩ e H K X := by
 refine S.callH args has hp hc ?_ ?_
 ·intro v H' h
  cases hr : r with
  | ok u s =>
   rw [hr] at h
   obtain ⟨h1, h2⟩ := h
   cases h1
   exact hk _ _ _ hr h2
  | stop er s =>
   rw [hr] at h
   obtain ⟨h1, _⟩ := h
   cases h1
 ·intro ch H' h
  cases hr : r with
  | ok u s =>
   rw [hr] at h
   obtain ⟨h1, _⟩ := h
   cases h1
  | stop er s =>
   rw [hr] at h
   obtain ⟨h1, h2⟩ := h
   cases h1
   exact hx _ _ _ hr h2
theorem retI {A : Type} {c : Cfg} {enc : A → LV} {r : IR A} {rs : List ResultVar} {vs : List LV} {v : A} {s : IS} {H' : Heap} (hd : e.ds = []) (h : AllRes C n e H rs vs) (hr : r = .ok v s) (hv : resLV vs = enc v) (hH : HSub H' H) (hs : St c s H') :
  RetPost C n rs (PostI c enc r) .ret e H := RetPost.ret hd h hH (by rw [hr]; exact ⟨by rw [hv], hs⟩)
theorem retIn {A : Type} {c : Cfg} {enc : A → LV} {r : IR A} {rs : List ResultVar} {vs : List LV} {v : A} {s : IS} {H' : Heap} (hd : e.ds = []) (h : AllRes C n e H rs vs) (hr : r = .ok v s) (hv : resLV vs = enc v) (hH : HSub H' H) (hs : St c s H') :
  RetPost C n rs (PostI c enc r) .normal e H := RetPost.normal hd h hH (by rw [hr]; exact ⟨by rw [hv], hs⟩)
theorem panI_ {A : Type} {c : Cfg} {enc : A → LV} {r : IR A} {rs : List ResultVar} {er : Int} {s : IS} {H' : Heap} (hd : e.ds = []) (hr : r = .stop er s) (hH : HSub H' H) (hs : St c s H') :
  RetPost C n rs (PostI c enc r) (.panic (panI er)) e H := RetPost.panic hd hH (by rw [hr]; exact ⟨rfl, hs⟩)
theorem retS {rs : List ResultVar} {vs : List LV} {lv : LV} {H0 : Heap} (hd : e.ds = []) (h : AllRes C n e H rs vs) (hv : resLV vs = lv) (hH : HSub H0 H) : RetPost C n rs (Same lv H0) .ret e H :=
 RetPost.ret hd h hH ⟨by rw [hv], rfl⟩
end steps
instance : TMap Tryz.prog 68 74 (.pointer none) (.atom (.pointer none)) := ⟨⟨9, by kernel_rfl, by kernel_rfl⟩, fun w => (Go.zero_of_info (P := Tryz.prog) (n := 1) (by kernel_rfl)).1 w, fun _ _ => rep_atom⟩
instance : TMap Tryz.prog 69 22 (.slice none 0 0) nilSlice := ⟨⟨9, by kernel_rfl, by kernel_rfl⟩, fun w => (Go.zero_of_info (P := Tryz.prog) (n := 1) (by kernel_rfl)).1 w, fun _ _ => rep_atom⟩
instance : TMap Tryz.prog 70 63 (.agg [.string ⟨#[]⟩, .slice none 0 0, .slice none 0 0, .slice none 0 0].toArray) (.agg ([.string ⟨#[]⟩, .slice none 0 0, .slice none 0 0, .slice none 0 0].map .atom)) := ⟨⟨9, by kernel_rfl, by kernel_rfl⟩, fun w => (Go.zero_of_info (P := Tryz.prog) (n := 4) (by kernel_rfl)).1 w, fun w L => rep_aggs w L _⟩
instance : TMap Tryz.prog 66 133 .nilFunc (.atom .nilFunc) := ⟨⟨9, by kernel_rfl, by kernel_rfl⟩, fun w => (Go.zero_of_info (P := Tryz.prog) (n := 1) (by kernel_rfl)).1 w, fun _ _ => rep_atom⟩
attribute [local irreducible] LOps LCode LStep LCalls Go.GL.Pure QThen QBlock RetPost LQ LAny LLate LLateOp
section
variable {B0 : Nat} {w0 : World} {H : Heap}
theorem step_spec {c : Cfg} (hC : CfgOk c) {s : IS} (hs : St c s H) : LCalls (KC B0 w0) 157 [ptr c.rb 0] H (PostI c unitV (tick s)) := by
 have hs0 := hs
 have hlim := hC.lim
 obtain ⟨hl, hle, v, Ha, hacc, rfl⟩ := hs
 refine LCalls.intro Tryz.func157 rfl (n := 23) rfl rfl rfl ?_
 repeat first | refine LOps.nil ?_ | refine LCode.seq ?_ | refine LCode.region ?_ | refine QThen.normal ?_ | refine LOps.pure (Pure.mv (lv := .atom _) rfl) rfl ?_ | refine LOps.pure (Pure.nilCheckH rfl) rfl ?_ | refine LOps.pure (Pure.fieldH rfl) rfl ?_ | refine LOps.pure (Pure.loadH (c := .atom _) rfl (List.Mem.head _) rfl) rfl ?_ | refine LOps.pure (Pure.eql rfl rfl) rfl ?_
 refine LCode.cond rfl (fun hc => ?_) (fun hc => ?_)
 ·repeat first | refine LCode.region ?_ | refine LOps.pure (Pure.bld _ (cs := [_]) rfl) rfl ?_ | refine LOps.pure (Pure.makeInterfaceAgg (vs := [_]) rfl) rfl ?_
  refine LOps.step (LStep.panic rfl fun e' he' => ?_) rfl
  repeat first | refine QThen.panic ?_
  have h0 : s.left = 0 := by have := of_decide_eq_true hc; omega
  exact panI_ (he'.trans rfl) (by rw [tick, if_pos h0]) (HSub.refl _) hs0
 ·have h0 : ¬ s.left = 0 := by have := of_decide_eq_false hc; omega
  repeat first | refine LOps.nil ?_ | refine LCode.seq ?_ | refine LCode.region ?_ | refine LCode.skip ?_ | refine QThen.normal ?_ | refine LOps.pure (Pure.mv (lv := .atom _) rfl) rfl ?_ | refine LOps.pure (Pure.nilCheckH rfl) rfl ?_ | refine LOps.pure (Pure.fieldH rfl) rfl ?_ | refine LOps.pure (Pure.loadH (c := .atom _) rfl (List.Mem.head _) rfl) rfl ?_ | refine LOps.pure (Pure.sub rfl rfl (by omega)) rfl ?_ | refine LOps.pure (Pure.add rfl rfl (by omega)) rfl ?_ | refine LOps.step (S.store (cs' := [_, _, _, _, _, _, _, _, _, _, _]) rfl Pick.here rfl rfl rfl rfl rfl ?_) rfl
  have e1 : (s.left : Int) - 1 = ((s.left - 1 : Nat) : Int) := by omega
  have e2 : ((c.lim - s.left : Nat) : Int) + 1 = ((c.lim - (s.left - 1) : Nat) : Int) := by omega
  rw [e1, e2]
  exact retIn rfl AllRes.nil (v := ()) (s := { s with left := s.left - 1 }) (by rw [tick, if_neg h0]) rfl (HSub.refl _) ⟨hl, by show s.left - 1 ≤ c.lim; omega, v, Ha, hacc, rfl⟩
theorem truth_spec (b : Bool) : LCalls (KC B0 w0) 65 [bool b] H (Same (u32 (b2n b)) H) := by
 refine LCalls.intro Tryz.func65 rfl (n := 4) rfl rfl rfl ?_
 repeat first | refine LOps.nil ?_ | refine LCode.seq ?_ | refine LCode.region ?_ | refine QThen.normal ?_ | refine LOps.pure (Pure.as (lv := .atom _) rfl) rfl ?_ | refine LOps.pure (Pure.mv (lv := .atom _) rfl) rfl ?_
 refine LCode.cond rfl (fun hc => ?_) (fun hc => ?_)
 ·repeat first | refine LOps.nil ?_ | refine LCode.seq ?_ | refine LCode.region ?_ | refine LCode.ret ?_ | refine QThen.normal ?_ | refine QThen.ret ?_ | refine LOps.pure (Pure.as (lv := .atom _) rfl) rfl ?_
  exact retS rfl (AllRes.cons (ResIs.tmp (v := .atom _) rfl (LV.Sub.refl _)) AllRes.nil) (by rw [hc]; rfl) (HSub.refl _)
 ·repeat first | refine LOps.nil ?_ | refine LCode.seq ?_ | refine LCode.region ?_ | refine LCode.skip ?_ | refine LCode.ret ?_ | refine QThen.normal ?_ | refine LOps.pure (Pure.as (lv := .atom _) rfl) rfl ?_
  exact retS rfl (AllRes.cons (ResIs.tmp (v := .atom _) rfl (LV.Sub.refl _)) AllRes.nil) (by rw [hc]; rfl) (HSub.refl _)
end
end Go.Proofs.YtcbpcianefpniaaGreatDoor.Inp
namespace Go.Proofs.YtcbpcianefpniaaGreatDoor.Inp
open Go.GL Go.RowKit Go.Stele
set_option maxRecDepth 100000
set_option maxHeartbeats 4000000
theorem wrapU (n : Int) : IntKind.u32.wrap n = n % 4294967296 := by
 simp only [IntKind.wrap, IntKind.bits, IntKind.signed, Bool.false_and]
 rfl
theorem u32_eq {a : Int} {b : Nat} (h : a = b) : int .u32 a = u32 b := by rw [h]
theorem b2n_dec {p q : Prop} [Decidable p] [Decidable q] (h : p ↔ q) : b2n (decide p) = b2n (decide q) := by rw [decide_eq_decide.2 h]
attribute [local irreducible] LOps LCode LStep LCalls Go.GL.Pure QThen QBlock RetPost LQ LAny LLate LLateOp
section
variable {B0 : Nat} {w0 : World} {H : Heap} {a b : Nat}
theorem xor_u32 (ha : a < 4294967296) (hb : b < 4294967296) : IntKind.u32.wrap ((BitVec.ofInt IntKind.u32.bits a ^^^ BitVec.ofInt IntKind.u32.bits b).toNat : Nat) = ((a ^^^ b : Nat) : Int) := by
 rw [wrapU, BitVec.toNat_xor]
 have h1 : ∀ n : Nat, n < 4294967296 → (BitVec.ofInt IntKind.u32.bits (n : Int)).toNat = n := fun n hn => by
  rw [BitVec.ofInt_natCast, BitVec.toNat_ofNat]
  exact Nat.mod_eq_of_lt hn
 rw [h1 a ha, h1 b hb]
 have : a ^^^ b < 4294967296 := Nat.xor_lt_two_pow (n := 32) ha hb
 omega
theorem op2_spec (ha : a < 4294967296) (hb : b < 4294967296) : LCalls (KC B0 w0) 58 [u32 a, u32 b] H (Same (u32 ((a + b) % 4294967296)) H) := by
 refine LCalls.intro Tryz.func58 rfl (n := 8) rfl rfl rfl ?_
 repeat first | refine LOps.nil ?_ | refine LCode.seq ?_ | refine LCode.region ?_ | refine QThen.normal ?_ | refine LOps.pure (Pure.as (lv := .atom _) rfl) rfl ?_ | refine LOps.pure (Pure.mv (lv := .atom _) rfl) rfl ?_
 refine LOps.pure (Pure.addW rfl rfl) rfl ?_
 repeat first | refine LOps.nil ?_ | refine LCode.ret ?_ | refine QThen.normal ?_ | refine LOps.pure (Pure.as (lv := .atom _) rfl) rfl ?_
 exact retS rfl (AllRes.cons (ResIs.tmp (v := .atom _) rfl (LV.Sub.refl _)) AllRes.nil) (u32_eq (by rw [wrapU]; omega)) (HSub.refl _)
theorem op3_spec (ha : a < 4294967296) (hb : b < 4294967296) : LCalls (KC B0 w0) 59 [u32 a, u32 b] H (Same (u32 ((a + 4294967296 - b) % 4294967296)) H) := by
 refine LCalls.intro Tryz.func59 rfl (n := 8) rfl rfl rfl ?_
 repeat first | refine LOps.nil ?_ | refine LCode.seq ?_ | refine LCode.region ?_ | refine QThen.normal ?_ | refine LOps.pure (Pure.as (lv := .atom _) rfl) rfl ?_ | refine LOps.pure (Pure.mv (lv := .atom _) rfl) rfl ?_
 refine LOps.pure (Pure.subW rfl rfl) rfl ?_
 repeat first | refine LOps.nil ?_ | refine LCode.ret ?_ | refine QThen.normal ?_ | refine LOps.pure (Pure.as (lv := .atom _) rfl) rfl ?_
 exact retS rfl (AllRes.cons (ResIs.tmp (v := .atom _) rfl (LV.Sub.refl _)) AllRes.nil) (u32_eq (by rw [wrapU]; omega)) (HSub.refl _)
theorem op4_spec (ha : a < 4294967296) (hb : b < 4294967296) : LCalls (KC B0 w0) 60 [u32 a, u32 b] H (Same (u32 (a * b % 4294967296)) H) := by
 refine LCalls.intro Tryz.func60 rfl (n := 8) rfl rfl rfl ?_
 repeat first | refine LOps.nil ?_ | refine LCode.seq ?_ | refine LCode.region ?_ | refine QThen.normal ?_ | refine LOps.pure (Pure.as (lv := .atom _) rfl) rfl ?_ | refine LOps.pure (Pure.mv (lv := .atom _) rfl) rfl ?_
 refine LOps.pure (Pure.mulW rfl rfl) rfl ?_
 repeat first | refine LOps.nil ?_ | refine LCode.ret ?_ | refine QThen.normal ?_ | refine LOps.pure (Pure.as (lv := .atom _) rfl) rfl ?_
 exact retS rfl (AllRes.cons (ResIs.tmp (v := .atom _) rfl (LV.Sub.refl _)) AllRes.nil) (u32_eq (by rw [wrapU, ← Int.natCast_mul]; generalize a * b = q; omega)) (HSub.refl _)
theorem op7_spec (ha : a < 4294967296) (hb : b < 4294967296) : LCalls (KC B0 w0) 63 [u32 a, u32 b] H (Same (u32 (a ^^^ b)) H) := by
 refine LCalls.intro Tryz.func63 rfl (n := 8) rfl rfl rfl ?_
 repeat first | refine LOps.nil ?_ | refine LCode.seq ?_ | refine LCode.region ?_ | refine QThen.normal ?_ | refine LOps.pure (Pure.as (lv := .atom _) rfl) rfl ?_ | refine LOps.pure (Pure.mv (lv := .atom _) rfl) rfl ?_
 refine LOps.pure (Pure.xorW rfl rfl) rfl ?_
 repeat first | refine LOps.nil ?_ | refine LCode.ret ?_ | refine QThen.normal ?_ | refine LOps.pure (Pure.as (lv := .atom _) rfl) rfl ?_
 exact retS rfl (AllRes.cons (ResIs.tmp (v := .atom _) rfl (LV.Sub.refl _)) AllRes.nil) (u32_eq (xor_u32 ha hb)) (HSub.refl _)
theorem op8_spec : LCalls (KC B0 w0) 64 [u32 a, u32 b] H (Same (u32 (b2n (decide (a = b)))) H) := by
 refine LCalls.intro Tryz.func64 rfl (n := 9) rfl rfl rfl ?_
 repeat first | refine LOps.nil ?_ | refine LCode.seq ?_ | refine LCode.region ?_ | refine QThen.normal ?_ | refine LOps.pure (Pure.as (lv := .atom _) rfl) rfl ?_ | refine LOps.pure (Pure.mv (lv := .atom _) rfl) rfl ?_ | refine LOps.pure (Pure.eql rfl rfl) rfl ?_
 refine LOps.step (S.callS (H1 := H) (F := []) [_] rfl (by rw [List.append_nil]) (truth_spec _) ?_) rfl
 rw [List.append_nil]
 repeat first | refine LOps.nil ?_ | refine LCode.ret ?_ | refine QThen.normal ?_ | refine LOps.pure (Pure.as (lv := .atom _) rfl) rfl ?_
 exact retS rfl (AllRes.cons (ResIs.tmp (v := .atom _) rfl (LV.Sub.refl _)) AllRes.nil) (congrArg u32 (b2n_dec (by omega))) (HSub.refl _)
theorem b2n_not : b2n (!decide ((a : Int) = b)) = b2n (decide (a ≠ b)) := by
 by_cases h : a = b
 ·simp [h, b2n]
 ·have : ¬ (a : Int) = b := by omega
  simp [h, this, b2n]
theorem op9_spec : LCalls (KC B0 w0) 66 [u32 a, u32 b] H (Same (u32 (b2n (decide (a ≠ b)))) H) := by
 refine LCalls.intro Tryz.func66 rfl (n := 9) rfl rfl rfl ?_
 repeat first | refine LOps.nil ?_ | refine LCode.seq ?_ | refine LCode.region ?_ | refine QThen.normal ?_ | refine LOps.pure (Pure.as (lv := .atom _) rfl) rfl ?_ | refine LOps.pure (Pure.mv (lv := .atom _) rfl) rfl ?_ | refine LOps.pure (Pure.neq rfl rfl) rfl ?_
 refine LOps.step (S.callS (H1 := H) (F := []) [_] rfl (by rw [List.append_nil]) (truth_spec _) ?_) rfl
 rw [List.append_nil]
 repeat first | refine LOps.nil ?_ | refine LCode.ret ?_ | refine QThen.normal ?_ | refine LOps.pure (Pure.as (lv := .atom _) rfl) rfl ?_
 exact retS rfl (AllRes.cons (ResIs.tmp (v := .atom _) rfl (LV.Sub.refl _)) AllRes.nil) (congrArg u32 (b2n_not)) (HSub.refl _)
theorem op10_spec : LCalls (KC B0 w0) 67 [u32 a, u32 b] H (Same (u32 (b2n (decide (a < b)))) H) := by
 refine LCalls.intro Tryz.func67 rfl (n := 9) rfl rfl rfl ?_
 repeat first | refine LOps.nil ?_ | refine LCode.seq ?_ | refine LCode.region ?_ | refine QThen.normal ?_ | refine LOps.pure (Pure.as (lv := .atom _) rfl) rfl ?_ | refine LOps.pure (Pure.mv (lv := .atom _) rfl) rfl ?_ | refine LOps.pure (Pure.lss rfl rfl) rfl ?_
 refine LOps.step (S.callS (H1 := H) (F := []) [_] rfl (by rw [List.append_nil]) (truth_spec _) ?_) rfl
 rw [List.append_nil]
 repeat first | refine LOps.nil ?_ | refine LCode.ret ?_ | refine QThen.normal ?_ | refine LOps.pure (Pure.as (lv := .atom _) rfl) rfl ?_
 exact retS rfl (AllRes.cons (ResIs.tmp (v := .atom _) rfl (LV.Sub.refl _)) AllRes.nil) (congrArg u32 (b2n_dec (by omega))) (HSub.refl _)
theorem op11_spec : LCalls (KC B0 w0) 68 [u32 a, u32 b] H (Same (u32 (b2n (decide (b < a)))) H) := by
 refine LCalls.intro Tryz.func68 rfl (n := 9) rfl rfl rfl ?_
 repeat first | refine LOps.nil ?_ | refine LCode.seq ?_ | refine LCode.region ?_ | refine QThen.normal ?_ | refine LOps.pure (Pure.as (lv := .atom _) rfl) rfl ?_ | refine LOps.pure (Pure.mv (lv := .atom _) rfl) rfl ?_ | refine LOps.pure (Pure.gtr rfl rfl) rfl ?_
 refine LOps.step (S.callS (H1 := H) (F := []) [_] rfl (by rw [List.append_nil]) (truth_spec _) ?_) rfl
 rw [List.append_nil]
 repeat first | refine LOps.nil ?_ | refine LCode.ret ?_ | refine QThen.normal ?_ | refine LOps.pure (Pure.as (lv := .atom _) rfl) rfl ?_
 exact retS rfl (AllRes.cons (ResIs.tmp (v := .atom _) rfl (LV.Sub.refl _)) AllRes.nil) (congrArg u32 (b2n_dec (by omega))) (HSub.refl _)
theorem op12_spec : LCalls (KC B0 w0) 69 [u32 a, u32 b] H (Same (u32 (b2n (decide (a ≤ b)))) H) := by
 refine LCalls.intro Tryz.func69 rfl (n := 9) rfl rfl rfl ?_
 repeat first | refine LOps.nil ?_ | refine LCode.seq ?_ | refine LCode.region ?_ | refine QThen.normal ?_ | refine LOps.pure (Pure.as (lv := .atom _) rfl) rfl ?_ | refine LOps.pure (Pure.mv (lv := .atom _) rfl) rfl ?_ | refine LOps.pure (Pure.leq rfl rfl) rfl ?_
 refine LOps.step (S.callS (H1 := H) (F := []) [_] rfl (by rw [List.append_nil]) (truth_spec _) ?_) rfl
 rw [List.append_nil]
 repeat first | refine LOps.nil ?_ | refine LCode.ret ?_ | refine QThen.normal ?_ | refine LOps.pure (Pure.as (lv := .atom _) rfl) rfl ?_
 exact retS rfl (AllRes.cons (ResIs.tmp (v := .atom _) rfl (LV.Sub.refl _)) AllRes.nil) (congrArg u32 (b2n_dec (by omega))) (HSub.refl _)
theorem op13_spec : LCalls (KC B0 w0) 70 [u32 a, u32 b] H (Same (u32 (b2n (decide (b ≤ a)))) H) := by
 refine LCalls.intro Tryz.func70 rfl (n := 9) rfl rfl rfl ?_
 repeat first | refine LOps.nil ?_ | refine LCode.seq ?_ | refine LCode.region ?_ | refine QThen.normal ?_ | refine LOps.pure (Pure.as (lv := .atom _) rfl) rfl ?_ | refine LOps.pure (Pure.mv (lv := .atom _) rfl) rfl ?_ | refine LOps.pure (Pure.geq rfl rfl) rfl ?_
 refine LOps.step (S.callS (H1 := H) (F := []) [_] rfl (by rw [List.append_nil]) (truth_spec _) ?_) rfl
 rw [List.append_nil]
 repeat first | refine LOps.nil ?_ | refine LCode.ret ?_ | refine QThen.normal ?_ | refine LOps.pure (Pure.as (lv := .atom _) rfl) rfl ?_
 exact retS rfl (AllRes.cons (ResIs.tmp (v := .atom _) rfl (LV.Sub.refl _)) AllRes.nil) (congrArg u32 (b2n_dec (by omega))) (HSub.refl _)
theorem op14_spec : LCalls (KC B0 w0) 71 [u32 a, u32 b] H (Same (u32 (b2n (decide (a ≠ 0 ∧ b ≠ 0)))) H) := by
 refine LCalls.intro Tryz.func71 rfl (n := 12) rfl rfl rfl ?_
 repeat first | refine LOps.nil ?_ | refine LCode.seq ?_ | refine LCode.region ?_ | refine QThen.normal ?_ | refine LOps.pure (Pure.as (lv := .atom _) rfl) rfl ?_ | refine LOps.pure (Pure.mv (lv := .atom _) rfl) rfl ?_ | refine LOps.pure (Pure.neq rfl rfl) rfl ?_
 refine LOps.bcase 7 rfl (fun ht => ?_) (fun ht => ?_)
 ·have h1 : a ≠ 0 := by
   intro h
   rw [h] at ht
   exact absurd ht (by decide)
  repeat first | refine LOps.pure (Pure.mv (lv := .atom _) rfl) rfl ?_ | refine LOps.pure (Pure.neq rfl rfl) rfl ?_ | refine LOps.pure (Pure.pickT (lv := .atom _) rfl rfl) rfl ?_ | refine LOps.want rfl rfl ?_
  refine LOps.step (S.callS (H1 := H) (F := []) [_] rfl (by rw [List.append_nil]) (truth_spec _) ?_) rfl
  rw [List.append_nil]
  repeat first | refine LOps.nil ?_ | refine LCode.ret ?_ | refine QThen.normal ?_ | refine LOps.pure (Pure.as (lv := .atom _) rfl) rfl ?_
  exact retS rfl (AllRes.cons (ResIs.tmp (v := .atom _) rfl (LV.Sub.refl _)) AllRes.nil) (congrArg u32 (by simp [b2n, h1])) (HSub.refl _)
 ·have h1 : a = 0 := by
   have : (a : Int) = 0 := by simpa using ht
   omega
  repeat first | refine LOps.pure (Pure.pickF (lv := .atom _) rfl rfl) rfl ?_ | refine LOps.skip rfl rfl rfl rfl ?_
  refine LOps.step (S.callS (H1 := H) (F := []) [_] rfl (by rw [List.append_nil]) (truth_spec _) ?_) rfl
  rw [List.append_nil]
  repeat first | refine LOps.nil ?_ | refine LCode.ret ?_ | refine QThen.normal ?_ | refine LOps.pure (Pure.as (lv := .atom _) rfl) rfl ?_
  exact retS rfl (AllRes.cons (ResIs.tmp (v := .atom _) rfl (LV.Sub.refl _)) AllRes.nil) (congrArg u32 (by simp [b2n, h1])) (HSub.refl _)
theorem op15_spec : LCalls (KC B0 w0) 72 [u32 a, u32 b] H (Same (u32 (b2n (decide (a ≠ 0 ∨ b ≠ 0)))) H) := by
 refine LCalls.intro Tryz.func72 rfl (n := 12) rfl rfl rfl ?_
 repeat first | refine LOps.nil ?_ | refine LCode.seq ?_ | refine LCode.region ?_ | refine QThen.normal ?_ | refine LOps.pure (Pure.as (lv := .atom _) rfl) rfl ?_ | refine LOps.pure (Pure.mv (lv := .atom _) rfl) rfl ?_ | refine LOps.pure (Pure.neq rfl rfl) rfl ?_
 refine LOps.bcase 7 rfl (fun ht => ?_) (fun ht => ?_)
 ·have h1 : a ≠ 0 := by
   intro h
   rw [h] at ht
   exact absurd ht (by decide)
  repeat first | refine LOps.pure (Pure.pickT (lv := .atom _) rfl rfl) rfl ?_ | refine LOps.skip rfl rfl rfl rfl ?_
  refine LOps.step (S.callS (H1 := H) (F := []) [_] rfl (by rw [List.append_nil]) (truth_spec _) ?_) rfl
  rw [List.append_nil]
  repeat first | refine LOps.nil ?_ | refine LCode.ret ?_ | refine QThen.normal ?_ | refine LOps.pure (Pure.as (lv := .atom _) rfl) rfl ?_
  exact retS rfl (AllRes.cons (ResIs.tmp (v := .atom _) rfl (LV.Sub.refl _)) AllRes.nil) (congrArg u32 (by simp [b2n, h1])) (HSub.refl _)
 ·have h1 : a = 0 := by
   have : (a : Int) = 0 := by simpa using ht
   omega
  repeat first | refine LOps.pure (Pure.mv (lv := .atom _) rfl) rfl ?_ | refine LOps.pure (Pure.neq rfl rfl) rfl ?_ | refine LOps.pure (Pure.pickF (lv := .atom _) rfl rfl) rfl ?_ | refine LOps.want rfl rfl ?_
  refine LOps.step (S.callS (H1 := H) (F := []) [_] rfl (by rw [List.append_nil]) (truth_spec _) ?_) rfl
  rw [List.append_nil]
  repeat first | refine LOps.nil ?_ | refine LCode.ret ?_ | refine QThen.normal ?_ | refine LOps.pure (Pure.as (lv := .atom _) rfl) rfl ?_
  exact retS rfl (AllRes.cons (ResIs.tmp (v := .atom _) rfl (LV.Sub.refl _)) AllRes.nil) (congrArg u32 (by simp [b2n, h1])) (HSub.refl _)
/-- The divisor: zero ends the execution. -/
theorem divisor_spec : LCalls (KC B0 w0) 57 [u32 b] H (fun r H' => H' = H ∧ r = if b = 0 then .panic (panI 12) else .ret (u32 b)) := by
 refine LCalls.intro Tryz.func57 rfl (n := 8) rfl rfl rfl ?_
 repeat first | refine LOps.nil ?_ | refine LCode.seq ?_ | refine LCode.region ?_ | refine QThen.normal ?_ | refine LOps.pure (Pure.as (lv := .atom _) rfl) rfl ?_ | refine LOps.pure (Pure.mv (lv := .atom _) rfl) rfl ?_ | refine LOps.pure (Pure.eql rfl rfl) rfl ?_
 refine LCode.cond rfl (fun hc => ?_) (fun hc => ?_)
 ·have h0 : b = 0 := by have := of_decide_eq_true hc; omega
  repeat first | refine LCode.region ?_ | refine LOps.pure (Pure.bld _ (cs := [_]) rfl) rfl ?_ | refine LOps.pure (Pure.makeInterfaceAgg (vs := [_]) rfl) rfl ?_
  refine LOps.step (LStep.panic rfl fun e' he' => ?_) rfl
  repeat first | refine QThen.panic ?_
  exact RetPost.panic (he'.trans rfl) (HSub.refl _) ⟨rfl, by rw [if_pos h0]; rfl⟩
 ·have h0 : ¬ b = 0 := by have := of_decide_eq_false hc; omega
  repeat first | refine LOps.nil ?_ | refine LCode.seq ?_ | refine LCode.region ?_ | refine LCode.skip ?_ | refine LCode.ret ?_ | refine QThen.normal ?_ | refine LOps.pure (Pure.as (lv := .atom _) rfl) rfl ?_ | refine LOps.pure (Pure.mv (lv := .atom _) rfl) rfl ?_
  exact RetPost.ret rfl (AllRes.cons (ResIs.tmp (v := .atom _) rfl (LV.Sub.refl _)) AllRes.nil) (HSub.refl _) ⟨rfl, by rw [if_neg h0]; rfl⟩
theorem op5_spec {db : Nat} (ha : a < 4294967296) : LCalls (KC B0 w0) 61 [u32 a, u32 b, ptr db 0] [divH db] (fun r H' => H' = [divH db] ∧ r = if b = 0 then .panic (panI 12) else .ret (u32 (a / b))) := by
 refine LCalls.intro Tryz.func61 rfl (n := 11) rfl rfl rfl ?_
 repeat first | refine LOps.nil ?_ | refine LCode.seq ?_ | refine LCode.region ?_ | refine QThen.normal ?_ | refine LOps.pure (Pure.as (lv := .atom _) rfl) rfl ?_ | refine LOps.pure (Pure.mv (lv := .atom _) rfl) rfl ?_ | refine LOps.pure (Pure.loadH (c := .atom _) rfl (List.Mem.head _) rfl) rfl ?_
 by_cases h0 : b = 0
 ·refine LOps.step (S.callV (f := 57) (first := #[]) (caps := #[]) (H1 := [divH db]) (F := []) [_] rfl rfl (by simp) divisor_spec ?_ ?_) rfl
  ·rintro v H' ⟨rfl, h⟩
   rw [if_pos h0] at h
   cases h
  ·rintro ch H' ⟨rfl, h⟩ e' he'
   rw [if_pos h0] at h
   cases h
   repeat first | refine QThen.panic ?_
   exact RetPost.panic (he'.trans rfl) (HSub.refl _) ⟨rfl, by rw [if_pos h0]⟩
 ·refine LOps.step (S.callV (f := 57) (first := #[]) (caps := #[]) (H1 := [divH db]) (F := []) [_] rfl rfl (by simp) divisor_spec ?_ ?_) rfl
  ·rintro v H' ⟨rfl, h⟩
   rw [if_neg h0] at h
   cases h
   refine LOps.pure (Pure.quoW rfl rfl (by omega)) rfl ?_
   repeat first | refine LOps.nil ?_ | refine LCode.ret ?_ | refine QThen.normal ?_ | refine LOps.pure (Pure.as (lv := .atom _) rfl) rfl ?_
   refine RetPost.ret rfl (AllRes.cons (ResIs.tmp (v := .atom _) rfl (LV.Sub.refl _)) AllRes.nil) (HSub.refl _) ⟨rfl, ?_⟩
   rw [if_neg h0]
   exact congrArg LRes.ret (u32_eq (by rw [wrapU, Int.tdiv_eq_ediv_of_nonneg (by omega), ← Int.natCast_ediv]; have hq : a / b < 4294967296 := Nat.lt_of_le_of_lt (Nat.div_le_self a b) ha; generalize a / b = q at hq ⊢; omega))
  ·rintro ch H' ⟨rfl, h⟩
   rw [if_neg h0] at h
   cases h
theorem op6_spec {db : Nat} (ha : a < 4294967296) : LCalls (KC B0 w0) 62 [u32 a, u32 b, ptr db 0] [divH db] (fun r H' => H' = [divH db] ∧ r = if b = 0 then .panic (panI 12) else .ret (u32 (a % b))) := by
 refine LCalls.intro Tryz.func62 rfl (n := 11) rfl rfl rfl ?_
 repeat first | refine LOps.nil ?_ | refine LCode.seq ?_ | refine LCode.region ?_ | refine QThen.normal ?_ | refine LOps.pure (Pure.as (lv := .atom _) rfl) rfl ?_ | refine LOps.pure (Pure.mv (lv := .atom _) rfl) rfl ?_ | refine LOps.pure (Pure.loadH (c := .atom _) rfl (List.Mem.head _) rfl) rfl ?_
 by_cases h0 : b = 0
 ·refine LOps.step (S.callV (f := 57) (first := #[]) (caps := #[]) (H1 := [divH db]) (F := []) [_] rfl rfl (by simp) divisor_spec ?_ ?_) rfl
  ·rintro v H' ⟨rfl, h⟩
   rw [if_pos h0] at h
   cases h
  ·rintro ch H' ⟨rfl, h⟩ e' he'
   rw [if_pos h0] at h
   cases h
   repeat first | refine QThen.panic ?_
   exact RetPost.panic (he'.trans rfl) (HSub.refl _) ⟨rfl, by rw [if_pos h0]⟩
 ·refine LOps.step (S.callV (f := 57) (first := #[]) (caps := #[]) (H1 := [divH db]) (F := []) [_] rfl rfl (by simp) divisor_spec ?_ ?_) rfl
  ·rintro v H' ⟨rfl, h⟩
   rw [if_neg h0] at h
   cases h
   refine LOps.pure (Pure.remW rfl rfl (by omega)) rfl ?_
   repeat first | refine LOps.nil ?_ | refine LCode.ret ?_ | refine QThen.normal ?_ | refine LOps.pure (Pure.as (lv := .atom _) rfl) rfl ?_
   refine RetPost.ret rfl (AllRes.cons (ResIs.tmp (v := .atom _) rfl (LV.Sub.refl _)) AllRes.nil) (HSub.refl _) ⟨rfl, ?_⟩
   rw [if_neg h0]
   exact congrArg LRes.ret (u32_eq (by rw [Int.tmod_eq_emod_of_nonneg (by omega), ← Int.natCast_emod]))
  ·rintro ch H' ⟨rfl, h⟩
   rw [if_neg h0] at h
   cases h
def resB (o : Option Nat) : LRes := match o with
 | some v => .ret (u32 v)
 | none => .panic (panI 12)
/-- A binary operator: its function, and what that computes. -/
theorem binop_spec {db : Nat} {op : List UInt8} (hop : op ∈ binOps) (ha : a < 4294967296) (hb : b < 4294967296) : ∃ (f : FuncId) (caps : Array Value), GL.kvGet (opsKV db) op = some (.atom (.func (.func f) #[] caps)) ∧ TEnter Tryz.prog f ∧
  LCalls (KC B0 w0) f ([u32 a, u32 b] ++ caps.toList.map .atom) [divH db] (fun r H' => H' = [divH db] ∧ r = resB (binI op a b)) := by
 simp only [binOps, List.mem_cons, List.not_mem_nil, or_false] at hop
 rcases hop with rfl | rfl | rfl | rfl | rfl | rfl | rfl | rfl | rfl | rfl | rfl | rfl | rfl | rfl
 ·exact ⟨72, #[], rfl, inferInstance, LCalls.mono (op15_spec) fun r H' ⟨h1, h2⟩ => ⟨h2, h1⟩⟩
 ·exact ⟨71, #[], rfl, inferInstance, LCalls.mono (op14_spec) fun r H' ⟨h1, h2⟩ => ⟨h2, h1⟩⟩
 ·exact ⟨64, #[], rfl, inferInstance, LCalls.mono (op8_spec) fun r H' ⟨h1, h2⟩ => ⟨h2, h1⟩⟩
 ·exact ⟨66, #[], rfl, inferInstance, LCalls.mono (op9_spec) fun r H' ⟨h1, h2⟩ => ⟨h2, h1⟩⟩
 ·exact ⟨67, #[], rfl, inferInstance, LCalls.mono (op10_spec) fun r H' ⟨h1, h2⟩ => ⟨h2, h1⟩⟩
 ·exact ⟨68, #[], rfl, inferInstance, LCalls.mono (op11_spec) fun r H' ⟨h1, h2⟩ => ⟨h2, h1⟩⟩
 ·exact ⟨69, #[], rfl, inferInstance, LCalls.mono (op12_spec) fun r H' ⟨h1, h2⟩ => ⟨h2, h1⟩⟩
 ·exact ⟨70, #[], rfl, inferInstance, LCalls.mono (op13_spec) fun r H' ⟨h1, h2⟩ => ⟨h2, h1⟩⟩
 ·exact ⟨63, #[], rfl, inferInstance, LCalls.mono (op7_spec ha hb) fun r H' ⟨h1, h2⟩ => ⟨h2, h1⟩⟩
 ·exact ⟨58, #[], rfl, inferInstance, LCalls.mono (op2_spec ha hb) fun r H' ⟨h1, h2⟩ => ⟨h2, h1⟩⟩
 ·exact ⟨59, #[], rfl, inferInstance, LCalls.mono (op3_spec ha hb) fun r H' ⟨h1, h2⟩ => ⟨h2, h1⟩⟩
 ·exact ⟨60, #[], rfl, inferInstance, LCalls.mono (op4_spec ha hb) fun r H' ⟨h1, h2⟩ => ⟨h2, h1⟩⟩
 ·refine ⟨61, #[.pointer (some ⟨db, 0, none⟩)], rfl, inferInstance, LCalls.mono (op5_spec ha) fun r H' ⟨h1, h2⟩ => ⟨h1, h2.trans ?_⟩⟩
  by_cases h0 : b = 0
  ·rw [if_pos h0, h0]
   rfl
  ·rw [if_neg h0]
   show _ = resB (if b = 0 then none else _)
   rw [if_neg h0]
   rfl
 ·refine ⟨62, #[.pointer (some ⟨db, 0, none⟩)], rfl, inferInstance, LCalls.mono (op6_spec ha) fun r H' ⟨h1, h2⟩ => ⟨h1, h2.trans ?_⟩⟩
  by_cases h0 : b = 0
  ·rw [if_pos h0, h0]
   rfl
  ·rw [if_neg h0]
   show _ = resB (if b = 0 then none else _)
   rw [if_neg h0]
   rfl
end
end Go.Proofs.YtcbpcianefpniaaGreatDoor.Inp
