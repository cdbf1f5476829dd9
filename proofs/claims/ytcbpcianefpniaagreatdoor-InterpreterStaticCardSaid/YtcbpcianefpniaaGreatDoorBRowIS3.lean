/- Texts joined: RtProg, ParDepth, RtLex, InpSrc, InpLaw, ChkRef2, InpKey, InpBnd, InpNodup, InpValid, InpAwake, InpOut, InpShort, InpSmall, InpW1, InpW2, InpW3, InpW4, InpW5, GlPair, GlPart. -/
import Derived.KernelRfl
import Derived.Deep.WholeRow
import Derived.DeepKeys
import Derived.Test.YtcbpcianefpniaaGreatDoorBRowIS1
import Derived.Test.YtcbpcianefpniaaGreatDoorBRowIS2
set_option linter.unusedVariables false
set_option linter.unusedSimpArgs false
set_option maxRecDepth 100000
namespace Go.Stele
section
variable {T : List Tok}
theorem At.kw {T : List Tok} {i : Nat} {x : List UInt8} {ks : List KT} (h : At T i ((3, x) :: ks)) (y : List UInt8) : isTok T i [y] = decide (x = y) := by
 rw [h.tok]
 simp [tokIn]
theorem At.nm {T : List Tok} {i : Nat} {x : List UInt8} {ks : List KT} (h : At T i ((2, x) :: ks)) (xs : List (List UInt8)) : isTok T i xs = false := by
 rw [h.tok, no_name]
theorem At.sgn {T : List Tok} {i : Nat} {c : UInt8} {ks : List KT} (h : At T i (sg c :: ks)) (y : List UInt8) : isTok T i [y] = decide ([c] = y) := by
 rw [h.tok]
 simp [tokIn, sg]
theorem expr0 {e : Ex} {ts ks : List KT} {d i op : Nat} {c : UInt8} (hc : c = 41 ∨ c = 93 ∨ c = 44 ∨ c = 59 ∨ c = 123) (hp : PE e 0 ts d) (hd : d ≤ 100 - op) (hA : At T i (ts ++ sg c :: ks)) : Evt (fun f => eLev T f 0 i op) (.ok e (i + ts.length) op) :=
 qe e 0 ts d i op _ (by omega) hp hd hA (fol_sg hc _ _)
/-- What is printed of a statement is read again. -/
def QS (T : List Tok) (s : Sm) : Prop := ∀ (ts : List KT) (d i op : Nat) (ks : List KT), PS s ts d → d ≤ 100 - op → At T i (ts ++ ks) → tokIn ks [kwElse] = false → Evt (fun f => sStmt T f i op) (.ok s (i + ts.length) op)
theorem ps_first {s : Sm} {ts : List KT} {d : Nat} (h : PS s ts d) : ∃ t r, ts = t :: r ∧ (t.1 = 2 ∨ t = (3, kwReturn) ∨ t = (3, kwHalt) ∨ t = (3, kwIf) ∨ t = (3, kwWhile)) := by
 cases h with
 | assign h he => exact ⟨_, _, rfl, .inl rfl⟩
 | store h hx he => exact ⟨_, _, rfl, .inl rfl⟩
 | call h hl => exact ⟨_, _, rfl, .inl rfl⟩
 | ret he => exact ⟨_, _, rfl, .inr (.inl rfl)⟩
 | halt => exact ⟨_, _, rfl, .inr (.inr (.inl rfl))⟩
 | ifElse he h1 h2 hne => exact ⟨_, _, rfl, .inr (.inr (.inr (.inl rfl)))⟩
 | ifThen he h1 => exact ⟨_, _, rfl, .inr (.inr (.inr (.inl rfl)))⟩
 | «while» he h1 => exact ⟨_, _, rfl, .inr (.inr (.inr (.inr rfl)))⟩
theorem ps_no {s : Sm} {ts ks : List KT} {d : Nat} (h : PS s ts d) {y : List UInt8} (hy : y = [125] ∨ y = kwElse ∨ y = kwVar) : tokIn (ts ++ ks) [y] = false := by
 obtain ⟨t, r, e, h⟩ := ps_first h
 rw [e]
 rcases h with h | rfl | rfl | rfl | rfl
 ·simp [tokIn, h]
 all_goals rcases hy with rfl | rfl | rfl <;> exact rfl
theorem stmts_parse : ∀ (l acc : List Sm) (ts ks : List KT) (d i op : Nat), (∀ s ∈ l, QS T s) → PSs l ts d → d ≤ 100 - op → At T i (ts ++ sg 125 :: ks) → Evt (fun f => sStmts T f acc i op) (.ok (acc ++ l) (i + ts.length) op)
 | [], acc, ts, ks, d, i, op, hq, hp, hd, hA => by
  cases hp with
  | nil =>
   refine ⟨1, fun f hf => ?_⟩
   obtain ⟨g, rfl⟩ : ∃ g, f = g + 1 := ⟨f - 1, by omega⟩
   show sStmts T (g + 1) acc i op = _
   rw [sStmts, if_pos (by rw [hA.tok]; exact tokIn_sg 125), List.append_nil]
   rfl
 | s :: l, acc, ts, ks, d, i, op, hq, hp, hd, hA => by
  cases hp with
  | cons h hl =>
   rename_i t1 t2 d1 d2
   rw [List.append_assoc] at hA
   have he : tokIn (t2 ++ sg 125 :: ks) [kwElse] = false := by
    cases hl with
    | nil => rfl
    | cons h' hl' => rw [List.append_assoc]; exact ps_no h' (.inr (.inl rfl))
   obtain ⟨f1, h1⟩ := hq s (List.mem_cons_self ..) t1 d1 i op _ h (by omega) hA he
   obtain ⟨f2, h2⟩ := stmts_parse l (acc ++ [s]) t2 ks d2 (i + t1.length) op (fun x hx => hq x (List.mem_cons_of_mem _ hx)) hl (by omega) hA.skip
   refine ⟨f1 + f2 + 1, fun f hf => ?_⟩
   obtain ⟨g, rfl⟩ : ∃ g, f = g + 1 := ⟨f - 1, by omega⟩
   have h1' := h1 g (by omega)
   have h2' := h2 g (by omega)
   simp only at h1' h2'
   show sStmts T (g + 1) acc i op = _
   rw [sStmts, if_neg (by rw [hA.tok, ps_no h (.inl rfl)]; decide), h1']
   show sStmts T g (acc ++ [s]) (i + t1.length) op = _
   rw [h2', List.append_assoc, List.length_append, Nat.add_assoc]
   rfl
theorem block_parse {l : List Sm} {ts ks : List KT} {d i op : Nat} (hq : ∀ s ∈ l, QS T s) (hp : PSs l ts d) (hd : d + 1 ≤ 100 - op) (hA : At T i (sg 123 :: (ts ++ sg 125 :: ks))) : Evt (fun f => sBlock T f i op) (.ok l (i + 2 + ts.length) op) := by
 obtain ⟨f1, h1⟩ := stmts_parse l [] ts ks d (i + 1) (op + 1) hq hp (by omega) hA.one
 refine ⟨f1 + 1, fun f hf => ?_⟩
 obtain ⟨g, rfl⟩ : ∃ g, f = g + 1 := ⟨f - 1, by omega⟩
 have h1' := h1 g (by omega)
 simp only at h1'
 show sBlock T (g + 1) i op = _
 rw [sBlock, hA.begin (by omega)]
 show obind (sStmts T g [] (i + 1) (op + 1)) _ = _
 rw [h1']
 show obind (some (sEnd T [125] (i + 1 + ts.length) (op + 1))) _ = _
 rw [hA.one.skip.fin]
 show some (Res.ok l (i + 1 + ts.length + 1) (op + 1 - 1)) = _
 congr 2
 omega
theorem simple_parse {i op i' : Nat} {s : Sm} {ks ks' : List KT} (hA : At T i ks) (h1 : tokIn ks [kwIf] = false) (h2 : tokIn ks [kwWhile] = false) (hA' : At T i' (sg 59 :: ks')) (h : Evt (fun f => sSimple T f i op) (.ok s i' op)) : Evt (fun f => sStmt T f i op) (.ok s (i' + 1) op) := by
 obtain ⟨f0, h⟩ := h
 refine ⟨f0 + 1, fun f hf => ?_⟩
 obtain ⟨g, rfl⟩ : ∃ g, f = g + 1 := ⟨f - 1, by omega⟩
 have h' := h g (by omega)
 simp only at h'
 show sStmt T (g + 1) i op = _
 rw [sStmt, if_neg (by rw [hA.tok, h1]; decide), if_neg (by rw [hA.tok, h2]; decide), h']
 show obind (some (sNeed T [59] i' op)) _ = _
 rw [hA'.need]
 rfl
theorem st_parse : ∀ (n : Nat) (s : Sm), nSm s ≤ n → QS T s
 | 0, .mk _ _ _ _ _ _, hn => by rw [nSm] at hn; omega
 | n + 1, s, hn => by
  intro ts d i op ks hp hd hA hE
  cases hp with
  | assign h he =>
   rename_i s e t1
   have hA1 : At T i ((2, s) :: sg 61 :: (t1 ++ sg 59 :: ks)) := by simpa only [List.cons_append, List.append_assoc, List.nil_append] using hA
   obtain ⟨f1, h1⟩ := expr0 (op := op) (.inr (.inr (.inr (.inl rfl)))) he hd hA1.one.one
   have e1 : i + ((2, s) :: sg 61 :: (t1 ++ [sg 59])).length = i + 1 + 1 + t1.length + 1 := by simp only [List.length_cons, List.length_append, List.length_nil]; omega
   rw [e1]
   refine simple_parse hA1 (no_name _ _ _) (no_name _ _ _) hA1.one.one.skip ⟨f1 + 1, fun f hf => ?_⟩
   obtain ⟨g, rfl⟩ : ∃ g, f = g + 1 := ⟨f - 1, by omega⟩
   have h1' := h1 g (by omega)
   simp only at h1'
   show sSimple T (g + 1) i op = _
   rw [sSimple, if_neg (by rw [hA1.nm]; decide), if_neg (by rw [hA1.nm]; decide), hA1.word]
   show (if isTok T (i + 1) [[40]] then _ else if isTok T (i + 1) [[91]] then _ else obind (some (sNeed T [61] (i + 1) op)) _) = _
   rw [if_neg (by rw [hA1.one.sgn]; decide), if_neg (by rw [hA1.one.sgn]; decide), hA1.one.need]
   show obind (eLev T g 0 (i + 1 + 1) op) _ = _
   rw [h1']
   rfl
  | store h hx he =>
   rename_i s x e t1 t2 d1 d2
   have hA1 : At T i ((2, s) :: sg 91 :: (t1 ++ sg 93 :: sg 61 :: (t2 ++ sg 59 :: ks))) := by simpa only [List.cons_append, List.append_assoc, List.nil_append] using hA
   obtain ⟨f1, h1⟩ := index_parse (op := op) (qe x) hx (by omega) hA1.one
   have hA2 : At T (i + 1 + 2 + t1.length) (sg 61 :: (t2 ++ sg 59 :: ks)) := by
    have := hA1.one.one.skip.one
    rw [show i + 1 + 2 + t1.length = i + 1 + 1 + t1.length + 1 by omega]
    exact this
   obtain ⟨f2, h2⟩ := expr0 (op := op) (.inr (.inr (.inr (.inl rfl)))) he (by omega) hA2.one
   have e1 : i + ((2, s) :: sg 91 :: (t1 ++ sg 93 :: sg 61 :: (t2 ++ [sg 59]))).length = i + 1 + 2 + t1.length + 1 + t2.length + 1 := by simp only [List.length_cons, List.length_append, List.length_nil]; omega
   rw [e1]
   refine simple_parse hA1 (no_name _ _ _) (no_name _ _ _) hA2.one.skip ⟨f1 + f2 + 1, fun f hf => ?_⟩
   obtain ⟨g, rfl⟩ : ∃ g, f = g + 1 := ⟨f - 1, by omega⟩
   have h1' := h1 g (by omega)
   have h2' := h2 g (by omega)
   simp only at h1' h2'
   show sSimple T (g + 1) i op = _
   rw [sSimple, if_neg (by rw [hA1.nm]; decide), if_neg (by rw [hA1.nm]; decide), hA1.word]
   show (if isTok T (i + 1) [[40]] then _ else if isTok T (i + 1) [[91]] then obind (eIndex T g (i + 1) op) _ else _) = _
   rw [if_neg (by rw [hA1.one.sgn]; decide), if_pos (by rw [hA1.one.sgn]; decide), h1']
   show obind (some (sNeed T [61] (i + 1 + 2 + t1.length) op)) _ = _
   rw [hA2.need]
   show obind (eLev T g 0 (i + 1 + 2 + t1.length + 1) op) _ = _
   rw [h2']
   rfl
  | call h hl =>
   rename_i s l t1 d1
   have hA1 : At T i ((2, s) :: sg 40 :: (t1 ++ sg 41 :: sg 59 :: ks)) := by simpa only [List.cons_append, List.append_assoc, List.nil_append] using hA
   obtain ⟨f1, h1⟩ := args_parse (op := op) (fun x _ => qe x) hl (by omega) hA1.one
   have hA2 : At T (i + 1 + 2 + t1.length) (sg 59 :: ks) := by
    have := hA1.one.one.skip.one
    rw [show i + 1 + 2 + t1.length = i + 1 + 1 + t1.length + 1 by omega]
    exact this
   have e1 : i + ((2, s) :: sg 40 :: (t1 ++ [sg 41, sg 59])).length = i + 1 + 2 + t1.length + 1 := by simp only [List.length_cons, List.length_append, List.length_nil]; omega
   rw [e1]
   refine simple_parse hA1 (no_name _ _ _) (no_name _ _ _) hA2 ⟨f1 + 1, fun f hf => ?_⟩
   obtain ⟨g, rfl⟩ : ∃ g, f = g + 1 := ⟨f - 1, by omega⟩
   have h1' := h1 g (by omega)
   simp only at h1'
   show sSimple T (g + 1) i op = _
   rw [sSimple, if_neg (by rw [hA1.nm]; decide), if_neg (by rw [hA1.nm]; decide), hA1.word]
   show (if isTok T (i + 1) [[40]] then obind (eArgs T g (i + 1) op) _ else _) = _
   rw [if_pos (by rw [hA1.one.sgn]; decide), h1']
   rfl
  | ret he =>
   rename_i e t1
   have hA1 : At T i ((3, kwReturn) :: (t1 ++ sg 59 :: ks)) := by simpa only [List.cons_append, List.append_assoc, List.nil_append] using hA
   obtain ⟨f1, h1⟩ := expr0 (op := op) (.inr (.inr (.inr (.inl rfl)))) he hd hA1.one
   have e1 : i + ((3, kwReturn) :: (t1 ++ [sg 59])).length = i + 1 + t1.length + 1 := by simp only [List.length_cons, List.length_append, List.length_nil]; omega
   rw [e1]
   refine simple_parse hA1 rfl rfl hA1.one.skip ⟨f1 + 1, fun f hf => ?_⟩
   obtain ⟨g, rfl⟩ : ∃ g, f = g + 1 := ⟨f - 1, by omega⟩
   have h1' := h1 g (by omega)
   simp only at h1'
   show sSimple T (g + 1) i op = _
   rw [sSimple, if_pos (by rw [hA1.kw]; decide), h1']
   rfl
  | halt =>
   have hA1 : At T i ((3, kwHalt) :: sg 59 :: ks) := hA
   refine simple_parse hA1 rfl rfl hA1.one ⟨1, fun f hf => ?_⟩
   obtain ⟨g, rfl⟩ : ∃ g, f = g + 1 := ⟨f - 1, by omega⟩
   show sSimple T (g + 1) i op = _
   rw [sSimple, if_neg (by rw [hA1.kw]; decide), if_pos (by rw [hA1.kw]; decide)]
  | ifElse he h1 h2 hne =>
   rename_i e th el t0 t1 t2 d0 d1 d2
   simp only [nSm, nExs] at hn
   have hA1 : At T i ((3, kwIf) :: (t0 ++ sg 123 :: (t1 ++ sg 125 :: (3, kwElse) :: sg 123 :: (t2 ++ sg 125 :: ks)))) := by simpa only [List.cons_append, List.append_assoc, List.nil_append] using hA
   obtain ⟨f1, g1⟩ := expr0 (op := op) (.inr (.inr (.inr (.inr rfl)))) he (by omega) hA1.one
   obtain ⟨f2, g2⟩ := block_parse (op := op) (fun x hx => st_parse n x (by have := nSms_mem hx; omega)) h1 (by omega) hA1.one.skip
   have hA2 : At T (i + 1 + t0.length + 2 + t1.length) ((3, kwElse) :: sg 123 :: (t2 ++ sg 125 :: ks)) := by
    have := hA1.one.skip.one.skip.one
    rw [show i + 1 + t0.length + 2 + t1.length = i + 1 + t0.length + 1 + t1.length + 1 by omega]
    exact this
   obtain ⟨f3, g3⟩ := block_parse (op := op) (fun x hx => st_parse n x (by have := nSms_mem hx; omega)) h2 (by omega) hA2.one
   refine ⟨f1 + f2 + f3 + 1, fun f hf => ?_⟩
   obtain ⟨g, rfl⟩ : ∃ g, f = g + 1 := ⟨f - 1, by omega⟩
   have g1' := g1 g (by omega)
   have g2' := g2 g (by omega)
   have g3' := g3 g (by omega)
   simp only at g1' g2' g3'
   show sStmt T (g + 1) i op = _
   rw [sStmt, if_pos (by rw [hA1.kw]; decide), g1']
   show obind (sBlock T g (i + 1 + t0.length) op) _ = _
   rw [g2']
   show (if isTok T (i + 1 + t0.length + 2 + t1.length) [kwElse] then obind (sBlock T g (i + 1 + t0.length + 2 + t1.length + 1) op) _ else _) = _
   rw [if_pos (by rw [hA2.kw]; decide), g3']
   show some (Res.ok (Sm.mk 3 [] [] [e] th el) _ op) = _
   congr 2
   simp only [List.length_cons, List.length_append, List.length_nil]
   omega
  | ifThen he h1 =>
   rename_i e th t0 t1 d0 d1
   simp only [nSm, nExs] at hn
   have hA1 : At T i ((3, kwIf) :: (t0 ++ sg 123 :: (t1 ++ sg 125 :: ks))) := by simpa only [List.cons_append, List.append_assoc, List.nil_append] using hA
   obtain ⟨f1, g1⟩ := expr0 (op := op) (.inr (.inr (.inr (.inr rfl)))) he (by omega) hA1.one
   obtain ⟨f2, g2⟩ := block_parse (op := op) (fun x hx => st_parse n x (by have := nSms_mem hx; omega)) h1 (by omega) hA1.one.skip
   have hA2 : At T (i + 1 + t0.length + 2 + t1.length) ks := by
    have := hA1.one.skip.one.skip.one
    rw [show i + 1 + t0.length + 2 + t1.length = i + 1 + t0.length + 1 + t1.length + 1 by omega]
    exact this
   refine ⟨f1 + f2 + 1, fun f hf => ?_⟩
   obtain ⟨g, rfl⟩ : ∃ g, f = g + 1 := ⟨f - 1, by omega⟩
   have g1' := g1 g (by omega)
   have g2' := g2 g (by omega)
   simp only at g1' g2'
   show sStmt T (g + 1) i op = _
   rw [sStmt, if_pos (by rw [hA1.kw]; decide), g1']
   show obind (sBlock T g (i + 1 + t0.length) op) _ = _
   rw [g2']
   show (if isTok T (i + 1 + t0.length + 2 + t1.length) [kwElse] then _ else _) = _
   rw [if_neg (by rw [hA2.tok, hE]; decide)]
   congr 2
   simp only [List.length_cons, List.length_append, List.length_nil]
   omega
  | «while» he h1 =>
   rename_i e th t0 t1 d0 d1
   simp only [nSm, nExs] at hn
   have hA1 : At T i ((3, kwWhile) :: (t0 ++ sg 123 :: (t1 ++ sg 125 :: ks))) := by simpa only [List.cons_append, List.append_assoc, List.nil_append] using hA
   obtain ⟨f1, g1⟩ := expr0 (op := op) (.inr (.inr (.inr (.inr rfl)))) he (by omega) hA1.one
   obtain ⟨f2, g2⟩ := block_parse (op := op) (fun x hx => st_parse n x (by have := nSms_mem hx; omega)) h1 (by omega) hA1.one.skip
   refine ⟨f1 + f2 + 1, fun f hf => ?_⟩
   obtain ⟨g, rfl⟩ : ∃ g, f = g + 1 := ⟨f - 1, by omega⟩
   have g1' := g1 g (by omega)
   have g2' := g2 g (by omega)
   simp only at g1' g2'
   show sStmt T (g + 1) i op = _
   rw [sStmt, if_neg (by rw [hA1.kw]; decide), if_pos (by rw [hA1.kw]; decide), g1']
   show obind (sBlock T g (i + 1 + t0.length) op) _ = _
   rw [g2']
   show some (Res.ok (Sm.mk 4 [] [] [e] th []) _ op) = _
   congr 2
   simp only [List.length_cons, List.length_append, List.length_nil]
   omega
theorem qs (s : Sm) : QS T s := st_parse _ s (Nat.le_refl _)
/-! ### Declarations -/
theorem namesLoop_parse : ∀ (l acc : List (List UInt8)) (ks : List KT) (i op : Nat), l ≠ [] → tokIn ks [[44]] = false → At T i (sg 44 :: (commas l ++ ks)) → Evt (fun f => sNamesLoop T f acc i op) (.ok (acc ++ l) (i + 1 + (commas l).length) op)
 | [], _, _, _, _, h, _, _ => absurd rfl h
 | [a], acc, ks, i, op, _, hk, hA => by
  refine ⟨2, fun f hf => ?_⟩
  obtain ⟨g, rfl⟩ : ∃ g, f = g + 2 := ⟨f - 2, by omega⟩
  have hA1 : At T (i + 1) ((2, a) :: ks) := hA.one
  show sNamesLoop T (g + 1 + 1) acc i op = _
  rw [sNamesLoop, if_pos (by rw [hA.tok, tokIn_sg]), hA1.word]
  show sNamesLoop T (g + 1) (acc ++ [a]) (i + 1 + 1) op = _
  rw [sNamesLoop, if_neg (by rw [hA1.one.tok, hk]; decide)]
  rfl
 | a :: b :: l, acc, ks, i, op, _, hk, hA => by
  have hA1 : At T (i + 1) ((2, a) :: sg 44 :: (commas (b :: l) ++ ks)) := hA.one
  obtain ⟨f1, h1⟩ := namesLoop_parse (b :: l) (acc ++ [a]) ks (i + 1 + 1) op (by simp) hk hA1.one
  refine ⟨f1 + 1, fun f hf => ?_⟩
  obtain ⟨g, rfl⟩ : ∃ g, f = g + 1 := ⟨f - 1, by omega⟩
  have h1' := h1 g (by omega)
  simp only at h1'
  show sNamesLoop T (g + 1) acc i op = _
  rw [sNamesLoop, if_pos (by rw [hA.tok, tokIn_sg]), hA1.word]
  show sNamesLoop T g (acc ++ [a]) (i + 1 + 1) op = _
  rw [h1', List.append_assoc]
  congr 2
  simp only [commas, List.length_cons]
  omega
theorem names_parse {l : List (List UInt8)} {ks : List KT} {i op : Nat} (hl : l ≠ []) (hk : tokIn ks [[44]] = false) (hA : At T i (commas l ++ ks)) : Evt (fun f => sNames T f i op) (.ok l (i + (commas l).length) op) := by
 match l, hl, hA with
 | [a], _, hA =>
  have hA1 : At T i ((2, a) :: ks) := hA
  refine ⟨1, fun f hf => ?_⟩
  obtain ⟨g, rfl⟩ : ∃ g, f = g + 1 := ⟨f - 1, by omega⟩
  show sNames T (g + 1) i op = _
  unfold sNames
  rw [hA1.word]
  show sNamesLoop T (g + 1) [a] (i + 1) op = _
  rw [sNamesLoop, if_neg (by rw [hA1.one.tok, hk]; decide)]
  rfl
 | a :: b :: l, _, hA =>
  have hA1 : At T i ((2, a) :: sg 44 :: (commas (b :: l) ++ ks)) := hA
  obtain ⟨f1, h1⟩ := namesLoop_parse (b :: l) [a] ks (i + 1) op (by simp) hk hA1.one
  refine ⟨f1, fun f hf => ?_⟩
  have h1' := h1 f hf
  simp only at h1'
  show sNames T f i op = _
  unfold sNames
  rw [hA1.word]
  show sNamesLoop T f [a] (i + 1) op = _
  rw [h1']
  show some (Res.ok (a :: b :: l) _ op) = _
  congr 2
  simp only [commas, List.length_cons]
  omega
theorem vars_parse {l : List (List UInt8)} {ks : List KT} {i op : Nat} (hk : tokIn ks [kwVar] = false) (hA : At T i (varK l ++ ks)) : Evt (fun f => sVars T f [] i op) (.ok l (i + (varK l).length) op) := by
 unfold varK at hA ⊢
 by_cases hl : l = []
 ·rw [if_pos hl] at hA ⊢
  subst hl
  refine ⟨1, fun f hf => ?_⟩
  obtain ⟨g, rfl⟩ : ∃ g, f = g + 1 := ⟨f - 1, by omega⟩
  show sVars T (g + 1) [] i op = _
  rw [sVars, if_neg (by rw [hA.tok]; rw [List.nil_append, hk]; decide)]
  rfl
 ·rw [if_neg hl] at hA ⊢
  have hA1 : At T i ((3, kwVar) :: (commas l ++ sg 59 :: ks)) := by simpa only [List.cons_append, List.append_assoc, List.nil_append] using hA
  obtain ⟨f1, h1⟩ := names_parse (op := op) hl (by simp [tokIn, sg]) hA1.one
  refine ⟨f1 + 2, fun f hf => ?_⟩
  obtain ⟨g, rfl⟩ : ∃ g, f = g + 2 := ⟨f - 2, by omega⟩
  have h1' := h1 (g + 1) (by omega)
  simp only at h1'
  show sVars T (g + 1 + 1) [] i op = _
  rw [sVars, if_pos (by rw [hA1.kw]; decide), h1']
  show obind (some (sNeed T [59] (i + 1 + (commas l).length) op)) _ = _
  rw [hA1.one.skip.need]
  show sVars T (g + 1) ([] ++ l) (i + 1 + (commas l).length + 1) op = _
  rw [sVars, if_neg (by rw [hA1.one.skip.one.tok, hk]; decide), List.nil_append]
  congr 2
  simp only [List.length_cons, List.length_append, List.length_nil]
  omega
theorem func_parse {a : FnD} {ts ks : List KT} {d i : Nat} (hp : PF a ts d) (hd : d ≤ 100) (hA : At T i (ts ++ ks)) : isTok T i [kwFunc] = true ∧ isTok T i [kwArray] = false ∧ isTok T i [kwVar] = false ∧ Evt (fun f => sFunc T f (i + 1) 0) (.ok a (i + ts.length) 0) := by
 cases hp with
 | mk h hps hls hb =>
  rename_i nm ps ls b t1 d1
  have hA1 : At T i ((3, kwFunc) :: (2, nm) :: sg 40 :: (commas ps ++ sg 41 :: sg 123 :: (varK ls ++ (t1 ++ sg 125 :: ks)))) := by simpa only [List.cons_append, List.append_assoc, List.nil_append] using hA
  refine ⟨by rw [hA1.kw]; decide, by rw [hA1.kw]; decide, by rw [hA1.kw]; decide, ?_⟩
  have hA3 := hA1.one.one.one
  have key : Evt (fun f => if isTok T (i + 1 + 1 + 1) [[41]] then some (.ok [] (i + 1 + 1 + 1) 1) else sNames T f (i + 1 + 1 + 1) 1) (.ok ps (i + 1 + 1 + 1 + (commas ps).length) 1) := by
   by_cases hne : ps = []
   ·subst hne
    refine ⟨0, fun f _ => ?_⟩
    simp only
    rw [if_pos (by rw [hA3.tok]; exact tokIn_sg 41)]
    rfl
   ·obtain ⟨f1, h1⟩ := names_parse (op := 1) hne (by simp [tokIn, sg]) hA3
    refine ⟨f1, fun f hf => ?_⟩
    simp only
    rw [if_neg ?_]
    ·exact h1 f hf
    ·rw [hA3.tok]
     match ps, hne with
     | [x], _ => simp [tokIn, commas]
     | x :: y :: r, _ => simp [tokIn, commas]
  obtain ⟨f1, h1⟩ := key
  have hA4 := hA3.skip
  have hv : tokIn (t1 ++ sg 125 :: ks) [kwVar] = false := by
   cases hb with
   | nil => rfl
   | cons h' hl' => rw [List.append_assoc]; exact ps_no h' (.inr (.inr rfl))
  obtain ⟨f2, h2⟩ := vars_parse (op := 1) hv hA4.one.one
  obtain ⟨f3, h3⟩ := stmts_parse b [] t1 ks d1 _ 1 (fun x _ => qs x) hb (by omega) hA4.one.one.skip
  refine ⟨f1 + f2 + f3, fun f hf => ?_⟩
  have h1' := h1 f (by omega)
  have h2' := h2 f (by omega)
  have h3' := h3 f (by omega)
  simp only at h1' h2' h3'
  show sFunc T f (i + 1) 0 = _
  unfold sFunc
  rw [hA1.one.word]
  show obind (some (sBegin T [40] (i + 1 + 1) 0)) _ = _
  rw [hA1.one.one.begin (by omega)]
  show obind (if isTok T (i + 1 + 1 + 1) [[41]] then some (.ok [] (i + 1 + 1 + 1) 1) else sNames T f (i + 1 + 1 + 1) 1) _ = _
  rw [h1']
  show obind (some (sEnd T [41] (i + 1 + 1 + 1 + (commas ps).length) 1)) _ = _
  rw [hA4.fin]
  show obind (some (sBegin T [123] (i + 1 + 1 + 1 + (commas ps).length + 1) 0)) _ = _
  rw [hA4.one.begin (by omega)]
  show obind (sVars T f [] (i + 1 + 1 + 1 + (commas ps).length + 1 + 1) 1) _ = _
  rw [h2']
  show obind (sStmts T f [] (i + 1 + 1 + 1 + (commas ps).length + 1 + 1 + (varK ls).length) 1) _ = _
  rw [h3']
  show obind (some (sEnd T [125] (i + 1 + 1 + 1 + (commas ps).length + 1 + 1 + (varK ls).length + t1.length) 1)) _ = _
  rw [hA4.one.one.skip.skip.fin]
  show some (Res.ok (FnD.mk nm ps ls b) _ 0) = _
  congr 2
  simp only [List.length_cons, List.length_append, List.length_nil]
  omega
theorem array_parse {a : Ar} {ks : List KT} {i : Nat} (h : NameOk a.name ∧ a.size < 4294967296) (hA : At T i (arK a ++ ks)) : isTok T i [kwArray] = true ∧ isTok T i [kwVar] = false ∧ sArray T (i + 1) 0 = some (.ok a (i + 6) 0) := by
 have hA1 : At T i ((3, kwArray) :: (2, a.name) :: sg 91 :: (1, Go.Lib.decDigits a.size) :: sg 93 :: sg 59 :: ks) := hA
 refine ⟨by rw [hA1.kw]; decide, by rw [hA1.kw]; decide, ?_⟩
 unfold sArray
 rw [hA1.one.word]
 show obind (some (sBegin T [91] (i + 1 + 1) 0)) _ = _
 rw [hA1.one.one.begin (by omega)]
 show obind (some (sNumber T (i + 1 + 1 + 1) 1)) _ = _
 rw [hA1.one.one.one.number h.2]
 show obind (some (sEnd T [93] (i + 1 + 1 + 1 + 1) 1)) _ = _
 rw [hA1.one.one.one.one.fin]
 show obind (some (sNeed T [59] (i + 1 + 1 + 1 + 1 + 1) 0)) _ = _
 rw [hA1.one.one.one.one.one.need]
 rfl
theorem At.lt {i : Nat} {t : KT} {ks : List KT} (h : At T i (t :: ks)) : i < T.length := by
 obtain ⟨t', h1, _⟩ := h.get
 exact get_lt h1
theorem At.len {i : Nat} (h : At T i []) : T.length ≤ i := by
 have h1 : ((T.map kt).drop i).length = 0 := by rw [show (T.map kt).drop i = [] from h]; rfl
 rw [List.length_drop, List.length_map] at h1
 omega
theorem funcs_parse : ∀ (l : List FnD) (ts : List KT) (p : Pr) (i : Nat), PFs l ts → At T i ts → ∃ j, Evt (fun f => sProg T f p i 0) (.ok { p with funcs := p.funcs ++ l } j 0)
 | [], ts, p, i, h, hA => by
  cases h with
  | nil =>
   refine ⟨i, 1, fun f hf => ?_⟩
   obtain ⟨g, rfl⟩ : ∃ g, f = g + 1 := ⟨f - 1, by omega⟩
   show sProg T (g + 1) p i 0 = _
   rw [sProg, if_pos hA.len, List.append_nil]
 | a :: l, ts, p, i, h, hA => by
  cases h with
  | cons hf hd hl =>
   obtain ⟨e1, e2, e3, f1, h1⟩ := func_parse hf hd hA
   obtain ⟨j, f2, h2⟩ := funcs_parse l _ { p with funcs := p.funcs ++ [a] } _ hl hA.skip
   refine ⟨j, f1 + f2 + 1, fun f hf => ?_⟩
   obtain ⟨g, rfl⟩ : ∃ g, f = g + 1 := ⟨f - 1, by omega⟩
   have h1' := h1 g (by omega)
   have h2' := h2 g (by omega)
   simp only at h1' h2'
   show sProg T (g + 1) p i 0 = _
   rw [sProg, if_neg (by have := isTok_lt e1; omega), if_neg (by rw [e3]; decide), if_neg (by rw [e2]; decide), if_pos e1, h1']
   show sProg T g { p with funcs := p.funcs ++ [a] } _ 0 = _
   rw [h2', List.append_assoc]
   rfl
theorem arrays_parse : ∀ (l : List Ar) (fs : List FnD) (ts : List KT) (p : Pr) (i : Nat), ArsOk l → PFs fs ts → At T i ((l.map arK).flatten ++ ts) → ∃ j, Evt (fun f => sProg T f p i 0) (.ok ⟨p.vars, p.arrays ++ l, p.funcs ++ fs⟩ j 0)
 | [], fs, ts, p, i, _, hf, hA => by
  rw [List.append_nil]
  exact funcs_parse fs ts p i hf hA
 | a :: l, fs, ts, p, i, hl, hf, hA => by
  rw [List.map_cons, List.flatten_cons, List.append_assoc] at hA
  obtain ⟨e1, e2, h1⟩ := array_parse (hl a (List.mem_cons_self ..)) hA
  obtain ⟨j, f2, h2⟩ := arrays_parse l fs ts { p with arrays := p.arrays ++ [a] } _ (fun x hx => hl x (List.mem_cons_of_mem _ hx)) hf hA.skip
  refine ⟨j, f2 + 1, fun f hf => ?_⟩
  obtain ⟨g, rfl⟩ : ∃ g, f = g + 1 := ⟨f - 1, by omega⟩
  have h2' := h2 g (by omega)
  simp only at h2'
  show sProg T (g + 1) p i 0 = _
  rw [sProg, if_neg (by have := isTok_lt e1; omega), if_neg (by rw [e2]; decide), if_pos e1, h1]
  show sProg T g { p with arrays := p.arrays ++ [a] } (i + 6) 0 = _
  have e6 : (arK a).length = 6 := rfl
  rw [e6] at h2'
  rw [h2', List.append_assoc]
  rfl
theorem prog_parse {p : Pr} {ts : List KT} (hp : PP p ts) (hA : At T 0 ts) : ∃ j, Evt (fun f => sProg T f ⟨[], [], []⟩ 0 0) (.ok p j 0) := by
 cases hp with
 | mk hv ha hf =>
  rename_i v a fs t1
  have hno : tokIn ((a.map arK).flatten ++ t1) [kwVar] = false := by
   match a, hf with
   | x :: r, _ => simp [tokIn, arK, kwArray, kwVar]
   | [], hf =>
    cases hf with
    | nil => rfl
    | cons h _ _ =>
     cases h with
     | mk _ _ _ _ => simp [tokIn, kwFunc, kwVar]
  by_cases hne : v = []
  ·subst hne
   exact arrays_parse a fs t1 ⟨[], [], []⟩ 0 ha hf hA
  ·obtain ⟨f1, h1⟩ := vars_parse (op := 0) hno hA
   obtain ⟨j, f2, h2⟩ := arrays_parse a fs t1 ⟨v, [], []⟩ _ ha hf hA.skip
   have hA1 : At T 0 ((3, kwVar) :: (commas v ++ [sg 59] ++ ((a.map arK).flatten ++ t1))) := by
    unfold varK at hA
    rw [if_neg hne] at hA
    exact hA
   refine ⟨j, f1 + f2 + 1, fun f hf => ?_⟩
   obtain ⟨g, rfl⟩ : ∃ g, f = g + 1 := ⟨f - 1, by omega⟩
   have h1' := h1 g (by omega)
   have h2' := h2 g (by omega)
   simp only at h1' h2'
   show sProg T (g + 1) ⟨[], [], []⟩ 0 0 = _
   rw [sProg, if_neg (by have := hA1.lt; omega), if_pos (by rw [hA1.kw]; decide), h1']
   exact h2'
/-- The tokens of a printed program are read as that program. -/
theorem print_read {p : Pr} {ts : List KT} {T : List Tok} (hp : PP p ts) (hT : T.map kt = ts) {F : Nat} {r : Res Pr} (hr : sProg T F ⟨[], [], []⟩ 0 0 = some r) : ∃ j, r = .ok p j 0 := by
 obtain ⟨j, f0, h⟩ := prog_parse (T := T) hp (by show (T.map kt).drop 0 = ts; rw [hT]; rfl)
 have h1 := prog_le T F (F + f0) _ 0 0 (by omega) _ hr
 have h2 := h (F + f0) (by omega)
 simp only at h2
 rw [h1] at h2
 injection h2 with h2
 exact ⟨j, h2⟩
end
end Go.Stele
namespace Go.Stele
section
variable {T T' : List Tok} {d c z m : Nat}
end
end Go.Stele
/- The parser in plain Lean: a main function with one assignment; parentheses and signs around an operand. -/
set_option maxRecDepth 100000
namespace Go.Stele
section
variable {T : List Tok}
end
end Go.Stele
/- The lexer and the parser in plain Lean: parentheses around an expression that stands alone in a body. -/
set_option maxRecDepth 100000
namespace Go.Stele
theorem tw_del {p : UInt8 → Bool} {d : UInt8} (hp : p d = false) (b : List UInt8) : ∀ s : List UInt8, (s ++ d :: b).takeWhile p = s.takeWhile p
 | [] => by rw [List.nil_append, List.takeWhile_cons_of_neg (by simp [hp])]; rfl
 | c :: s => by
  rw [List.cons_append]
  by_cases h : p c = true
  ·rw [List.takeWhile_cons_of_pos h, List.takeWhile_cons_of_pos h, tw_del hp b s]
  ·rw [List.takeWhile_cons_of_neg h, List.takeWhile_cons_of_neg h]
theorem pre_del {d : UInt8} (b : List UInt8) : ∀ (x s : List UInt8), d ∉ x → x.isPrefixOf (s ++ d :: b) = x.isPrefixOf s
 | [], s, _ => by simp
 | c :: x, [], h => by
  have : ¬ c = d := fun hc => h (by rw [hc]; exact List.mem_cons_self ..)
  simp [List.isPrefixOf, this]
 | c :: x, e :: s, h => by
  have := pre_del b x s fun hx => h (List.mem_cons_of_mem _ hx)
  simp only [List.cons_append, List.isPrefixOf, this]
theorem pre_del' {d : UInt8} (b : List UInt8) (c : UInt8) (s : List UInt8) : ∀ x : List UInt8, d ∉ x.tail → x.isPrefixOf (c :: s ++ d :: b) = x.isPrefixOf (c :: s)
 | [], _ => by simp
 | a :: x, h => by
  have := pre_del b x s h
  simp only [List.cons_append, List.isPrefixOf, this]
theorem find_del {d : UInt8} (b : List UInt8) (c : UInt8) (s : List UInt8) : ∀ L : List (List UInt8), (∀ x ∈ L, d ∉ x.tail) → L.find? (fun x => x.isPrefixOf (c :: s ++ d :: b)) = L.find? (fun x => x.isPrefixOf (c :: s))
 | [], _ => rfl
 | x :: L, h => by
  rw [List.find?_cons, List.find?_cons, pre_del' b c s x (h x (List.mem_cons_self ..)), find_del b c s L fun y hy => h y (List.mem_cons_of_mem _ hy)]
end Go.Stele
/- The parser in plain Lean: constructs within constructs. -/
set_option maxRecDepth 100000
namespace Go.Stele
section
variable {bs : List Bool}
end
end Go.Stele
set_option maxRecDepth 100000
namespace Go.Stele
open Go.Lib
/-- A character that ends whatever stands ahead of it, white space or not. -/
structure Fin2 (d : UInt8) : Prop where
 digit : isDigit d = false
 inner : isInner d = false
 next : (isLetter d || decide (cv d = 95)) = false
 slash : d ≠ 47
 signs : ∀ x ∈ signs, d ∉ x.tail
theorem wordNext_fin {d : UInt8} (hd : Fin2 d) (b s : List UInt8) {n : Nat} (hn : n ≤ s.length) : wordNext (s ++ d :: b) n = wordNext s n := by
 unfold wordNext
 rcases Nat.lt_or_ge n s.length with h | h
 ·rw [List.getElem?_append_left h]
 ·have : n = s.length := by omega
  subst this
  rw [List.getElem?_append_right (Nat.le_refl _), List.getElem?_eq_none (Nat.le_refl _)]
  rw [Nat.sub_self, List.getElem?_cons_zero]
  exact hd.next
theorem lexToken_fin {d : UInt8} (hd : Fin2 d) (b : List UInt8) (c : UInt8) (r : List UInt8) (h : c = 39 → 2 ≤ r.length) : lexToken (c :: r ++ d :: b) = lexToken (c :: r) := by
 simp only [List.cons_append, lexToken]
 by_cases hc : isDigit c = true
 ·rw [if_pos hc, if_pos hc]
  unfold lexNumber
  have e1 : (c :: (r ++ d :: b)).takeWhile isDigit = (c :: r).takeWhile isDigit := tw_del hd.digit b (c :: r)
  have e2 := wordNext_fin hd b (c :: r) (takeWhile_le isDigit (c :: r))
  rw [List.cons_append] at e2
  rw [e1, e2]
 rw [if_neg hc, if_neg hc]
 by_cases hl : isLetter c = true
 ·rw [if_pos hl, if_pos hl]
  unfold lexName
  have e1 : (c :: (r ++ d :: b)).takeWhile isInner = (c :: r).takeWhile isInner := tw_del hd.inner b (c :: r)
  rw [e1]
 rw [if_neg hl, if_neg hl]
 by_cases hq : decide (cv c = 39) = true
 ·rw [if_pos hq, if_pos hq]
  have h39 : c = 39 := by
   rw [decide_eq_true_eq] at hq
   apply UInt8.toNat_inj.1
   have : (c.toNat : Int) = 39 := hq
   show c.toNat = 39
   omega
  match r, h h39 with
  | x :: y :: r, _ => rfl
  | [x], h => simp at h
  | [], h => simp at h
 ·rw [if_neg hq, if_neg hq]
  unfold lexSign
  have e1 := find_del b c r signs hd.signs
  rw [List.cons_append] at e1
  rw [e1]
theorem skip_fin {d : UInt8} (hd : Fin2 d) (b : List UInt8) {c : UInt8} (r : List UInt8) (hw : isWhite c = false) (hsl : ([47, 47] : List UInt8).isPrefixOf (c :: r) = false) : skipLen (c :: r ++ d :: b) = 0 ∧ skipLen (c :: r) = 0 := by
 have e1 := pre_del' (d := d) b c r [47, 47] (by simp only [List.tail_cons, List.mem_singleton]; exact hd.slash)
 unfold skipLen
 rw [e1, hsl, if_neg (by decide), if_neg (by decide), List.cons_append, List.takeWhile_cons_of_neg (by rw [hw]; decide), List.takeWhile_cons_of_neg (by rw [hw]; decide)]
 exact ⟨rfl, rfl⟩
/-- On whatever line it begins, the text has these tokens. -/
def Lx (s : List UInt8) (ks : List KT) : Prop := ∀ l : Int, ∃ A, lexAt s l = .ok A ∧ A.map kt = ks
theorem Lx.nil : Lx [] [] := fun l => ⟨[], lexAt_nil l, rfl⟩
theorem Lx.white {c : UInt8} (hc : isWhite c = true) {b : List UInt8} {ks : List KT} (h : Lx b ks) : Lx (c :: b) ks := fun l => by
 rw [lexAt_white hc]
 exact h _
theorem Lx.tok {x rest : List UInt8} {k : Int} {ks : List KT} (hne : x ≠ []) (hs : skipLen (x ++ rest) = 0) (ht : lexToken (x ++ rest) = (⟨k, x, 0⟩, x.length, 0)) (h : Lx rest ks) : Lx (x ++ rest) ((k, x) :: ks) := fun l => by
 rw [← lexAt_eq (f := (x ++ rest).length + 1) (by omega), lexP, if_neg (by simp [hne]), if_pos hs, ht, if_neg (by simp)]
 simp only
 rw [List.drop_left, lexAt_eq (by rw [List.length_append]; omega)]
 obtain ⟨A, h1, h2⟩ := h (l + (((x ++ rest).take x.length).count 10 : Nat))
 rw [h1]
 exact ⟨_, rfl, by rw [List.map_cons, h2]; rfl⟩
theorem Lx.del {x b : List UInt8} {k l0 : Int} {d : UInt8} {ks : List KT} (ha : Again ⟨k, x, l0⟩) (hd : Fin2 d) (h : Lx (d :: b) ks) : Lx (x ++ d :: b) ((k, x) :: ks) := by
 obtain ⟨_, hne, hs, _, ht⟩ := ha
 simp only at hne hs ht
 obtain ⟨c, r, rfl⟩ := List.exists_cons_of_ne_nil hne
 obtain ⟨h47, hw⟩ := skip_zero hs
 have hw' : isWhite c = false := by
  cases h0 : isWhite c with
  | false => rfl
  | true => rw [List.takeWhile_cons_of_pos h0] at hw; cases hw
 refine Lx.tok hne (skip_fin hd b r hw' h47).1 ?_ h
 rw [lexToken_fin hd b c r ?_]
 ·exact ht
 ·rintro rfl
  have h1 : lexLiteral (39 :: r) = (⟨k, 39 :: r, 0⟩, (39 :: r).length, 0) := ht
  match r, h1 with
  | [], h1 => simp [lexLiteral, tokErr] at h1
  | [_], h1 => simp [lexLiteral, tokErr] at h1
  | _ :: _ :: _, _ => simp
theorem Lx.sign {c : UInt8} (hc : c ∈ ([40, 41, 91, 93, 44, 59, 123, 125, 45] : List UInt8)) {rest : List UInt8} {ks : List KT} (h : Lx rest ks) : Lx (c :: rest) (sg c :: ks) := by
 have h1 : skipLen (c :: rest) = 0 := by
  have : ∀ c ∈ ([40, 41, 91, 93, 44, 59, 123, 125, 45] : List UInt8), isWhite c = false ∧ c ≠ 47 := by decide
  exact skip_head (this c hc).1 (this c hc).2
 have h2 : lexToken (c :: rest) = (⟨4, [c], 0⟩, 1, 0) := by
  simp only [List.mem_cons, List.not_mem_nil, or_false] at hc
  rcases hc with rfl | rfl | rfl | rfl | rfl | rfl | rfl | rfl | rfl <;> rfl
 exact Lx.tok (x := [c]) (by simp) h1 h2 h
theorem fin41 : Fin2 41 := ⟨by decide, by decide, by decide, by decide, by decide⟩
theorem fin40 : Fin2 40 := ⟨by decide, by decide, by decide, by decide, by decide⟩
/-! ### Statements -/
/-! ### Declarations -/
end Go.Stele
set_option maxRecDepth 100000
namespace Go.Stele
open Go.Lib
namespace Src
/-- Tokens ahead of the others. -/
def nest : List Tok → Except (Int × Int) (List Tok) → Except (Int × Int) (List Tok)
 | [], r => r
 | t :: A, r => (nest A r).map (t :: ·)
theorem nest_ok : ∀ (A B : List Tok), nest A (.ok B) = .ok (A ++ B)
 | [], B => rfl
 | t :: A, B => by rw [nest, nest_ok A B]; rfl
/-- From the first line on suffices. -/
theorem of1 {s : List UInt8} {ks : List KT} (h : ∃ A, lexAt s 1 = .ok A ∧ A.map kt = ks) : Lx s ks := fun l => by
 obtain ⟨A, h1, h2⟩ := h
 obtain ⟨B, h3, h4⟩ := lexP_line _ _ _ l _ h1
 exact ⟨B, h3, h4.trans h2⟩
/-- A piece that ends ahead of a blank. -/
theorem piece {A : List Tok} {k : Nat} {pre : List UInt8} (h1 : ∀ F X, lexP (F + k) (pre ++ 32 :: X) 1 = nest A (lexP F (32 :: X) 1)) {X : List UInt8} {ks : List KT} (h : Lx X ks) : Lx (pre ++ 32 :: X) (A.map kt ++ ks) := by
 refine of1 ?_
 obtain ⟨B, g1, g2⟩ := h 1
 have e1 := h1 ((pre ++ 32 :: X).length) X
 rw [lexAt_eq (by omega), lexAt_eq (by rw [List.length_append]; omega), lexAt_white (by decide)] at e1
 have e2 : (1 : Int) + (([32] : List UInt8).count 10 : Nat) = 1 := by decide
 rw [e2, g1, nest_ok] at e1
 exact ⟨_, e1, by rw [List.map_append, g2]⟩
def q1 : List UInt8 := [102, 117, 110, 99, 32, 97, 100, 100, 40, 120, 41, 32, 123, 32, 118, 97, 114, 32, 115, 117, 109, 59, 32, 115, 117, 109, 32, 61, 32, 115, 117, 109, 32, 43, 32, 120, 59, 32, 114, 101, 116, 117, 114, 110, 32, 115, 117, 109, 59, 32, 125, 32, 102, 117, 110, 99, 32, 109, 97, 105, 110, 40, 41, 32, 123]
def q1T : List Tok := [⟨3, [102, 117, 110, 99], 1⟩, ⟨2, [97, 100, 100], 1⟩, ⟨4, [40], 1⟩, ⟨2, [120], 1⟩, ⟨4, [41], 1⟩, ⟨4, [123], 1⟩, ⟨3, [118, 97, 114], 1⟩, ⟨2, [115, 117, 109], 1⟩, ⟨4, [59], 1⟩, ⟨2, [115, 117, 109], 1⟩, ⟨4, [61], 1⟩, ⟨2, [115, 117, 109], 1⟩, ⟨4, [43], 1⟩, ⟨2, [120], 1⟩, ⟨4, [59], 1⟩, ⟨3, [114, 101, 116, 117, 114, 110], 1⟩, ⟨2, [115, 117, 109], 1⟩, ⟨4, [59], 1⟩, ⟨4, [125], 1⟩, ⟨3, [102, 117, 110, 99], 1⟩, ⟨2, [109, 97, 105, 110], 1⟩, ⟨4, [40], 1⟩, ⟨4, [41], 1⟩, ⟨4, [123], 1⟩]
theorem q1_lex (F : Nat) (X : List UInt8) : lexP (F + 39) (q1 ++ 32 :: X) 1 = nest q1T (lexP F (32 :: X) 1) := by kernel_rfl
theorem num_lex {n : Nat} (hn : n < 4294967296) {c : UInt8} (hc : Fin2 c) {X : List UInt8} {ks : List KT} (h : Lx (c :: X) ks) : Lx (decDigits n ++ c :: X) ((1, decDigits n) :: ks) := Lx.del (again_dec hn 0) hc h
/-! ### The source of InterpreterArithmetic -/
/-! ### The source of InterpreterStatic -/
def outB : List UInt8 := [111, 117, 116]
def addB : List UInt8 := [97, 100, 100]
/-- out(add(x)); -/
def stS (x : UInt8) : List UInt8 := outB ++ 40 :: (addB ++ 40 :: (decDigits x.toNat ++ [41, 41, 59, 32]))
def statS (l : List UInt8) : List UInt8 := q1 ++ 32 :: ((l.map stS).flatten ++ [125])
def stK (x : UInt8) : List KT := [(2, outB), sg 40, (2, addB), sg 40, (1, decDigits x.toNat), sg 41, sg 41, sg 59]
theorem out_again : Again ⟨2, outB, 0⟩ := by unfold Again; decide +kernel
theorem add_again : Again ⟨2, addB, 0⟩ := by unfold Again; decide +kernel
theorem x_again : Again ⟨2, [120], 0⟩ := by unfold Again; decide +kernel
theorem sum_again : Again ⟨2, Sta.sumK, 0⟩ := by unfold Again; decide +kernel
theorem main_again : Again ⟨2, Sta.mainK, 0⟩ := by unfold Again; decide +kernel
theorem st_lex (x : UInt8) {X : List UInt8} {ks : List KT} (h : Lx X ks) : Lx (stS x ++ X) (stK x ++ ks) := by
 have hx : x.toNat < 4294967296 := by have := x.toNat_lt; omega
 have h1 : Lx (41 :: 41 :: 59 :: 32 :: X) (sg 41 :: sg 41 :: sg 59 :: ks) := Lx.sign (by decide) (Lx.sign (by decide) (Lx.sign (by decide) (Lx.white (by decide) h)))
 have h2 := Lx.del out_again fin40 (Lx.sign (c := 40) (by decide) (Lx.del add_again fin40 (Lx.sign (c := 40) (by decide) (num_lex hx fin41 h1))))
 have e : stS x ++ X = outB ++ 40 :: (addB ++ 40 :: (decDigits x.toNat ++ 41 :: 41 :: 59 :: 32 :: X)) := by simp [stS]
 rw [e]
 exact h2
theorem sts_lex : ∀ l : List UInt8, Lx ((l.map stS).flatten ++ [125]) ((l.map stK).flatten ++ [sg 125])
 | [] => Lx.sign (by decide) Lx.nil
 | x :: l => by
  rw [List.map_cons, List.map_cons, List.flatten_cons, List.flatten_cons, List.append_assoc, List.append_assoc]
  exact st_lex x (sts_lex l)
theorem st_print (x : UInt8) : PS (Sta.st x) (stK x) 2 := PS.call out_again (.one (.call add_again (.one (.num (by have := x.toNat_lt; omega)))))
theorem sts_print : ∀ l : List UInt8, ∃ d, PSs (l.map Sta.st) (l.map stK).flatten d ∧ d ≤ 2
 | [] => ⟨0, .nil, by omega⟩
 | x :: l => by
  obtain ⟨d, h1, h2⟩ := sts_print l
  exact ⟨_, .cons (st_print x) h1, Nat.max_le.2 ⟨Nat.le_refl _, h2⟩⟩
theorem add_print : PF Sta.add ((3, kwFunc) :: (2, addB) :: sg 40 :: ([(2, [120])] ++ sg 41 :: sg 123 :: (varK [Sta.sumK] ++ ([(2, Sta.sumK), sg 61, (2, Sta.sumK), (4, [43]), (2, [120]), sg 59, (3, kwReturn), (2, Sta.sumK), sg 59] ++ [sg 125])))) 1 := by
 have h1 : PS (.mk 1 Sta.sumK [] [.mk [43] 0 [] [.mk nVar 0 Sta.sumK [], .mk nVar 0 [120] []]] [] []) _ _ := PS.assign sum_again (PE.bin (s := 4) (by decide) (by decide) (by decide) (.var sum_again) (.var x_again))
 have h2 : PS (.mk 5 [] [] [.mk nVar 0 Sta.sumK []] [] []) _ _ := PS.ret (.var sum_again)
 have h3 := PF.mk (nm := addB) (ps := [[120]]) (ls := [Sta.sumK]) add_again (fun y hy => by rw [List.mem_singleton.1 hy]; exact x_again) (fun y hy => by rw [List.mem_singleton.1 hy]; exact sum_again) (PSs.cons h1 (.cons h2 .nil))
 exact h3
theorem stat_print (l : List UInt8) : ∃ ts, PP (Sta.prog l) ts ∧ Lx (statS l) ts := by
 obtain ⟨d, h1, h2⟩ := sts_print l
 have h3 := PF.mk (nm := Sta.mainK) (ps := []) (ls := []) main_again (fun y hy => by cases hy) (fun y hy => by cases hy) h1
 have h4 := PP.mk (v := []) (a := []) (fun y hy => by cases hy) (fun y hy => by cases hy) (PFs.cons add_print (by decide) (PFs.cons h3 (by omega) .nil))
 refine ⟨_, h4, ?_⟩
 have h5 := piece q1_lex (sts_lex l)
 have e : q1T.map kt = ((3, kwFunc) :: (2, addB) :: sg 40 :: ([(2, [120])] ++ sg 41 :: sg 123 :: (varK [Sta.sumK] ++ ([(2, Sta.sumK), sg 61, (2, Sta.sumK), (4, [43]), (2, [120]), sg 59, (3, kwReturn), (2, Sta.sumK), sg 59] ++ [sg 125])))) ++ [(3, kwFunc), (2, Sta.mainK), sg 40, sg 41, sg 123] := by decide +kernel
 rw [e] at h5
 show Lx (q1 ++ 32 :: ((l.map stS).flatten ++ [125])) _
 simpa [varK, commas] using h5
/-! ### The source of InterpreterLoop -/
end Src
end Go.Stele
namespace Go.Stele
open Go.Lib
/-- A source parsed: the program, and the error. -/
def parseQ (s : List UInt8) : Pr × Int := match lexAt s 1 with
 | .error (l, e) => (⟨[], [], []⟩, e)
 | .ok T => match sProg T (10 * T.length + 20) ⟨[], [], []⟩ 0 0 with
  | some (.ok p _ _) => (p, 0)
  | some (.err l e) => (⟨[], [], []⟩, e)
  | none => (⟨[], [], []⟩, 0)
/-- A valid program's run with any limit. -/
def limitI (p : Pr) (inp : List Nat) (steps : Int) : OutI := if 100000000 < steps then ⟨[], 6, 0⟩ else if steps ≤ 0 then ⟨[], 13, 0⟩ else runI p inp steps.toNat
/-- What Source returns. -/
def sourceI (s : List UInt8) (inp : List Nat) (steps : Int) : OutI :=
 if (parseQ s).2 ≠ 0 then ⟨[], (parseQ s).2, 0⟩ else if checkPr (parseQ s).1 ≠ 0 then ⟨[], checkPr (parseQ s).1, 0⟩ else limitI (parseQ s).1 inp steps
theorem source_ok {s : List UInt8} {p : Pr} (h : parseQ s = (p, 0)) (hc : checkPr p = 0) (inp : List Nat) (steps : Int) : sourceI s inp steps = limitI p inp steps := by
 unfold sourceI
 rw [h, if_neg (by simp), hc, if_neg (by simp)]
theorem parseQ_of {s : List UInt8} {T : List Tok} {p : Pr} {i op : Nat} (hT : lexAt s 1 = .ok T) (hs : sProg T (10 * T.length + 20) ⟨[], [], []⟩ 0 0 = some (.ok p i op)) : parseQ s = (p, 0) := by
 unfold parseQ
 rw [hT]
 simp only
 rw [hs]
/-! ### Limits -/
/-! ### Input -/
theorem limit_run (p : Pr) (inp : List Nat) : limitI p inp 10000 = runI p inp 10000 := by
 unfold limitI
 rw [if_neg (by decide), if_neg (by decide)]
 rfl
/-! ### The given sources -/
theorem stat_law (l : List UInt8) (hl : l.length ≤ 60) : (sourceI (Src.statS l) [] 10000).out = Sta.sums 0 l ∧ (sourceI (Src.statS l) [] 10000).err = 0 := by
 have hp : parseQ (Src.statS l) = (Sta.prog l, 0) := by
  obtain ⟨ts, h1, h2⟩ := Src.stat_print l
  obtain ⟨B, h3, h4⟩ := h2 1
  obtain ⟨q, hq⟩ := sProg_ends B (10 * B.length + 20) ⟨[], [], []⟩ 0 0 (Nat.zero_le _) (by omega)
  obtain ⟨j, hj⟩ := print_read h1 h4 hq
  rw [hj] at hq
  exact parseQ_of h3 hq
 rw [source_ok hp (Sta.check l), limit_run]
 exact Sta.run l hl
/-! ### Unused declarations -/
theorem commas_ge (l : List (List UInt8)) : l.length ≤ (commas l).length := by rw [commas_len]; omega
theorem varK_ge (l : List (List UInt8)) : l.length ≤ (varK l).length := by 
 rw [varK_len]
 by_cases h : l = []
 ·rw [h]; exact Nat.zero_le _
 ·rw [if_neg h]; omega
end Go.Stele
namespace Go.Stele
/-! ### Functions -/
theorem fresh_zero : ∀ (l k : List Nm), freshE k l = 0 → l.Nodup ∧ ∀ s ∈ l, s ∉ k ∧ isNm s = true
 | [], k, _ => ⟨List.nodup_nil, fun s hs => (List.not_mem_nil hs).elim⟩
 | s :: l, k, h => by
  rw [freshE] at h
  split at h
  ·cases h
  rename_i h1
  split at h
  ·cases h
  rename_i h2
  obtain ⟨g1, g2⟩ := fresh_zero l (s :: k) h
  refine ⟨List.nodup_cons.2 ⟨fun hm => (g2 s hm).1 (List.mem_cons_self ..), g1⟩, fun x hx => ?_⟩
  rcases List.mem_cons.1 hx with rfl | hx
  ·exact ⟨h2, by simpa using h1⟩
  ·exact ⟨fun hm => (g2 x hx).1 (List.mem_cons_of_mem _ hm), (g2 x hx).2⟩
end Go.Stele
namespace Go.Stele
theorem noDot {s : Nm} (h : isNm s = true) : (46 : UInt8) ∉ s := by
 unfold isNm at h
 rw [Bool.and_eq_true] at h
 have h2 := h.2
 cases s with
 | nil => exact List.not_mem_nil
 | cons c r =>
  simp only [Bool.and_eq_true] at h2
  intro hm
  rcases List.mem_cons.1 hm with rfl | hm
  ·exact absurd h2.1 (by decide)
  ·exact absurd (List.all_eq_true.1 h2.2 46 hm) (by decide)
theorem split_dot : ∀ (a b x y : Nm), (46 : UInt8) ∉ a → (46 : UInt8) ∉ b → a ++ 46 :: x = b ++ 46 :: y → a = b ∧ x = y
 | [], [], x, y, _, _, h => by
  injection h with _ h
  exact ⟨rfl, h⟩
 | [], d :: b, x, y, _, hb, h => by
  injection h with h1 _
  exact absurd (h1 ▸ List.mem_cons_self ..) hb
 | c :: a, [], x, y, ha, _, h => by
  injection h with h1 _
  exact absurd (h1 ▸ List.mem_cons_self ..) ha
 | c :: a, d :: b, x, y, ha, hb, h => by
  injection h with h1 h2
  obtain ⟨e1, e2⟩ := split_dot a b x y (fun g => ha (List.mem_cons_of_mem _ g)) (fun g => hb (List.mem_cons_of_mem _ g)) h2
  exact ⟨by rw [h1, e1], e2⟩
theorem nodup_inj {fs : List FnD} (h : (fs.map (·.name)).Nodup) {f g : FnD} (hf : f ∈ fs) (hg : g ∈ fs) (he : f.name = g.name) : f = g := by
 induction fs with
 | nil => cases hf
 | cons a l ih =>
  rw [List.map_cons, List.nodup_cons] at h
  rcases List.mem_cons.1 hf with rfl | hf'
  ·rcases List.mem_cons.1 hg with rfl | hg'
   ·rfl
   ·exact absurd (List.mem_map.2 ⟨g, hg', he.symm⟩) h.1
  ·rcases List.mem_cons.1 hg with rfl | hg'
   ·exact absurd (List.mem_map.2 ⟨f, hf', he⟩) h.1
   ·exact ih h.2 hf' hg'
/-- A function's own scalars are placed, and no others under its name. -/
theorem own_key {vars arrays : List Nm} {fs : List FnD} (h : freshE [] (vars ++ arrays ++ fs.map (·.name)) = 0) {f : FnD} (hf : f ∈ fs) (name : Nm) : f.name ++ [46] ++ name ∈ scalarsP vars fs ↔ name ∈ f.params ++ f.locals := by
 obtain ⟨h1, h2⟩ := fresh_zero _ _ h
 have hd : ∀ g ∈ fs, (46 : UInt8) ∉ g.name := fun g hg => noDot (h2 _ (List.mem_append.2 (.inr (List.mem_map.2 ⟨g, hg, rfl⟩)))).2
 unfold scalarsP
 rw [List.mem_append]
 constructor
 ·rintro (g | g)
  ·have := noDot (h2 _ (List.mem_append.2 (.inl (List.mem_append.2 (.inl g))))).2
   exact absurd (by simp) this
  ·obtain ⟨l, g1, g2⟩ := List.mem_flatten.1 g
   obtain ⟨k, g3, rfl⟩ := List.mem_map.1 g1
   obtain ⟨x, g4, g5⟩ := List.mem_map.1 g2
   have g6 : k.name ++ 46 :: x = f.name ++ 46 :: name := by simpa using g5
   obtain ⟨e1, rfl⟩ := split_dot _ _ _ _ (hd k g3) (hd f hf) g6
   rw [← nodup_inj (List.nodup_append.1 h1).2.1 g3 hf e1]
   exact g4
 ·intro g
  exact .inr (List.mem_flatten.2 ⟨_, List.mem_map.2 ⟨f, hf, rfl⟩, List.mem_map.2 ⟨name, g, rfl⟩⟩)
/-- The key that the interpreter finds is the reference's. -/
theorem key_eq {vars arrays : List Nm} {fs : List FnD} (h : freshE [] (vars ++ arrays ++ fs.map (·.name)) = 0) {f : FnD} (hf : f ∈ fs) (name : Nm) : (if f.name ++ [46] ++ name ∈ scalarsP vars fs then f.name ++ [46] ++ name else name) = keyI f name := by
 unfold keyI
 simp only [own_key h hf, List.mem_append]
/-- A name that the checker lets through as a scalar is placed. -/
theorem key_placed {vars arrays : List Nm} {fs : List FnD} {known : List FSum} {f : FnD} (hf : f ∈ fs) {name : Nm} (h : scalarE (envF vars arrays (fs.map (·.name)) known f) name = 0) : keyI f name ∈ scalarsP vars fs := by
 unfold scalarE at h
 unfold keyI scalarsP
 rw [List.mem_append]
 split at h
 ·rename_i h1
  split
  ·rename_i h2
   exact .inr (List.mem_flatten.2 ⟨_, List.mem_map.2 ⟨f, hf, rfl⟩, List.mem_map.2 ⟨name, List.mem_append.2 h2, rfl⟩⟩)
  ·rename_i h2
   rcases h1 with h1 | h1
   ·exact .inl h1
   ·exact absurd (List.mem_append.1 h1) h2
 ·split at h <;> cases h
/-- Where a name stands among different ones. -/
theorem fnI_mem {P : Pr} {f : FnD} (h : (P.funcs.map (·.name)).Nodup) (hf : f ∈ P.funcs) : fnI P f.name = f := by
 unfold fnI
 cases hg : P.funcs.find? fun g => decide (g.name = f.name) with
 | none => exact absurd (List.find?_eq_none.1 hg f hf) (by simp)
 | some g => exact nodup_inj h (List.mem_of_find?_eq_some hg) hf (of_decide_eq_true (List.find?_some (p := fun g : FnD => decide (g.name = f.name)) hg))
end Go.Stele
namespace Go.Stele
def Lt (v : Nat) : Prop := v < 4294967296
mutual
def numE : Ex → Prop
 | .mk op num name args => Lt num ∧ numEs args
def numEs : List Ex → Prop
 | [] => True
 | x :: l => numE x ∧ numEs l
end
mutual
def numS : Sm → Prop
 | .mk kind name index value thn els => numEs index ∧ numEs value ∧ numSs thn ∧ numSs els
def numSs : List Sm → Prop
 | [] => True
 | x :: l => numS x ∧ numSs l
end
theorem numEs_mem : ∀ {l : List Ex} {x : Ex}, numEs l → x ∈ l → numE x
 | a :: l, x, h, hx => by
  rcases List.mem_cons.1 hx with rfl | hx
  ·exact h.1
  ·exact numEs_mem h.2 hx
theorem numSs_mem : ∀ {l : List Sm} {x : Sm}, numSs l → x ∈ l → numS x
 | a :: l, x, h, hx => by
  rcases List.mem_cons.1 hx with rfl | hx
  ·exact h.1
  ·exact numSs_mem h.2 hx
theorem numE_head {l : List Ex} (h : numEs l) : numE (l.headD default) := by
 cases l with
 | nil => exact ⟨by unfold Lt; decide, trivial⟩
 | cons a l => exact h.1
/-- All values of the state are below 2^32. -/
structure Bnd (s : IS) : Prop where
 sc : ∀ k, Lt (s.sc k)
 ar : ∀ x, ∀ v ∈ s.ar x, Lt v
 inp : ∀ v ∈ s.inp, Lt v
def Bd {A : Type} (P : A → Prop) : IR A → Prop
 | .ok v s => P v ∧ Bnd s
 | .stop _ _ => True
theorem Bd.bind {A B : Type} {P : A → Prop} {Q : B → Prop} {r : IR A} {f : A → IS → IR B} (h : Bd P r) (hf : ∀ v s, P v → Bnd s → Bd Q (f v s)) : Bd Q (r.bind f) := by
 cases r with
 | ok v s => exact hf v s h.1 h.2
 | stop e s => trivial
def OptLt (r : Option Nat) : Prop := ∀ v, r = some v → Lt v
theorem OptLt.none : OptLt none := fun _ h => by cases h
theorem OptLt.some {v : Nat} (h : Lt v) : OptLt (some v) := fun _ e => by cases e; exact h
theorem tick_bd {s : IS} (h : Bnd s) : Bd (fun _ => True) (tick s) := by
 unfold tick
 split
 ·trivial
 ·exact ⟨trivial, h.sc, h.ar, h.inp⟩
theorem mapR_bd {A : Type} {g : A → IS → IR Nat} : ∀ (l : List A) (s : IS), (∀ a ∈ l, ∀ s, Bnd s → Bd Lt (g a s)) → Bnd s → Bd (fun vs => ∀ v ∈ vs, Lt v) (mapR g l s)
 | [], s, _, hs => ⟨fun v hv => (List.not_mem_nil hv).elim, hs⟩
 | a :: l, s, h, hs => by
  unfold mapR
  refine (h a (List.mem_cons_self ..) s hs).bind fun v s hv hs => (mapR_bd l s (fun b hb => h b (List.mem_cons_of_mem _ hb)) hs).bind fun vs s hvs hs => ⟨fun x hx => ?_, hs⟩
  rcases List.mem_cons.1 hx with rfl | hx
  ·exact hv
  ·exact hvs x hx
theorem blkR_bd {g : Sm → IS → IR (Option Nat)} : ∀ (l : List Sm) (s : IS), (∀ a ∈ l, ∀ s, Bnd s → Bd OptLt (g a s)) → Bnd s → Bd OptLt (blkR g l s)
 | [], s, _, hs => ⟨OptLt.none, hs⟩
 | a :: l, s, h, hs => by
  unfold blkR
  refine (h a (List.mem_cons_self ..) s hs).bind fun r s hr hs => ?_
  cases r with
  | some v => exact ⟨hr, hs⟩
  | none => exact blkR_bd l s (fun b hb => h b (List.mem_cons_of_mem _ hb)) hs
theorem whlR_bd {c : IS → IR Nat} {b : IS → IR (Option Nat)} (hc : ∀ s, Bnd s → Bd Lt (c s)) (hb : ∀ s, Bnd s → Bd OptLt (b s)) : ∀ (m v : Nat) (s : IS), Bnd s → Bd OptLt (whlR c b m v s)
 | 0, v, s, hs => by
  unfold whlR
  split
  ·exact ⟨OptLt.none, hs⟩
  ·trivial
 | m + 1, v, s, hs => by
  unfold whlR
  split
  ·exact ⟨OptLt.none, hs⟩
  ·refine (hb s hs).bind fun r s hr hs => ?_
   cases r with
   | some x => exact ⟨hr, hs⟩
   | none => exact (hc s hs).bind fun v s _ hs => whlR_bd hc hb m v s hs
theorem b2n_lt (b : Bool) : Lt (b2n b) := by unfold b2n Lt; split <;> decide
theorem binI_lt {op : List UInt8} {a b v : Nat} (ha : Lt a) (hb : Lt b) (h : binI op a b = some v) : Lt v := by
 have hm : ∀ n : Nat, Lt (n % 4294967296) := fun n => Nat.mod_lt _ (by decide)
 have hx : Lt (a ^^^ b) := Nat.xor_lt_two_pow (n := 32) ha hb
 have hi : ∀ {c : Prop} [Decidable c] {x y : Option Nat}, OptLt x → OptLt y → OptLt (if c then x else y) := fun h1 h2 => by
  split
  ·exact h1
  ·exact h2
 have hB : ∀ b, OptLt (some (b2n b)) := fun b => OptLt.some (b2n_lt b)
 have : OptLt (binI op a b) := hi (OptLt.some (hm _)) (hi (OptLt.some (hm _)) (hi (OptLt.some (hm _)) (hi (OptLt.some hx) (hi (hB _) (hi (hB _) (hi (hB _) (hi (hB _) (hi (hB _) (hi (hB _) (hi (hB _) (hi (hB _) (hi OptLt.none
  (hi (OptLt.some (Nat.lt_of_le_of_lt (Nat.div_le_self _ _) ha)) (OptLt.some (Nat.lt_of_le_of_lt (Nat.mod_le _ _) ha)))))))))))))))
 exact this v h
theorem setPs_bd (f : FnD) : ∀ (ps : List (List UInt8)) (vs : List Nat) (s : IS), (∀ v ∈ vs, Lt v) → Bnd s → Bnd (setPs f ps vs s)
 | p :: ps, v :: vs, s, hv, hs => by
  unfold setPs
  refine setPs_bd f ps vs _ (fun x hx => hv x (List.mem_cons_of_mem _ hx)) ⟨fun k => ?_, hs.ar, hs.inp⟩
  show Lt (if k = keyI f p then v else s.sc k)
  split
  ·exact hv v (List.mem_cons_self ..)
  ·exact hs.sc k
 | [], _, s, _, hs => by unfold setPs; exact hs
 | _ :: _, [], s, _, hs => by unfold setPs; exact hs
theorem head_lt {l : List Nat} (h : ∀ v ∈ l, Lt v) : Lt (l.headD 0) := by
 cases l with
 | nil => unfold Lt; decide
 | cons a l => exact h a (List.mem_cons_self ..)
theorem opI_bd {P : Pr} {g : FnD → Sm → IS → IR (Option Nat)} (hP : ∀ f ∈ P.funcs, numSs f.body) (hg : ∀ f x s, numS x → Bnd s → Bd OptLt (g f x s)) (f : FnD) (op : List UInt8) {num : Nat} (hn : Lt num) (name : List UInt8) {vs : List Nat} (hv : ∀ v ∈ vs, Lt v) {s : IS} (hs : Bnd s) : Bd Lt (opI P g f op num name vs s) := by
 have ht : Lt (vs.tail.headD 0) := head_lt fun v h => hv v (List.mem_of_mem_tail h)
 unfold opI
 split
 ·exact ⟨hn, hs⟩
 split
 ·exact ⟨hs.sc _, hs⟩
 split
 ·split
  ·rename_i v h
   exact ⟨hs.ar _ v (List.mem_of_getElem? h), hs⟩
  ·trivial
 split
 ·exact ⟨Nat.mod_lt _ (by decide), hs⟩
 split
 ·exact ⟨b2n_lt _, hs⟩
 split
 ·unfold callI
  split
  ·split
   ·exact ⟨by unfold Lt; decide, hs⟩
   ·rename_i v r h
    exact ⟨hs.inp v (by rw [h]; exact List.mem_cons_self ..), hs.sc, hs.ar, fun x hx => hs.inp x (by rw [h]; exact List.mem_cons_of_mem _ hx)⟩
  split
  ·exact ⟨by unfold Lt; decide, hs.sc, hs.ar, hs.inp⟩
  ·refine (blkR_bd _ _ (fun x hx s hs => hg _ x s ?_ hs) (setPs_bd _ _ _ _ hv hs)).bind fun r s hr hs => ⟨?_, hs⟩
   ·unfold fnI at hx
    cases hf : P.funcs.find? fun f => decide (f.name = name) with
    | none => rw [hf] at hx; cases hx
    | some f' =>
     rw [hf] at hx
     exact numSs_mem (hP f' (List.mem_of_find?_eq_some hf)) hx
   ·cases r with
    | none => show Lt 0; unfold Lt; decide
    | some v => exact hr v rfl
 ·split
  ·rename_i v h
   exact ⟨binI_lt (head_lt hv) ht h, hs⟩
  ·trivial
/-- What is evaluated is below 2^32. -/
theorem bd_all {P : Pr} (hP : ∀ f ∈ P.funcs, numSs f.body) : ∀ n : Nat, (∀ f x s, numE x → Bnd s → Bd Lt (evI P n f x s)) ∧ ∀ f x s, numS x → Bnd s → Bd OptLt (stI P n f x s)
 | 0 => ⟨fun f x s _ _ => by unfold evI; trivial, fun f x s _ _ => by unfold stI; trivial⟩
 | n + 1 => by
  obtain ⟨i1, i2⟩ := bd_all hP n
  refine ⟨fun f x s hx hs => ?_, fun f x s hx hs => ?_⟩
  ·obtain ⟨op, num, name, args⟩ := x
   unfold evI
   exact (tick_bd hs).bind fun _ s _ hs => (mapR_bd args s (fun a ha s hs => i1 f a s (numEs_mem hx.2 ha) hs) hs).bind fun vs s hvs hs => opI_bd hP i2 f op hx.1 name hvs hs
  ·obtain ⟨kind, name, index, value, thn, els⟩ := x
   obtain ⟨h1, h2, h3, h4⟩ := hx
   unfold stI
   refine (tick_bd hs).bind fun _ s _ hs => ?_
   split
   ·trivial
   refine (i1 f _ s (numE_head h2) hs).bind fun v s hv hs => ?_
   split
   ·refine ⟨OptLt.none, fun k => ?_, hs.ar, hs.inp⟩
    show Lt (if k = keyI f name then v else s.sc k)
    split
    ·exact hv
    ·exact hs.sc k
   split
   ·refine (i1 f _ s (numE_head h1) hs).bind fun i s hi hs => ?_
    split
    ·refine ⟨OptLt.none, hs.sc, fun x w hw => ?_, hs.inp⟩
     have hw' : w ∈ (if x = name then (s.ar name).set i v else s.ar x) := hw
     split at hw'
     ·rcases List.mem_or_eq_of_mem_set hw' with g | rfl
      ·exact hs.ar name w g
      ·exact hv
     ·exact hs.ar x w hw'
    ·trivial
   split
   ·exact ⟨OptLt.some hv, hs⟩
   split
   ·split
    ·exact blkR_bd _ _ (fun a ha s hs => i2 f a s (numSs_mem h3 ha) hs) hs
    ·exact blkR_bd _ _ (fun a ha s hs => i2 f a s (numSs_mem h4 ha) hs) hs
   split
   ·exact whlR_bd (fun s hs => i1 f _ s (numE_head h2) hs) (fun s hs => blkR_bd _ _ (fun a ha s hs => i2 f a s (numSs_mem h3 ha) hs) hs) n v s hs
   ·exact ⟨OptLt.none, hs⟩
end Go.Stele
namespace Go.Stele
theorem errFs_own {vars arrays later : List Nm} : ∀ (fs : List FnD) (known : List FSum), errFs vars arrays later known fs = 0 → ∀ f ∈ fs, (f.params ++ f.locals).Nodup ∧ ∀ x ∈ f.params ++ f.locals, x ∉ vars ++ arrays ++ later
 | [], known, _, f, hf => (List.not_mem_nil hf).elim
 | g :: l, known, h, f, hf => by
  rw [errFs] at h
  obtain ⟨h1, h2⟩ := orE_zero.1 h
  rcases List.mem_cons.1 hf with rfl | hf
  ·obtain ⟨g1, g2⟩ := fresh_zero _ _ (orE_zero.1 h1).1
   exact ⟨g1, fun x hx => (g2 x hx).1⟩
  ·exact errFs_own l _ h2 f hf
theorem nodup_map {A B : Type} {g : A → B} (hg : ∀ x y, g x = g y → x = y) : ∀ {l : List A}, l.Nodup → (l.map g).Nodup
 | [], _ => List.nodup_nil
 | a :: l, h => by
  rw [List.nodup_cons] at h
  rw [List.map_cons, List.nodup_cons]
  refine ⟨fun hm => ?_, nodup_map hg h.2⟩
  obtain ⟨b, hb, he⟩ := List.mem_map.1 hm
  exact h.1 (hg _ _ he ▸ hb)
theorem own_nodup {fs : List FnD} : (fs.map (·.name)).Nodup → (∀ f ∈ fs, (46 : UInt8) ∉ f.name) → (∀ f ∈ fs, (f.params ++ f.locals).Nodup) → ((fs.map fun f => (f.params ++ f.locals).map fun x => f.name ++ [46] ++ x).flatten).Nodup := by
 induction fs with
 | nil => intro _ _ _; exact List.nodup_nil
 | cons f l ih =>
  intro h1 h2 h3
  rw [List.map_cons, List.nodup_cons] at h1
  rw [List.map_cons, List.flatten_cons, List.nodup_append]
  refine ⟨?_, ih h1.2 (fun g hg => h2 g (List.mem_cons_of_mem _ hg)) (fun g hg => h3 g (List.mem_cons_of_mem _ hg)), ?_⟩
  ·exact nodup_map (fun x y hxy => List.append_cancel_left hxy) (h3 f (List.mem_cons_self ..))
  ·intro a ha b hb he
   subst he
   obtain ⟨x, _, rfl⟩ := List.mem_map.1 ha
   obtain ⟨L, g1, g2⟩ := List.mem_flatten.1 hb
   obtain ⟨g, g3, rfl⟩ := List.mem_map.1 g1
   obtain ⟨y, _, g5⟩ := List.mem_map.1 g2
   have g6 : g.name ++ 46 :: y = f.name ++ 46 :: x := by simpa using g5
   obtain ⟨e1, _⟩ := split_dot _ _ _ _ (h2 g (List.mem_cons_of_mem _ g3)) (h2 f (List.mem_cons_self ..)) g6
   exact h1.1 (List.mem_map.2 ⟨g, g3, e1⟩)
/-- The keys of a valid program's scalars are different. -/
theorem scal_nodup {vars arrays : List Nm} {fs : List FnD} (h : freshE [] (vars ++ arrays ++ fs.map (·.name)) = 0) (hf : errFs vars arrays (fs.map (·.name)) [] fs = 0) : (scalarsP vars fs).Nodup := by
 obtain ⟨h1, h2⟩ := fresh_zero _ _ h
 have ho := errFs_own fs [] hf
 unfold scalarsP
 rw [List.nodup_append]
 refine ⟨(List.nodup_append.1 (List.nodup_append.1 h1).1).1, own_nodup (List.nodup_append.1 h1).2.1 (fun f hf => noDot (h2 _ (List.mem_append.2 (.inr (List.mem_map.2 ⟨f, hf, rfl⟩)))).2) fun f hf => (ho f hf).1, ?_⟩
 intro a ha b hb he
 subst he
 obtain ⟨L, g1, g2⟩ := List.mem_flatten.1 hb
 obtain ⟨g, g3, rfl⟩ := List.mem_map.1 g1
 obtain ⟨y, _, g5⟩ := List.mem_map.1 g2
 have := noDot (h2 _ (List.mem_append.2 (.inl (List.mem_append.2 (.inl ha))))).2
 rw [← g5] at this
 exact absurd (by simp) this
end Go.Stele
namespace Go.Stele
/-- Known functions are functions of the program. -/
def Known (fs : List FnD) (known : List FSum) : Prop := ∀ k ∈ known, ∃ g ∈ fs, g.name = k.name ∧ g.params.length = k.params
theorem body_valid {vars arrays later : List Nm} {all : List FnD} : ∀ (fs : List FnD) (known : List FSum), errFs vars arrays later known fs = 0 → Known all known → (∀ f ∈ fs, f ∈ all) → ∀ f ∈ fs, ∃ kn, errSs (envF vars arrays later kn f) f.body = 0 ∧ Known all kn
 | [], known, _, _, _, f, hf => (List.not_mem_nil hf).elim
 | g :: l, known, h, hk, ha, f, hf => by
  rw [errFs] at h
  obtain ⟨h1, h2⟩ := orE_zero.1 h
  rcases List.mem_cons.1 hf with rfl | hf
  ·exact ⟨known, (orE_zero.1 h1).2, hk⟩
  ·refine body_valid l _ h2 (fun k hk' => ?_) (fun x hx => ha x (List.mem_cons_of_mem _ hx)) f hf
   rcases List.mem_append.1 hk' with g1 | g1
   ·exact hk k g1
   ·rw [List.mem_singleton.1 g1]
    exact ⟨g, ha g (List.mem_cons_self ..), rfl, rfl⟩
theorem sizes_valid : ∀ (l : List Int) (t : Int), 0 ≤ t → sizesE t l = 0 → ∀ n ∈ l, 0 < n ∧ t + n ≤ 150000
 | [], t, _, _, n, hn => (List.not_mem_nil hn).elim
 | a :: l, t, ht, h, n, hn => by
  rw [sizesE] at h
  split at h
  ·cases h
  split at h
  ·cases h
  rcases List.mem_cons.1 hn with rfl | hn
  ·constructor <;> omega
  ·have := sizes_valid l (t + a) (by omega) h n hn
   constructor <;> omega
/-- A program without a violated rule. -/
structure Valid (p : Pr) : Prop where
 names : freshE [] (p.vars ++ p.arrays.map (·.name) ++ p.funcs.map (·.name)) = 0
 sizes : ∀ a ∈ p.arrays, 0 < a.size ∧ a.size ≤ 150000
 own : ∀ f ∈ p.funcs, (f.params ++ f.locals).Nodup ∧ ∀ x ∈ f.params ++ f.locals, x ∉ p.vars ++ p.arrays.map (·.name) ++ p.funcs.map (·.name)
 bodies : ∀ f ∈ p.funcs, ∃ kn, errSs (envF p.vars (p.arrays.map (·.name)) (p.funcs.map (·.name)) kn f) f.body = 0 ∧ Known p.funcs kn
 keys : (scalarsP p.vars p.funcs).Nodup
 main : mainI p ∈ p.funcs ∧ (mainI p).name = [109, 97, 105, 110] ∧ (mainI p).params = []
 few : (scalarsP p.vars p.funcs).length ≤ 8000
theorem valid_of {p : Pr} (h : checkPr p = 0) : Valid p := by
 unfold checkPr checkP at h
 have e1 : (p.arrays.map fun a => (a.name, (a.size : Int))).map (·.1) = p.arrays.map (·.name) := by rw [List.map_map]; rfl
 rw [e1] at h
 obtain ⟨h1, h⟩ := orE_zero.1 h
 obtain ⟨h2, h⟩ := orE_zero.1 h
 obtain ⟨h3, h4⟩ := orE_zero.1 h
 have hm : mainI p ∈ p.funcs ∧ (mainI p).name = [109, 97, 105, 110] ∧ (mainI p).params = [] ∧ (scalarsP p.vars p.funcs).length ≤ 8000 := by
  unfold mainE at h4
  split at h4
  ·rename_i f m hf hms
   split at h4
   ·rename_i h5
    split at h4
    ·rename_i h6
     have e : mainI p = f := by unfold mainI; rw [hf]; rfl
     rw [e]
     exact ⟨List.mem_of_getLast? hf, h5.1, h5.2, h6.1⟩
    ·cases h4
   ·cases h4
  ·cases h4
 refine ⟨h1, fun a ha => ?_, errFs_own _ _ h3, body_valid _ _ h3 (fun k hk => (List.not_mem_nil hk).elim) (fun f hf => hf), scal_nodup h1 h3, ⟨hm.1, hm.2.1, hm.2.2.1⟩, hm.2.2.2⟩
 have := sizes_valid _ 0 (by decide) h2 (a.size : Int) (by
  rw [List.map_map]
  exact List.mem_map.2 ⟨a, ha, rfl⟩)
 constructor <;> omega
/-- A call that the checker lets through, of a function of the program. -/
theorem call_valid {p : Pr} {f : FnD} {kn : List FSum} (hv : Valid p) (hk : Known p.funcs kn) {name : Nm} {n : Nat} (h : callE (envF p.vars (p.arrays.map (·.name)) (p.funcs.map (·.name)) kn f) name n = 0) (h1 : name ≠ [105, 110]) (h2 : name ≠ [111, 117, 116]) : fnI p name ∈ p.funcs ∧ (fnI p name).name = name ∧ (fnI p name).params.length = n := by
 unfold callE at h
 rw [if_neg h1, if_neg h2] at h
 unfold CEnv.fn at h
 rw [show (envF p.vars (p.arrays.map (·.name)) (p.funcs.map (·.name)) kn f).funcs = kn from rfl] at h
 cases hf : kn.find? fun f => decide (f.name = name) with
 | none =>
  rw [hf] at h
  simp only at h
  split at h <;> cases h
 | some k =>
  rw [hf] at h
  simp only at h
  split at h
  ·rename_i hn
   obtain ⟨g, g1, g2, g3⟩ := hk k (List.mem_of_find?_eq_some hf)
   have hkn : k.name = name := of_decide_eq_true (List.find?_some (p := fun g : FSum => decide (g.name = name)) hf)
   have e := fnI_mem (P := p) (List.nodup_append.1 (fresh_zero _ _ hv.names).1).2.1 g1
   rw [g2, hkn] at e
   rw [e]
   exact ⟨g1, g2.trans hkn, by rw [g3, hn]⟩
  ·cases h
end Go.Stele
set_option maxRecDepth 100000
namespace Go.Stele
/-- `func main() { out(2 + 40); }` -/
def awakeS : List UInt8 := [102, 117, 110, 99, 32, 109, 97, 105, 110, 40, 41, 32, 123, 32, 111, 117, 116, 40, 50, 32, 43, 32, 52, 48, 41, 59, 32, 125]
def awakeP : Pr := ⟨[], [], [⟨[109, 97, 105, 110], [], [], [.mk 6 [] [] [.mk nCall 0 [111, 117, 116] [.mk [43] 0 [] [.mk nNum 2 [] [], .mk nNum 40 [] []]]] [] []]⟩]⟩
theorem awake_parse : parseQ awakeS = (awakeP, 0) := by kernel_rfl
theorem awake_check : checkPr awakeP = 0 := by decide +kernel
theorem awake_run : runI awakeP [] 100 = ⟨[42], 0, 5⟩ := by kernel_rfl
/-- The example of the chapter. -/
theorem awake_law : sourceI awakeS [] 100 = ⟨[42], 0, 5⟩ := by
 rw [source_ok awake_parse awake_check]
 exact awake_run
end Go.Stele
namespace Go.Stele
/-- Output and steps that are left grow by k at most. -/
def Few {A : Type} (k : Nat) (s : IS) (r : IR A) : Prop := r.st.out.length + r.st.left ≤ s.out.length + s.left + k
theorem Few.bind {A B : Type} {k : Nat} {s : IS} {r : IR A} {f : A → IS → IR B} (h : Few 0 s r) (hf : ∀ v s', Few k s' (f v s')) : Few k s (r.bind f) := by
 cases r with
 | ok v s' => exact Nat.le_trans (hf v s') (Nat.add_le_add_right h k)
 | stop e s' => exact Nat.le_trans h (Nat.le_add_right _ _)
theorem Few.bind' {A B : Type} {k : Nat} {s : IS} {r : IR A} {f : A → IS → IR B} (h : Few k s r) (hf : ∀ v s', Few 0 s' (f v s')) : Few k s (r.bind f) := by
 cases r with
 | ok v s' => exact Nat.le_trans (hf v s') h
 | stop e s' => exact h
theorem Few.refl {A : Type} {k : Nat} {v : A} {s : IS} : Few k s (.ok v s) := Nat.le_add_right _ _
theorem Few.reflS {A : Type} {k : Nat} {e : Int} {s : IS} : Few (A := A) k s (.stop e s) := Nat.le_add_right _ _
theorem Few.tick {B : Type} {s : IS} {f : Unit → IS → IR B} (hf : ∀ s', Few 1 s' (f () s')) : Few 0 s ((tick s).bind f) := by
 unfold Go.Stele.tick
 split
 ·exact Few.reflS
 ·rename_i h
  have := hf { s with left := s.left - 1 }
  unfold Few at this ⊢
  simp only at this
  show (f () { s with left := s.left - 1 }).st.out.length + (f () { s with left := s.left - 1 }).st.left ≤ _
  omega
theorem Few.up {A : Type} {s : IS} {r : IR A} (h : Few 0 s r) : Few 1 s r := Nat.le_trans h (Nat.le_add_right _ _)
theorem mapR_few {A : Type} {g : A → IS → IR Nat} (h : ∀ a s, Few 0 s (g a s)) : ∀ (l : List A) (s : IS), Few 0 s (mapR g l s)
 | [], s => Few.refl
 | a :: l, s => (h a s).bind fun v s => (mapR_few h l s).bind fun vs s => Few.refl
theorem blkR_few {g : Sm → IS → IR (Option Nat)} (h : ∀ a s, Few 0 s (g a s)) : ∀ (l : List Sm) (s : IS), Few 0 s (blkR g l s)
 | [], s => Few.refl
 | a :: l, s => (h a s).bind fun r s => by
  cases r with
  | none => exact blkR_few h l s
  | some v => exact Few.refl
theorem whlR_few {c : IS → IR Nat} {b : IS → IR (Option Nat)} (hc : ∀ s, Few 0 s (c s)) (hb : ∀ s, Few 0 s (b s)) : ∀ (m v : Nat) (s : IS), Few 0 s (whlR c b m v s)
 | 0, v, s => by
  unfold whlR
  split
  ·exact Few.refl
  ·exact Few.reflS
 | m + 1, v, s => by
  unfold whlR
  split
  ·exact Few.refl
  ·refine (hb s).bind fun r s => ?_
   cases r with
   | some x => exact Few.refl
   | none => exact (hc s).bind fun v s => whlR_few hc hb m v s
theorem opI_few {P : Pr} {g : FnD → Sm → IS → IR (Option Nat)} (h : ∀ f a s, Few 0 s (g f a s)) (f : FnD) (op : List UInt8) (num : Nat) (name : List UInt8) (vs : List Nat) (s : IS) : Few 1 s (opI P g f op num name vs s) := by
 unfold opI
 split
 ·exact Few.refl
 split
 ·exact Few.refl
 split
 ·split
  ·exact Few.refl
  ·exact Few.reflS
 split
 ·exact Few.refl
 split
 ·exact Few.refl
 split
 ·unfold callI
  split
  ·split
   ·exact Few.refl
   ·exact Nat.le_add_right _ _
  split
  ·unfold Few
   simp only [IR.st, List.length_append, List.length_cons, List.length_nil]
   omega
  ·refine Few.bind' (Few.up ?_) fun r s => Few.refl
   have := blkR_few (h (fnI P name)) (fnI P name).body (setPs (fnI P name) (fnI P name).params vs s)
   unfold Few at this ⊢
   rwa [(setPs_same _ _ _ _).1, (setPs_same _ _ _ _).2.1] at this
 ·split
  ·exact Few.refl
  ·exact Few.reflS
theorem few_all (P : Pr) : ∀ n : Nat, (∀ f x s, Few 0 s (evI P n f x s)) ∧ ∀ f x s, Few 0 s (stI P n f x s)
 | 0 => ⟨fun f x s => by unfold evI; exact Few.reflS, fun f x s => by unfold stI; exact Few.reflS⟩
 | n + 1 => by
  obtain ⟨h1, h2⟩ := few_all P n
  refine ⟨fun f x s => ?_, fun f x s => ?_⟩
  ·obtain ⟨op, num, name, args⟩ := x
   unfold evI
   exact Few.tick fun s => (mapR_few (h1 f) args s).bind fun vs s => opI_few h2 f op num name vs s
  ·obtain ⟨kind, name, index, value, thn, els⟩ := x
   unfold stI
   refine Few.tick fun s => Few.up ?_
   split
   ·exact Few.reflS
   refine (h1 f _ s).bind fun v s => ?_
   split
   ·exact Few.refl
   split
   ·refine (h1 f _ s).bind fun i s => ?_
    split
    ·exact Few.refl
    ·exact Few.reflS
   split
   ·exact Few.refl
   split
   ·split
    ·exact blkR_few (h2 f) _ _
    ·exact blkR_few (h2 f) _ _
   split
   ·exact whlR_few (h1 f _) (blkR_few (h2 f) _) _ _ _
   ·exact Few.refl
end Go.Stele
namespace Go.Stele
theorem nm_short {s : Nm} (h : isNm s = true) : s.length ≤ 24 := by
 unfold isNm at h
 simp only [Bool.and_eq_true, decide_eq_true_eq] at h
 exact h.1.1
theorem errFs_nm {vars arrays later : List Nm} : ∀ (fs : List FnD) (known : List FSum), errFs vars arrays later known fs = 0 → ∀ f ∈ fs, ∀ x ∈ f.params ++ f.locals, isNm x = true
 | [], known, _, f, hf => (List.not_mem_nil hf).elim
 | g :: l, known, h, f, hf => by
  rw [errFs] at h
  obtain ⟨h1, h2⟩ := orE_zero.1 h
  rcases List.mem_cons.1 hf with rfl | hf
  ·obtain ⟨g1, g2⟩ := fresh_zero _ _ (orE_zero.1 h1).1
   exact fun x hx => (g2 x hx).2
  ·exact errFs_nm l _ h2 f hf
theorem short_of {p : Pr} (h : checkPr p = 0) : (∀ f ∈ p.funcs, f.name.length ≤ 24) ∧ ∀ k ∈ scalarsP p.vars p.funcs, k.length ≤ 49 := by
 unfold checkPr checkP at h
 have e1 : (p.arrays.map fun a => (a.name, (a.size : Int))).map (·.1) = p.arrays.map (·.name) := by rw [List.map_map]; rfl
 rw [e1] at h
 obtain ⟨h1, h⟩ := orE_zero.1 h
 obtain ⟨h2, h⟩ := orE_zero.1 h
 obtain ⟨h3, h4⟩ := orE_zero.1 h
 have hn := (fresh_zero _ _ h1).2
 have hf : ∀ f ∈ p.funcs, f.name.length ≤ 24 := fun f hf => nm_short (hn _ (List.mem_append.2 (.inr (List.mem_map.2 ⟨f, hf, rfl⟩)))).2
 refine ⟨hf, fun k hk => ?_⟩
 unfold scalarsP at hk
 rcases List.mem_append.1 hk with g | g
 ·have := nm_short (hn k (List.mem_append.2 (.inl (List.mem_append.2 (.inl g))))).2
  omega
 ·obtain ⟨l, g1, g2⟩ := List.mem_flatten.1 g
  obtain ⟨f, g3, rfl⟩ := List.mem_map.1 g1
  obtain ⟨x, g4, rfl⟩ := List.mem_map.1 g2
  have a1 := hf f g3
  have a2 := nm_short (errFs_nm _ _ h3 f g3 x g4)
  simp only [List.length_append, List.length_cons, List.length_nil]
  omega
theorem own_short {p : Pr} (h : checkPr p = 0) : ∀ f ∈ p.funcs, f.name.length ≤ 1000 ∧ ∀ x ∈ f.params ++ f.locals, x.length ≤ 1000 := by
 have h0 := (short_of h).1
 unfold checkPr checkP at h
 have e1 : (p.arrays.map fun a => (a.name, (a.size : Int))).map (·.1) = p.arrays.map (·.name) := by rw [List.map_map]; rfl
 rw [e1] at h
 have h3 := (orE_zero.1 (orE_zero.1 (orE_zero.1 h).2).2).1
 exact fun f hf => ⟨Nat.le_trans (h0 f hf) (by decide), fun x hx => Nat.le_trans (nm_short (errFs_nm _ _ h3 f hf x hx)) (by decide)⟩
/-- What an execution asks of a program. -/
theorem key_short {p : Pr} {f : FnD} {name : Nm} (h : ∀ k ∈ scalarsP p.vars p.funcs, k.length ≤ 49) (hk : keyI f name ∈ scalarsP p.vars p.funcs) : name.length ≤ 49 := by
 have := h _ hk
 unfold keyI at this
 split at this
 ·simp only [List.length_append, List.length_cons, List.length_nil] at this
  omega
 ·exact this
end Go.Stele
namespace Go.Stele
def Few6 (n : Nat) : Prop := n ≤ 1000000
mutual
def smE : Ex → Prop
 | .mk op num name args => Few6 args.length ∧ smEs args
def smEs : List Ex → Prop
 | [] => True
 | x :: l => smE x ∧ smEs l
end
mutual
def smS : Sm → Prop
 | .mk kind name index value thn els => Few6 index.length ∧ Few6 value.length ∧ Few6 thn.length ∧ Few6 els.length ∧ smEs index ∧ smEs value ∧ smSs thn ∧ smSs els
def smSs : List Sm → Prop
 | [] => True
 | x :: l => smS x ∧ smSs l
end
structure SmF (f : FnD) : Prop where
 params : Few6 f.params.length
 locals : Few6 f.locals.length
 body : Few6 f.body.length
 stmts : smSs f.body
structure SmP (p : Pr) : Prop where
 vars : Few6 p.vars.length
 arrays : Few6 p.arrays.length
 funcs : Few6 p.funcs.length
 each : ∀ f ∈ p.funcs, SmF f
end Go.Stele
namespace Go.Proofs.YtcbpcianefpniaaGreatDoor.Inp
open Go.GL Go.RowKit Go.Stele
set_option maxRecDepth 100000
set_option maxHeartbeats 4000000
@[reducible] def u32 (n : Nat) : LV := int .u32 (n : Int)
def unitV : Unit → LV := fun _ => .tuple []
def retV : Option Nat → LV := fun r => .tuple [u32 (r.getD 0), bool r.isSome]
@[reducible] def fnV (f : FuncId) : LV := .atom (.func (.func f) #[] #[])
/-- The binary operators' functions; the divisor's cell is db. -/
def opsKV (db : Nat) : KV := [([43], fnV 58), ([45], fnV 59), ([42], fnV 60), ([47], .atom (.func (.func 61) #[] #[.pointer (some ⟨db, 0, none⟩)])), ([37], .atom (.func (.func 62) #[] #[.pointer (some ⟨db, 0, none⟩)])),
 ([94], fnV 63), ([61, 61], fnV 64), ([33, 61], fnV 66), ([60], fnV 67), ([62], fnV 68), ([60, 61], fnV 69), ([62, 61], fnV 70), ([38, 38], fnV 71), ([124, 124], fnV 72)]
/-- Where an execution's blocks lie. -/
structure Cfg where
 p : Pr
 rb : Nat
 db : Nat
 om : Nat
 sm : Nat
 am : Nat
 fm : Nat
 oc : Nat
 sc : Nat
 ac : Nat
 fc : Nat
 sb : List (List UInt8 × Nat)
 ab : List (List UInt8 × Nat × Nat)
 lim : Nat
def scKV (sb : List (List UInt8 × Nat)) : KV := sb.map fun q => (q.1, ptr q.2 0)
def arKV (ab : List (List UInt8 × Nat × Nat)) : KV := ab.map fun q => (q.1, rowV q.2.1 q.2.2)
def fnKV (fs : List FnD) : KV := fs.map fun f => (f.name, encFn f)
def runC (c : Cfg) (s : IS) (v : LV) : List LV := [.list (c.p.vars.map str), .list (c.p.arrays.map encAr), .list (c.p.funcs.map encFn), .atom (.map (some c.om)), .list (s.inp.map u32), v, int .i64 ((c.lim - s.left : Nat) : Int), int .i64 (s.left : Int), .atom (.map (some c.sm)), .atom (.map (some c.am)), .atom (.map (some c.fm))]
def scH (sb : List (List UInt8 × Nat)) (s : IS) : Heap := sb.map fun q => (q.2, LObj.cells 43 [u32 (s.sc q.1)])
def arH (ab : List (List UInt8 × Nat × Nat)) (s : IS) : Heap := ab.map fun q => (q.2.1, LObj.cells 43 ((s.ar q.1).map u32))
@[reducible] def divH (db : Nat) : Nat × LObj := (db, .cells 132 [fnV 57])
def stH (c : Cfg) (s : IS) (v : LV) (Ha : Heap) : Heap := (c.rb, .cells 72 (runC c s v)) :: (c.sm, .map (kvs (scKV c.sb)) c.sc) :: (c.am, .map (kvs (arKV c.ab)) c.ac) :: (c.fm, .map (kvs (fnKV c.p.funcs)) c.fc) :: (c.om, .map (kvs (opsKV c.db)) c.oc) :: divH c.db :: (scH c.sb s ++ (arH c.ab s ++ Ha))
/-- The state in memory. -/
def St (c : Cfg) (s : IS) (H : Heap) : Prop := (∀ q ∈ c.ab, (s.ar q.1).length = q.2.2) ∧ s.left ≤ c.lim ∧ ∃ v Ha, Acc 1 v (byts s.out) Ha [] ∧ H = stH c s v Ha
/-- What is the same in all states of a run. -/
structure CfgOk (c : Cfg) : Prop where
 valid : Valid c.p
 nums : ∀ f ∈ c.p.funcs, numSs f.body
 sbk : c.sb.map (·.1) = scalarsP c.p.vars c.p.funcs
 abk : c.ab.map (·.1) = c.p.arrays.map (·.name)
 small : SmP c.p
 asz : ∀ q ∈ c.ab, q.2.2 ≤ 150000
 lim : c.lim ≤ 100000000
 fshort : ∀ f ∈ c.p.funcs, f.name.length ≤ 24
 short : ∀ k ∈ scalarsP c.p.vars c.p.funcs, k.length ≤ 49
def panI (e : Int) : List PanicEntry := [{ v := .iface 131 (.agg #[.int .i64 e]), recovered := false }]
/-- A call that hands back a value or ends the execution. -/
def PostI {A : Type} (c : Cfg) (enc : A → LV) (r : IR A) (res : LRes) (H : Heap) : Prop := match r with
 | .ok v s => res = .ret (enc v) ∧ St c s H
 | .stop e s => res = .panic (panI e) ∧ St c s H
/-- A call that hands back this and leaves the heap as it was. -/
@[reducible] def Same (v : LV) (H : Heap) : LRes → Heap → Prop := fun r H' => r = .ret v ∧ H' = H
section steps
variable {C : Ctx} {n : Nat} {e : Env} {H : Heap} {dst : Option Nat} {ty : TypeId} {pos : String} {aft : Array Edge} {g : Option (Nat × Bool)} {K : LV → Heap → Prop} {X : List PanicEntry → Heap → Prop}
theorem S.callS {f : FuncId} [TEnter C.P f] (args : List Operand) {ats : Array TypeId} {av : List LV} {lv : LV} {H1 F : Heap} (has : args.map e.ev = av) (hp : H.Perm (H1 ++ F)) (hc : LCalls C f av H1 (Same lv H1)) (hk : K lv (H1 ++ F)) :
  LStep C ⟨dst, .call { callee := .value (.func f), args := args.toArray, argTypes := ats }, ty, pos, aft, g⟩ e H K X :=
 S.callH args has hp hc (by rintro v H' ⟨h, rfl⟩; cases h; exact hk) (by rintro ch H' ⟨h, _⟩; cases h)
theorem S.callI {A : Type} {c : Cfg} {enc : A → LV} {r : IR A} {f : FuncId} [TEnter C.P f] (args : List Operand) {ats : Array TypeId} {av : List LV} {H1 F : Heap} (has : args.map e.ev = av) (hp : H.Perm (H1 ++ F))
  (hc : LCalls C f av H1 (PostI c enc r)) (hk : ∀ v s H', r = .ok v s → St c s H' → K (enc v) (H' ++ F)) (hx : ∀ er s H', r = .stop er s → St c s H' → X (panI er) (H' ++ F)) :
  LStep C ⟨dst, .call { callee := .value (.func f), args := args.toArray, argTypes := ats }, ty, pos, aft, g⟩ e H K X := by
 refine S.callH args has hp hc ?_ ?_
 ·intro v H' h
  cases hr : r with
  | ok u s =>
   rw [hr] at h
   obtain ⟨h1, h2⟩ := h
   cases h1
   exact hk _ _ _ hr h2
  | stop er s =>
   rw [hr] at h
   obtain ⟨h1, _⟩ := h
   cases h1
 ·intro ch H' h
  cases hr : r with
  | ok u s =>
   rw [hr] at h
   obtain ⟨h1, _⟩ := h
   cases h1
  | stop er s =>
   rw [hr] at h
   obtain ⟨h1, h2⟩ := h
   cases h1
   exact hx _ _ _ hr h2
theorem retI {A : Type} {c : Cfg} {enc : A → LV} {r : IR A} {rs : List ResultVar} {vs : List LV} {v : A} {s : IS} {H' : Heap} (hd : e.ds = []) (h : AllRes C n e H rs vs) (hr : r = .ok v s) (hv : resLV vs = enc v) (hH : HSub H' H) (hs : St c s H') :
  RetPost C n rs (PostI c enc r) .ret e H := RetPost.ret hd h hH (by rw [hr]; exact ⟨by rw [hv], hs⟩)
theorem retIn {A : Type} {c : Cfg} {enc : A → LV} {r : IR A} {rs : List ResultVar} {vs : List LV} {v : A} {s : IS} {H' : Heap} (hd : e.ds = []) (h : AllRes C n e H rs vs) (hr : r = .ok v s) (hv : resLV vs = enc v) (hH : HSub H' H) (hs : St c s H') :
  RetPost C n rs (PostI c enc r) .normal e H := RetPost.normal hd h hH (by rw [hr]; exact ⟨by rw [hv], hs⟩)
theorem panI_ {A : Type} {c : Cfg} {enc : A → LV} {r : IR A} {rs : List ResultVar} {er : Int} {s : IS} {H' : Heap} (hd : e.ds = []) (hr : r = .stop er s) (hH : HSub H' H) (hs : St c s H') :
  RetPost C n rs (PostI c enc r) (.panic (panI er)) e H := RetPost.panic hd hH (by rw [hr]; exact ⟨rfl, hs⟩)
theorem retS {rs : List ResultVar} {vs : List LV} {lv : LV} {H0 : Heap} (hd : e.ds = []) (h : AllRes C n e H rs vs) (hv : resLV vs = lv) (hH : HSub H0 H) : RetPost C n rs (Same lv H0) .ret e H :=
 RetPost.ret hd h hH ⟨by rw [hv], rfl⟩
end steps
instance : TMap Tryz.prog 68 74 (.pointer none) (.atom (.pointer none)) := ⟨⟨9, by kernel_rfl, by kernel_rfl⟩, fun w => (Go.zero_of_info (P := Tryz.prog) (n := 1) (by kernel_rfl)).1 w, fun _ _ => rep_atom⟩
instance : TMap Tryz.prog 69 22 (.slice none 0 0) nilSlice := ⟨⟨9, by kernel_rfl, by kernel_rfl⟩, fun w => (Go.zero_of_info (P := Tryz.prog) (n := 1) (by kernel_rfl)).1 w, fun _ _ => rep_atom⟩
instance : TMap Tryz.prog 70 63 (.agg [.string ⟨#[]⟩, .slice none 0 0, .slice none 0 0, .slice none 0 0].toArray) (.agg ([.string ⟨#[]⟩, .slice none 0 0, .slice none 0 0, .slice none 0 0].map .atom)) := ⟨⟨9, by kernel_rfl, by kernel_rfl⟩, fun w => (Go.zero_of_info (P := Tryz.prog) (n := 4) (by kernel_rfl)).1 w, fun w L => rep_aggs w L _⟩
instance : TMap Tryz.prog 66 133 .nilFunc (.atom .nilFunc) := ⟨⟨9, by kernel_rfl, by kernel_rfl⟩, fun w => (Go.zero_of_info (P := Tryz.prog) (n := 1) (by kernel_rfl)).1 w, fun _ _ => rep_atom⟩
attribute [local irreducible] LOps LCode LStep LCalls Go.GL.Pure QThen QBlock RetPost LQ LAny LLate LLateOp
section
variable {B0 : Nat} {w0 : World} {H : Heap}
theorem step_spec {c : Cfg} (hC : CfgOk c) {s : IS} (hs : St c s H) : LCalls (KC B0 w0) 157 [ptr c.rb 0] H (PostI c unitV (tick s)) := by
 have hs0 := hs
 have hlim := hC.lim
 obtain ⟨hl, hle, v, Ha, hacc, rfl⟩ := hs
 refine LCalls.intro Tryz.func157 rfl (n := 23) rfl rfl rfl ?_
 repeat first | refine LOps.nil ?_ | refine LCode.seq ?_ | refine LCode.region ?_ | refine QThen.normal ?_ | refine LOps.pure (Pure.mv (lv := .atom _) rfl) rfl ?_ | refine LOps.pure (Pure.nilCheckH rfl) rfl ?_ | refine LOps.pure (Pure.fieldH rfl) rfl ?_ | refine LOps.pure (Pure.loadH (c := .atom _) rfl (List.Mem.head _) rfl) rfl ?_ | refine LOps.pure (Pure.eql rfl rfl) rfl ?_
 refine LCode.cond rfl (fun hc => ?_) (fun hc => ?_)
 ·repeat first | refine LCode.region ?_ | refine LOps.pure (Pure.bld _ (cs := [_]) rfl) rfl ?_ | refine LOps.pure (Pure.makeInterfaceAgg (vs := [_]) rfl) rfl ?_
  refine LOps.step (LStep.panic rfl fun e' he' => ?_) rfl
  repeat first | refine QThen.panic ?_
  have h0 : s.left = 0 := by have := of_decide_eq_true hc; omega
  exact panI_ (he'.trans rfl) (by rw [tick, if_pos h0]) (HSub.refl _) hs0
 ·have h0 : ¬ s.left = 0 := by have := of_decide_eq_false hc; omega
  repeat first | refine LOps.nil ?_ | refine LCode.seq ?_ | refine LCode.region ?_ | refine LCode.skip ?_ | refine QThen.normal ?_ | refine LOps.pure (Pure.mv (lv := .atom _) rfl) rfl ?_ | refine LOps.pure (Pure.nilCheckH rfl) rfl ?_ | refine LOps.pure (Pure.fieldH rfl) rfl ?_ | refine LOps.pure (Pure.loadH (c := .atom _) rfl (List.Mem.head _) rfl) rfl ?_ | refine LOps.pure (Pure.sub rfl rfl (by omega)) rfl ?_ | refine LOps.pure (Pure.add rfl rfl (by omega)) rfl ?_ | refine LOps.step (S.store (cs' := [_, _, _, _, _, _, _, _, _, _, _]) rfl Pick.here rfl rfl rfl rfl rfl ?_) rfl
  have e1 : (s.left : Int) - 1 = ((s.left - 1 : Nat) : Int) := by omega
  have e2 : ((c.lim - s.left : Nat) : Int) + 1 = ((c.lim - (s.left - 1) : Nat) : Int) := by omega
  rw [e1, e2]
  exact retIn rfl AllRes.nil (v := ()) (s := { s with left := s.left - 1 }) (by rw [tick, if_neg h0]) rfl (HSub.refl _) ⟨hl, by show s.left - 1 ≤ c.lim; omega, v, Ha, hacc, rfl⟩
theorem truth_spec (b : Bool) : LCalls (KC B0 w0) 65 [bool b] H (Same (u32 (b2n b)) H) := by
 refine LCalls.intro Tryz.func65 rfl (n := 4) rfl rfl rfl ?_
 repeat first | refine LOps.nil ?_ | refine LCode.seq ?_ | refine LCode.region ?_ | refine QThen.normal ?_ | refine LOps.pure (Pure.as (lv := .atom _) rfl) rfl ?_ | refine LOps.pure (Pure.mv (lv := .atom _) rfl) rfl ?_
 refine LCode.cond rfl (fun hc => ?_) (fun hc => ?_)
 ·repeat first | refine LOps.nil ?_ | refine LCode.seq ?_ | refine LCode.region ?_ | refine LCode.ret ?_ | refine QThen.normal ?_ | refine QThen.ret ?_ | refine LOps.pure (Pure.as (lv := .atom _) rfl) rfl ?_
  exact retS rfl (AllRes.cons (ResIs.tmp (v := .atom _) rfl (LV.Sub.refl _)) AllRes.nil) (by rw [hc]; rfl) (HSub.refl _)
 ·repeat first | refine LOps.nil ?_ | refine LCode.seq ?_ | refine LCode.region ?_ | refine LCode.skip ?_ | refine LCode.ret ?_ | refine QThen.normal ?_ | refine LOps.pure (Pure.as (lv := .atom _) rfl) rfl ?_
  exact retS rfl (AllRes.cons (ResIs.tmp (v := .atom _) rfl (LV.Sub.refl _)) AllRes.nil) (by rw [hc]; rfl) (HSub.refl _)
end
end Go.Proofs.YtcbpcianefpniaaGreatDoor.Inp
namespace Go.Proofs.YtcbpcianefpniaaGreatDoor.Inp
open Go.GL Go.RowKit Go.Stele
set_option maxRecDepth 100000
set_option maxHeartbeats 4000000
theorem wrapU (n : Int) : IntKind.u32.wrap n = n % 4294967296 := by
 simp only [IntKind.wrap, IntKind.bits, IntKind.signed, Bool.false_and]
 rfl
theorem u32_eq {a : Int} {b : Nat} (h : a = b) : int .u32 a = u32 b := by rw [h]
theorem b2n_dec {p q : Prop} [Decidable p] [Decidable q] (h : p ↔ q) : b2n (decide p) = b2n (decide q) := by rw [decide_eq_decide.2 h]
attribute [local irreducible] LOps LCode LStep LCalls Go.GL.Pure QThen QBlock RetPost LQ LAny LLate LLateOp
section
variable {B0 : Nat} {w0 : World} {H : Heap} {a b : Nat}
theorem xor_u32 (ha : a < 4294967296) (hb : b < 4294967296) : IntKind.u32.wrap ((BitVec.ofInt IntKind.u32.bits a ^^^ BitVec.ofInt IntKind.u32.bits b).toNat : Nat) = ((a ^^^ b : Nat) : Int) := by
 rw [wrapU, BitVec.toNat_xor]
 have h1 : ∀ n : Nat, n < 4294967296 → (BitVec.ofInt IntKind.u32.bits (n : Int)).toNat = n := fun n hn => by
  rw [BitVec.ofInt_natCast, BitVec.toNat_ofNat]
  exact Nat.mod_eq_of_lt hn
 rw [h1 a ha, h1 b hb]
 have : a ^^^ b < 4294967296 := Nat.xor_lt_two_pow (n := 32) ha hb
 omega
theorem op2_spec (ha : a < 4294967296) (hb : b < 4294967296) : LCalls (KC B0 w0) 58 [u32 a, u32 b] H (Same (u32 ((a + b) % 4294967296)) H) := by
 refine LCalls.intro Tryz.func58 rfl (n := 8) rfl rfl rfl ?_
 repeat first | refine LOps.nil ?_ | refine LCode.seq ?_ | refine LCode.region ?_ | refine QThen.normal ?_ | refine LOps.pure (Pure.as (lv := .atom _) rfl) rfl ?_ | refine LOps.pure (Pure.mv (lv := .atom _) rfl) rfl ?_
 refine LOps.pure (Pure.addW rfl rfl) rfl ?_
 repeat first | refine LOps.nil ?_ | refine LCode.ret ?_ | refine QThen.normal ?_ | refine LOps.pure (Pure.as (lv := .atom _) rfl) rfl ?_
 exact retS rfl (AllRes.cons (ResIs.tmp (v := .atom _) rfl (LV.Sub.refl _)) AllRes.nil) (u32_eq (by rw [wrapU]; omega)) (HSub.refl _)
theorem op3_spec (ha : a < 4294967296) (hb : b < 4294967296) : LCalls (KC B0 w0) 59 [u32 a, u32 b] H (Same (u32 ((a + 4294967296 - b) % 4294967296)) H) := by
 refine LCalls.intro Tryz.func59 rfl (n := 8) rfl rfl rfl ?_
 repeat first | refine LOps.nil ?_ | refine LCode.seq ?_ | refine LCode.region ?_ | refine QThen.normal ?_ | refine LOps.pure (Pure.as (lv := .atom _) rfl) rfl ?_ | refine LOps.pure (Pure.mv (lv := .atom _) rfl) rfl ?_
 refine LOps.pure (Pure.subW rfl rfl) rfl ?_
 repeat first | refine LOps.nil ?_ | refine LCode.ret ?_ | refine QThen.normal ?_ | refine LOps.pure (Pure.as (lv := .atom _) rfl) rfl ?_
 exact retS rfl (AllRes.cons (ResIs.tmp (v := .atom _) rfl (LV.Sub.refl _)) AllRes.nil) (u32_eq (by rw [wrapU]; omega)) (HSub.refl _)
theorem op4_spec (ha : a < 4294967296) (hb : b < 4294967296) : LCalls (KC B0 w0) 60 [u32 a, u32 b] H (Same (u32 (a * b % 4294967296)) H) := by
 refine LCalls.intro Tryz.func60 rfl (n := 8) rfl rfl rfl ?_
 repeat first | refine LOps.nil ?_ | refine LCode.seq ?_ | refine LCode.region ?_ | refine QThen.normal ?_ | refine LOps.pure (Pure.as (lv := .atom _) rfl) rfl ?_ | refine LOps.pure (Pure.mv (lv := .atom _) rfl) rfl ?_
 refine LOps.pure (Pure.mulW rfl rfl) rfl ?_
 repeat first | refine LOps.nil ?_ | refine LCode.ret ?_ | refine QThen.normal ?_ | refine LOps.pure (Pure.as (lv := .atom _) rfl) rfl ?_
 exact retS rfl (AllRes.cons (ResIs.tmp (v := .atom _) rfl (LV.Sub.refl _)) AllRes.nil) (u32_eq (by rw [wrapU, ← Int.natCast_mul]; generalize a * b = q; omega)) (HSub.refl _)
theorem op7_spec (ha : a < 4294967296) (hb : b < 4294967296) : LCalls (KC B0 w0) 63 [u32 a, u32 b] H (Same (u32 (a ^^^ b)) H) := by
 refine LCalls.intro Tryz.func63 rfl (n := 8) rfl rfl rfl ?_
 repeat first | refine LOps.nil ?_ | refine LCode.seq ?_ | refine LCode.region ?_ | refine QThen.normal ?_ | refine LOps.pure (Pure.as (lv := .atom _) rfl) rfl ?_ | refine LOps.pure (Pure.mv (lv := .atom _) rfl) rfl ?_
 refine LOps.pure (Pure.xorW rfl rfl) rfl ?_
 repeat first | refine LOps.nil ?_ | refine LCode.ret ?_ | refine QThen.normal ?_ | refine LOps.pure (Pure.as (lv := .atom _) rfl) rfl ?_
 exact retS rfl (AllRes.cons (ResIs.tmp (v := .atom _) rfl (LV.Sub.refl _)) AllRes.nil) (u32_eq (xor_u32 ha hb)) (HSub.refl _)
theorem op8_spec : LCalls (KC B0 w0) 64 [u32 a, u32 b] H (Same (u32 (b2n (decide (a = b)))) H) := by
 refine LCalls.intro Tryz.func64 rfl (n := 9) rfl rfl rfl ?_
 repeat first | refine LOps.nil ?_ | refine LCode.seq ?_ | refine LCode.region ?_ | refine QThen.normal ?_ | refine LOps.pure (Pure.as (lv := .atom _) rfl) rfl ?_ | refine LOps.pure (Pure.mv (lv := .atom _) rfl) rfl ?_ | refine LOps.pure (Pure.eql rfl rfl) rfl ?_
 refine LOps.step (S.callS (H1 := H) (F := []) [_] rfl (by rw [List.append_nil]) (truth_spec _) ?_) rfl
 rw [List.append_nil]
 repeat first | refine LOps.nil ?_ | refine LCode.ret ?_ | refine QThen.normal ?_ | refine LOps.pure (Pure.as (lv := .atom _) rfl) rfl ?_
 exact retS rfl (AllRes.cons (ResIs.tmp (v := .atom _) rfl (LV.Sub.refl _)) AllRes.nil) (congrArg u32 (b2n_dec (by omega))) (HSub.refl _)
theorem b2n_not : b2n (!decide ((a : Int) = b)) = b2n (decide (a ≠ b)) := by
 by_cases h : a = b
 ·simp [h, b2n]
 ·have : ¬ (a : Int) = b := by omega
  simp [h, this, b2n]
theorem op9_spec : LCalls (KC B0 w0) 66 [u32 a, u32 b] H (Same (u32 (b2n (decide (a ≠ b)))) H) := by
 refine LCalls.intro Tryz.func66 rfl (n := 9) rfl rfl rfl ?_
 repeat first | refine LOps.nil ?_ | refine LCode.seq ?_ | refine LCode.region ?_ | refine QThen.normal ?_ | refine LOps.pure (Pure.as (lv := .atom _) rfl) rfl ?_ | refine LOps.pure (Pure.mv (lv := .atom _) rfl) rfl ?_ | refine LOps.pure (Pure.neq rfl rfl) rfl ?_
 refine LOps.step (S.callS (H1 := H) (F := []) [_] rfl (by rw [List.append_nil]) (truth_spec _) ?_) rfl
 rw [List.append_nil]
 repeat first | refine LOps.nil ?_ | refine LCode.ret ?_ | refine QThen.normal ?_ | refine LOps.pure (Pure.as (lv := .atom _) rfl) rfl ?_
 exact retS rfl (AllRes.cons (ResIs.tmp (v := .atom _) rfl (LV.Sub.refl _)) AllRes.nil) (congrArg u32 (b2n_not)) (HSub.refl _)
theorem op10_spec : LCalls (KC B0 w0) 67 [u32 a, u32 b] H (Same (u32 (b2n (decide (a < b)))) H) := by
 refine LCalls.intro Tryz.func67 rfl (n := 9) rfl rfl rfl ?_
 repeat first | refine LOps.nil ?_ | refine LCode.seq ?_ | refine LCode.region ?_ | refine QThen.normal ?_ | refine LOps.pure (Pure.as (lv := .atom _) rfl) rfl ?_ | refine LOps.pure (Pure.mv (lv := .atom _) rfl) rfl ?_ | refine LOps.pure (Pure.lss rfl rfl) rfl ?_
 refine LOps.step (S.callS (H1 := H) (F := []) [_] rfl (by rw [List.append_nil]) (truth_spec _) ?_) rfl
 rw [List.append_nil]
 repeat first | refine LOps.nil ?_ | refine LCode.ret ?_ | refine QThen.normal ?_ | refine LOps.pure (Pure.as (lv := .atom _) rfl) rfl ?_
 exact retS rfl (AllRes.cons (ResIs.tmp (v := .atom _) rfl (LV.Sub.refl _)) AllRes.nil) (congrArg u32 (b2n_dec (by omega))) (HSub.refl _)
theorem op11_spec : LCalls (KC B0 w0) 68 [u32 a, u32 b] H (Same (u32 (b2n (decide (b < a)))) H) := by
 refine LCalls.intro Tryz.func68 rfl (n := 9) rfl rfl rfl ?_
 repeat first | refine LOps.nil ?_ | refine LCode.seq ?_ | refine LCode.region ?_ | refine QThen.normal ?_ | refine LOps.pure (Pure.as (lv := .atom _) rfl) rfl ?_ | refine LOps.pure (Pure.mv (lv := .atom _) rfl) rfl ?_ | refine LOps.pure (Pure.gtr rfl rfl) rfl ?_
 refine LOps.step (S.callS (H1 := H) (F := []) [_] rfl (by rw [List.append_nil]) (truth_spec _) ?_) rfl
 rw [List.append_nil]
 repeat first | refine LOps.nil ?_ | refine LCode.ret ?_ | refine QThen.normal ?_ | refine LOps.pure (Pure.as (lv := .atom _) rfl) rfl ?_
 exact retS rfl (AllRes.cons (ResIs.tmp (v := .atom _) rfl (LV.Sub.refl _)) AllRes.nil) (congrArg u32 (b2n_dec (by omega))) (HSub.refl _)
theorem op12_spec : LCalls (KC B0 w0) 69 [u32 a, u32 b] H (Same (u32 (b2n (decide (a ≤ b)))) H) := by
 refine LCalls.intro Tryz.func69 rfl (n := 9) rfl rfl rfl ?_
 repeat first | refine LOps.nil ?_ | refine LCode.seq ?_ | refine LCode.region ?_ | refine QThen.normal ?_ | refine LOps.pure (Pure.as (lv := .atom _) rfl) rfl ?_ | refine LOps.pure (Pure.mv (lv := .atom _) rfl) rfl ?_ | refine LOps.pure (Pure.leq rfl rfl) rfl ?_
 refine LOps.step (S.callS (H1 := H) (F := []) [_] rfl (by rw [List.append_nil]) (truth_spec _) ?_) rfl
 rw [List.append_nil]
 repeat first | refine LOps.nil ?_ | refine LCode.ret ?_ | refine QThen.normal ?_ | refine LOps.pure (Pure.as (lv := .atom _) rfl) rfl ?_
 exact retS rfl (AllRes.cons (ResIs.tmp (v := .atom _) rfl (LV.Sub.refl _)) AllRes.nil) (congrArg u32 (b2n_dec (by omega))) (HSub.refl _)
theorem op13_spec : LCalls (KC B0 w0) 70 [u32 a, u32 b] H (Same (u32 (b2n (decide (b ≤ a)))) H) := by
 refine LCalls.intro Tryz.func70 rfl (n := 9) rfl rfl rfl ?_
 repeat first | refine LOps.nil ?_ | refine LCode.seq ?_ | refine LCode.region ?_ | refine QThen.normal ?_ | refine LOps.pure (Pure.as (lv := .atom _) rfl) rfl ?_ | refine LOps.pure (Pure.mv (lv := .atom _) rfl) rfl ?_ | refine LOps.pure (Pure.geq rfl rfl) rfl ?_
 refine LOps.step (S.callS (H1 := H) (F := []) [_] rfl (by rw [List.append_nil]) (truth_spec _) ?_) rfl
 rw [List.append_nil]
 repeat first | refine LOps.nil ?_ | refine LCode.ret ?_ | refine QThen.normal ?_ | refine LOps.pure (Pure.as (lv := .atom _) rfl) rfl ?_
 exact retS rfl (AllRes.cons (ResIs.tmp (v := .atom _) rfl (LV.Sub.refl _)) AllRes.nil) (congrArg u32 (b2n_dec (by omega))) (HSub.refl _)
theorem op14_spec : LCalls (KC B0 w0) 71 [u32 a, u32 b] H (Same (u32 (b2n (decide (a ≠ 0 ∧ b ≠ 0)))) H) := by
 refine LCalls.intro Tryz.func71 rfl (n := 12) rfl rfl rfl ?_
 repeat first | refine LOps.nil ?_ | refine LCode.seq ?_ | refine LCode.region ?_ | refine QThen.normal ?_ | refine LOps.pure (Pure.as (lv := .atom _) rfl) rfl ?_ | refine LOps.pure (Pure.mv (lv := .atom _) rfl) rfl ?_ | refine LOps.pure (Pure.neq rfl rfl) rfl ?_
 refine LOps.bcase 7 rfl (fun ht => ?_) (fun ht => ?_)
 ·have h1 : a ≠ 0 := by
   intro h
   rw [h] at ht
   exact absurd ht (by decide)
  repeat first | refine LOps.pure (Pure.mv (lv := .atom _) rfl) rfl ?_ | refine LOps.pure (Pure.neq rfl rfl) rfl ?_ | refine LOps.pure (Pure.pickT (lv := .atom _) rfl rfl) rfl ?_ | refine LOps.want rfl rfl ?_
  refine LOps.step (S.callS (H1 := H) (F := []) [_] rfl (by rw [List.append_nil]) (truth_spec _) ?_) rfl
  rw [List.append_nil]
  repeat first | refine LOps.nil ?_ | refine LCode.ret ?_ | refine QThen.normal ?_ | refine LOps.pure (Pure.as (lv := .atom _) rfl) rfl ?_
  exact retS rfl (AllRes.cons (ResIs.tmp (v := .atom _) rfl (LV.Sub.refl _)) AllRes.nil) (congrArg u32 (by simp [b2n, h1])) (HSub.refl _)
 ·have h1 : a = 0 := by
   have : (a : Int) = 0 := by simpa using ht
   omega
  repeat first | refine LOps.pure (Pure.pickF (lv := .atom _) rfl rfl) rfl ?_ | refine LOps.skip rfl rfl rfl rfl ?_
  refine LOps.step (S.callS (H1 := H) (F := []) [_] rfl (by rw [List.append_nil]) (truth_spec _) ?_) rfl
  rw [List.append_nil]
  repeat first | refine LOps.nil ?_ | refine LCode.ret ?_ | refine QThen.normal ?_ | refine LOps.pure (Pure.as (lv := .atom _) rfl) rfl ?_
  exact retS rfl (AllRes.cons (ResIs.tmp (v := .atom _) rfl (LV.Sub.refl _)) AllRes.nil) (congrArg u32 (by simp [b2n, h1])) (HSub.refl _)
theorem op15_spec : LCalls (KC B0 w0) 72 [u32 a, u32 b] H (Same (u32 (b2n (decide (a ≠ 0 ∨ b ≠ 0)))) H) := by
 refine LCalls.intro Tryz.func72 rfl (n := 12) rfl rfl rfl ?_
 repeat first | refine LOps.nil ?_ | refine LCode.seq ?_ | refine LCode.region ?_ | refine QThen.normal ?_ | refine LOps.pure (Pure.as (lv := .atom _) rfl) rfl ?_ | refine LOps.pure (Pure.mv (lv := .atom _) rfl) rfl ?_ | refine LOps.pure (Pure.neq rfl rfl) rfl ?_
 refine LOps.bcase 7 rfl (fun ht => ?_) (fun ht => ?_)
 ·have h1 : a ≠ 0 := by
   intro h
   rw [h] at ht
   exact absurd ht (by decide)
  repeat first | refine LOps.pure (Pure.pickT (lv := .atom _) rfl rfl) rfl ?_ | refine LOps.skip rfl rfl rfl rfl ?_
  refine LOps.step (S.callS (H1 := H) (F := []) [_] rfl (by rw [List.append_nil]) (truth_spec _) ?_) rfl
  rw [List.append_nil]
  repeat first | refine LOps.nil ?_ | refine LCode.ret ?_ | refine QThen.normal ?_ | refine LOps.pure (Pure.as (lv := .atom _) rfl) rfl ?_
  exact retS rfl (AllRes.cons (ResIs.tmp (v := .atom _) rfl (LV.Sub.refl _)) AllRes.nil) (congrArg u32 (by simp [b2n, h1])) (HSub.refl _)
 ·have h1 : a = 0 := by
   have : (a : Int) = 0 := by simpa using ht
   omega
  repeat first | refine LOps.pure (Pure.mv (lv := .atom _) rfl) rfl ?_ | refine LOps.pure (Pure.neq rfl rfl) rfl ?_ | refine LOps.pure (Pure.pickF (lv := .atom _) rfl rfl) rfl ?_ | refine LOps.want rfl rfl ?_
  refine LOps.step (S.callS (H1 := H) (F := []) [_] rfl (by rw [List.append_nil]) (truth_spec _) ?_) rfl
  rw [List.append_nil]
  repeat first | refine LOps.nil ?_ | refine LCode.ret ?_ | refine QThen.normal ?_ | refine LOps.pure (Pure.as (lv := .atom _) rfl) rfl ?_
  exact retS rfl (AllRes.cons (ResIs.tmp (v := .atom _) rfl (LV.Sub.refl _)) AllRes.nil) (congrArg u32 (by simp [b2n, h1])) (HSub.refl _)
/-- The divisor: zero ends the execution. -/
theorem divisor_spec : LCalls (KC B0 w0) 57 [u32 b] H (fun r H' => H' = H ∧ r = if b = 0 then .panic (panI 12) else .ret (u32 b)) := by
 refine LCalls.intro Tryz.func57 rfl (n := 8) rfl rfl rfl ?_
 repeat first | refine LOps.nil ?_ | refine LCode.seq ?_ | refine LCode.region ?_ | refine QThen.normal ?_ | refine LOps.pure (Pure.as (lv := .atom _) rfl) rfl ?_ | refine LOps.pure (Pure.mv (lv := .atom _) rfl) rfl ?_ | refine LOps.pure (Pure.eql rfl rfl) rfl ?_
 refine LCode.cond rfl (fun hc => ?_) (fun hc => ?_)
 ·have h0 : b = 0 := by have := of_decide_eq_true hc; omega
  repeat first | refine LCode.region ?_ | refine LOps.pure (Pure.bld _ (cs := [_]) rfl) rfl ?_ | refine LOps.pure (Pure.makeInterfaceAgg (vs := [_]) rfl) rfl ?_
  refine LOps.step (LStep.panic rfl fun e' he' => ?_) rfl
  repeat first | refine QThen.panic ?_
  exact RetPost.panic (he'.trans rfl) (HSub.refl _) ⟨rfl, by rw [if_pos h0]; rfl⟩
 ·have h0 : ¬ b = 0 := by have := of_decide_eq_false hc; omega
  repeat first | refine LOps.nil ?_ | refine LCode.seq ?_ | refine LCode.region ?_ | refine LCode.skip ?_ | refine LCode.ret ?_ | refine QThen.normal ?_ | refine LOps.pure (Pure.as (lv := .atom _) rfl) rfl ?_ | refine LOps.pure (Pure.mv (lv := .atom _) rfl) rfl ?_
  exact RetPost.ret rfl (AllRes.cons (ResIs.tmp (v := .atom _) rfl (LV.Sub.refl _)) AllRes.nil) (HSub.refl _) ⟨rfl, by rw [if_neg h0]; rfl⟩
theorem op5_spec {db : Nat} (ha : a < 4294967296) : LCalls (KC B0 w0) 61 [u32 a, u32 b, ptr db 0] [divH db] (fun r H' => H' = [divH db] ∧ r = if b = 0 then .panic (panI 12) else .ret (u32 (a / b))) := by
 refine LCalls.intro Tryz.func61 rfl (n := 11) rfl rfl rfl ?_
 repeat first | refine LOps.nil ?_ | refine LCode.seq ?_ | refine LCode.region ?_ | refine QThen.normal ?_ | refine LOps.pure (Pure.as (lv := .atom _) rfl) rfl ?_ | refine LOps.pure (Pure.mv (lv := .atom _) rfl) rfl ?_ | refine LOps.pure (Pure.loadH (c := .atom _) rfl (List.Mem.head _) rfl) rfl ?_
 by_cases h0 : b = 0
 ·refine LOps.step (S.callV (f := 57) (first := #[]) (caps := #[]) (H1 := [divH db]) (F := []) [_] rfl rfl (by simp) divisor_spec ?_ ?_) rfl
  ·rintro v H' ⟨rfl, h⟩
   rw [if_pos h0] at h
   cases h
  ·rintro ch H' ⟨rfl, h⟩ e' he'
   rw [if_pos h0] at h
   cases h
   repeat first | refine QThen.panic ?_
   exact RetPost.panic (he'.trans rfl) (HSub.refl _) ⟨rfl, by rw [if_pos h0]⟩
 ·refine LOps.step (S.callV (f := 57) (first := #[]) (caps := #[]) (H1 := [divH db]) (F := []) [_] rfl rfl (by simp) divisor_spec ?_ ?_) rfl
  ·rintro v H' ⟨rfl, h⟩
   rw [if_neg h0] at h
   cases h
   refine LOps.pure (Pure.quoW rfl rfl (by omega)) rfl ?_
   repeat first | refine LOps.nil ?_ | refine LCode.ret ?_ | refine QThen.normal ?_ | refine LOps.pure (Pure.as (lv := .atom _) rfl) rfl ?_
   refine RetPost.ret rfl (AllRes.cons (ResIs.tmp (v := .atom _) rfl (LV.Sub.refl _)) AllRes.nil) (HSub.refl _) ⟨rfl, ?_⟩
   rw [if_neg h0]
   exact congrArg LRes.ret (u32_eq (by rw [wrapU, Int.tdiv_eq_ediv_of_nonneg (by omega), ← Int.natCast_ediv]; have hq : a / b < 4294967296 := Nat.lt_of_le_of_lt (Nat.div_le_self a b) ha; generalize a / b = q at hq ⊢; omega))
  ·rintro ch H' ⟨rfl, h⟩
   rw [if_neg h0] at h
   cases h
theorem op6_spec {db : Nat} (ha : a < 4294967296) : LCalls (KC B0 w0) 62 [u32 a, u32 b, ptr db 0] [divH db] (fun r H' => H' = [divH db] ∧ r = if b = 0 then .panic (panI 12) else .ret (u32 (a % b))) := by
 refine LCalls.intro Tryz.func62 rfl (n := 11) rfl rfl rfl ?_
 repeat first | refine LOps.nil ?_ | refine LCode.seq ?_ | refine LCode.region ?_ | refine QThen.normal ?_ | refine LOps.pure (Pure.as (lv := .atom _) rfl) rfl ?_ | refine LOps.pure (Pure.mv (lv := .atom _) rfl) rfl ?_ | refine LOps.pure (Pure.loadH (c := .atom _) rfl (List.Mem.head _) rfl) rfl ?_
 by_cases h0 : b = 0
 ·refine LOps.step (S.callV (f := 57) (first := #[]) (caps := #[]) (H1 := [divH db]) (F := []) [_] rfl rfl (by simp) divisor_spec ?_ ?_) rfl
  ·rintro v H' ⟨rfl, h⟩
   rw [if_pos h0] at h
   cases h
  ·rintro ch H' ⟨rfl, h⟩ e' he'
   rw [if_pos h0] at h
   cases h
   repeat first | refine QThen.panic ?_
   exact RetPost.panic (he'.trans rfl) (HSub.refl _) ⟨rfl, by rw [if_pos h0]⟩
 ·refine LOps.step (S.callV (f := 57) (first := #[]) (caps := #[]) (H1 := [divH db]) (F := []) [_] rfl rfl (by simp) divisor_spec ?_ ?_) rfl
  ·rintro v H' ⟨rfl, h⟩
   rw [if_neg h0] at h
   cases h
   refine LOps.pure (Pure.remW rfl rfl (by omega)) rfl ?_
   repeat first | refine LOps.nil ?_ | refine LCode.ret ?_ | refine QThen.normal ?_ | refine LOps.pure (Pure.as (lv := .atom _) rfl) rfl ?_
   refine RetPost.ret rfl (AllRes.cons (ResIs.tmp (v := .atom _) rfl (LV.Sub.refl _)) AllRes.nil) (HSub.refl _) ⟨rfl, ?_⟩
   rw [if_neg h0]
   exact congrArg LRes.ret (u32_eq (by rw [Int.tmod_eq_emod_of_nonneg (by omega), ← Int.natCast_emod]))
  ·rintro ch H' ⟨rfl, h⟩
   rw [if_neg h0] at h
   cases h
def resB (o : Option Nat) : LRes := match o with
 | some v => .ret (u32 v)
 | none => .panic (panI 12)
/-- A binary operator: its function, and what that computes. -/
theorem binop_spec {db : Nat} {op : List UInt8} (hop : op ∈ binOps) (ha : a < 4294967296) (hb : b < 4294967296) : ∃ (f : FuncId) (caps : Array Value), GL.kvGet (opsKV db) op = some (.atom (.func (.func f) #[] caps)) ∧ TEnter Tryz.prog f ∧
  LCalls (KC B0 w0) f ([u32 a, u32 b] ++ caps.toList.map .atom) [divH db] (fun r H' => H' = [divH db] ∧ r = resB (binI op a b)) := by
 simp only [binOps, List.mem_cons, List.not_mem_nil, or_false] at hop
 rcases hop with rfl | rfl | rfl | rfl | rfl | rfl | rfl | rfl | rfl | rfl | rfl | rfl | rfl | rfl
 ·exact ⟨72, #[], rfl, inferInstance, LCalls.mono (op15_spec) fun r H' ⟨h1, h2⟩ => ⟨h2, h1⟩⟩
 ·exact ⟨71, #[], rfl, inferInstance, LCalls.mono (op14_spec) fun r H' ⟨h1, h2⟩ => ⟨h2, h1⟩⟩
 ·exact ⟨64, #[], rfl, inferInstance, LCalls.mono (op8_spec) fun r H' ⟨h1, h2⟩ => ⟨h2, h1⟩⟩
 ·exact ⟨66, #[], rfl, inferInstance, LCalls.mono (op9_spec) fun r H' ⟨h1, h2⟩ => ⟨h2, h1⟩⟩
 ·exact ⟨67, #[], rfl, inferInstance, LCalls.mono (op10_spec) fun r H' ⟨h1, h2⟩ => ⟨h2, h1⟩⟩
 ·exact ⟨68, #[], rfl, inferInstance, LCalls.mono (op11_spec) fun r H' ⟨h1, h2⟩ => ⟨h2, h1⟩⟩
 ·exact ⟨69, #[], rfl, inferInstance, LCalls.mono (op12_spec) fun r H' ⟨h1, h2⟩ => ⟨h2, h1⟩⟩
 ·exact ⟨70, #[], rfl, inferInstance, LCalls.mono (op13_spec) fun r H' ⟨h1, h2⟩ => ⟨h2, h1⟩⟩
 ·exact ⟨63, #[], rfl, inferInstance, LCalls.mono (op7_spec ha hb) fun r H' ⟨h1, h2⟩ => ⟨h2, h1⟩⟩
 ·exact ⟨58, #[], rfl, inferInstance, LCalls.mono (op2_spec ha hb) fun r H' ⟨h1, h2⟩ => ⟨h2, h1⟩⟩
 ·exact ⟨59, #[], rfl, inferInstance, LCalls.mono (op3_spec ha hb) fun r H' ⟨h1, h2⟩ => ⟨h2, h1⟩⟩
 ·exact ⟨60, #[], rfl, inferInstance, LCalls.mono (op4_spec ha hb) fun r H' ⟨h1, h2⟩ => ⟨h2, h1⟩⟩
 ·refine ⟨61, #[.pointer (some ⟨db, 0, none⟩)], rfl, inferInstance, LCalls.mono (op5_spec ha) fun r H' ⟨h1, h2⟩ => ⟨h1, h2.trans ?_⟩⟩
  by_cases h0 : b = 0
  ·rw [if_pos h0, h0]
   rfl
  ·rw [if_neg h0]
   show _ = resB (if b = 0 then none else _)
   rw [if_neg h0]
   rfl
 ·refine ⟨62, #[.pointer (some ⟨db, 0, none⟩)], rfl, inferInstance, LCalls.mono (op6_spec ha) fun r H' ⟨h1, h2⟩ => ⟨h1, h2.trans ?_⟩⟩
  by_cases h0 : b = 0
  ·rw [if_pos h0, h0]
   rfl
  ·rw [if_neg h0]
   show _ = resB (if b = 0 then none else _)
   rw [if_neg h0]
   rfl
end
end Go.Proofs.YtcbpcianefpniaaGreatDoor.Inp
namespace Go.Proofs.YtcbpcianefpniaaGreatDoor.Inp
open Go.GL Go.RowKit Go.Stele
set_option maxRecDepth 100000
set_option maxHeartbeats 4000000
theorem CfgOk.keys {c : Cfg} (hC : CfgOk c) : (c.sb.map (·.1)).Nodup := by rw [hC.sbk]; exact hC.valid.keys
/-- A placed scalar's block. -/
theorem CfgOk.block {c : Cfg} (hC : CfgOk c) {k : List UInt8} (hk : k ∈ scalarsP c.p.vars c.p.funcs) : ∃ b, (k, b) ∈ c.sb ∧ GL.kvGet (scKV c.sb) k = some (ptr b 0) := by
 rw [← hC.sbk] at hk
 obtain ⟨⟨k', b⟩, h1, rfl⟩ := List.mem_map.1 hk
 exact ⟨b, h1, kv_hit (A := List UInt8 × Nat) (·.1) (fun q => ptr q.2 0) hC.keys h1⟩
theorem CfgOk.miss {c : Cfg} (hC : CfgOk c) {k : List UInt8} (hk : k ∉ scalarsP c.p.vars c.p.funcs) : GL.kvGet (scKV c.sb) k = none := by
 rw [← hC.sbk] at hk
 exact kv_miss (A := List UInt8 × Nat) (·.1) (fun q => ptr q.2 0) hk
theorem CfgOk.akeys {c : Cfg} (hC : CfgOk c) : (c.ab.map (·.1)).Nodup := by
 rw [hC.abk]
 exact (List.nodup_append.1 (List.nodup_append.1 (fresh_zero _ _ hC.valid.names).1).1).2.1
/-- A declared array's block. -/
theorem CfgOk.arr {c : Cfg} (hC : CfgOk c) {k : List UInt8} (hk : k ∈ c.p.arrays.map (·.name)) : ∃ b n, (k, b, n) ∈ c.ab ∧ GL.kvGet (arKV c.ab) k = some (rowV b n) := by
 rw [← hC.abk] at hk
 obtain ⟨⟨k', b, n⟩, h1, rfl⟩ := List.mem_map.1 hk
 exact ⟨b, n, h1, kv_hit (A := List UInt8 × Nat × Nat) (·.1) (fun q => rowV q.2.1 q.2.2) hC.akeys h1⟩
attribute [local irreducible] LOps LCode LStep LCalls Go.GL.Pure QThen QBlock RetPost LQ LAny LLate LLateOp
section
variable {B0 : Nat} {w0 : World} {H : Heap}
theorem scalar_spec {c : Cfg} (hC : CfgOk c) {s : IS} (hs : St c s H) {f : FnD} (hf : f ∈ c.p.funcs) {name : List UInt8} (hk : keyI f name ∈ scalarsP c.p.vars c.p.funcs) {b : Nat} (hb : GL.kvGet (scKV c.sb) (keyI f name) = some (ptr b 0)) :
  LCalls (KC B0 w0) 159 [ptr c.rb 0, encFn f, str name] H (Same (ptr b 0) H) := by
 have hke := key_eq hC.valid.names hf name
 have hfl := hC.fshort f hf
 have hnl := key_short hC.short hk
 obtain ⟨hl, hle, v, Ha, hacc, rfl⟩ := hs
 refine LCalls.intro Tryz.func159 rfl (n := 30) rfl rfl rfl ?_
 repeat first | refine LCode.seq ?_ | refine LCode.region ?_
 refine LOps.step (S.box rfl fun b4 => ?_) rfl
 repeat first | refine LOps.nil ?_ | refine LCode.seq ?_ | refine QThen.normal ?_ | refine LOps.pure (Pure.as (lv := .atom _) rfl) rfl ?_
 refine LCode.quiet (by kernel_rfl) ?_
 repeat first | refine LQ.pure (Pure.mv (lv := .atom _) rfl) rfl ?_ | refine LQ.pure (Pure.nilCheckH rfl) rfl ?_ | refine LQ.pure (Pure.fieldH rfl) rfl ?_ | refine LQ.pure (Pure.loadH (c := .atom _) rfl (List.Mem.head _) rfl) rfl ?_ | refine LQ.pure (Pure.loadH (c := .atom _) rfl (List.Mem.tail _ (List.Mem.head _)) rfl) rfl ?_ | refine LQ.pure (Pure.sadd rfl rfl (by first | omega | (simp only [List.length_append, List.length_cons, List.length_nil]; omega))) rfl ?_
 by_cases hin : f.name ++ [46] ++ name ∈ scalarsP c.p.vars c.p.funcs
 ·rw [if_pos hin] at hke
  rw [← hke] at hb
  refine LQ.pure (Pure.kvHit2 rfl rfl (List.Mem.tail _ (List.Mem.tail _ (List.Mem.head _))) hb) rfl ?_
  repeat first | refine LQ.pure (Pure.as (lv := .atom _) rfl) rfl ?_ | refine LQ.pure (Pure.mv (lv := .tuple _) rfl) rfl ?_ | refine LQ.pure (Pure.extract (c := .atom _) rfl rfl) rfl ?_ | refine LQ.nil ?_ | refine QThen.normal ?_
  refine LCode.seq ?_
  repeat first | refine LOps.nil ?_ | refine LCode.region ?_ | refine QThen.normal ?_ | refine LOps.pure (Pure.mv (lv := .atom _) rfl) rfl ?_
  refine LCode.cond rfl (fun hc => ?_) (fun hc => ?_)
  ·repeat first | refine LOps.nil ?_ | refine LCode.seq ?_ | refine LCode.region ?_ | refine LCode.ret ?_ | refine QThen.normal ?_ | refine QThen.ret ?_ | refine LOps.pure (Pure.as (lv := .atom _) rfl) rfl ?_ | refine LOps.pure (Pure.mv (lv := .atom _) rfl) rfl ?_
   exact retS rfl (AllRes.cons (ResIs.tmp (v := .atom _) rfl (LV.Sub.refl _)) AllRes.nil) rfl (HSub.drop (HSub.refl _))
  ·cases hc
 ·rw [if_neg hin] at hke
  rw [← hke] at hb
  refine LQ.pure (Pure.kvMiss2 rfl rfl (List.Mem.tail _ (List.Mem.tail _ (List.Mem.head _))) (hC.miss hin)) rfl ?_
  repeat first | refine LQ.pure (Pure.as (lv := .atom _) rfl) rfl ?_ | refine LQ.pure (Pure.mv (lv := .tuple _) rfl) rfl ?_ | refine LQ.pure (Pure.extract (c := .atom _) rfl rfl) rfl ?_ | refine LQ.nil ?_ | refine QThen.normal ?_
  refine LCode.seq ?_
  repeat first | refine LOps.nil ?_ | refine LCode.region ?_ | refine QThen.normal ?_ | refine LOps.pure (Pure.mv (lv := .atom _) rfl) rfl ?_
  refine LCode.cond rfl (fun hc => ?_) (fun hc => ?_)
  ·cases hc
  ·repeat first | refine LCode.seq ?_ | refine LCode.region ?_ | refine LCode.skip ?_ | refine QThen.normal ?_ | refine LOps.pure (Pure.mv (lv := .atom _) rfl) rfl ?_ | refine LOps.pure (Pure.nilCheckH rfl) rfl ?_ | refine LOps.pure (Pure.fieldH rfl) rfl ?_ | refine LOps.pure (Pure.loadH (c := .atom _) rfl (List.Mem.tail _ (List.Mem.head _)) rfl) rfl ?_
   refine LOps.pure (Pure.kvHit rfl rfl (List.Mem.tail _ (List.Mem.tail _ (List.Mem.head _))) hb) rfl ?_
   repeat first | refine LOps.nil ?_ | refine LCode.ret ?_ | refine QThen.normal ?_ | refine LOps.pure (Pure.as (lv := .atom _) rfl) rfl ?_
   exact retS rfl (AllRes.cons (ResIs.tmp (v := .atom _) rfl (LV.Sub.refl _)) AllRes.nil) rfl (HSub.drop (HSub.refl _))
theorem wrapU64 {n : Nat} (h : n < 18446744073709551616) : IntKind.u64.wrap (n : Int) = n := by
 have : IntKind.u64.wrap (n : Int) = (n : Int) % 18446744073709551616 := by
  simp only [IntKind.wrap, IntKind.bits, IntKind.signed, Bool.false_and]
  rfl
 rw [this]
 omega
theorem element_spec {c : Cfg} (hC : CfgOk c) {s : IS} (hs : St c s H) {name : List UInt8} {b n i : Nat} (hb : (name, b, n) ∈ c.ab) (hg : GL.kvGet (arKV c.ab) name = some (rowV b n)) (hi : i < 4294967296) :
  LCalls (KC B0 w0) 160 [ptr c.rb 0, str name, u32 i] H (fun r H' => H' = H ∧ r = if i < n then .ret (ptr b i) else .panic (panI 2)) := by
 have hn := hC.asz _ hb
 simp only at hn
 obtain ⟨hl, hle, v, Ha, hacc, rfl⟩ := hs
 refine LCalls.intro Tryz.func160 rfl (n := 25) rfl rfl rfl ?_
 repeat first | refine LOps.nil ?_ | refine LCode.seq ?_ | refine LCode.region ?_ | refine QThen.normal ?_ | refine LOps.pure (Pure.as (lv := .atom _) rfl) rfl ?_ | refine LOps.pure (Pure.mv (lv := .atom _) rfl) rfl ?_ | refine LOps.pure (Pure.nilCheckH rfl) rfl ?_ | refine LOps.pure (Pure.fieldH rfl) rfl ?_ | refine LOps.pure (Pure.loadH (c := .atom _) rfl (List.Mem.head _) rfl) rfl ?_
 refine LOps.pure (Pure.kvHit rfl rfl (List.Mem.tail _ (List.Mem.tail _ (List.Mem.head _))) hg) rfl ?_
 repeat first | refine LOps.nil ?_ | refine LCode.seq ?_ | refine LCode.region ?_ | refine QThen.normal ?_ | refine LOps.pure (Pure.as (lv := .atom _) rfl) rfl ?_ | refine LOps.pure (Pure.mv (lv := .atom _) rfl) rfl ?_ | refine LOps.pure (Pure.cvt rfl) rfl ?_
 refine LOps.pure (Pure.rowLen rfl) rfl ?_
 repeat first | refine LOps.nil ?_ | refine QThen.normal ?_ | refine LOps.pure (Pure.cvt rfl) rfl ?_ | refine LOps.pure (Pure.geq rfl rfl) rfl ?_
 have e1 := wrapU64 (n := i) (by omega)
 have e2 := wrapU64 (n := n) (by omega)
 refine LCode.cond rfl (fun hc => ?_) (fun hc => ?_)
 ·have h0 : ¬ i < n := by
   have := of_decide_eq_true hc
   rw [e1, e2] at this
   omega
  repeat first | refine LCode.region ?_ | refine LOps.pure (Pure.bld _ (cs := [_]) rfl) rfl ?_ | refine LOps.pure (Pure.makeInterfaceAgg (vs := [_]) rfl) rfl ?_
  refine LOps.step (LStep.panic rfl fun e' he' => ?_) rfl
  repeat first | refine QThen.panic ?_
  exact RetPost.panic (he'.trans rfl) (HSub.refl _) ⟨rfl, by rw [if_neg h0]; rfl⟩
 ·have h0 : i < n := by
   have := of_decide_eq_false hc
   rw [e1, e2] at this
   omega
  repeat first | refine LCode.seq ?_ | refine LCode.region ?_ | refine LCode.skip ?_ | refine QThen.normal ?_ | refine LOps.pure (Pure.mv (lv := .atom _) rfl) rfl ?_
  refine LOps.pure (Pure.indexRow rfl rfl (by omega) (by omega)) rfl ?_
  repeat first | refine LOps.nil ?_ | refine LCode.ret ?_ | refine QThen.normal ?_ | refine LOps.pure (Pure.as (lv := .atom _) rfl) rfl ?_
  refine RetPost.ret rfl (AllRes.cons (ResIs.tmp (v := .atom _) rfl (LV.Sub.refl _)) AllRes.nil) (HSub.refl _) ⟨rfl, ?_⟩
  rw [if_pos h0]
  show LRes.ret (ptr b (0 + (i : Int).toNat * 1)) = _
  rw [Int.toNat_natCast, Nat.mul_one, Nat.zero_add]
end
end Go.Proofs.YtcbpcianefpniaaGreatDoor.Inp
namespace Go.Proofs.YtcbpcianefpniaaGreatDoor.Inp
open Go.GL Go.RowKit Go.Stele
set_option maxRecDepth 100000
theorem sc_pick {sb : List (List UInt8 × Nat)} {k : List UInt8} {b : Nat} (s : IS) : (sb.map (·.1)).Nodup → (k, b) ∈ sb → ∃ F, (scH sb s).Perm ((b, .cells 43 [u32 (s.sc k)]) :: F) ∧ ∀ x, (scH sb (setSc s k x)).Perm ((b, .cells 43 [u32 x]) :: F) := by
 induction sb with
 | nil => intro _ h; cases h
 | cons q l ih =>
  intro hn h
  rw [List.map_cons, List.nodup_cons] at hn
  have same : ∀ (l : List (List UInt8 × Nat)) x, k ∉ l.map (·.1) → scH l (setSc s k x) = scH l s := fun l x hk => by
   unfold scH
   refine List.map_congr_left fun p hp => ?_
   show (p.2, LObj.cells 43 [u32 (if p.1 = k then x else s.sc p.1)]) = _
   rw [if_neg (fun he => hk (by rw [← he]; exact List.mem_map_of_mem hp))]
  rcases List.mem_cons.1 h with rfl | h
  ·refine ⟨scH l s, List.Perm.refl _, fun x => ?_⟩
   show List.Perm ((b, LObj.cells 43 [u32 (if k = k then x else s.sc k)]) :: scH l (setSc s k x)) _
   rw [if_pos rfl, same l x hn.1]
  ·obtain ⟨F, h1, h2⟩ := ih hn.2 h
   have hne : ¬ q.1 = k := fun he => hn.1 (by rw [he]; exact List.mem_map_of_mem h)
   refine ⟨(q.2, .cells 43 [u32 (s.sc q.1)]) :: F, (List.Perm.cons _ h1).trans (List.Perm.swap _ _ _), fun x => ?_⟩
   show List.Perm ((q.2, LObj.cells 43 [u32 (if q.1 = k then x else s.sc q.1)]) :: scH l (setSc s k x)) _
   rw [if_neg hne]
   exact (List.Perm.cons _ (h2 x)).trans (List.Perm.swap _ _ _)
/-- The blocks that stand ahead. -/
def hdH (c : Cfg) (s : IS) (v : LV) : Heap := [(c.rb, .cells 72 (runC c s v)), (c.sm, .map (kvs (scKV c.sb)) c.sc), (c.am, .map (kvs (arKV c.ab)) c.ac), (c.fm, .map (kvs (fnKV c.p.funcs)) c.fc), (c.om, .map (kvs (opsKV c.db)) c.oc), divH c.db]
theorem stH_eq (c : Cfg) (s : IS) (v : LV) (Ha : Heap) : stH c s v Ha = hdH c s v ++ (scH c.sb s ++ (arH c.ab s ++ Ha)) := rfl
theorem fst_inj {A B : Type} : ∀ (L : List (A × B)), (L.map (·.1)).Nodup → ∀ {x y : A × B}, x ∈ L → y ∈ L → x.1 = y.1 → x = y
 | [], _, x, y, hx, _, _ => by cases hx
 | z :: L, hn, x, y, hx, hy, he => by
  rw [List.map_cons, List.nodup_cons] at hn
  rcases List.mem_cons.1 hx with hx1 | hx1
  ·rcases List.mem_cons.1 hy with hy1 | hy1
   ·rw [hx1, hy1]
   ·exact absurd (by rw [← hx1, he]; exact List.mem_map_of_mem (f := Prod.fst) hy1) hn.1
  ·rcases List.mem_cons.1 hy with hy1 | hy1
   ·exact absurd (by rw [← hy1, ← he]; exact List.mem_map_of_mem (f := Prod.fst) hx1) hn.1
   ·exact fst_inj L hn.2 hx1 hy1 he
def setAr (s : IS) (name : List UInt8) (l : List Nat) : IS := { s with ar := fun x => if x = name then l else s.ar x }
theorem ar_pick {ab : List (List UInt8 × Nat × Nat)} {k : List UInt8} {b n : Nat} (s : IS) : (ab.map (·.1)).Nodup → (k, b, n) ∈ ab → ∃ F, (arH ab s).Perm ((b, .cells 43 ((s.ar k).map u32)) :: F) ∧ ∀ l, (arH ab (setAr s k l)).Perm ((b, .cells 43 (l.map u32)) :: F) := by
 induction ab with
 | nil => intro _ h; cases h
 | cons q r ih =>
  intro hn h
  rw [List.map_cons, List.nodup_cons] at hn
  have same : ∀ (r : List (List UInt8 × Nat × Nat)) l, k ∉ r.map (·.1) → arH r (setAr s k l) = arH r s := fun r l hk => by
   unfold arH
   refine List.map_congr_left fun p hp => ?_
   show (p.2.1, LObj.cells 43 ((if p.1 = k then l else s.ar p.1).map u32)) = _
   rw [if_neg (fun he => hk (by rw [← he]; exact List.mem_map_of_mem hp))]
  rcases List.mem_cons.1 h with rfl | h
  ·refine ⟨arH r s, List.Perm.refl _, fun l => ?_⟩
   show List.Perm ((b, LObj.cells 43 ((if k = k then l else s.ar k).map u32)) :: arH r (setAr s k l)) _
   rw [if_pos rfl, same r l hn.1]
  ·obtain ⟨F, h1, h2⟩ := ih hn.2 h
   have hne : ¬ q.1 = k := fun he => hn.1 (by rw [he]; exact List.mem_map_of_mem (f := Prod.fst) h)
   refine ⟨(q.2.1, .cells 43 ((s.ar q.1).map u32)) :: F, (List.Perm.cons _ h1).trans (List.Perm.swap _ _ _), fun l => ?_⟩
   show List.Perm ((q.2.1, LObj.cells 43 ((if q.1 = k then l else s.ar q.1).map u32)) :: arH r (setAr s k l)) _
   rw [if_neg hne]
   exact (List.Perm.cons _ (h2 l)).trans (List.Perm.swap _ _ _)
/-- A scalar's cell, and what a store into it makes. -/
theorem st_sc {c : Cfg} (hC : CfgOk c) {s : IS} {H : Heap} {k : List UInt8} {b : Nat} (hb : (k, b) ∈ c.sb) (hs : St c s H) :
  ∃ G, H.Perm ((b, .cells 43 [u32 (s.sc k)]) :: G) ∧ ∀ x, ∃ H', St c (setSc s k x) H' ∧ List.Perm ((b, .cells 43 [u32 x]) :: G) H' := by
 obtain ⟨hl, hle, v, Ha, hacc, rfl⟩ := hs
 obtain ⟨F, h1, h2⟩ := sc_pick s hC.keys hb
 have key : ∀ (X S R : Heap) (p : Nat × LObj), S.Perm (p :: F) → List.Perm (X ++ (S ++ R)) (p :: (X ++ (F ++ R))) := fun X S R p h => ((h.append_right R).append_left X).trans List.perm_middle
 refine ⟨_, key (hdH c s v) _ _ _ h1, fun x => ⟨stH c (setSc s k x) v Ha, ⟨hl, hle, v, Ha, hacc, rfl⟩, (key (hdH c s v) _ _ _ (h2 x)).symm⟩⟩
/-- An array's cells, and what a store into them makes. -/
theorem st_ar {c : Cfg} (hC : CfgOk c) {s : IS} {H : Heap} {k : List UInt8} {b n : Nat} (hb : (k, b, n) ∈ c.ab) (hs : St c s H) :
  (s.ar k).length = n ∧ ∃ G, H.Perm ((b, .cells 43 ((s.ar k).map u32)) :: G) ∧ ∀ l, l.length = n → ∃ H', St c (setAr s k l) H' ∧ List.Perm ((b, .cells 43 (l.map u32)) :: G) H' := by
 obtain ⟨hl, hle, v, Ha, hacc, rfl⟩ := hs
 have hn := hl _ hb
 simp only at hn
 refine ⟨hn, ?_⟩
 obtain ⟨F, h1, h2⟩ := ar_pick s hC.akeys hb
 have key : ∀ (X S R : Heap) (p : Nat × LObj), S.Perm (p :: F) → List.Perm (X ++ (S ++ R)) (p :: (X ++ (F ++ R))) := fun X S R p h => ((h.append_right R).append_left X).trans List.perm_middle
 have asc : ∀ (X S A R : Heap), X ++ (S ++ (A ++ R)) = (X ++ S) ++ (A ++ R) := fun X S A R => (List.append_assoc X S _).symm
 refine ⟨(hdH c s v ++ scH c.sb s) ++ (F ++ Ha), ?_, fun l hln => ⟨stH c (setAr s k l) v Ha, ⟨fun q hq => ?_, hle, v, Ha, hacc, rfl⟩, ?_⟩⟩
 ·have := key (hdH c s v ++ scH c.sb s) _ Ha _ h1
  rw [← asc] at this
  exact this
 ·show ((if q.1 = k then l else s.ar q.1)).length = q.2.2
  split
  ·rename_i he
   have : q = (k, b, n) := by
    have h3 := hC.akeys
    exact fst_inj c.ab h3 hq hb he
   rw [this]
   exact hln
  ·exact hl q hq
 ·have := key (hdH c s v ++ scH c.sb s) _ Ha _ (h2 l)
  rw [← asc] at this
  exact this.symm
theorem pick_in {p : Nat × LObj} {X H G : Heap} (h : H.Perm (p :: G)) : Pick p (X ++ H) (X ++ G) := (h.append_left X).trans List.perm_middle
theorem back_in {p : Nat × LObj} {X H G : Heap} (h : List.Perm (p :: G) H) : List.Perm (p :: (X ++ G)) (X ++ H) := List.perm_middle.symm.trans (h.append_left X)
theorem setL_one : ∀ (cs : List LV) (i : Nat) (v : LV), i < cs.length → setL cs i [v] = cs.set i v := fun cs i v h => by
 rw [setL_eq cs i [v] (by simp; omega), List.set_eq_take_append_cons_drop]
 rw [if_pos h]
 simp
/-- What the steps that are left allow. -/
def Good (c : Cfg) (n : Nat) (s : IS) : Prop := Bnd s ∧ s.left ≤ n ∧ s.out.length + s.left ≤ c.lim
theorem ev_good {c : Cfg} (hC : CfgOk c) {n m : Nat} {f : FnD} {x : Ex} {s s' : IS} {v : Nat} (hx : numE x) (hg : Good c m s) (h : evI c.p n f x s = .ok v s') : Good c m s' ∧ v < 4294967296 ∧ s'.left < s.left := by
 have h1 := (bd_all hC.nums n).1 f x s hx hg.1
 have h2 := (few_all c.p n).1 f x s
 have h3 := ev_less c.p n f x s s' v h
 rw [h] at h1 h2
 unfold Few at h2
 simp only [IR.st] at h2
 exact ⟨⟨h1.2, Nat.le_trans (Nat.le_of_lt h3) hg.2.1, by have := hg.2.2; omega⟩, h1.1, h3⟩
theorem st_good {c : Cfg} (hC : CfgOk c) {n m : Nat} {f : FnD} {x : Sm} {s s' : IS} {r : Option Nat} (hx : numS x) (hg : Good c m s) (h : stI c.p n f x s = .ok r s') : Good c m s' ∧ OptLt r := by
 have h1 := (bd_all hC.nums n).2 f x s hx hg.1
 have h2 := (few_all c.p n).2 f x s
 have h3 := ((grow_all c.p n).2 f x s).2
 rw [h] at h1 h2 h3
 unfold Few at h2
 simp only [IR.st] at h2 h3
 exact ⟨⟨h1.2, Nat.le_trans h3 hg.2.1, by have := hg.2.2; omega⟩, h1.1⟩
theorem blk_good {c : Cfg} (hC : CfgOk c) {n m : Nat} {f : FnD} {l : List Sm} {s s' : IS} {r : Option Nat} (hx : numSs l) (hg : Good c m s) (h : blkR (stI c.p n f) l s = .ok r s') : Good c m s' ∧ OptLt r := by
 have h1 := blkR_bd l s (fun a ha s hs => (bd_all hC.nums n).2 f a s (numSs_mem hx ha) hs) hg.1
 have h2 := blkR_few ((few_all c.p n).2 f) l s
 have h3 := (blkR_grow ((grow_all c.p n).2 f) l s).2
 rw [h] at h1 h2 h3
 unfold Few at h2
 simp only [IR.st] at h2 h3
 exact ⟨⟨h1.2, Nat.le_trans h3 hg.2.1, by have := hg.2.2; omega⟩, h1.1⟩
theorem mapR_step {A B : Type} (g : A → IS → IR Nat) (a : A) (l : List A) (s : IS) (F : List Nat → IS → IR B) : (mapR g (a :: l) s).bind F = (g a s).bind fun v s => (mapR g l s).bind fun vs s => F (v :: vs) s := by
 rw [mapR]
 cases g a s with
 | stop e s => rfl
 | ok v s =>
  show ((mapR g l s).bind _).bind F = _
  cases hm : mapR g l s with
  | stop e s => show _ = (mapR g l _).bind _; rw [hm]; rfl
  | ok vs s => show _ = (mapR g l _).bind _; rw [hm]; rfl
end Go.Proofs.YtcbpcianefpniaaGreatDoor.Inp
namespace Go.Proofs.YtcbpcianefpniaaGreatDoor.Inp
open Go.GL Go.RowKit Go.Stele
set_option maxRecDepth 100000
set_option maxHeartbeats 4000000
abbrev cenv (c : Cfg) (kn : List FSum) (f : FnD) : CEnv := envF c.p.vars (c.p.arrays.map (·.name)) (c.p.funcs.map (·.name)) kn f
def EvalH (B0 : Nat) (w0 : World) (c : Cfg) (n : Nat) : Prop := ∀ (f : FnD) (kn : List FSum) (x : Ex) (s : IS) (H : Heap), f ∈ c.p.funcs → Known c.p.funcs kn → errE (cenv c kn f) x = 0 → numE x → smE x → Good c n s → St c s H →
 LCalls (KC B0 w0) 158 [ptr c.rb 0, encFn f, encE x] H (PostI c u32 (evI c.p n f x s))
def ExecH (B0 : Nat) (w0 : World) (c : Cfg) (n : Nat) : Prop := ∀ (f : FnD) (kn : List FSum) (x : Sm) (s : IS) (H : Heap), f ∈ c.p.funcs → Known c.p.funcs kn → errS (cenv c kn f) x = 0 → numS x → smS x → Good c n s → St c s H →
 LCalls (KC B0 w0) 109 [ptr c.rb 0, encFn f, encS x] H (PostI c retV (stI c.p n f x s))
def BlkH (B0 : Nat) (w0 : World) (c : Cfg) (n : Nat) : Prop := ∀ (f : FnD) (kn : List FSum) (l : List Sm) (s : IS) (H : Heap), f ∈ c.p.funcs → Known c.p.funcs kn → errSs (cenv c kn f) l = 0 → numSs l → Few6 l.length → smSs l → Good c n s → St c s H →
 LCalls (KC B0 w0) 76 [ptr c.rb 0, encFn f, .list (l.map encS)] H (PostI c retV (blkR (stI c.p n f) l s))
theorem swap1 {x : Nat × LObj} {H : Heap} : (x :: H).Perm (H ++ [x]) := List.perm_append_comm (l₁ := [x])
theorem swap2 {x y : Nat × LObj} {H : Heap} : (x :: y :: H).Perm (H ++ [x, y]) := List.perm_append_comm (l₁ := [x, y])
theorem hsub_left {H F : Heap} : HSub H (H ++ F) := ⟨F, List.Perm.refl _⟩
theorem hsub_keep {H : Heap} {x y : Nat × LObj} : HSub (y :: H) (H ++ [x, y]) := ⟨[x], by
 refine (List.perm_append_comm (l₂ := [x, y])).trans ?_
 exact (List.Perm.swap y x H).trans (List.Perm.cons y swap1)⟩
theorem get_mid {A B : Type} (g : A → B) (pre : List A) (a : A) (l : List A) : ((pre ++ a :: l).map g)[((pre.length : Nat) : Int).toNat]? = some (g a) := by
 rw [Int.toNat_natCast, List.getElem?_map, List.getElem?_append_right (Nat.le_refl _), Nat.sub_self]
 rfl
attribute [local irreducible] LOps LCode LStep LCalls Go.GL.Pure QThen QBlock RetPost LQ LAny LLate LLateOp
section
variable {B0 : Nat} {w0 : World}
theorem block_spec {c : Cfg} (hC : CfgOk c) {n : Nat} (hX : ExecH B0 w0 c n) : BlkH B0 w0 c n := by
 intro f kn l s H hf hk hv hnum hlen6 hsm hg hs
 refine LCalls.intro Tryz.func76 rfl (n := 28) rfl rfl rfl ?_
 repeat first | refine LCode.seq ?_ | refine LCode.region ?_
 refine LOps.step (S.box rfl fun b4 => ?_) rfl
 repeat first | refine LOps.nil ?_ | refine LCode.seq ?_ | refine LCode.region ?_ | refine LCode.block ?_ | refine QThen.normal ?_ | refine LOps.pure (Pure.as (lv := .atom _) rfl) rfl ?_ | refine LOps.pure (Pure.mv (lv := .list _) rfl) rfl ?_ | refine LOps.pure (Pure.mv (lv := .atom _) rfl) rfl ?_ | refine LOps.pure (Pure.llen rfl) rfl ?_
 refine LCode.loopI (fun k ls H' => ∃ (pre l1 : List Sm) (s1 : IS) (Hs : Heap), l = pre ++ l1 ∧ k = l1.length ∧ ls = [(0, ptr c.rb 0), (4, ptr b4 0), (12, .list (l.map encS)), (13, int .i64 ((l.map encS).length : Int)), (14, int .i64 (pre.length : Int))] ∧ H' = (b4, .cells 63 [str f.name, .list (f.params.map str), .list (f.locals.map str), .list (f.body.map encS)]) :: Hs ∧ St c s1 Hs ∧ Good c n s1 ∧ errSs (cenv c kn f) l1 = 0 ∧ numSs l1 ∧ smSs l1 ∧ blkR (stI c.p n f) l s = blkR (stI c.p n f) l1 s1)
  ⟨l.length, _, _, ⟨[], l, s, H, rfl, rfl, rfl, rfl, hs, hg, hv, hnum, hsm, rfl⟩, ⟨rfl, rfl, rfl, rfl, rfl, trivial⟩, HSub.refl _⟩ ?_
 rintro k ls H' ⟨pre, l1, s1, Hs, hl, rfl, rfl, rfl, hs1, hg1, hv1, hn1, hm1, hI⟩ j hj
 have hl6 : pre.length ≤ 1000000 := by
  have h6 : l.length ≤ 1000000 := hlen6
  rw [hl, List.length_append] at h6
  omega
 repeat first | refine LOps.nil ?_ | refine LCode.seq ?_ | refine LCode.region ?_ | refine QThen.normal ?_ | refine LOps.pure (Pure.lss rfl rfl) rfl ?_
 refine LCode.cond rfl (fun hc => ?_) (fun hc => ?_)
 ·have hlen := of_decide_eq_true hc
  rw [List.length_map, hl, List.length_append] at hlen
  obtain ⟨a, l2, rfl⟩ : ∃ a l2, l1 = a :: l2 := by
   cases l1 with
   | nil => simp at hlen
   | cons a l2 => exact ⟨a, l2, rfl⟩
  rw [errSs] at hv1
  obtain ⟨hva, hvl⟩ := orE_zero.1 hv1
  rw [blkR] at hI
  repeat first | refine LCode.seq ?_ | refine LCode.region ?_ | refine LCode.skip ?_ | refine LCode.block ?_ | refine QThen.normal ?_
  refine LOps.pure (Pure.ixRef (el' := encS a) (cs := [_, _, _, _, _, _]) rfl rfl (by omega) (by rw [hl]; exact get_mid encS pre a l2) rfl rfl) rfl ?_
  repeat first | refine LOps.pure (Pure.ldRefAgg (cs' := [_, _, _, _, _, _]) rfl rfl rfl) rfl ?_
  refine LOps.step (S.alloc fun b9 => ?_) rfl
  repeat first | refine LOps.nil ?_ | refine LCode.seq ?_ | refine LCode.region ?_ | refine QThen.normal ?_ | refine LOps.pure (Pure.mv (lv := .atom _) rfl) rfl ?_ | refine LOps.pure (Pure.ldHAgg (cs' := [_, _, _, _, _, _]) rfl (List.Mem.head _) rfl rfl) rfl ?_ | refine LOps.pure (Pure.ldHAgg (cs' := [_, _, _, _]) rfl (List.Mem.tail _ (List.Mem.head _)) rfl rfl) rfl ?_ | refine LOps.step (S.store (cs' := [_, _, _, _, _, _]) rfl Pick.here rfl rfl rfl rfl rfl ?_) rfl
  refine LOps.step (S.callI [_, _, _] rfl swap2 (hX f kn a s1 Hs hf hk hva hn1.1 hm1.1 hg1 hs1) (fun r s2 H2 hr hs2 => ?_) (fun er s2 H2 hr hs2 e' he' => ?_)) rfl
  ·obtain ⟨hg2, _⟩ := st_good hC hn1.1 hg1 hr
   rw [hr] at hI
   cases r with
   | none =>
    repeat first | refine LOps.nil ?_ | refine LCode.seq ?_ | refine LCode.region ?_ | refine QThen.normal ?_ | refine LOps.pure (Pure.as (lv := .atom _) rfl) rfl ?_ | refine LOps.pure (Pure.mv (lv := .atom _) rfl) rfl ?_ | refine LOps.pure (Pure.mv (lv := .tuple _) rfl) rfl ?_ | refine LOps.pure (Pure.extract (c := .atom _) rfl rfl) rfl ?_
    refine LCode.cond rfl (fun hd => ?_) (fun hd => ?_)
    ·cases hd
    ·repeat first | refine LOps.nil ?_ | refine LCode.region ?_ | refine LCode.skip ?_ | refine QThen.normal ?_ | refine QBlock.normal ?_ | refine LOps.pure (Pure.mv (lv := .atom _) rfl) rfl ?_ | refine LOps.pure (Pure.add rfl rfl (by omega)) rfl ?_
     exact ⟨l2.length, _, _, Nat.lt_succ_self _, ⟨pre ++ [a], l2, s2, H2, by rw [hl]; simp, rfl, rfl, rfl, hs2, hg2, hvl, hn1.2, hm1.2, hI⟩, ⟨rfl, rfl, rfl, rfl, int_eq (by simp), trivial⟩, hsub_keep, hj⟩
   | some v =>
    repeat first | refine LOps.nil ?_ | refine LCode.seq ?_ | refine LCode.region ?_ | refine QThen.normal ?_ | refine LOps.pure (Pure.as (lv := .atom _) rfl) rfl ?_ | refine LOps.pure (Pure.mv (lv := .atom _) rfl) rfl ?_ | refine LOps.pure (Pure.mv (lv := .tuple _) rfl) rfl ?_ | refine LOps.pure (Pure.extract (c := .atom _) rfl rfl) rfl ?_
    refine LCode.cond rfl (fun hd => ?_) (fun hd => ?_)
    ·repeat first | refine LOps.nil ?_ | refine LCode.seq ?_ | refine LCode.region ?_ | refine LCode.ret ?_ | refine QThen.normal ?_ | refine QThen.ret ?_ | refine QBlock.ret ?_ | refine LOps.pure (Pure.as (lv := .atom _) rfl) rfl ?_ | refine LOps.pure (Pure.mv (lv := .atom _) rfl) rfl ?_
     exact retI (v := some v) hj (AllRes.cons (ResIs.tmp (v := .atom _) rfl (LV.Sub.refl _)) (AllRes.cons (ResIs.tmp (v := .atom _) rfl (LV.Sub.refl _)) AllRes.nil)) hI rfl hsub_left hs2
    ·cases hd
  ·repeat first | refine QThen.panic ?_ | refine QBlock.panic ?_
   rw [hr] at hI
   exact panI_ (he'.trans hj) hI hsub_left hs2
 ·have hlen := of_decide_eq_false hc
  rw [List.length_map, hl, List.length_append] at hlen
  obtain rfl : l1 = [] := by
   cases l1 with
   | nil => rfl
   | cons a l2 => simp at hlen; omega
  repeat first | refine LOps.nil ?_ | refine LCode.seq ?_ | refine LCode.region ?_ | refine LCode.ret ?_ | refine LCode.exit ?_ | refine QThen.normal ?_ | refine QThen.exit ?_ | refine QBlock.hit ?_ | refine LOps.pure (Pure.as (lv := .atom _) rfl) rfl ?_
  exact retI (v := none) hj (AllRes.cons (ResIs.tmp (v := .atom _) rfl (LV.Sub.refl _)) (AllRes.cons (ResIs.tmp (v := .atom _) rfl (LV.Sub.refl _)) AllRes.nil)) (hI.trans rfl) rfl (HSub.drop (HSub.refl _)) hs1
end
end Go.Proofs.YtcbpcianefpniaaGreatDoor.Inp
namespace Go.GL
open Go.RowKit
section
variable {C : Ctx} {n : Nat} {Q : Post} {e : Env} {H : Heap} {k : Env → Heap → Prop}
theorem LCode.mid {A : Type} {c : Code} (l : A → List (Nat × LV)) (H1 : A → Heap) (F : A → Prop) (hx : LCode C n c (QThen (fun e' H' => ∃ a, F a ∧ At (l a) (H1 a) e.ds e' H') Q) e H) (hy : ∀ a, F a → ∀ j : Env, j.ds = e.ds → k (Env.slots j (l a)) (H1 a)) : LCode C n c (QThen k Q) e H := by
 refine LCode.conseq hx ?_
 rintro ex e' H' hq
 cases ex with
 | normal =>
  obtain ⟨a, hF, h1, rfl, h3⟩ := hq
  have := hy a hF e' h3
  rw [Env.slots_self h1.mem] at this
  exact this
 | exit id => exact hq
 | goto id => exact hq
 | ret => exact hq
 | panic ch => exact hq
 | outgrown => exact hq
/-- The same, where the heap is met in whatever order, and code follows. -/
theorem LCode.midC {A : Type} {c c2 : Code} {Q2 : Post} (l : A → List (Nat × LV)) (H1 : A → Heap) (F : A → Prop) (hx : LCode C n c (QThen (fun e' H' => ∃ a, F a ∧ AllSlots e' (l a) ∧ HSub (H1 a) H' ∧ e'.ds = e.ds) Q) e H) (hy : ∀ a, F a → ∀ j : Env, j.ds = e.ds → LCode C n c2 Q2 (Env.slots j (l a)) (H1 a)) : LCode C n c (QThen (fun e H => LCode C n c2 Q2 e H) Q) e H := by
 refine LCode.conseq hx ?_
 rintro ex e' H' hq
 cases ex with
 | normal =>
  obtain ⟨a, hF, h1, h2, h3⟩ := hq
  have := hy a hF e' h3
  rw [Env.slots_self h1.mem] at this
  exact LCode.weak h2 this
 | exit id => exact hq
 | goto id => exact hq
 | ret => exact hq
 | panic ch => exact hq
 | outgrown => exact hq
theorem cells_sub {w : World} {L : Live} {b ty : Nat} {cs cs' : List LV} {F : Heap} (hp : Pick (b, .cells ty cs) H F) (hs : SubL cs cs') (hH : RelH C w L H) : RelH C w L ((b, .cells ty cs') :: F) := by
 have h1 := hH.perm hp
 refine ⟨h1.base, h1.lbase, h1.b0, h1.wf, h1.nodup, fun p hp => ?_⟩
 rcases List.mem_cons.1 hp with rfl | hp
 ·obtain ⟨r1, r2, r3, xs, r4, r5⟩ := h1.objs _ List.mem_cons_self
  exact ⟨r1, r2, r3, xs, r4, hs.repL r5⟩
 ·exact h1.objs p (List.mem_cons_of_mem _ hp)
theorem pick_keys {b ty : Nat} {cs cs' : List LV} {F : Heap} (hp : Pick (b, .cells ty cs) H F) : ∀ x, x ∈ keys ((b, LObj.cells ty cs') :: F) → x ∈ keys H := fun x hx => by
 have : keys ((b, LObj.cells ty cs') :: F) = keys ((b, LObj.cells ty cs) :: F) := rfl
 rw [this] at hx
 exact ((hp.map (·.1)).mem_iff).2 hx
/-- A cell's content is read more weakly. -/
theorem LCode.cellSub {c : Code} {b ty : Nat} {cs cs' : List LV} {F : Heap} (hp : Pick (b, .cells ty cs) H F) (hs : SubL cs cs') (h : LCode C n c Q e ((b, .cells ty cs') :: F)) : LCode C n c Q e H := fun a w L hE hH =>
 Go.wp_mono (h a w L hE (cells_sub hp hs hH)) fun _ _ _ => lift_weak (pick_keys hp)
theorem LOps.perm {ops : Array Oper} {rest : List Oper} {H' : Heap} (s : H.Perm H') (h : LOps C n ops Q rest e H') : LOps C n ops Q rest e H := LOps.weak ⟨[], by simpa using s⟩ h
end
section
variable {C : Ctx} {e : Env} {H : Heap} {dst : Option Nat} {ty : TypeId} {pos : String} {aft : Array Edge} {g : Option (Nat × Bool)} {x : Operand}
/-- A type assertion with two results that holds. -/
theorem Pure.assertOk {t xT : TypeId} [ht : TConcrete C.P t] {vs : List Value} (hx : e.ev x = .atom (.iface t (.agg vs.toArray))) : Pure C ⟨dst, .typeAssert x xT t true, ty, pos, aft, g⟩ e H (.tuple [.agg (vs.map .atom), bool true]) :=
 .of_any fun ρ w L h => ⟨.tuple #[.agg vs.toArray, .bool true], by
  simp only [Rep]
  exact ⟨[.agg vs.toArray, .bool true], rfl, by simp only [RepL, Rep]; exact ⟨_, _, rfl, ⟨vs, rfl, repL_atoms vs⟩, _, _, rfl, rfl, rfl⟩⟩, fun w' => by
  obtain ⟨d, hd, hm⟩ := ht.out
  have h3 : execOp ρ ⟨dst, .typeAssert x xT t true, ty, pos, aft, g⟩ = (do Pure.pure (.value (← Instr.typeAssert (ρ x) xT t true))) := rfl
  rw [h3, atom_of h hx]
  simp only [Instr.typeAssert, Sem.run_bind, run_underlying' hd, Result.andThen_ok]
  cases d <;> simp_all⟩
end
theorem LLate.three {C : Ctx} {n : Nat} {ops : Array Oper} {Q : Post} {HF : Heap} {fuel : Nat} {listed : Array Bool} {e : Env} {H : Heap} {i j k : Nat} (hr : Region.ready .any ops listed = [i, j, k]) (h1 : LLateOp C n ops Q HF fuel listed e H i) (h2 : LLateOp C n ops Q HF fuel listed e H j) (h3 : LLateOp C n ops Q HF fuel listed e H k) : LLate C n ops Q HF (fuel + 1) listed e H :=
 LLate.all hr (by simp) fun q hq => by
  simp only [List.mem_cons, List.not_mem_nil, or_false] at hq
  rcases hq with rfl | rfl | rfl
  ·exact h1
  ·exact h2
  ·exact h3
theorem LLate.four {C : Ctx} {n : Nat} {ops : Array Oper} {Q : Post} {HF : Heap} {fuel : Nat} {listed : Array Bool} {e : Env} {H : Heap} {i j k l : Nat} (hr : Region.ready .any ops listed = [i, j, k, l]) (h1 : LLateOp C n ops Q HF fuel listed e H i) (h2 : LLateOp C n ops Q HF fuel listed e H j) (h3 : LLateOp C n ops Q HF fuel listed e H k) (h4 : LLateOp C n ops Q HF fuel listed e H l) : LLate C n ops Q HF (fuel + 1) listed e H :=
 LLate.all hr (by simp) fun q hq => by
  simp only [List.mem_cons, List.not_mem_nil, or_false] at hq
  rcases hq with rfl | rfl | rfl | rfl
  ·exact h1
  ·exact h2
  ·exact h3
  ·exact h4
theorem strs_len (l : List (List UInt8)) : ∀ v ∈ l.map str, v.cells.length = 1 := fun v hv => by
 obtain ⟨x, _, rfl⟩ := List.mem_map.1 hv
 rfl
theorem strs_ok : ∀ l : List (List UInt8), ((l.map str).flatMap LV.cells).all cellOk = true
 | [] => rfl
 | x :: l => by
  rw [List.map_cons, List.flatMap_cons, List.all_append, strs_ok l]
  rfl
end Go.GL
/- A small logic over the walk's 'Code.wp': structs of a string and an int, compared. -/
namespace Go.GL
open Go.RowKit
section
variable {C : Ctx} {e : Env} {H : Heap} {dst : Option Nat} {ty : TypeId} {pos : String} {aft : Array Edge} {g : Option (Nat × Bool)} {xT yT : TypeId} {x y : Operand}
end
end Go.GL
namespace Go.GL
open Go.RowKit
section
variable {C : Ctx} {n : Nat} {ops : Array Oper} {Q : Post} {HF : Heap} {fuel : Nat} {listed : Array Bool} {e : Env} {H F : Heap} {i : Nat} {dst : Option Nat} {op : Op} {ty : TypeId} {pos : String} {aft : Array Edge}
theorem LLate.weakH {H' : Heap} (s : HSub H' H) (h : LLate C n ops Q HF fuel listed e H') : LLate C n ops Q HF fuel listed e H := fun w0 L0 a w L hL hA hsz hE hH =>
 wpAnyH_mono (fun _ _ _ => lift_weak s.keys) _ _ _ _ (h w0 L0 a w L hL hA hsz hE (hH.weak s))
end
end Go.GL
