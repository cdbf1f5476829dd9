/- Texts joined: RtPrint, ParExt, ParDepth, RtLex. -/
import Derived.KernelRfl
import Derived.Test.YtfodkbchknknjaaGreatDoorBRowU4
import Derived.Test.YtfodkbchknknjaaGreatDoorBRowU6
import Derived.Test.YtfodkbchknknjaaGreatDoorBRowU7
import Derived.Test.YtfodkbchknknjaaGreatDoorBRowU8
set_option linter.unusedVariables false
set_option linter.unusedSimpArgs false
namespace Go.Stele
abbrev KT := Int × List UInt8
def sg (c : UInt8) : KT := (4, [c])
def NameOk (x : List UInt8) : Prop := Again ⟨2, x, 0⟩
mutual
/-- The expression, printed at this level: its tokens, and how many constructs are open within. -/
inductive PE : Ex → Nat → List KT → Nat → Prop
  | num {n k : Nat} (h : n < 4294967296) : PE (.mk nNum n [] []) k [(1, Go.Lib.decDigits n)] 0
  | var {s : List UInt8} {k : Nat} (h : NameOk s) : PE (.mk nVar 0 s []) k [(2, s)] 0
  | elem {s : List UInt8} {k : Nat} {a : Ex} {ts : List KT} {d : Nat} (h : NameOk s) (ha : PE a 0 ts d) : PE (.mk nElem 0 s [a]) k ((2, s) :: sg 91 :: (ts ++ [sg 93])) (d + 1)
  | call {s : List UInt8} {k : Nat} {l : List Ex} {ts : List KT} {d : Nat} (h : NameOk s) (hl : PEs l ts d) : PE (.mk nCall 0 s l) k ((2, s) :: sg 40 :: (ts ++ [sg 41])) (d + 1)
  | neg {k : Nat} {a : Ex} {ts : List KT} {d : Nat} (ha : PE a 6 ts d) : PE (.mk nNeg 0 [] [a]) k (sg 45 :: ts) (d + 1)
  | not {k : Nat} {a : Ex} {ts : List KT} {d : Nat} (ha : PE a 6 ts d) : PE (.mk nNot 0 [] [a]) k (sg 33 :: ts) (d + 1)
  | bin {s k : Nat} {op : List UInt8} {a b : Ex} {t1 t2 : List KT} {d1 d2 : Nat} (hs : s < 6) (ho : op ∈ lvOps s) (hk : k ≤ s) (ha : PE a (leftLv s) t1 d1) (hb : PE b (s + 1) t2 d2) : PE (.mk op 0 [] [a, b]) k (t1 ++ (4, op) :: t2) (max d1 d2)
  | par {s k : Nat} {op : List UInt8} {a b : Ex} {t1 t2 : List KT} {d1 d2 : Nat} (hs : s < 6) (ho : op ∈ lvOps s) (hk : s < k) (ha : PE a (leftLv s) t1 d1) (hb : PE b (s + 1) t2 d2) : PE (.mk op 0 [] [a, b]) k (sg 40 :: ((t1 ++ (4, op) :: t2) ++ [sg 41])) (max d1 d2 + 1)
/-- Expressions with commas between them. -/
inductive PEs : List Ex → List KT → Nat → Prop
  | nil : PEs [] [] 0
  | one {a : Ex} {ts : List KT} {d : Nat} (ha : PE a 0 ts d) : PEs [a] ts d
  | more {a b : Ex} {l : List Ex} {t1 t2 : List KT} {d1 d2 : Nat} (ha : PE a 0 t1 d1) (hl : PEs (b :: l) t2 d2) : PEs (a :: b :: l) (t1 ++ sg 44 :: t2) (max d1 d2)
end
theorem PE.weak {e : Ex} {k k' : Nat} {ts : List KT} {d : Nat} (h : PE e k ts d) (hk : k' ≤ k) : ∃ ts' d', PE e k' ts' d' ∧ ts'.length ≤ ts.length ∧ d' ≤ d := by
  cases h with
  | num h => exact ⟨_, _, .num h, Nat.le_refl _, Nat.le_refl _⟩
  | var h => exact ⟨_, _, .var h, Nat.le_refl _, Nat.le_refl _⟩
  | elem h ha => exact ⟨_, _, .elem h ha, Nat.le_refl _, Nat.le_refl _⟩
  | call h ha => exact ⟨_, _, .call h ha, Nat.le_refl _, Nat.le_refl _⟩
  | neg ha => exact ⟨_, _, .neg ha, Nat.le_refl _, Nat.le_refl _⟩
  | not ha => exact ⟨_, _, .not ha, Nat.le_refl _, Nat.le_refl _⟩
  | bin hs ho hk2 ha hb => exact ⟨_, _, .bin hs ho (by omega) ha hb, Nat.le_refl _, Nat.le_refl _⟩
  | par hs ho hk2 ha hb =>
    rename_i s _ _ _ _ _ _ _
    by_cases h2 : k' ≤ s
    · exact ⟨_, _, .bin hs ho h2 ha hb, by simp only [List.length_append, List.length_cons, List.length_nil]; omega, by omega⟩
    · exact ⟨_, _, .par hs ho (by omega) ha hb, Nat.le_refl _, Nat.le_refl _⟩
theorem PE.paren {e : Ex} {ts : List KT} {d : Nat} (h : PE e 0 ts d) : ∃ ts' d', PE e 6 ts' d' ∧ ts'.length ≤ ts.length + 2 ∧ d' ≤ d + 1 := by
  cases h with
  | num h => exact ⟨_, _, .num h, by omega, by omega⟩
  | var h => exact ⟨_, _, .var h, by omega, by omega⟩
  | elem h ha => exact ⟨_, _, .elem h ha, by omega, by omega⟩
  | call h ha => exact ⟨_, _, .call h ha, by omega, by omega⟩
  | neg ha => exact ⟨_, _, .neg ha, by omega, by omega⟩
  | not ha => exact ⟨_, _, .not ha, by omega, by omega⟩
  | bin hs ho hk2 ha hb => exact ⟨_, _, .par hs ho hs ha hb, by simp only [List.length_append, List.length_cons, List.length_nil]; omega, by omega⟩
  | par hs ho hk2 ha hb => omega
theorem PEs.snoc : ∀ {l : List Ex} {a : Ex} {t0 t1 : List KT} {d0 d1 : Nat}, PEs l t0 d0 → PE a 0 t1 d1 → ∃ t, PEs (l ++ [a]) t (max d0 d1) ∧ t.length = t0.length + (if l = [] then 0 else 1) + t1.length := by
  intro l
  induction l with
  | nil =>
    intro a t0 t1 d0 d1 h h1
    cases h with
    | nil => exact ⟨t1, by rw [Nat.zero_max]; exact .one h1, by simp⟩
  | cons b l ih =>
    intro a t0 t1 d0 d1 h h1
    cases h with
    | one hb => exact ⟨_, .more hb (.one h1), by simp only [List.length_append, List.length_cons]; simp; omega⟩
    | more hb hl =>
      obtain ⟨t, g1, g2⟩ := ih hl h1
      exact ⟨_, by rw [Nat.max_assoc]; exact .more hb g1, by simp only [List.length_append, List.length_cons, g2]; simp; omega⟩
/-! ### What is read can be printed -/
def Wh {A : Type} (P : A → Nat → Nat → Prop) (r : OR A) : Prop := ∀ v i op, r = some (.ok v i op) → P v i op
theorem wh_bind {A B : Type} {r : OR A} {k : A → Nat → Nat → OR B} {P : A → Nat → Nat → Prop} {Q : B → Nat → Nat → Prop} (hr : Wh P r) (hk : ∀ v i op, P v i op → Wh Q (k v i op)) : Wh Q (obind r k) := fun v i op h => by
  rcases obind_some h with ⟨w, i1, op1, h1, h2⟩ | ⟨_, _, _, h2⟩
  · exact hk _ _ _ (hr _ _ _ h1) v i op h2
  · cases h2
theorem wh_any {A B : Type} {r : OR A} {k : A → Nat → Nat → OR B} {Q : B → Nat → Nat → Prop} (hk : ∀ v i op, r = some (.ok v i op) → Wh Q (k v i op)) : Wh Q (obind r k) := wh_bind (fun _ _ _ h => h) hk
theorem wh_ok {A : Type} {P : A → Nat → Nat → Prop} {v : A} {i op : Nat} (h : P v i op) : Wh P (some (.ok v i op)) := fun _ _ _ e => by cases e; exact h
theorem wh_none {A : Type} {P : A → Nat → Nat → Prop} : Wh P none := fun _ _ _ e => by cases e
theorem wh_mono {A : Type} {P Q : A → Nat → Nat → Prop} {r : OR A} (h : Wh P r) (hPQ : ∀ v i op, P v i op → Q v i op) : Wh Q r := fun v i op e => hPQ _ _ _ (h v i op e)
theorem wh_begin {B : Type} {T : List Tok} {x : List UInt8} {i op : Nat} {k : Unit → Nat → Nat → OR B} {Q : B → Nat → Nat → Prop} (hk : op < 100 → Wh Q (k () (i + 1) (op + 1))) : Wh Q (obind (some (sBegin T x i op)) k) := wh_any fun v i1 op1 h => by
  injection h with h
  obtain ⟨rfl, rfl, h3, _⟩ := sBegin_ok h
  exact hk h3
theorem wh_end {B : Type} {T : List Tok} {x : List UInt8} {i op : Nat} {k : Unit → Nat → Nat → OR B} {Q : B → Nat → Nat → Prop} (hk : Wh Q (k () (i + 1) (op - 1))) : Wh Q (obind (some (sEnd T x i op)) k) := wh_any fun v i1 op1 h => by
  injection h with h
  obtain ⟨rfl, rfl, _⟩ := sEnd_ok h
  exact hk
theorem wh_need {B : Type} {T : List Tok} {x : List UInt8} {i op : Nat} {k : Unit → Nat → Nat → OR B} {Q : B → Nat → Nat → Prop} (hk : Wh Q (k () (i + 1) op)) : Wh Q (obind (some (sNeed T x i op)) k) := wh_any fun v i1 op1 h => by
  obtain ⟨rfl, rfl⟩ := nd_need h
  exact hk
theorem word_again {T : List Tok} (hT : ∀ t ∈ T, Again t) {i op i' op' : Nat} {s : List UInt8} (h : sWord T 2 i op = .ok s i' op') : NameOk s ∧ i' = i + 1 ∧ op' = op := by
  unfold sWord at h
  split at h
  · rename_i t ht
    split at h
    · rename_i hk
      cases h
      have := hT t (List.mem_of_getElem? ht)
      refine ⟨?_, rfl, rfl⟩
      unfold NameOk
      unfold Again at this ⊢
      rw [hk] at this
      exact this
    · cases h
  · cases h
theorem wh_name {B : Type} {T : List Tok} (hT : ∀ t ∈ T, Again t) {i op : Nat} {k : List UInt8 → Nat → Nat → OR B} {Q : B → Nat → Nat → Prop} (hk : ∀ s, NameOk s → Wh Q (k s (i + 1) op)) : Wh Q (obind (some (sWord T 2 i op)) k) := wh_any fun v i1 op1 h => by
  injection h with h
  obtain ⟨h1, rfl, rfl⟩ := word_again hT h
  exact hk v h1
theorem numOf_lt (s : List UInt8) : numOf s < 4294967296 := by
  unfold numOf
  split
  · rename_i u h
    exact pu32_lt h
  · decide
theorem wh_number {B : Type} {T : List Tok} {i op : Nat} {k : Nat → Nat → Nat → OR B} {Q : B → Nat → Nat → Prop} (hk : ∀ n, n < 4294967296 → Wh Q (k n (i + 1) op)) : Wh Q (obind (some (sNumber T i op)) k) := wh_any fun v i1 op1 h => by
  injection h with h
  unfold sNumber Res.bind at h
  split at h
  · rename_i h1
    cases h
    obtain ⟨rfl, rfl⟩ := nd_word (congrArg some h1)
    exact hk _ (numOf_lt _)
  · cases h
theorem isTok_text {T : List Tok} {i : Nat} {xs : List (List UInt8)} (h : isTok T i xs = true) : textAt T i ∈ xs := by
  unfold isTok at h
  unfold textAt
  split at h
  · rename_i t ht
    simp only [Bool.and_eq_true] at h
    simpa using h.2
  · cases h
def SE (k i op : Nat) (e : Ex) (i' op' : Nat) : Prop := op' = op ∧ ∃ ts d, PE e k ts d ∧ ts.length + i ≤ i' ∧ d ≤ 100 - op
def SX (i op : Nat) (e : Ex) (i' op' : Nat) : Prop := op' = op ∧ ∃ ts d, PE e 0 ts d ∧ ts.length + 2 + i ≤ i' ∧ d + 1 ≤ 100 - op
def SA (i op : Nat) (l : List Ex) (i' op' : Nat) : Prop := op' = op ∧ ∃ ts d, PEs l ts d ∧ ts.length + 2 + i ≤ i' ∧ d + 1 ≤ 100 - op
def SL (i op : Nat) (l : List Ex) (i' op' : Nat) : Prop := op' = op ∧ ∃ ts d, PEs l ts d ∧ ts.length + i ≤ i' ∧ d ≤ 100 - op
theorem ex_src {T : List Tok} (hT : ∀ t ∈ T, Again t) : ∀ f : Nat, (∀ k i op, k ≤ 6 → Wh (SE k i op) (eLev T f k i op)) ∧ (∀ k e i0 i op ts d, k < 6 → PE e (leftLv k) ts d → ts.length + i0 ≤ i → d ≤ 100 - op → Wh (SE k i0 op) (eLoop T f k e i op)) ∧
    (∀ i op, Wh (SE 6 i op) (eUnary T f i op)) ∧ (∀ i op, Wh (SE 6 i op) (ePrim T f i op)) ∧ (∀ i op, Wh (SX i op) (eIndex T f i op)) ∧ (∀ i op, Wh (SA i op) (eArgs T f i op)) ∧
    (∀ acc i0 i op ts d, PEs acc ts d → ts.length + i0 ≤ i → d ≤ 100 - op → Wh (SL i0 op) (eArgsLoop T f acc i op))
  | 0 => ⟨fun _ _ _ _ => by rw [eLev]; exact wh_none, fun _ _ _ _ _ _ _ _ _ _ _ => by rw [eLoop]; exact wh_none, fun _ _ => by rw [eUnary]; exact wh_none, fun _ _ => by rw [ePrim]; exact wh_none, fun _ _ => by rw [eIndex]; exact wh_none, fun _ _ => by rw [eArgs]; exact wh_none, fun _ _ _ _ _ _ _ _ _ => by rw [eArgsLoop]; exact wh_none⟩
  | f + 1 => by
    obtain ⟨hL, hO, hU, hP, hI, hA, hB⟩ := ex_src hT f
    refine ⟨fun k i op hk => ?_, fun k e i0 i op ts d hk hP0 hts hd => ?_, fun i op => ?_, fun i op => ?_, fun i op => ?_, fun i op => ?_, fun acc i0 i op ts d hP0 hts hd => ?_⟩
    · rw [eLev]
      split
      · rename_i h6
        subst h6
        exact hU i op
      · refine wh_bind (hL (k + 1) i op (by omega)) fun v i' op' h => ?_
        obtain ⟨rfl, ts, d, h1, h2, h3⟩ := h
        obtain ⟨ts', d', g1, g2, g3⟩ := h1.weak (k' := leftLv k) (by unfold leftLv; split <;> omega)
        exact hO k v i i' _ ts' d' (by omega) g1 (by omega) (by omega)
    · rw [eLoop]
      split
      · rename_i ht
        refine wh_bind (hL (k + 1) (i + 1) op (by omega)) fun v i' op' h => ?_
        obtain ⟨rfl, t2, d2, h1, h2, h3⟩ := h
        have hb : PE (.mk (textAt T i) 0 [] [e, v]) k (ts ++ (4, textAt T i) :: t2) (max d d2) := .bin hk (isTok_text ht) (Nat.le_refl _) hP0 h1
        split
        · exact wh_ok ⟨rfl, _, _, hb, by simp only [List.length_append, List.length_cons]; omega, by omega⟩
        · rename_i h22
          refine hO k _ i0 i' _ _ _ hk (by rw [leftLv, if_neg h22]; exact hb) (by simp only [List.length_append, List.length_cons]; omega) (by omega)
      · obtain ⟨ts', d', g1, g2, g3⟩ := hP0.weak (k' := k) (by unfold leftLv; split <;> omega)
        exact wh_ok ⟨rfl, ts', d', g1, by omega, by omega⟩
    · rw [eUnary]
      split
      · refine wh_begin fun ho => wh_bind (hU (i + 1) (op + 1)) fun v i' op' h => ?_
        obtain ⟨rfl, ts, d, h1, h2, h3⟩ := h
        exact wh_ok ⟨by omega, _, _, .neg h1, by simp only [List.length_cons]; omega, by omega⟩
      · split
        · refine wh_begin fun ho => wh_bind (hU (i + 1) (op + 1)) fun v i' op' h => ?_
          obtain ⟨rfl, ts, d, h1, h2, h3⟩ := h
          exact wh_ok ⟨by omega, _, _, .not h1, by simp only [List.length_cons]; omega, by omega⟩
        · exact hP i op
    · rw [ePrim]
      split
      · refine wh_begin fun ho => wh_bind (hL 0 (i + 1) (op + 1) (by omega)) fun v i' op' h => wh_end ?_
        obtain ⟨rfl, ts, d, h1, h2, h3⟩ := h
        obtain ⟨ts', d', g1, g2, g3⟩ := h1.paren
        exact wh_ok ⟨by omega, ts', d', g1, by omega, by omega⟩
      · split
        · exact wh_number fun n hn => wh_ok ⟨rfl, _, _, .num hn, by simp only [List.length_cons, List.length_nil]; omega, by omega⟩
        · refine wh_name hT fun s hs => ?_
          split
          · refine wh_bind (hI (i + 1) op) fun v i' op' h => ?_
            obtain ⟨rfl, ts, d, h1, h2, h3⟩ := h
            exact wh_ok ⟨rfl, _, _, .elem hs h1, by simp only [List.length_cons, List.length_append, List.length_nil]; omega, by omega⟩
          · split
            · refine wh_bind (hA (i + 1) op) fun v i' op' h => ?_
              obtain ⟨rfl, ts, d, h1, h2, h3⟩ := h
              exact wh_ok ⟨rfl, _, _, .call hs h1, by simp only [List.length_cons, List.length_append, List.length_nil]; omega, by omega⟩
            · exact wh_ok ⟨rfl, _, _, .var hs, by simp only [List.length_cons, List.length_nil]; omega, by omega⟩
    · rw [eIndex]
      refine wh_begin fun ho => wh_bind (hL 0 (i + 1) (op + 1) (by omega)) fun v i' op' h => wh_end ?_
      obtain ⟨rfl, ts, d, h1, h2, h3⟩ := h
      exact wh_ok ⟨by omega, ts, d, h1, by omega, by omega⟩
    · rw [eArgs]
      refine wh_begin fun ho => wh_bind (hB [] (i + 1) (i + 1) (op + 1) [] 0 .nil (by simp) (by omega)) fun v i' op' h => wh_end ?_
      obtain ⟨rfl, ts, d, h1, h2, h3⟩ := h
      exact wh_ok ⟨by omega, ts, d, h1, by omega, by omega⟩
    · rw [eArgsLoop]
      split
      · exact wh_ok ⟨rfl, ts, d, hP0, by omega, by omega⟩
      · refine wh_any fun _ i1 op1 h1 => ?_
        have hi : i1 = i + (if acc = [] then 0 else 1) ∧ op1 = op := by
          injection h1 with h1
          split at h1
          · rename_i ha
            cases h1
            rw [if_pos ha]
            exact ⟨rfl, rfl⟩
          · rename_i ha
            rw [if_neg ha]
            exact nd_need (congrArg some h1)
        obtain ⟨rfl, rfl⟩ := hi
        refine wh_bind (hL 0 _ op1 (by omega)) fun v i' op' h => ?_
        obtain ⟨rfl, t2, d2, h1, h2, h3⟩ := h
        obtain ⟨t, g1, g2⟩ := hP0.snoc h1
        exact hB _ i0 i' _ t _ g1 (by omega) (by omega)
/-! ### Statements -/
mutual
inductive PS : Sm → List KT → Nat → Prop
  | assign {s : List UInt8} {e : Ex} {ts : List KT} {d : Nat} (h : NameOk s) (he : PE e 0 ts d) : PS (.mk 1 s [] [e] [] []) ((2, s) :: sg 61 :: (ts ++ [sg 59])) d
  | store {s : List UInt8} {x e : Ex} {t1 t2 : List KT} {d1 d2 : Nat} (h : NameOk s) (hx : PE x 0 t1 d1) (he : PE e 0 t2 d2) : PS (.mk 2 s [x] [e] [] []) ((2, s) :: sg 91 :: (t1 ++ sg 93 :: sg 61 :: (t2 ++ [sg 59]))) (max (d1 + 1) d2)
  | call {s : List UInt8} {l : List Ex} {ts : List KT} {d : Nat} (h : NameOk s) (hl : PEs l ts d) : PS (.mk 6 [] [] [.mk nCall 0 s l] [] []) ((2, s) :: sg 40 :: (ts ++ [sg 41, sg 59])) (d + 1)
  | ret {e : Ex} {ts : List KT} {d : Nat} (he : PE e 0 ts d) : PS (.mk 5 [] [] [e] [] []) ((3, kwReturn) :: (ts ++ [sg 59])) d
  | halt : PS (.mk 7 [] [] [] [] []) [(3, kwHalt), sg 59] 0
  | ifElse {e : Ex} {th el : List Sm} {ts t1 t2 : List KT} {d d1 d2 : Nat} (he : PE e 0 ts d) (h1 : PSs th t1 d1) (h2 : PSs el t2 d2) (hne : el ≠ []) :
      PS (.mk 3 [] [] [e] th el) ((3, kwIf) :: (ts ++ sg 123 :: (t1 ++ sg 125 :: (3, kwElse) :: sg 123 :: (t2 ++ [sg 125])))) (max d (max (d1 + 1) (d2 + 1)))
  | ifThen {e : Ex} {th : List Sm} {ts t1 : List KT} {d d1 : Nat} (he : PE e 0 ts d) (h1 : PSs th t1 d1) : PS (.mk 3 [] [] [e] th []) ((3, kwIf) :: (ts ++ sg 123 :: (t1 ++ [sg 125]))) (max d (d1 + 1))
  | while {e : Ex} {th : List Sm} {ts t1 : List KT} {d d1 : Nat} (he : PE e 0 ts d) (h1 : PSs th t1 d1) : PS (.mk 4 [] [] [e] th []) ((3, kwWhile) :: (ts ++ sg 123 :: (t1 ++ [sg 125]))) (max d (d1 + 1))
inductive PSs : List Sm → List KT → Nat → Prop
  | nil : PSs [] [] 0
  | cons {s : Sm} {l : List Sm} {t1 t2 : List KT} {d1 d2 : Nat} (h : PS s t1 d1) (hl : PSs l t2 d2) : PSs (s :: l) (t1 ++ t2) (max d1 d2)
end
theorem PSs.snoc : ∀ {l : List Sm} {a : Sm} {t0 t1 : List KT} {d0 d1 : Nat}, PSs l t0 d0 → PS a t1 d1 → PSs (l ++ [a]) (t0 ++ t1) (max d0 d1) := by
  intro l
  induction l with
  | nil =>
    intro a t0 t1 d0 d1 h h1
    cases h with
    | nil =>
      have := PSs.cons h1 .nil
      rw [List.append_nil, Nat.max_zero] at this
      rw [Nat.zero_max]
      exact this
  | cons b l ih =>
    intro a t0 t1 d0 d1 h h1
    cases h with
    | cons hb hl =>
      rw [List.append_assoc, Nat.max_assoc]
      exact .cons hb (ih hl h1)
def SS (i op : Nat) (s : Sm) (i' op' : Nat) : Prop := op' = op ∧ ∃ ts d, PS s ts d ∧ ts.length + i ≤ i' ∧ d ≤ 100 - op
/-- A simple statement stands ahead of its semicolon. -/
def SM (i op : Nat) (s : Sm) (i' op' : Nat) : Prop := op' = op ∧ ∃ ts d, PS s ts d ∧ ts.length + i ≤ i' + 1 ∧ d ≤ 100 - op
def SSs (i op : Nat) (s : List Sm) (i' op' : Nat) : Prop := op' = op ∧ ∃ ts d, PSs s ts d ∧ ts.length + i ≤ i' ∧ d ≤ 100 - op
def SB (i op : Nat) (s : List Sm) (i' op' : Nat) : Prop := op' = op ∧ ∃ ts d, PSs s ts d ∧ ts.length + 2 + i ≤ i' ∧ d + 1 ≤ 100 - op
theorem st_src {T : List Tok} (hT : ∀ t ∈ T, Again t) : ∀ f : Nat, (∀ i op, Wh (SB i op) (sBlock T f i op)) ∧ (∀ acc i0 i op ts d, PSs acc ts d → ts.length + i0 ≤ i → d ≤ 100 - op → Wh (SSs i0 op) (sStmts T f acc i op)) ∧
    (∀ i op, Wh (SS i op) (sStmt T f i op)) ∧ (∀ i op, Wh (SM i op) (sSimple T f i op))
  | 0 => ⟨fun _ _ => by rw [sBlock]; exact wh_none, fun _ _ _ _ _ _ _ _ _ => by rw [sStmts]; exact wh_none, fun _ _ => by rw [sStmt]; exact wh_none, fun _ _ => by rw [sSimple]; exact wh_none⟩
  | f + 1 => by
    obtain ⟨hB, hL, hS, hM⟩ := st_src hT f
    obtain ⟨eL, _, _, _, eI, eA, _⟩ := ex_src hT f
    refine ⟨fun i op => ?_, fun acc i0 i op ts d hP0 hts hd => ?_, fun i op => ?_, fun i op => ?_⟩
    · rw [sBlock]
      refine wh_begin fun ho => wh_bind (hL [] (i + 1) (i + 1) (op + 1) [] 0 .nil (by simp) (by omega)) fun v i' op' h => wh_end ?_
      obtain ⟨rfl, ts, d, h1, h2, h3⟩ := h
      exact wh_ok ⟨by omega, ts, d, h1, by omega, by omega⟩
    · rw [sStmts]
      split
      · exact wh_ok ⟨rfl, ts, d, hP0, hts, hd⟩
      · refine wh_bind (hS i op) fun v i' op' h => ?_
        obtain ⟨rfl, t2, d2, h1, h2, h3⟩ := h
        exact hL _ i0 i' _ _ _ (hP0.snoc h1) (by simp only [List.length_append]; omega) (by omega)
    · rw [sStmt]
      split
      · refine wh_bind (eL 0 (i + 1) op (by omega)) fun v i1 op1 h => ?_
        obtain ⟨rfl, t1, d1, g1, g2, g3⟩ := h
        refine wh_bind (hB i1 _) fun th i2 op2 h => ?_
        obtain ⟨rfl, t2, d2, k1, k2, k3⟩ := h
        split
        · refine wh_bind (hB (i2 + 1) _) fun el i3 op3 h => ?_
          obtain ⟨rfl, t3, d3, l1, l2, l3⟩ := h
          by_cases hne : el = []
          · subst hne
            exact wh_ok ⟨rfl, _, _, .ifThen g1 k1, by simp only [List.length_cons, List.length_append, List.length_nil]; omega, by omega⟩
          · exact wh_ok ⟨rfl, _, _, .ifElse g1 k1 l1 hne, by simp only [List.length_cons, List.length_append, List.length_nil]; omega, by omega⟩
        · exact wh_ok ⟨rfl, _, _, .ifThen g1 k1, by simp only [List.length_cons, List.length_append, List.length_nil]; omega, by omega⟩
      · split
        · refine wh_bind (eL 0 (i + 1) op (by omega)) fun v i1 op1 h => ?_
          obtain ⟨rfl, t1, d1, g1, g2, g3⟩ := h
          refine wh_bind (hB i1 _) fun th i2 op2 h => ?_
          obtain ⟨rfl, t2, d2, k1, k2, k3⟩ := h
          exact wh_ok ⟨rfl, _, _, .while g1 k1, by simp only [List.length_cons, List.length_append, List.length_nil]; omega, by omega⟩
        · refine wh_bind (hM i op) fun v i1 op1 h => wh_need ?_
          obtain ⟨rfl, t1, d1, g1, g2, g3⟩ := h
          exact wh_ok ⟨rfl, _, _, g1, by omega, by omega⟩
    · rw [sSimple]
      split
      · refine wh_bind (eL 0 (i + 1) op (by omega)) fun v i1 op1 h => ?_
        obtain ⟨rfl, t1, d1, g1, g2, g3⟩ := h
        exact wh_ok ⟨rfl, _, _, .ret g1, by simp only [List.length_cons, List.length_append, List.length_nil]; omega, by omega⟩
      · split
        · exact wh_ok ⟨rfl, _, _, .halt, by simp only [List.length_cons, List.length_append, List.length_nil]; omega, by omega⟩
        · refine wh_name hT fun s hs => ?_
          split
          · refine wh_bind (eA (i + 1) op) fun v i1 op1 h => ?_
            obtain ⟨rfl, t1, d1, g1, g2, g3⟩ := h
            exact wh_ok ⟨rfl, _, _, .call hs g1, by simp only [List.length_cons, List.length_append, List.length_nil]; omega, by omega⟩
          · split
            · refine wh_bind (eI (i + 1) op) fun v i1 op1 h => wh_need ?_
              obtain ⟨rfl, t1, d1, g1, g2, g3⟩ := h
              refine wh_bind (eL 0 (i1 + 1) _ (by omega)) fun e i2 op2 h => ?_
              obtain ⟨rfl, t2, d2, k1, k2, k3⟩ := h
              exact wh_ok ⟨rfl, _, _, .store hs g1 k1, by simp only [List.length_cons, List.length_append, List.length_nil]; omega, by omega⟩
            · refine wh_need (wh_bind (eL 0 (i + 1 + 1) op (by omega)) fun e i2 op2 h => ?_)
              obtain ⟨rfl, t2, d2, k1, k2, k3⟩ := h
              exact wh_ok ⟨rfl, _, _, .assign hs k1, by simp only [List.length_cons, List.length_append, List.length_nil]; omega, by omega⟩
/-! ### Declarations -/
/-- Names with commas between them. -/
def commas : List (List UInt8) → List KT
  | [] => []
  | [a] => [(2, a)]
  | a :: b :: l => (2, a) :: sg 44 :: commas (b :: l)
theorem commas_len : ∀ l : List (List UInt8), (commas l).length = 2 * l.length - 1
  | [] => rfl
  | [a] => rfl
  | a :: b :: l => by
    rw [commas, List.length_cons, List.length_cons, commas_len (b :: l)]
    simp only [List.length_cons]
    omega
/-- A row of variables declared, if there are any. -/
def varK (l : List (List UInt8)) : List KT := if l = [] then [] else (3, kwVar) :: (commas l ++ [sg 59])
theorem varK_len (l : List (List UInt8)) : (varK l).length = if l = [] then 0 else 2 * l.length + 1 := by
  unfold varK
  split
  · rfl
  · rename_i h
    have : 0 < l.length := List.length_pos_iff.2 h
    simp only [List.length_cons, List.length_append, commas_len, List.length_nil]
    omega
def AllOk (l : List (List UInt8)) : Prop := ∀ x ∈ l, NameOk x
theorem AllOk.app {a b : List (List UInt8)} (ha : AllOk a) (hb : AllOk b) : AllOk (a ++ b) := fun x hx => by
  rcases List.mem_append.1 hx with h | h
  · exact ha x h
  · exact hb x h
inductive PF : FnD → List KT → Nat → Prop
  | mk {nm : List UInt8} {ps ls : List (List UInt8)} {b : List Sm} {ts : List KT} {d : Nat} (h : NameOk nm) (hp : AllOk ps) (hl : AllOk ls) (hb : PSs b ts d) :
      PF ⟨nm, ps, ls, b⟩ ((3, kwFunc) :: (2, nm) :: sg 40 :: (commas ps ++ sg 41 :: sg 123 :: (varK ls ++ (ts ++ [sg 125])))) (d + 1)
inductive PFs : List FnD → List KT → Prop
  | nil : PFs [] []
  | cons {f : FnD} {l : List FnD} {t1 t2 : List KT} {d : Nat} (h : PF f t1 d) (hd : d ≤ 100) (hl : PFs l t2) : PFs (f :: l) (t1 ++ t2)
def arK (a : Ar) : List KT := [(3, kwArray), (2, a.name), sg 91, (1, Go.Lib.decDigits a.size), sg 93, sg 59]
def ArsOk (l : List Ar) : Prop := ∀ a ∈ l, NameOk a.name ∧ a.size < 4294967296
/-- A program, printed. -/
inductive PP : Pr → List KT → Prop
  | mk {v : List (List UInt8)} {a : List Ar} {f : List FnD} {ts : List KT} (hv : AllOk v) (ha : ArsOk a) (hf : PFs f ts) : PP ⟨v, a, f⟩ (varK v ++ ((a.map arK).flatten ++ ts))
theorem PFs.snoc : ∀ {l : List FnD} {a : FnD} {t0 t1 : List KT} {d : Nat}, PFs l t0 → PF a t1 d → d ≤ 100 → PFs (l ++ [a]) (t0 ++ t1) := by
  intro l
  induction l with
  | nil =>
    intro a t0 t1 d h h1 hd
    cases h with
    | nil =>
      have := PFs.cons h1 hd .nil
      rw [List.append_nil] at this
      exact this
  | cons b l ih =>
    intro a t0 t1 d h h1 hd
    cases h with
    | cons hb hd' hl =>
      rw [List.append_assoc]
      exact .cons hb hd' (ih hl h1 hd)
theorem namesLoop_src {T : List Tok} (hT : ∀ t ∈ T, Again t) : ∀ (f : Nat) (acc : List (List UInt8)) (i op : Nat), AllOk acc → Wh (fun l i' op' => op' = op ∧ AllOk l ∧ acc.length ≤ l.length ∧ 2 * l.length + i ≤ 2 * acc.length + i') (sNamesLoop T f acc i op)
  | 0, _, _, _, _ => by rw [sNamesLoop]; exact wh_none
  | f + 1, acc, i, op, ha => by
    rw [sNamesLoop]
    split
    · refine wh_name hT fun s hs => wh_mono (namesLoop_src hT f (acc ++ [s]) (i + 1 + 1) op (ha.app fun x hx => by cases List.mem_singleton.1 hx; exact hs)) fun l i' op' h => ?_
      obtain ⟨rfl, h1, h2, h3⟩ := h
      rw [List.length_append, List.length_singleton] at h2 h3
      exact ⟨rfl, h1, by omega, by omega⟩
    · exact wh_ok ⟨rfl, ha, Nat.le_refl _, by omega⟩
theorem names_src {T : List Tok} (hT : ∀ t ∈ T, Again t) (f i op : Nat) : Wh (fun l i' op' => op' = op ∧ AllOk l ∧ 0 < l.length ∧ 2 * l.length + i ≤ 1 + i') (sNames T f i op) :=
  wh_name hT fun s hs => wh_mono (namesLoop_src hT f [s] (i + 1) op fun x hx => by cases List.mem_singleton.1 hx; exact hs) fun l i' op' h => by
    obtain ⟨rfl, h1, h2, h3⟩ := h
    rw [List.length_singleton] at h2 h3
    exact ⟨rfl, h1, by omega, by omega⟩
theorem vars_src {T : List Tok} (hT : ∀ t ∈ T, Again t) : ∀ (f : Nat) (acc : List (List UInt8)) (i op : Nat), AllOk acc → Wh (fun l i' op' => op' = op ∧ AllOk l ∧ acc.length ≤ l.length ∧ (if acc.length = l.length then i ≤ i' else 2 * l.length + 1 + i ≤ 2 * acc.length + i')) (sVars T f acc i op)
  | 0, _, _, _, _ => by rw [sVars]; exact wh_none
  | f + 1, acc, i, op, ha => by
    rw [sVars]
    split
    · refine wh_bind (names_src hT f (i + 1) op) fun l i1 op1 h => wh_need ?_
      obtain ⟨rfl, h1, h2, h3⟩ := h
      refine wh_mono (vars_src hT f (acc ++ l) (i1 + 1) _ (ha.app h1)) fun l2 i' op' h => ?_
      obtain ⟨rfl, g1, g2, g3⟩ := h
      rw [List.length_append] at g2 g3
      refine ⟨rfl, g1, by omega, ?_⟩
      rw [if_neg (by omega)]
      split at g3 <;> omega
    · exact wh_ok ⟨rfl, ha, Nat.le_refl _, by rw [if_pos rfl]; omega⟩
theorem func_src {T : List Tok} (hT : ∀ t ∈ T, Again t) (f i : Nat) : Wh (fun a i' op' => op' = 0 ∧ ∃ ts d, PF a ts d ∧ d ≤ 100 ∧ ts.length + i ≤ i' + 1) (sFunc T f i 0) := by
  unfold sFunc
  refine wh_name hT fun nm hnm => wh_begin fun _ => wh_bind (P := fun ps i' op' => op' = 1 ∧ AllOk ps ∧ 2 * ps.length - 1 + (i + 1 + 1) ≤ i') ?_ fun ps i1 op1 h => wh_end (wh_begin fun _ => ?_)
  · split
    · exact wh_ok ⟨rfl, (fun x hx => by cases hx), by simp⟩
    · exact wh_mono (names_src hT f _ _) fun l i' op' h => ⟨h.1, h.2.1, by omega⟩
  obtain ⟨rfl, h1, h2⟩ := h
  refine wh_bind (vars_src hT f [] _ _ fun x hx => by cases hx) fun ls i2 op2 h => ?_
  obtain ⟨rfl, g1, _, g3⟩ := h
  refine wh_bind ((st_src hT f).2.1 [] i2 i2 _ [] 0 .nil (by simp) (by omega)) fun b i3 op3 h => wh_end ?_
  obtain ⟨rfl, ts, d, k1, k2, k3⟩ := h
  refine wh_ok ⟨by omega, _, _, .mk hnm h1 g1 k1, by omega, ?_⟩
  simp only [List.length_cons, List.length_append, List.length_nil, commas_len, varK_len] at g3 ⊢
  by_cases hl : ls = []
  · subst hl
    simp only [List.length_nil, if_pos] at g3 ⊢
    omega
  · have : ¬ 0 = ls.length := fun h => hl (List.eq_nil_of_length_eq_zero h.symm)
    rw [if_neg this] at g3
    rw [if_neg hl]
    omega
theorem array_src {T : List Tok} (hT : ∀ t ∈ T, Again t) (i : Nat) : Wh (fun a i' op' => op' = 0 ∧ NameOk a.name ∧ a.size < 4294967296 ∧ 5 + i ≤ i') (sArray T i 0) := by
  unfold sArray
  exact wh_name hT fun nm hnm => wh_begin fun _ => wh_number fun n hn => wh_end (wh_need (wh_ok ⟨rfl, hnm, hn, by omega⟩))
/-- How many tokens a program takes at least. -/
def ntK (v : Nat) (a : Nat) (t : Nat) : Nat := (if v = 0 then 0 else 2 * v + 1) + 6 * a + t
theorem prog_src {T : List Tok} (hT : ∀ t ∈ T, Again t) : ∀ (f : Nat) (v : List (List UInt8)) (a : List Ar) (fs : List FnD) (ts : List KT) (i : Nat), AllOk v → ArsOk a → PFs fs ts → ntK v.length a.length ts.length ≤ i → i ≤ T.length →
    Wh (fun q _ _ => ∃ v' a' f' t', q = ⟨v', a', f'⟩ ∧ AllOk v' ∧ ArsOk a' ∧ PFs f' t' ∧ ntK v'.length a'.length t'.length ≤ T.length) (sProg T f ⟨v, a, fs⟩ i 0)
  | 0, _, _, _, _, _, _, _, _, _, _ => by rw [sProg]; exact wh_none
  | f + 1, v, a, fs, ts, i, hv, ha, hf, hi, hT' => by
    rw [sProg]
    split
    · exact wh_ok ⟨_, _, _, _, rfl, hv, ha, hf, by omega⟩
    rename_i hlt
    split
    · rename_i hw
      refine wh_any fun l i1 op1 h1 => ?_
      have hg := (sVars_good T f [] i 0 _ h1).2.2.1 hT'
      obtain ⟨rfl, g1, _, g3⟩ := vars_src hT f [] i 0 (fun x hx => by cases hx) _ _ _ h1
      refine prog_src hT f (v ++ l) a fs ts i1 (hv.app g1) ha hf ?_ hg
      rw [List.length_append]
      simp only [List.length_nil] at g3
      unfold ntK at hi ⊢
      split at g3
      · rename_i h0
        rw [← h0, Nat.add_zero]
        omega
      · rw [if_neg (by omega)]
        split at hi <;> omega
    · split
      · refine wh_any fun l i1 op1 h1 => ?_
        have hg := (sArray_good T (i + 1) 0 _ h1).2.2.1 (by omega)
        obtain ⟨rfl, g1, g2, g3⟩ := array_src hT (i + 1) _ _ _ h1
        refine prog_src hT f v (a ++ [l]) fs ts i1 hv (fun x hx => ?_) hf ?_ hg
        · rcases List.mem_append.1 hx with h | h
          · exact ha x h
          · cases List.mem_singleton.1 h; exact ⟨g1, g2⟩
        · rw [List.length_append, List.length_singleton]
          unfold ntK at hi ⊢
          omega
      · split
        · refine wh_any fun l i1 op1 h1 => ?_
          have hg := (sFunc_good T f (i + 1) 0 _ h1).2.2.1 (by omega)
          obtain ⟨rfl, t1, d, g1, g2, g3⟩ := func_src hT f (i + 1) _ _ _ h1
          refine prog_src hT f v a (fs ++ [l]) (ts ++ t1) i1 hv ha (hf.snoc g1 g2) ?_ hg
          rw [List.length_append]
          unfold ntK at hi ⊢
          omega
        · exact fun _ _ _ e => by cases e
theorem arK_len : ∀ a : List Ar, ((a.map arK).flatten).length = 6 * a.length
  | [] => rfl
  | a :: l => by
    rw [List.map_cons, List.flatten_cons, List.length_append, arK_len l, List.length_cons]
    simp only [arK, List.length_cons, List.length_nil]
    omega
/-- What is parsed can be printed with no more tokens. -/
theorem src_print {T : List Tok} (hT : ∀ t ∈ T, Again t) {f i op : Nat} {p : Pr} (h : sProg T f ⟨[], [], []⟩ 0 0 = some (.ok p i op)) : ∃ ts, PP p ts ∧ ts.length ≤ T.length := by
  obtain ⟨v, a, fs, t, rfl, h1, h2, h3, h4⟩ := prog_src hT f [] [] [] [] 0 (fun x hx => by cases hx) (fun x hx => by cases hx) .nil (by simp [ntK]) (Nat.zero_le _) _ _ _ h
  refine ⟨_, .mk h1 h2 h3, ?_⟩
  simp only [List.length_append, varK_len, arK_len]
  unfold ntK at h4
  by_cases hv : v = []
  · subst hv
    simp only [List.length_nil, if_pos] at h4 ⊢
    omega
  · have : ¬ v.length = 0 := fun h => hv (List.eq_nil_of_length_eq_zero h)
    rw [if_neg this] at h4
    rw [if_neg hv]
    omega
end Go.Stele
namespace Go.Stele
/-- Nothing changes but that more is told. -/
def LeO {A : Type} (r r' : OR A) : Prop := ∀ q, r = some q → r' = some q
theorem LeO.rfl' {A : Type} {r : OR A} : LeO r r := fun _ h => h
theorem LeO.none {A : Type} {r : OR A} : LeO none r := fun _ h => by cases h
theorem LeO.bind {A B : Type} {r r' : OR A} {f f' : A → Nat → Nat → OR B} (h : LeO r r') (hf : ∀ v i op, LeO (f v i op) (f' v i op)) : LeO (obind r f) (obind r' f') := fun q hq => by
  rcases obind_some hq with ⟨v, i, op, h1, h2⟩ | ⟨l, e, h1, rfl⟩
  · rw [h _ h1]
    exact hf _ _ _ _ h2
  · rw [h _ h1]
    rfl
theorem LeO.ite {A : Type} {c : Prop} [Decidable c] {a b a' b' : OR A} (h1 : LeO a a') (h2 : LeO b b') : LeO (if c then a else b) (if c then a' else b') := by
  split
  · exact h1
  · exact h2
theorem namesLoop_le (T : List Tok) : ∀ (f g : Nat) (acc : List (List UInt8)) (i op : Nat), f ≤ g → LeO (sNamesLoop T f acc i op) (sNamesLoop T g acc i op)
  | 0, _, _, _, _, _ => LeO.none
  | f + 1, 0, _, _, _, h => by omega
  | f + 1, g + 1, acc, i, op, h => by
    rw [sNamesLoop, sNamesLoop]
    exact LeO.ite (LeO.bind LeO.rfl' fun v i op => namesLoop_le T f g _ i op (by omega)) LeO.rfl'
theorem names_le (T : List Tok) (f g i op : Nat) (h : f ≤ g) : LeO (sNames T f i op) (sNames T g i op) := LeO.bind LeO.rfl' fun v i op => namesLoop_le T f g _ i op h
theorem ex_le (T : List Tok) : ∀ f g : Nat, f ≤ g → (∀ k i op, LeO (eLev T f k i op) (eLev T g k i op)) ∧ (∀ k e i op, LeO (eLoop T f k e i op) (eLoop T g k e i op)) ∧ (∀ i op, LeO (eUnary T f i op) (eUnary T g i op)) ∧
    (∀ i op, LeO (ePrim T f i op) (ePrim T g i op)) ∧ (∀ i op, LeO (eIndex T f i op) (eIndex T g i op)) ∧ (∀ i op, LeO (eArgs T f i op) (eArgs T g i op)) ∧ (∀ acc i op, LeO (eArgsLoop T f acc i op) (eArgsLoop T g acc i op))
  | 0, g, _ => ⟨fun _ _ _ => by rw [eLev]; exact LeO.none, fun _ _ _ _ => by rw [eLoop]; exact LeO.none, fun _ _ => by rw [eUnary]; exact LeO.none, fun _ _ => by rw [ePrim]; exact LeO.none, fun _ _ => by rw [eIndex]; exact LeO.none, fun _ _ => by rw [eArgs]; exact LeO.none, fun _ _ _ => by rw [eArgsLoop]; exact LeO.none⟩
  | f + 1, 0, h => by omega
  | f + 1, g + 1, h => by
    obtain ⟨hL, hO, hU, hP, hI, hA, hB⟩ := ex_le T f g (by omega)
    refine ⟨fun k i op => ?_, fun k e i op => ?_, fun i op => ?_, fun i op => ?_, fun i op => ?_, fun i op => ?_, fun acc i op => ?_⟩
    · rw [eLev, eLev]
      exact LeO.ite (hU _ _) (LeO.bind (hL _ _ _) fun _ _ _ => hO _ _ _ _)
    · rw [eLoop, eLoop]
      exact LeO.ite (LeO.bind (hL _ _ _) fun _ _ _ => LeO.ite LeO.rfl' (hO _ _ _ _)) LeO.rfl'
    · rw [eUnary, eUnary]
      exact LeO.ite (LeO.bind LeO.rfl' fun _ _ _ => LeO.bind (hU _ _) fun _ _ _ => LeO.rfl') (LeO.ite (LeO.bind LeO.rfl' fun _ _ _ => LeO.bind (hU _ _) fun _ _ _ => LeO.rfl') (hP _ _))
    · rw [ePrim, ePrim]
      exact LeO.ite (LeO.bind LeO.rfl' fun _ _ _ => LeO.bind (hL _ _ _) fun _ _ _ => LeO.rfl') (LeO.ite LeO.rfl' (LeO.bind LeO.rfl' fun _ _ _ => LeO.ite (LeO.bind (hI _ _) fun _ _ _ => LeO.rfl') (LeO.ite (LeO.bind (hA _ _) fun _ _ _ => LeO.rfl') LeO.rfl')))
    · rw [eIndex, eIndex]
      exact LeO.bind LeO.rfl' fun _ _ _ => LeO.bind (hL _ _ _) fun _ _ _ => LeO.rfl'
    · rw [eArgs, eArgs]
      exact LeO.bind LeO.rfl' fun _ _ _ => LeO.bind (hB _ _ _) fun _ _ _ => LeO.rfl'
    · rw [eArgsLoop, eArgsLoop]
      exact LeO.ite LeO.rfl' (LeO.bind LeO.rfl' fun _ _ _ => LeO.bind (hL _ _ _) fun _ _ _ => hB _ _ _)
theorem st_le (T : List Tok) : ∀ f g : Nat, f ≤ g → (∀ i op, LeO (sBlock T f i op) (sBlock T g i op)) ∧ (∀ acc i op, LeO (sStmts T f acc i op) (sStmts T g acc i op)) ∧ (∀ i op, LeO (sStmt T f i op) (sStmt T g i op)) ∧ (∀ i op, LeO (sSimple T f i op) (sSimple T g i op))
  | 0, g, _ => ⟨fun _ _ => by rw [sBlock]; exact LeO.none, fun _ _ _ => by rw [sStmts]; exact LeO.none, fun _ _ => by rw [sStmt]; exact LeO.none, fun _ _ => by rw [sSimple]; exact LeO.none⟩
  | f + 1, 0, h => by omega
  | f + 1, g + 1, h => by
    obtain ⟨hB, hS, hT, hM⟩ := st_le T f g (by omega)
    obtain ⟨hL, _, _, _, hI, hA, _⟩ := ex_le T f g (by omega)
    refine ⟨fun i op => ?_, fun acc i op => ?_, fun i op => ?_, fun i op => ?_⟩
    · rw [sBlock, sBlock]
      exact LeO.bind LeO.rfl' fun _ _ _ => LeO.bind (hS _ _ _) fun _ _ _ => LeO.rfl'
    · rw [sStmts, sStmts]
      exact LeO.ite LeO.rfl' (LeO.bind (hT _ _) fun _ _ _ => hS _ _ _)
    · rw [sStmt, sStmt]
      exact LeO.ite (LeO.bind (hL _ _ _) fun _ _ _ => LeO.bind (hB _ _) fun _ _ _ => LeO.ite (LeO.bind (hB _ _) fun _ _ _ => LeO.rfl') LeO.rfl') (LeO.ite (LeO.bind (hL _ _ _) fun _ _ _ => LeO.bind (hB _ _) fun _ _ _ => LeO.rfl') (LeO.bind (hM _ _) fun _ _ _ => LeO.rfl'))
    · rw [sSimple, sSimple]
      exact LeO.ite (LeO.bind (hL _ _ _) fun _ _ _ => LeO.rfl') (LeO.ite LeO.rfl' (LeO.bind LeO.rfl' fun _ _ _ => LeO.ite (LeO.bind (hA _ _) fun _ _ _ => LeO.rfl') (LeO.ite (LeO.bind (hI _ _) fun _ _ _ => LeO.bind LeO.rfl' fun _ _ _ => LeO.bind (hL _ _ _) fun _ _ _ => LeO.rfl') (LeO.bind LeO.rfl' fun _ _ _ => LeO.bind (hL _ _ _) fun _ _ _ => LeO.rfl'))))
theorem vars_le (T : List Tok) : ∀ (f g : Nat) (acc : List (List UInt8)) (i op : Nat), f ≤ g → LeO (sVars T f acc i op) (sVars T g acc i op)
  | 0, _, _, _, _, _ => LeO.none
  | f + 1, 0, _, _, _, h => by omega
  | f + 1, g + 1, acc, i, op, h => by
    rw [sVars, sVars]
    exact LeO.ite (LeO.bind (names_le T f g _ _ (by omega)) fun _ _ _ => LeO.bind LeO.rfl' fun _ _ _ => vars_le T f g _ _ _ (by omega)) LeO.rfl'
theorem func_le (T : List Tok) (f g i op : Nat) (h : f ≤ g) : LeO (sFunc T f i op) (sFunc T g i op) := by
  unfold sFunc
  exact LeO.bind LeO.rfl' fun _ _ _ => LeO.bind LeO.rfl' fun _ _ _ => LeO.bind (LeO.ite LeO.rfl' (names_le T f g _ _ h)) fun _ _ _ => LeO.bind LeO.rfl' fun _ _ _ => LeO.bind LeO.rfl' fun _ _ _ =>
    LeO.bind (vars_le T f g _ _ _ h) fun _ _ _ => LeO.bind ((st_le T f g h).2.1 _ _ _) fun _ _ _ => LeO.rfl'
theorem prog_le (T : List Tok) : ∀ (f g : Nat) (p : Pr) (i op : Nat), f ≤ g → LeO (sProg T f p i op) (sProg T g p i op)
  | 0, _, _, _, _, _ => LeO.none
  | f + 1, 0, _, _, _, h => by omega
  | f + 1, g + 1, p, i, op, h => by
    rw [sProg, sProg]
    exact LeO.ite LeO.rfl' (LeO.ite (LeO.bind (vars_le T f g _ _ _ (by omega)) fun _ _ _ => prog_le T f g _ _ _ (by omega)) (LeO.ite (LeO.bind LeO.rfl' fun _ _ _ => prog_le T f g _ _ _ (by omega))
      (LeO.ite (LeO.bind (func_le T f g _ _ (by omega)) fun _ _ _ => prog_le T f g _ _ _ (by omega)) LeO.rfl')))
/-- Up to place m, T's tokens stand in T' too, d places later. -/
def Ag (T T' : List Tok) (d m : Nat) : Prop := ∀ j, j < m → ∃ t t', T[j]? = some t ∧ T'[j + d]? = some t' ∧ t'.kind = t.kind ∧ t'.text = t.text
section
variable {T T' : List Tok} {d m : Nat}
theorem Ag.isTok (h : Ag T T' d m) {i : Nat} (hi : i < m) (xs : List (List UInt8)) : isTok T' (i + d) xs = isTok T i xs := by
  obtain ⟨t, t', h1, h2, h3, h4⟩ := h i hi
  unfold Go.Stele.isTok
  rw [h1, h2]
  simp only [h3, h4]
theorem Ag.text (h : Ag T T' d m) {i : Nat} (hi : i < m) : textAt T' (i + d) = textAt T i := by
  obtain ⟨t, t', h1, h2, h3, h4⟩ := h i hi
  unfold textAt
  rw [h1, h2]
  exact h4
theorem Ag.kind (h : Ag T T' d m) {i : Nat} (hi : i < m) : kindAt T' (i + d) = kindAt T i := by
  obtain ⟨t, t', h1, h2, h3, h4⟩ := h i hi
  unfold kindAt
  rw [h1, h2]
  exact h3
/-- What r computes, starting at i, r' computes d places later, where the place that r comes to lies ahead of m (at m, if r reads nothing behind what it takes). -/
def Ext {A : Type} (d m : Nat) (b : Bool) (i : Nat) (r r' : OR A) : Prop := ∀ v i' op', r = some (.ok v i' op') → i ≤ i' ∧ (b = true → i < i') ∧ (i' < m ∨ (b = true ∧ i' ≤ m) → r' = some (.ok v (i' + d) op'))
theorem Ext.none {A : Type} {b : Bool} {i : Nat} {r' : OR A} : Ext d m b i none r' := fun _ _ _ h => by cases h
theorem Ext.ok {A : Type} {i op : Nat} {v : A} : Ext d m false i (some (.ok v i op)) (some (.ok v (i + d) op)) := fun _ _ _ h => by
  cases h
  exact ⟨Nat.le_refl _, by simp, fun _ => rfl⟩
theorem Ext.bind {A B : Type} {b1 b : Bool} {i : Nat} {r r' : OR A} {f f' : A → Nat → Nat → OR B} (hr : Ext d m b1 i r r') (hf : ∀ v i1 op1, i ≤ i1 → (b1 = true → i < i1) → Ext d m b i1 (f v i1 op1) (f' v (i1 + d) op1)) :
    Ext d m b i (obind r f) (obind r' f') := fun v i' op' h => by
  rcases obind_some h with ⟨w, i1, op1, h1, h2⟩ | ⟨l, e, _, h1⟩
  · obtain ⟨g1, g2, g3⟩ := hr _ _ _ h1
    obtain ⟨k1, k2, k3⟩ := hf _ _ op1 g1 g2 _ _ _ h2
    refine ⟨by omega, fun hb => by have := k2 hb; omega, fun hm => ?_⟩
    rw [g3 (.inl (by
      rcases hm with hm | ⟨hb, hm⟩
      · omega
      · have := k2 hb; omega))]
    exact k3 hm
  · cases h1
theorem Ext.weak {A : Type} {b : Bool} {i j : Nat} {r r' : OR A} (h : Ext d m b j r r') (hij : i ≤ j) : Ext d m b i r r' := fun v i' op' hv => by
  obtain ⟨g1, g2, g3⟩ := h _ _ _ hv
  exact ⟨by omega, fun hb => by have := g2 hb; omega, g3⟩
theorem Ext.soft {A : Type} {b : Bool} {i : Nat} {r r' : OR A} (h : Ext d m true i r r') : Ext d m b i r r' := fun v i' op' hv => by
  obtain ⟨g1, g2, g3⟩ := h _ _ _ hv
  exact ⟨g1, fun _ => g2 rfl, fun hm => g3 (.inr ⟨rfl, by rcases hm with hm | hm <;> omega⟩)⟩
theorem Ext.eq {A : Type} {b : Bool} {i : Nat} {r r' r2 : OR A} (h : Ext d m b i r r') (he : i < m → r2 = r') : Ext d m b i r r2 := fun v i' op' hv => by
  obtain ⟨g1, g2, g3⟩ := h _ _ _ hv
  refine ⟨g1, g2, fun hm => ?_⟩
  rw [he (by
    rcases hm with hm | ⟨hb, hm⟩
    · omega
    · have := g2 hb; omega)]
  exact g3 hm
theorem Ext.ite {A : Type} {b : Bool} {i : Nat} {c c' : Prop} [Decidable c] [Decidable c'] {x y x' y' : OR A} (hc : i < m → (c' ↔ c)) (hx : c → Ext d m b i x x') (hy : ¬c → Ext d m b i y y') :
    Ext d m b i (if c then x else y) (if c' then x' else y') := by
  by_cases h : c
  · refine Ext.eq (r' := x') ?_ fun hi => by rw [if_pos ((hc hi).2 h)]
    rw [if_pos h]
    exact hx h
  · refine Ext.eq (r' := y') ?_ fun hi => by rw [if_neg (fun hh => h ((hc hi).1 hh))]
    rw [if_neg h]
    exact hy h
theorem Ext.tok {A : Type} {b : Bool} (hA : Ag T T' d m) {i : Nat} {xs : List (List UInt8)} {x y x' y' : OR A} (hx : Ext d m b i x x') (hy : Ext d m b i y y') :
    Ext d m b i (if isTok T i xs then x else y) (if isTok T' (i + d) xs then x' else y') := Ext.ite (fun hi => by rw [hA.isTok hi]) (fun _ => hx) (fun _ => hy)
theorem word_ext (hA : Ag T T' d m) (k : Int) (i op : Nat) : Ext d m true i (some (sWord T k i op)) (some (sWord T' k (i + d) op)) := fun v i' op' h => by
  unfold sWord at h
  split at h
  · rename_i t ht
    split at h
    · rename_i hk
      cases h
      refine ⟨by omega, fun _ => by omega, fun hm => ?_⟩
      obtain ⟨t1, t', h1, h2, h3, h4⟩ := hA i (by omega)
      rw [ht] at h1
      cases h1
      unfold sWord
      rw [h2]
      simp only [h3, h4, if_pos hk]
      rw [show i + d + 1 = i + 1 + d by omega]
    · cases h
  · cases h
theorem need_ext (hA : Ag T T' d m) (x : List UInt8) (i op : Nat) : Ext d m true i (some (sNeed T x i op)) (some (sNeed T' x (i + d) op)) := fun v i' op' h => by
  unfold sNeed at h
  split at h
  · rename_i ht
    cases h
    refine ⟨by omega, fun _ => by omega, fun hm => ?_⟩
    unfold sNeed
    rw [hA.isTok (by omega), if_pos ht, show i + d + 1 = i + 1 + d by omega]
  · cases h
theorem begin_ext (hA : Ag T T' d m) (x : List UInt8) (i op : Nat) : Ext d m true i (some (sBegin T x i op)) (some (sBegin T' x (i + d) op)) := fun v i' op' h => by
  unfold sBegin at h
  split at h
  · rename_i ht
    split at h
    · cases h
    · rename_i ho
      cases h
      refine ⟨by omega, fun _ => by omega, fun hm => ?_⟩
      unfold sBegin
      rw [hA.isTok (by omega), if_pos ht, if_neg ho, show i + d + 1 = i + 1 + d by omega]
  · cases h
theorem end_ext (hA : Ag T T' d m) (x : List UInt8) (i op : Nat) : Ext d m true i (some (sEnd T x i op)) (some (sEnd T' x (i + d) op)) := fun v i' op' h => by
  unfold sEnd sNeed at h
  split at h
  · rename_i ht
    cases h
    refine ⟨by omega, fun _ => by omega, fun hm => ?_⟩
    unfold sEnd sNeed
    rw [hA.isTok (by omega), if_pos ht, show i + d + 1 = i + 1 + d by omega]
    rfl
  · cases h
theorem number_ext (hA : Ag T T' d m) (i op : Nat) : Ext d m true i (some (sNumber T i op)) (some (sNumber T' (i + d) op)) := fun v i' op' h => by
  have h0 := word_ext hA 1 i op
  unfold sNumber at h
  cases hw : sWord T 1 i op with
  | err l e => rw [hw] at h; cases h
  | ok s i1 op1 =>
    rw [hw] at h
    cases h
    obtain ⟨g1, g2, g3⟩ := h0 _ _ _ (congrArg some hw)
    refine ⟨g1, g2, fun hm => ?_⟩
    have := g3 hm
    injection this with this
    unfold sNumber
    rw [this]
    rfl
theorem namesLoop_ext (hA : Ag T T' d m) : ∀ (f g : Nat) (acc : List (List UInt8)) (i op : Nat), f ≤ g → Ext d m false i (sNamesLoop T f acc i op) (sNamesLoop T' g acc (i + d) op)
  | 0, _, _, _, _, _ => Ext.none
  | f + 1, 0, _, _, _, h => by omega
  | f + 1, g + 1, acc, i, op, h => by
    rw [sNamesLoop, sNamesLoop]
    refine Ext.tok hA (Ext.bind (b1 := true) ?_ fun v i1 op1 _ _ => namesLoop_ext hA f g _ _ _ (by omega)) Ext.ok
    rw [show i + d + 1 = i + 1 + d by omega]
    exact (word_ext hA 2 (i + 1) op).weak (by omega)
theorem names_ext (hA : Ag T T' d m) (f g i op : Nat) (h : f ≤ g) : Ext d m false i (sNames T f i op) (sNames T' g (i + d) op) :=
  Ext.bind (word_ext hA 2 i op) fun v i1 op1 _ _ => namesLoop_ext hA f g _ _ _ h
/-- What stands between two signs. -/
theorem wrap_ext (hA : Ag T T' d m) {A B : Type} {x y : List UInt8} {i op : Nat} {g g' : Nat → Nat → OR A} {k : A → B} {b : Bool} (hg : ∀ i1 op1, i ≤ i1 → Ext d m b i1 (g i1 op1) (g' (i1 + d) op1)) :
    Ext d m true i (obind (some (sBegin T x i op)) fun _ i' op' => obind (g i' op') fun v i' op' => obind (some (sEnd T y i' op')) fun _ i' op' => some (.ok (k v) i' op'))
      (obind (some (sBegin T' x (i + d) op)) fun _ i' op' => obind (g' i' op') fun v i' op' => obind (some (sEnd T' y i' op')) fun _ i' op' => some (.ok (k v) i' op')) := by
  refine Ext.bind (begin_ext hA x i op) fun _ i1 op1 h1 _ => Ext.bind (hg i1 op1 h1) fun v i2 op2 h2 _ => ?_
  intro w i' op' h
  rcases obind_some h with ⟨u, i3, op3, h3, h4⟩ | ⟨l, e, _, h4⟩
  · cases h4
    obtain ⟨g1, g2, g3⟩ := end_ext hA y i2 op2 _ _ _ h3
    refine ⟨g1, g2, fun hm => ?_⟩
    rw [g3 hm]
    rfl
  · cases h4
theorem ex_ext (hA : Ag T T' d m) : ∀ f g : Nat, f ≤ g → (∀ k i op, Ext d m false i (eLev T f k i op) (eLev T' g k (i + d) op)) ∧ (∀ k e i op, Ext d m false i (eLoop T f k e i op) (eLoop T' g k e (i + d) op)) ∧
    (∀ i op, Ext d m false i (eUnary T f i op) (eUnary T' g (i + d) op)) ∧ (∀ i op, Ext d m false i (ePrim T f i op) (ePrim T' g (i + d) op)) ∧ (∀ i op, Ext d m true i (eIndex T f i op) (eIndex T' g (i + d) op)) ∧
    (∀ i op, Ext d m true i (eArgs T f i op) (eArgs T' g (i + d) op)) ∧ (∀ acc i op, Ext d m false i (eArgsLoop T f acc i op) (eArgsLoop T' g acc (i + d) op))
  | 0, g, _ => ⟨fun _ _ _ => by rw [eLev]; exact Ext.none, fun _ _ _ _ => by rw [eLoop]; exact Ext.none, fun _ _ => by rw [eUnary]; exact Ext.none, fun _ _ => by rw [ePrim]; exact Ext.none, fun _ _ => by rw [eIndex]; exact Ext.none, fun _ _ => by rw [eArgs]; exact Ext.none, fun _ _ _ => by rw [eArgsLoop]; exact Ext.none⟩
  | f + 1, 0, h => by omega
  | f + 1, g + 1, h => by
    obtain ⟨hL, hO, hU, hP, hI, hR, hB⟩ := ex_ext hA f g (by omega)
    refine ⟨fun k i op => ?_, fun k e i op => ?_, fun i op => ?_, fun i op => ?_, fun i op => ?_, fun i op => ?_, fun acc i op => ?_⟩
    · rw [eLev, eLev]
      exact Ext.ite (fun _ => Iff.rfl) (fun _ => hU _ _) (fun _ => Ext.bind (hL _ _ _) fun _ _ _ _ _ => hO _ _ _ _)
    · rw [eLoop, eLoop]
      refine Ext.tok hA ?_ Ext.ok
      refine Ext.eq (r' := obind (eLev T' g (k + 1) (i + d + 1) op) fun e2 i' op' => if k = 2 then some (.ok (.mk (textAt T i) 0 [] [e, e2]) i' op') else eLoop T' g k (.mk (textAt T i) 0 [] [e, e2]) i' op') ?_ fun hi => by rw [hA.text hi]
      rw [show i + d + 1 = i + 1 + d by omega]
      exact Ext.bind ((hL _ _ _).weak (by omega)) fun _ _ _ _ _ => Ext.ite (fun _ => Iff.rfl) (fun _ => Ext.ok) (fun _ => hO _ _ _ _)
    · rw [eUnary, eUnary]
      exact Ext.tok hA (Ext.bind (begin_ext hA _ _ _) fun _ _ _ _ _ => Ext.bind (hU _ _) fun _ _ _ _ _ => Ext.ok) (Ext.tok hA (Ext.bind (begin_ext hA _ _ _) fun _ _ _ _ _ => Ext.bind (hU _ _) fun _ _ _ _ _ => Ext.ok) (hP _ _))
    · rw [ePrim, ePrim]
      refine Ext.tok hA (wrap_ext (k := fun e => e) (g := eLev T f 0) (g' := eLev T' g 0) hA fun _ _ _ => hL 0 _ _).soft ?_
      refine Ext.ite (fun hi => by rw [hA.kind hi]) (fun _ => Ext.bind (number_ext hA _ _) fun _ _ _ _ _ => Ext.ok) (fun _ => ?_)
      exact Ext.bind (word_ext hA 2 _ _) fun _ _ _ _ _ => Ext.tok hA (Ext.bind (hI _ _) fun _ _ _ _ _ => Ext.ok) (Ext.tok hA (Ext.bind (hR _ _) fun _ _ _ _ _ => Ext.ok) Ext.ok)
    · rw [eIndex, eIndex]
      exact wrap_ext (k := fun e => e) (g := eLev T f 0) (g' := eLev T' g 0) hA fun _ _ _ => hL 0 _ _
    · rw [eArgs, eArgs]
      exact wrap_ext (k := fun e => e) (g := eArgsLoop T f []) (g' := eArgsLoop T' g []) hA fun _ _ _ => hB [] _ _
    · rw [eArgsLoop, eArgsLoop]
      refine Ext.tok hA Ext.ok (Ext.bind (b1 := false) ?_ fun _ _ _ _ _ => Ext.bind (hL _ _ _) fun _ _ _ _ _ => hB _ _ _)
      split
      · exact Ext.ok
      · exact (need_ext hA _ _ _).soft
theorem st_ext (hA : Ag T T' d m) : ∀ f g : Nat, f ≤ g → (∀ i op, Ext d m true i (sBlock T f i op) (sBlock T' g (i + d) op)) ∧ (∀ acc i op, Ext d m false i (sStmts T f acc i op) (sStmts T' g acc (i + d) op)) ∧
    (∀ i op, Ext d m false i (sStmt T f i op) (sStmt T' g (i + d) op)) ∧ (∀ i op, Ext d m false i (sSimple T f i op) (sSimple T' g (i + d) op))
  | 0, g, _ => ⟨fun _ _ => by rw [sBlock]; exact Ext.none, fun _ _ _ => by rw [sStmts]; exact Ext.none, fun _ _ => by rw [sStmt]; exact Ext.none, fun _ _ => by rw [sSimple]; exact Ext.none⟩
  | f + 1, 0, h => by omega
  | f + 1, g + 1, h => by
    obtain ⟨hB, hS, hT, hM⟩ := st_ext hA f g (by omega)
    obtain ⟨hL, _, _, _, hI, hR, _⟩ := ex_ext hA f g (by omega)
    refine ⟨fun i op => ?_, fun acc i op => ?_, fun i op => ?_, fun i op => ?_⟩
    · rw [sBlock, sBlock]
      exact wrap_ext (k := fun e => e) (g := sStmts T f []) (g' := sStmts T' g []) hA fun _ _ _ => hS [] _ _
    · rw [sStmts, sStmts]
      exact Ext.tok hA Ext.ok (Ext.bind (hT _ _) fun _ _ _ _ _ => hS _ _ _)
    · rw [sStmt, sStmt]
      rw [show i + d + 1 = i + 1 + d by omega]
      refine Ext.tok hA (Ext.bind ((hL _ _ _).weak (by omega)) fun _ i1 _ _ _ => Ext.bind (hB _ _) fun _ i2 _ _ _ => ?_) (Ext.tok hA (Ext.bind ((hL _ _ _).weak (by omega)) fun _ _ _ _ _ => Ext.bind (hB _ _) fun _ _ _ _ _ => Ext.ok) (Ext.bind (hM _ _) fun _ _ _ _ _ => Ext.bind (need_ext hA _ _ _) fun _ _ _ _ _ => Ext.ok))
      rw [show i2 + d + 1 = i2 + 1 + d by omega]
      exact Ext.tok hA (Ext.bind ((hB _ _).weak (by omega)) fun _ _ _ _ _ => Ext.ok) Ext.ok
    · rw [sSimple, sSimple]
      rw [show i + d + 1 = i + 1 + d by omega]
      exact Ext.tok hA (Ext.bind ((hL _ _ _).weak (by omega)) fun _ _ _ _ _ => Ext.ok) (Ext.tok hA (Ext.weak (Ext.ok (i := i + 1)) (by omega)) (Ext.bind (word_ext hA 2 _ _) fun _ _ _ _ _ => Ext.tok hA (Ext.bind (hR _ _) fun _ _ _ _ _ => Ext.ok)
        (Ext.tok hA (Ext.bind (hI _ _) fun _ _ _ _ _ => Ext.bind (need_ext hA _ _ _) fun _ _ _ _ _ => Ext.bind (hL _ _ _) fun _ _ _ _ _ => Ext.ok) (Ext.bind (need_ext hA _ _ _) fun _ _ _ _ _ => Ext.bind (hL _ _ _) fun _ _ _ _ _ => Ext.ok))))
theorem vars_ext (hA : Ag T T' d m) : ∀ (f g : Nat) (acc : List (List UInt8)) (i op : Nat), f ≤ g → Ext d m false i (sVars T f acc i op) (sVars T' g acc (i + d) op)
  | 0, _, _, _, _, _ => Ext.none
  | f + 1, 0, _, _, _, h => by omega
  | f + 1, g + 1, acc, i, op, h => by
    rw [sVars, sVars, show i + d + 1 = i + 1 + d by omega]
    exact Ext.tok hA (Ext.bind ((names_ext hA f g _ _ (by omega)).weak (by omega)) fun _ _ _ _ _ => Ext.bind (need_ext hA _ _ _) fun _ _ _ _ _ => vars_ext hA f g _ _ _ (by omega)) Ext.ok
/-- A last step that hands on what was computed. -/
theorem last_ext {A B : Type} {i : Nat} {r r' : OR A} {k : A → B} {o : Nat → Nat} (h : Ext d m true i r r') : Ext d m true i (obind r fun v i op => some (.ok (k v) i (o op))) (obind r' fun v i op => some (.ok (k v) i (o op))) := fun w i' op' hw => by
  rcases obind_some hw with ⟨u, i3, op3, h3, h4⟩ | ⟨l, e, _, h4⟩
  · cases h4
    obtain ⟨g1, g2, g3⟩ := h _ _ _ h3
    refine ⟨g1, g2, fun hm => ?_⟩
    rw [g3 hm]
    rfl
  · cases h4
theorem func_ext (hA : Ag T T' d m) (f g i op : Nat) (h : f ≤ g) : Ext d m true i (sFunc T f i op) (sFunc T' g (i + d) op) := by
  unfold sFunc
  refine Ext.bind (word_ext hA 2 _ _) fun _ _ _ _ _ => Ext.bind (begin_ext hA _ _ _) fun _ _ _ _ _ => Ext.bind (b1 := false) (Ext.tok hA Ext.ok (names_ext hA f g _ _ h)) fun _ _ _ _ _ => Ext.bind (end_ext hA _ _ _) fun _ _ _ _ _ =>
    Ext.bind (begin_ext hA _ _ _) fun _ _ _ _ _ => Ext.bind (vars_ext hA f g _ _ _ h) fun _ _ _ _ _ => Ext.bind ((st_ext hA f g h).2.1 _ _ _) fun _ _ _ _ _ => last_ext (o := fun x => x) (end_ext hA _ _ _)
theorem array_ext (hA : Ag T T' d m) (i op : Nat) : Ext d m true i (sArray T i op) (sArray T' (i + d) op) := by
  unfold sArray
  refine Ext.bind (word_ext hA 2 _ _) fun _ _ _ _ _ => Ext.bind (begin_ext hA _ _ _) fun _ _ _ _ _ => Ext.bind (number_ext hA _ _) fun _ _ _ _ _ => Ext.bind (end_ext hA _ _ _) fun _ _ _ _ _ => last_ext (o := fun x => x) (need_ext hA _ _ _)
end
/-- An error has a number that is not 0. -/
def EN {A : Type} (r : OR A) : Prop := ∀ l e, r = some (.err l e) → ¬ e = 0
theorem EN.none {A : Type} : EN (none : OR A) := fun _ _ h => by cases h
theorem EN.ok {A : Type} {v : A} {i op : Nat} : EN (some (.ok v i op)) := fun _ _ h => by cases h
theorem EN.bind {A B : Type} {r : OR A} {f : A → Nat → Nat → OR B} (h : EN r) (hf : ∀ v i op, EN (f v i op)) : EN (obind r f) := fun l e hq => by
  rcases obind_some hq with ⟨v, i, op, _, h2⟩ | ⟨l', e', h1, h2⟩
  · exact hf _ _ _ _ _ h2
  · cases h2
    exact h _ _ h1
theorem EN.ite {A : Type} {c : Prop} [Decidable c] {a b : OR A} (h1 : EN a) (h2 : EN b) : EN (if c then a else b) := by
  split
  · exact h1
  · exact h2
theorem EN.syn {A : Type} {T : List Tok} {i : Nat} : EN (A := A) (some (synErr T i)) := fun l e h => by
  cases h
  decide
theorem EN.word {T : List Tok} {k : Int} {i op : Nat} : EN (some (sWord T k i op)) := by
  unfold sWord
  split
  · split
    · exact EN.ok
    · exact EN.syn
  · exact EN.syn
theorem EN.need {T : List Tok} {x : List UInt8} {i op : Nat} : EN (some (sNeed T x i op)) := by
  unfold sNeed
  split
  · exact EN.ok
  · exact EN.syn
theorem EN.begin {T : List Tok} {x : List UInt8} {i op : Nat} : EN (some (sBegin T x i op)) := by
  unfold sBegin
  split
  · split
    · intro l e h
      cases h
      decide
    · exact EN.ok
  · exact EN.syn
theorem EN.end' {T : List Tok} {x : List UInt8} {i op : Nat} : EN (some (sEnd T x i op)) := by
  unfold sEnd sNeed
  split
  · exact EN.ok
  · exact EN.syn
theorem EN.number {T : List Tok} {i op : Nat} : EN (some (sNumber T i op)) := by
  unfold sNumber sWord
  split
  · split
    · exact EN.ok
    · exact EN.syn
  · exact EN.syn
theorem namesLoop_en (T : List Tok) : ∀ (f : Nat) (acc : List (List UInt8)) (i op : Nat), EN (sNamesLoop T f acc i op)
  | 0, _, _, _ => EN.none
  | f + 1, acc, i, op => by
    rw [sNamesLoop]
    exact EN.ite (EN.bind EN.word fun _ _ _ => namesLoop_en T f _ _ _) EN.ok
theorem names_en (T : List Tok) (f i op : Nat) : EN (sNames T f i op) := EN.bind EN.word fun _ _ _ => namesLoop_en T f _ _ _
theorem ex_en (T : List Tok) : ∀ f : Nat, (∀ k i op, EN (eLev T f k i op)) ∧ (∀ k e i op, EN (eLoop T f k e i op)) ∧ (∀ i op, EN (eUnary T f i op)) ∧ (∀ i op, EN (ePrim T f i op)) ∧ (∀ i op, EN (eIndex T f i op)) ∧ (∀ i op, EN (eArgs T f i op)) ∧ (∀ acc i op, EN (eArgsLoop T f acc i op))
  | 0 => ⟨fun _ _ _ => by rw [eLev]; exact EN.none, fun _ _ _ _ => by rw [eLoop]; exact EN.none, fun _ _ => by rw [eUnary]; exact EN.none, fun _ _ => by rw [ePrim]; exact EN.none, fun _ _ => by rw [eIndex]; exact EN.none, fun _ _ => by rw [eArgs]; exact EN.none, fun _ _ _ => by rw [eArgsLoop]; exact EN.none⟩
  | f + 1 => by
    obtain ⟨hL, hO, hU, hP, hI, hA, hB⟩ := ex_en T f
    refine ⟨fun k i op => ?_, fun k e i op => ?_, fun i op => ?_, fun i op => ?_, fun i op => ?_, fun i op => ?_, fun acc i op => ?_⟩
    · rw [eLev]
      exact EN.ite (hU _ _) (EN.bind (hL _ _ _) fun _ _ _ => hO _ _ _ _)
    · rw [eLoop]
      exact EN.ite (EN.bind (hL _ _ _) fun _ _ _ => EN.ite EN.ok (hO _ _ _ _)) EN.ok
    · rw [eUnary]
      exact EN.ite (EN.bind EN.begin fun _ _ _ => EN.bind (hU _ _) fun _ _ _ => EN.ok) (EN.ite (EN.bind EN.begin fun _ _ _ => EN.bind (hU _ _) fun _ _ _ => EN.ok) (hP _ _))
    · rw [ePrim]
      exact EN.ite (EN.bind EN.begin fun _ _ _ => EN.bind (hL _ _ _) fun _ _ _ => EN.bind EN.end' fun _ _ _ => EN.ok) (EN.ite (EN.bind EN.number fun _ _ _ => EN.ok) (EN.bind EN.word fun _ _ _ => EN.ite (EN.bind (hI _ _) fun _ _ _ => EN.ok) (EN.ite (EN.bind (hA _ _) fun _ _ _ => EN.ok) EN.ok)))
    · rw [eIndex]
      exact EN.bind EN.begin fun _ _ _ => EN.bind (hL _ _ _) fun _ _ _ => EN.bind EN.end' fun _ _ _ => EN.ok
    · rw [eArgs]
      exact EN.bind EN.begin fun _ _ _ => EN.bind (hB _ _ _) fun _ _ _ => EN.bind EN.end' fun _ _ _ => EN.ok
    · rw [eArgsLoop]
      refine EN.ite EN.ok (EN.bind ?_ fun _ _ _ => EN.bind (hL _ _ _) fun _ _ _ => hB _ _ _)
      split
      · exact EN.ok
      · exact EN.need
theorem st_en (T : List Tok) : ∀ f : Nat, (∀ i op, EN (sBlock T f i op)) ∧ (∀ acc i op, EN (sStmts T f acc i op)) ∧ (∀ i op, EN (sStmt T f i op)) ∧ (∀ i op, EN (sSimple T f i op))
  | 0 => ⟨fun _ _ => by rw [sBlock]; exact EN.none, fun _ _ _ => by rw [sStmts]; exact EN.none, fun _ _ => by rw [sStmt]; exact EN.none, fun _ _ => by rw [sSimple]; exact EN.none⟩
  | f + 1 => by
    obtain ⟨hB, hS, hT, hM⟩ := st_en T f
    obtain ⟨hL, _, _, _, hI, hA, _⟩ := ex_en T f
    refine ⟨fun i op => ?_, fun acc i op => ?_, fun i op => ?_, fun i op => ?_⟩
    · rw [sBlock]
      exact EN.bind EN.begin fun _ _ _ => EN.bind (hS _ _ _) fun _ _ _ => EN.bind EN.end' fun _ _ _ => EN.ok
    · rw [sStmts]
      exact EN.ite EN.ok (EN.bind (hT _ _) fun _ _ _ => hS _ _ _)
    · rw [sStmt]
      exact EN.ite (EN.bind (hL _ _ _) fun _ _ _ => EN.bind (hB _ _) fun _ _ _ => EN.ite (EN.bind (hB _ _) fun _ _ _ => EN.ok) EN.ok) (EN.ite (EN.bind (hL _ _ _) fun _ _ _ => EN.bind (hB _ _) fun _ _ _ => EN.ok) (EN.bind (hM _ _) fun _ _ _ => EN.bind EN.need fun _ _ _ => EN.ok))
    · rw [sSimple]
      exact EN.ite (EN.bind (hL _ _ _) fun _ _ _ => EN.ok) (EN.ite EN.ok (EN.bind EN.word fun _ _ _ => EN.ite (EN.bind (hA _ _) fun _ _ _ => EN.ok) (EN.ite (EN.bind (hI _ _) fun _ _ _ => EN.bind EN.need fun _ _ _ => EN.bind (hL _ _ _) fun _ _ _ => EN.ok) (EN.bind EN.need fun _ _ _ => EN.bind (hL _ _ _) fun _ _ _ => EN.ok))))
theorem vars_en (T : List Tok) : ∀ (f : Nat) (acc : List (List UInt8)) (i op : Nat), EN (sVars T f acc i op)
  | 0, _, _, _ => EN.none
  | f + 1, acc, i, op => by
    rw [sVars]
    exact EN.ite (EN.bind (names_en T f _ _) fun _ _ _ => EN.bind EN.need fun _ _ _ => vars_en T f _ _ _) EN.ok
theorem func_en (T : List Tok) (f i op : Nat) : EN (sFunc T f i op) := by
  unfold sFunc
  exact EN.bind EN.word fun _ _ _ => EN.bind EN.begin fun _ _ _ => EN.bind (EN.ite EN.ok (names_en T f _ _)) fun _ _ _ => EN.bind EN.end' fun _ _ _ => EN.bind EN.begin fun _ _ _ => EN.bind (vars_en T f _ _ _) fun _ _ _ => EN.bind ((st_en T f).2.1 _ _ _) fun _ _ _ => EN.bind EN.end' fun _ _ _ => EN.ok
theorem array_en (T : List Tok) (i op : Nat) : EN (sArray T i op) := by
  unfold sArray
  exact EN.bind EN.word fun _ _ _ => EN.bind EN.begin fun _ _ _ => EN.bind EN.number fun _ _ _ => EN.bind EN.end' fun _ _ _ => EN.bind EN.need fun _ _ _ => EN.ok
theorem prog_en (T : List Tok) : ∀ (f : Nat) (p : Pr) (i op : Nat), EN (sProg T f p i op)
  | 0, _, _, _ => EN.none
  | f + 1, p, i, op => by
    rw [sProg]
    exact EN.ite EN.ok (EN.ite (EN.bind (vars_en T f _ _ _) fun _ _ _ => prog_en T f _ _ _) (EN.ite (EN.bind (array_en T _ _) fun _ _ _ => prog_en T f _ _ _) (EN.ite (EN.bind (func_en T f _ _) fun _ _ _ => prog_en T f _ _ _) EN.syn)))
end Go.Stele
namespace Go.Stele
/-- From place z up to place m, T's tokens stand in T' too, d places later; at m stand two signs that no expression goes on with. -/
structure Brk (T T' : List Tok) (d z m : Nat) : Prop where
  ag : ∀ j, z ≤ j → j < m → ∃ t t', T[j]? = some t ∧ T'[j + d]? = some t' ∧ t'.kind = t.kind ∧ t'.text = t.text
  kind : kindAt T' (m + d) = kindAt T m
  tok : ∀ xs : List (List UInt8), xs.contains [59] = false → xs.contains [41] = false → isTok T' (m + d) xs = isTok T m xs
  par : isTok T m [[41]] = false
/-- What r computes, starting at i with op open constructs, r' computes d places later with c more. -/
def PR {A : Type} (d c z m i op : Nat) (r r' : OR A) : Prop := ∀ v i' op', r = some (.ok v i' op') → i ≤ i' ∧ (z ≤ i → i' ≤ m → op + c + (m - i) ≤ 100 → op' + c + (m - i') ≤ 100 ∧ r' = some (.ok v (i' + d) (op' + c)))
section
variable {T T' : List Tok} {d c z m : Nat}
theorem PR.none {A : Type} {i op : Nat} {r' : OR A} : PR d c z m i op none r' := fun _ _ _ h => by cases h
theorem PR.ok {A : Type} {i op : Nat} {v : A} : PR d c z m i op (some (.ok v i op)) (some (.ok v (i + d) (op + c))) := fun _ _ _ h => by
  cases h
  exact ⟨Nat.le_refl _, fun _ _ h => ⟨h, rfl⟩⟩
theorem PR.bind {A B : Type} {i op : Nat} {r r' : OR A} {f f' : A → Nat → Nat → OR B} (hr : PR d c z m i op r r') (hf : ∀ v i1 op1, r = some (.ok v i1 op1) → i ≤ i1 → PR d c z m i1 op1 (f v i1 op1) (f' v (i1 + d) (op1 + c))) :
    PR d c z m i op (obind r f) (obind r' f') := fun v i' op' h => by
  rcases obind_some h with ⟨w, i1, op1, h1, h2⟩ | ⟨l, e, _, h1⟩
  · obtain ⟨g1, g2⟩ := hr _ _ _ h1
    obtain ⟨k1, k2⟩ := hf _ _ _ h1 g1 _ _ _ h2
    refine ⟨by omega, fun hz hm ho => ?_⟩
    obtain ⟨g3, g4⟩ := g2 hz (by omega) ho
    obtain ⟨k3, k4⟩ := k2 (by omega) hm g3
    exact ⟨k3, by rw [g4]; exact k4⟩
  · cases h1
theorem PR.eq {A : Type} {i op : Nat} {r r' r2 : OR A} (h : PR d c z m i op r r') (he : z ≤ i → i ≤ m → r2 = r') : PR d c z m i op r r2 := fun v i' op' hv => by
  obtain ⟨g1, g2⟩ := h _ _ _ hv
  refine ⟨g1, fun hz hm ho => ?_⟩
  rw [he hz (by omega)]
  exact g2 hz hm ho
theorem PR.weak {A : Type} {i j op : Nat} {r r' : OR A} (h : PR d c z m j op r r') (hij : i ≤ j) : PR d c z m i op r r' := fun v i' op' hv => by
  obtain ⟨g1, g2⟩ := h _ _ _ hv
  exact ⟨by omega, fun hz hm ho => g2 (by omega) hm (by omega)⟩
theorem PR.weakEq {A : Type} {i j op : Nat} {r r' r2 : OR A} (hij : i ≤ j) (he : z ≤ i → j ≤ m → r2 = r') (h : PR d c z m j op r r') : PR d c z m i op r r2 := fun v i' op' hv => by
  obtain ⟨g1, g2⟩ := h _ _ _ hv
  refine ⟨by omega, fun hz hm ho => ?_⟩
  rw [he hz (by omega)]
  exact g2 (by omega) hm (by omega)
theorem PR.ite {A : Type} {i op : Nat} {c1 c2 : Prop} [Decidable c1] [Decidable c2] {x y x' y' : OR A} (hc : z ≤ i → i ≤ m → (c2 ↔ c1)) (hx : c1 → PR d c z m i op x x') (hy : ¬c1 → PR d c z m i op y y') :
    PR d c z m i op (if c1 then x else y) (if c2 then x' else y') := by
  by_cases h : c1
  · refine PR.eq (r' := x') ?_ fun hz hi => by rw [if_pos ((hc hz hi).2 h)]
    rw [if_pos h]
    exact hx h
  · refine PR.eq (r' := y') ?_ fun hz hi => by rw [if_neg (fun hh => h ((hc hz hi).1 hh))]
    rw [if_neg h]
    exact hy h
theorem Brk.at (hB : Brk T T' d z m) {i : Nat} (hz : z ≤ i) (hi : i < m) (xs : List (List UInt8)) : isTok T' (i + d) xs = Go.Stele.isTok T i xs := by
  obtain ⟨t, t', h1, h2, h3, h4⟩ := hB.ag i hz hi
  unfold Go.Stele.isTok
  rw [h1, h2]
  simp only [h3, h4]
theorem Brk.text (hB : Brk T T' d z m) {i : Nat} (hz : z ≤ i) (hi : i < m) : textAt T' (i + d) = textAt T i := by
  obtain ⟨t, t', h1, h2, h3, h4⟩ := hB.ag i hz hi
  unfold textAt
  rw [h1, h2]
  exact h4
theorem Brk.isTok (hB : Brk T T' d z m) {i : Nat} (hz : z ≤ i) (hi : i ≤ m) {xs : List (List UInt8)} (h1 : xs.contains [59] = false) (h2 : xs.contains [41] = false) : isTok T' (i + d) xs = isTok T i xs := by
  rcases Nat.lt_or_ge i m with h | h
  · exact hB.at hz h xs
  · obtain rfl : i = m := by omega
    exact hB.tok xs h1 h2
theorem Brk.kindAt (hB : Brk T T' d z m) {i : Nat} (hz : z ≤ i) (hi : i ≤ m) : kindAt T' (i + d) = Go.Stele.kindAt T i := by
  rcases Nat.lt_or_ge i m with h | h
  · obtain ⟨t, t', h1, h2, h3, h4⟩ := hB.ag i hz h
    unfold Go.Stele.kindAt
    rw [h1, h2]
    exact h3
  · obtain rfl : i = m := by omega
    exact hB.kind
theorem PR.tok {A : Type} (hB : Brk T T' d z m) {i op : Nat} {xs : List (List UInt8)} {x y x' y' : OR A} (h1 : xs.contains [59] = false) (h2 : xs.contains [41] = false) (hx : PR d c z m i op x x') (hy : PR d c z m i op y y') :
    PR d c z m i op (if isTok T i xs then x else y) (if isTok T' (i + d) xs then x' else y') := PR.ite (fun hz hi => by rw [hB.isTok hz hi h1 h2]) (fun _ => hx) (fun _ => hy)
theorem word_par (hB : Brk T T' d z m) (k : Int) (i op : Nat) : PR d c z m i op (some (sWord T k i op)) (some (sWord T' k (i + d) (op + c))) := fun v i' op' h => by
  unfold sWord at h
  split at h
  · rename_i t ht
    split at h
    · rename_i hk
      cases h
      refine ⟨by omega, fun hz hm ho => ⟨by omega, ?_⟩⟩
      obtain ⟨t1, t', h1, h2, h3, h4⟩ := hB.ag i hz (by omega)
      rw [ht] at h1
      cases h1
      unfold sWord
      rw [h2]
      simp only [h3, h4, if_pos hk]
      rw [show i + d + 1 = i + 1 + d by omega]
    · cases h
  · cases h
theorem need_par (hB : Brk T T' d z m) (x : List UInt8) (i op : Nat) : PR d c z m i op (some (sNeed T x i op)) (some (sNeed T' x (i + d) (op + c))) := fun v i' op' h => by
  unfold sNeed at h
  split at h
  · rename_i ht
    cases h
    refine ⟨by omega, fun hz hm ho => ⟨by omega, ?_⟩⟩
    unfold sNeed
    rw [hB.at hz (by omega), if_pos ht, show i + d + 1 = i + 1 + d by omega]
  · cases h
theorem begin_par (hB : Brk T T' d z m) (x : List UInt8) (i op : Nat) : PR d c z m i op (some (sBegin T x i op)) (some (sBegin T' x (i + d) (op + c))) := fun v i' op' h => by
  unfold sBegin at h
  split at h
  · rename_i ht
    split at h
    · cases h
    · rename_i hop
      cases h
      refine ⟨by omega, fun hz hm ho => ⟨by omega, ?_⟩⟩
      unfold sBegin
      rw [hB.at hz (by omega), if_pos ht, if_neg (by omega), show i + d + 1 = i + 1 + d by omega, show op + c + 1 = op + 1 + c by omega]
  · cases h
theorem end_par (hB : Brk T T' d z m) (x : List UInt8) (i op : Nat) (hop : 0 < op) : PR d c z m i op (some (sEnd T x i op)) (some (sEnd T' x (i + d) (op + c))) := fun v i' op' h => by
  unfold sEnd sNeed at h
  split at h
  · rename_i ht
    cases h
    refine ⟨by omega, fun hz hm ho => ⟨by omega, ?_⟩⟩
    unfold sEnd sNeed
    rw [hB.at hz (by omega), if_pos ht, show i + d + 1 = i + 1 + d by omega]
    show some (Res.ok () (i + 1 + d) (op + c - 1)) = _
    rw [show op + c - 1 = op - 1 + c by omega]
  · cases h
theorem number_par (hB : Brk T T' d z m) (i op : Nat) : PR d c z m i op (some (sNumber T i op)) (some (sNumber T' (i + d) (op + c))) := fun v i' op' h => by
  have h0 := word_par (c := c) hB 1 i op
  unfold sNumber at h
  cases hw : sWord T 1 i op with
  | err l e => rw [hw] at h; cases h
  | ok s i1 op1 =>
    rw [hw] at h
    cases h
    obtain ⟨g1, g2⟩ := h0 _ _ _ (congrArg some hw)
    refine ⟨g1, fun hz hm ho => ?_⟩
    obtain ⟨g3, g4⟩ := g2 hz hm ho
    refine ⟨g3, ?_⟩
    injection g4 with g4
    unfold sNumber
    rw [g4]
    rfl
/-- What stands between two signs. -/
theorem wrap_par (hB : Brk T T' d z m) {A : Type} {x y : List UInt8} {i op : Nat} {g g' : Nat → Nat → OR A} {s : Bool} (hgood : ∀ i1 op1, GoodO T s i1 op1 (g i1 op1)) (hg : ∀ i1 op1, PR d c z m i1 op1 (g i1 op1) (g' (i1 + d) (op1 + c))) :
    PR d c z m i op (obind (some (sBegin T x i op)) fun _ i' op' => obind (g i' op') fun v i' op' => obind (some (sEnd T y i' op')) fun _ i' op' => some (.ok v i' op'))
      (obind (some (sBegin T' x (i + d) (op + c))) fun _ i' op' => obind (g' i' op') fun v i' op' => obind (some (sEnd T' y i' op')) fun _ i' op' => some (.ok v i' op')) := by
  refine PR.bind (begin_par hB x i op) fun _ i1 op1 h1 _ => PR.bind (hg i1 op1) fun v i2 op2 h2 _ => PR.bind (end_par hB y i2 op2 ?_) fun _ i3 op3 _ _ => PR.ok
  injection h1 with h1
  obtain ⟨_, k2, _, _⟩ := sBegin_ok h1
  have := (hgood i1 op1 _ h2).2.2.2
  omega
theorem un_par (hB : Brk T T' d z m) {x nm : List UInt8} {i op : Nat} {g g' : Nat → Nat → OR Ex} {s : Bool} (hgood : ∀ i1 op1, GoodO T s i1 op1 (g i1 op1)) (hg : ∀ i1 op1, PR d c z m i1 op1 (g i1 op1) (g' (i1 + d) (op1 + c))) :
    PR d c z m i op (obind (some (sBegin T x i op)) fun _ i' op' => obind (g i' op') fun e i' op' => some (.ok (Ex.mk nm 0 [] [e]) i' (op' - 1)))
      (obind (some (sBegin T' x (i + d) (op + c))) fun _ i' op' => obind (g' i' op') fun e i' op' => some (.ok (Ex.mk nm 0 [] [e]) i' (op' - 1))) := by
  refine PR.bind (begin_par hB x i op) fun _ i1 op1 h1 _ => PR.bind (hg i1 op1) fun v i2 op2 h2 _ => ?_
  injection h1 with h1
  obtain ⟨_, k2, _, _⟩ := sBegin_ok h1
  have := (hgood i1 op1 _ h2).2.2.2
  intro w i' op' hw
  cases hw
  exact ⟨Nat.le_refl _, fun _ _ ho => ⟨by omega, by rw [show op2 + c - 1 = op2 - 1 + c by omega]⟩⟩
theorem lv_no (k : Nat) : (lvOps k).contains [59] = false ∧ (lvOps k).contains [41] = false := by
  unfold lvOps
  split <;> decide
theorem ex_par (hB : Brk T T' d z m) : ∀ f g : Nat, f ≤ g → (∀ k i op, PR d c z m i op (eLev T f k i op) (eLev T' g k (i + d) (op + c))) ∧ (∀ k e i op, PR d c z m i op (eLoop T f k e i op) (eLoop T' g k e (i + d) (op + c))) ∧
    (∀ i op, PR d c z m i op (eUnary T f i op) (eUnary T' g (i + d) (op + c))) ∧ (∀ i op, PR d c z m i op (ePrim T f i op) (ePrim T' g (i + d) (op + c))) ∧ (∀ i op, PR d c z m i op (eIndex T f i op) (eIndex T' g (i + d) (op + c))) ∧
    (∀ i op, PR d c z m i op (eArgs T f i op) (eArgs T' g (i + d) (op + c))) ∧ (∀ acc i op, PR d c z m i op (eArgsLoop T f acc i op) (eArgsLoop T' g acc (i + d) (op + c)))
  | 0, g, _ => ⟨fun _ _ _ => by rw [eLev]; exact PR.none, fun _ _ _ _ => by rw [eLoop]; exact PR.none, fun _ _ => by rw [eUnary]; exact PR.none, fun _ _ => by rw [ePrim]; exact PR.none, fun _ _ => by rw [eIndex]; exact PR.none, fun _ _ => by rw [eArgs]; exact PR.none, fun _ _ _ => by rw [eArgsLoop]; exact PR.none⟩
  | f + 1, 0, h => by omega
  | f + 1, g + 1, h => by
    obtain ⟨hL, hO, hU, hP, hI, hR, hA⟩ := ex_par hB f g (by omega)
    obtain ⟨gL, gO, gU, gP, gI, gR, gA⟩ := ex_good T f
    refine ⟨fun k i op => ?_, fun k e i op => ?_, fun i op => ?_, fun i op => ?_, fun i op => ?_, fun i op => ?_, fun acc i op => ?_⟩
    · rw [eLev, eLev]
      exact PR.ite (fun _ _ => Iff.rfl) (fun _ => hU _ _) (fun _ => PR.bind (hL _ _ _) fun _ _ _ _ _ => hO _ _ _ _)
    · rw [eLoop, eLoop]
      refine PR.tok hB (lv_no k).1 (lv_no k).2 ?_ PR.ok
      refine PR.weakEq (j := i + 1) (r' := obind (eLev T' g (k + 1) (i + d + 1) (op + c)) fun e2 i' op' => if k = 2 then some (.ok (.mk (textAt T i) 0 [] [e, e2]) i' op') else eLoop T' g k (.mk (textAt T i) 0 [] [e, e2]) i' op') (by omega) (fun hz hi => by rw [hB.text hz (by omega)]) ?_
      rw [show i + d + 1 = i + 1 + d by omega]
      exact PR.bind (hL _ _ _) fun _ _ _ _ _ => PR.ite (fun _ _ => Iff.rfl) (fun _ => PR.ok) (fun _ => hO _ _ _ _)
    · rw [eUnary, eUnary]
      exact PR.tok hB (by decide) (by decide) (un_par hB gU hU) (PR.tok hB (by decide) (by decide) (un_par hB gU hU) (hP _ _))
    · rw [ePrim, ePrim]
      refine PR.tok hB (by decide) (by decide) (wrap_par (g := eLev T f 0) (g' := eLev T' g 0) hB (gL 0) (hL 0)) ?_
      refine PR.ite (fun hz hi => by rw [hB.kindAt hz hi]) (fun _ => PR.bind (number_par hB _ _) fun _ _ _ _ _ => PR.ok) (fun _ => ?_)
      exact PR.bind (word_par hB 2 _ _) fun _ _ _ _ _ => PR.tok hB (by decide) (by decide) (PR.bind (hI _ _) fun _ _ _ _ _ => PR.ok) (PR.tok hB (by decide) (by decide) (PR.bind (hR _ _) fun _ _ _ _ _ => PR.ok) PR.ok)
    · rw [eIndex, eIndex]
      exact wrap_par (g := eLev T f 0) (g' := eLev T' g 0) hB (gL 0) (hL 0)
    · rw [eArgs, eArgs]
      exact wrap_par (g := eArgsLoop T f []) (g' := eArgsLoop T' g []) hB (gA []) (hA [])
    · rw [eArgsLoop, eArgsLoop]
      have hrest : PR d c z m i op (obind (some (if acc = [] then .ok () i op else sNeed T [44] i op)) fun _ i' op' => obind (eLev T f 0 i' op') fun e i' op' => eArgsLoop T f (acc ++ [e]) i' op')
          (obind (some (if acc = [] then .ok () (i + d) (op + c) else sNeed T' [44] (i + d) (op + c))) fun _ i' op' => obind (eLev T' g 0 i' op') fun e i' op' => eArgsLoop T' g (acc ++ [e]) i' op') := by
        refine PR.bind ?_ fun _ _ _ _ _ => PR.bind (hL _ _ _) fun _ _ _ _ _ => hA _ _ _
        split
        · exact PR.ok
        · exact need_par hB _ _ _
      by_cases hz : z ≤ i
      case neg =>
        intro v i' op' hv
        have h9 : eArgsLoop T (f + 1) acc i op = some (.ok v i' op') := by rw [eArgsLoop]; exact hv
        exact ⟨((ex_good T (f + 1)).2.2.2.2.2.2 acc i op _ h9).1, fun h => absurd h hz⟩
      rcases Nat.lt_or_ge i m with hi | hi
      · rw [hB.at hz hi]
        exact PR.ite (fun _ _ => Iff.rfl) (fun _ => PR.ok) (fun _ => hrest)
      · intro v i' op' hv
        have hnt : i = m → isTok T i [[41]] = false := fun h => by rw [h]; exact hB.par
        have hge : i < i' ∨ isTok T i [[41]] = true := by
          cases ht : isTok T i [[41]] with
          | true => exact .inr rfl
          | false =>
            rw [ht, if_neg (by decide)] at hv
            refine .inl ?_
            rcases obind_some hv with ⟨u, i1, op1, h1, h2⟩ | ⟨_, _, _, h2⟩
            · have hi1 : i ≤ i1 := by
                split at h1
                · cases h1; exact Nat.le_refl _
                · injection h1 with h1
                  have := sNeed_good T [44] i op
                  rw [h1] at this
                  obtain ⟨k1, _⟩ := this
                  exact k1
              rcases obind_some h2 with ⟨e, i2, op2, h3, h4⟩ | ⟨_, _, _, h4⟩
              · have k1 := (gL 0 i1 op1 _ h3).2.1 rfl
                have k2 := (gA _ i2 op2 _ h4).1
                omega
              · cases h4
            · cases h2
        rcases hge with hge | hge
        · exact ⟨by omega, fun _ hm => by omega⟩
        · have : i ≠ m := fun h => by rw [hnt h] at hge; cases hge
          rw [if_pos hge] at hv
          cases hv
          exact ⟨Nat.le_refl _, fun _ hm => by omega⟩
end
end Go.Stele
/- The parser in plain Lean: a main function with one assignment; parentheses and signs around an operand. -/
set_option maxRecDepth 100000
namespace Go.Stele
def nMain : List UInt8 := [109, 97, 105, 110]
/-- The tokens ahead of the expression. -/
def hd7 : List Tok := [⟨3, kwFunc, 1⟩, ⟨2, nMain, 1⟩, ⟨4, [40], 1⟩, ⟨4, [41], 1⟩, ⟨4, [123], 1⟩, ⟨2, [120], 1⟩, ⟨4, [61], 1⟩]
def asPr (e : Ex) : Pr := ⟨[], [], [⟨nMain, [], [], [.mk 1 [120] [] [e] [] []]⟩]⟩
def pr0 : Pr := ⟨[], [], []⟩
theorem body_eq (X : List Tok) (f : Nat) : sProg (hd7 ++ X) (f + 4) pr0 0 0 = obind (eLev (hd7 ++ X) f 0 7 1) fun e i op => obind (some (sNeed (hd7 ++ X) [59] i op)) fun _ i op =>
    obind (sStmts (hd7 ++ X) (f + 2) [.mk 1 [120] [] [e] [] []] i op) fun b i op => obind (some (sEnd (hd7 ++ X) [125] i op)) fun _ i op => sProg (hd7 ++ X) (f + 3) ⟨[], [], [⟨nMain, [], [], b⟩]⟩ i op := by
  have e1 : sProg (hd7 ++ X) (f + 4) pr0 0 0 = obind (sFunc (hd7 ++ X) (f + 3) 1 0) fun a i op => sProg (hd7 ++ X) (f + 3) ⟨[], [], [a]⟩ i op := rfl
  have e2 : sFunc (hd7 ++ X) (f + 3) 1 0 = obind (sStmts (hd7 ++ X) (f + 3) [] 5 1) fun b i op => obind (some (sEnd (hd7 ++ X) [125] i op)) fun _ i op => some (.ok ⟨nMain, [], [], b⟩ i op) := rfl
  have e3 : sStmts (hd7 ++ X) (f + 3) [] 5 1 = obind (sStmt (hd7 ++ X) (f + 2) 5 1) fun s i op => sStmts (hd7 ++ X) (f + 2) [s] i op := by rw [sStmts]; rfl
  have e4 : sStmt (hd7 ++ X) (f + 2) 5 1 = obind (sSimple (hd7 ++ X) (f + 1) 5 1) fun s i op => obind (some (sNeed (hd7 ++ X) [59] i op)) fun _ i op => some (.ok s i op) := by rw [sStmt]; rfl
  have e5 : sSimple (hd7 ++ X) (f + 1) 5 1 = obind (eLev (hd7 ++ X) f 0 7 1) fun e i op => some (.ok (.mk 1 [120] [] [e] [] []) i op) := by rw [sSimple]; rfl
  rw [e1, e2, e3, e4, e5]
  match eLev (hd7 ++ X) f 0 7 1 with
  | none => rfl
  | some (.err l e) => rfl
  | some (.ok e i op) =>
    show obind (obind (obind (obind (some (sNeed (hd7 ++ X) [59] i op)) _) _) _) _ = obind (some (sNeed (hd7 ++ X) [59] i op)) _
    match sNeed (hd7 ++ X) [59] i op with
    | .err l e => rfl
    | .ok u i op =>
      show obind (obind (sStmts (hd7 ++ X) (f + 2) _ i op) _) _ = obind (sStmts (hd7 ++ X) (f + 2) _ i op) _
      match sStmts (hd7 ++ X) (f + 2) [.mk 1 [120] [] [e] [] []] i op with
      | none => rfl
      | some (.err l e) => rfl
      | some (.ok b i op) =>
        show obind (obind (some (sEnd (hd7 ++ X) [125] i op)) _) _ = obind (some (sEnd (hd7 ++ X) [125] i op)) _
        match sEnd (hd7 ++ X) [125] i op with
        | .err l e => rfl
        | .ok u i op => rfl
theorem body_bwd {X : List Tok} {F i op : Nat} {p : Pr} (h : sProg (hd7 ++ X) F pr0 0 0 = some (.ok p i op)) : ∃ f e m, eLev (hd7 ++ X) f 0 7 1 = some (.ok e m 1) ∧ isTok (hd7 ++ X) m [[59]] = true := by
  have h1 := prog_le (hd7 ++ X) F (F + 4) pr0 0 0 (by omega) _ h
  rw [body_eq] at h1
  rcases obind_some h1 with ⟨e, m, op1, h2, h3⟩ | ⟨_, _, _, h3⟩
  · have hop := ((ex_good (hd7 ++ X) F).1 0 7 1 _ h2).2.2.2
    subst hop
    rcases obind_some h3 with ⟨u, i1, op2, h4, h5⟩ | ⟨_, _, _, h5⟩
    · refine ⟨F, e, m, h2, ?_⟩
      injection h4 with h4
      unfold sNeed at h4
      split at h4
      · assumption
      · cases h4
    · cases h5
  · cases h3
theorem body_fwd {X : List Tok} {f0 m : Nat} {e : Ex} (he : eLev (hd7 ++ X) f0 0 7 1 = some (.ok e m 1)) (h59 : isTok (hd7 ++ X) m [[59]] = true) (h125 : isTok (hd7 ++ X) (m + 1) [[125]] = true) (hl : (hd7 ++ X).length = m + 2) {F : Nat} {r : Res Pr}
    (hr : sProg (hd7 ++ X) F pr0 0 0 = some r) : ∃ i op, r = .ok (asPr e) i op := by
  have h1 := prog_le (hd7 ++ X) F (F + f0 + 4) pr0 0 0 (by omega) _ hr
  rw [body_eq, (ex_le (hd7 ++ X) f0 (F + f0) (by omega)).1 0 7 1 _ he] at h1
  have e1 : sNeed (hd7 ++ X) [59] m 1 = .ok () (m + 1) 1 := by unfold sNeed; rw [if_pos h59]
  have e2 : sStmts (hd7 ++ X) (F + f0 + 2) [.mk 1 [120] [] [e] [] []] (m + 1) 1 = some (.ok [.mk 1 [120] [] [e] [] []] (m + 1) 1) := by rw [sStmts, if_pos h125]
  have e3 : sEnd (hd7 ++ X) [125] (m + 1) 1 = .ok () (m + 2) 0 := by
    unfold sEnd sNeed
    rw [if_pos h125]
    rfl
  have e4 : sProg (hd7 ++ X) (F + f0 + 3) (asPr e) (m + 2) 0 = some (.ok (asPr e) (m + 2) 0) := by rw [sProg, if_pos (by omega)]
  simp only [obind, e1, e2, e3] at h1
  have h2 := e4.symm.trans h1
  injection h2 with h2
  exact ⟨_, _, h2.symm⟩
theorem body_err {X : List Tok} {f0 : Nat} {l x : Int} (he : eLev (hd7 ++ X) f0 0 7 1 = some (.err l x)) {F : Nat} {r : Res Pr} (hr : sProg (hd7 ++ X) F pr0 0 0 = some r) : r = .err l x := by
  have h1 := prog_le (hd7 ++ X) F (F + f0 + 4) pr0 0 0 (by omega) _ hr
  rw [body_eq, (ex_le (hd7 ++ X) f0 (F + f0) (by omega)).1 0 7 1 _ he] at h1
  injection h1 with h1
  exact h1.symm
section
variable {T : List Tok}
/-- An operand that no operator follows is an expression of any level. -/
theorem lev_of_unary {f j op i o : Nat} {e : Ex} (h : eUnary T f j op = some (.ok e i o)) (hn : ∀ k, isTok T i (lvOps k) = false) : ∀ (n k : Nat), k + n = 6 → eLev T (f + 1 + n) k j op = some (.ok e i o)
  | 0, k, hk => by
    rw [Nat.add_zero, eLev, if_pos (by omega)]
    exact h
  | n + 1, k, hk => by
    rw [show f + 1 + (n + 1) = (f + 1 + n) + 1 by omega, eLev, if_neg (by omega), lev_of_unary h hn n (k + 1) (by omega)]
    show eLoop T (f + 1 + n) k e i o = _
    rw [show f + 1 + n = (f + n) + 1 by omega, eLoop, if_neg (by rw [hn]; decide)]
theorem lev_of_unary_err {f j op : Nat} {l x : Int} (h : eUnary T f j op = some (.err l x)) : ∀ (n k : Nat), k + n = 6 → eLev T (f + 1 + n) k j op = some (.err l x)
  | 0, k, hk => by
    rw [Nat.add_zero, eLev, if_pos (by omega)]
    exact h
  | n + 1, k, hk => by
    rw [show f + 1 + (n + 1) = (f + 1 + n) + 1 by omega, eLev, if_neg (by omega), lev_of_unary_err h n (k + 1) (by omega)]
    rfl
/-- What is known of the sign at j. -/
structure SignAt (T : List Tok) (j : Nat) (x : List UInt8) : Prop where
  tok : ∀ xs, isTok T j xs = xs.contains x
theorem SignAt.of {j : Nat} {t : Tok} {x : List UInt8} (h : T[j]? = some t) (hk : t.kind = 4) (hx : t.text = x) : SignAt T j x := ⟨fun xs => by
  unfold isTok
  rw [h]
  simp only [hk, hx]
  simp⟩
theorem unary_paren {f j op i : Nat} {e : Ex} (h1 : SignAt T j [40]) (h2 : eLev T f 0 (j + 1) (op + 1) = some (.ok e i (op + 1))) (h3 : SignAt T i [41]) (ho : op < 100) : eUnary T (f + 2) j op = some (.ok e (i + 1) op) := by
  rw [eUnary, if_neg (by rw [h1.tok]; decide), if_neg (by rw [h1.tok]; decide), ePrim, if_pos (by rw [h1.tok]; decide)]
  have e1 : sBegin T [40] j op = .ok () (j + 1) (op + 1) := by
    unfold sBegin
    rw [if_pos (by rw [h1.tok]; decide), if_neg (by omega)]
  have e2 : sEnd T [41] i (op + 1) = .ok () (i + 1) op := by
    unfold sEnd sNeed
    rw [if_pos (by rw [h3.tok]; decide)]
    rfl
  simp only [obind, e1, h2, e2]
theorem unary_paren_err {f j op : Nat} {l x : Int} (h1 : SignAt T j [40]) (h2 : eLev T f 0 (j + 1) (op + 1) = some (.err l x)) (ho : op < 100) : eUnary T (f + 2) j op = some (.err l x) := by
  rw [eUnary, if_neg (by rw [h1.tok]; decide), if_neg (by rw [h1.tok]; decide), ePrim, if_pos (by rw [h1.tok]; decide)]
  have e1 : sBegin T [40] j op = .ok () (j + 1) (op + 1) := by
    unfold sBegin
    rw [if_pos (by rw [h1.tok]; decide), if_neg (by omega)]
  simp only [obind, e1, h2]
theorem unary_minus {f j op i : Nat} {e : Ex} (h1 : SignAt T j [45]) (h2 : eUnary T f (j + 1) (op + 1) = some (.ok e i (op + 1))) (ho : op < 100) : eUnary T (f + 1) j op = some (.ok (.mk nNeg 0 [] [e]) i op) := by
  rw [eUnary, if_pos (by rw [h1.tok]; decide)]
  have e1 : sBegin T [45] j op = .ok () (j + 1) (op + 1) := by
    unfold sBegin
    rw [if_pos (by rw [h1.tok]; decide), if_neg (by omega)]
  simp only [obind, e1, h2, Nat.add_sub_cancel]
theorem unary_minus_err {f j op : Nat} {l x : Int} (h1 : SignAt T j [45]) (h2 : eUnary T f (j + 1) (op + 1) = some (.err l x)) (ho : op < 100) : eUnary T (f + 1) j op = some (.err l x) := by
  rw [eUnary, if_pos (by rw [h1.tok]; decide)]
  have e1 : sBegin T [45] j op = .ok () (j + 1) (op + 1) := by
    unfold sBegin
    rw [if_pos (by rw [h1.tok]; decide), if_neg (by omega)]
  simp only [obind, e1, h2]
/-- A construct too many. -/
theorem unary_limit {f j op : Nat} (h1 : SignAt T j [40] ∨ SignAt T j [45]) (ho : 100 ≤ op) : eUnary T (f + 2) j op = some (.err (failLine T j) 6) := by
  rcases h1 with h1 | h1
  · rw [eUnary, if_neg (by rw [h1.tok]; decide), if_neg (by rw [h1.tok]; decide), ePrim, if_pos (by rw [h1.tok]; decide)]
    have e1 : sBegin T [40] j op = .err (failLine T j) 6 := by
      unfold sBegin
      rw [if_pos (by rw [h1.tok]; decide), if_pos ho]
    simp only [obind, e1]
  · rw [eUnary, if_pos (by rw [h1.tok]; decide)]
    have e1 : sBegin T [45] j op = .err (failLine T j) 6 := by
      unfold sBegin
      rw [if_pos (by rw [h1.tok]; decide), if_pos ho]
    simp only [obind, e1]
theorem sign_noop {j : Nat} {x : List UInt8} (h : SignAt T j x) (hx : x = [41] ∨ x = [59]) (k : Nat) : isTok T j (lvOps k) = false := by
  rw [h.tok]
  rcases hx with rfl | rfl
  · exact (lv_no k).2
  · exact (lv_no k).1
/-- Parentheses around an expression. -/
theorem parens {f z m : Nat} {e : Ex} : ∀ (k j op : Nat), eLev T f 0 (j + k) (op + k) = some (.ok e m (op + k)) → (∀ n, n < k → SignAt T (j + n) [40]) → (∀ n, n < k → SignAt T (m + n) [41]) → (∀ x, isTok T (m + k) (lvOps x) = false) → op + k ≤ 100 →
    eLev T (f + 9 * k) 0 j op = some (.ok e (m + k) op)
  | 0, j, op, h, _, _, _, _ => h
  | k + 1, j, op, h, h1, h2, h3, ho => by
    have ih := parens (z := z) k (j + 1) (op + 1) (by rw [show j + 1 + k = j + (k + 1) by omega, show op + 1 + k = op + (k + 1) by omega]; exact h) (fun n hn => by rw [show j + 1 + n = j + (n + 1) by omega]; exact h1 (n + 1) (by omega)) (fun n hn => h2 n (by omega))
      (fun x => sign_noop (h2 k (by omega)) (.inl rfl) x) (by omega)
    have := lev_of_unary (unary_paren (h1 0 (by omega)) ih (h2 k (by omega)) (by omega)) h3 6 0 rfl
    rw [show f + 9 * (k + 1) = f + 9 * k + 2 + 1 + 6 by omega, show m + (k + 1) = m + k + 1 by omega]
    exact this
end
end Go.Stele
/- The lexer and the parser in plain Lean: parentheses around an expression that stands alone in a body. -/
set_option maxRecDepth 100000
namespace Go.Stele
/-- A character that ends whatever stands ahead of it. -/
structure Del (d : UInt8) : Prop where
  digit : isDigit d = false
  inner : isInner d = false
  next : (isLetter d || decide (cv d = 95)) = false
  white : isWhite d = false
  slash : d ≠ 47
  signs : ∀ x ∈ signs, d ∉ x.tail
theorem del59 : Del 59 := ⟨by decide, by decide, by decide, by decide, by decide, by decide⟩
theorem del41 : Del 41 := ⟨by decide, by decide, by decide, by decide, by decide, by decide⟩
theorem tw_del {p : UInt8 → Bool} {d : UInt8} (hp : p d = false) (b : List UInt8) : ∀ s : List UInt8, (s ++ d :: b).takeWhile p = s.takeWhile p
  | [] => by rw [List.nil_append, List.takeWhile_cons_of_neg (by simp [hp])]; rfl
  | c :: s => by
    rw [List.cons_append]
    by_cases h : p c = true
    · rw [List.takeWhile_cons_of_pos h, List.takeWhile_cons_of_pos h, tw_del hp b s]
    · rw [List.takeWhile_cons_of_neg h, List.takeWhile_cons_of_neg h]
theorem pre_del {d : UInt8} (b : List UInt8) : ∀ (x s : List UInt8), d ∉ x → x.isPrefixOf (s ++ d :: b) = x.isPrefixOf s
  | [], s, _ => by simp
  | c :: x, [], h => by
    have : ¬ c = d := fun hc => h (by rw [hc]; exact List.mem_cons_self ..)
    simp [List.isPrefixOf, this]
  | c :: x, e :: s, h => by
    have := pre_del b x s fun hx => h (List.mem_cons_of_mem _ hx)
    simp only [List.cons_append, List.isPrefixOf, this]
theorem pre_del' {d : UInt8} (b : List UInt8) (c : UInt8) (s : List UInt8) : ∀ x : List UInt8, d ∉ x.tail → x.isPrefixOf (c :: s ++ d :: b) = x.isPrefixOf (c :: s)
  | [], _ => by simp
  | a :: x, h => by
    have := pre_del b x s h
    simp only [List.cons_append, List.isPrefixOf, this]
theorem find_del {d : UInt8} (b : List UInt8) (c : UInt8) (s : List UInt8) : ∀ L : List (List UInt8), (∀ x ∈ L, d ∉ x.tail) → L.find? (fun x => x.isPrefixOf (c :: s ++ d :: b)) = L.find? (fun x => x.isPrefixOf (c :: s))
  | [], _ => rfl
  | x :: L, h => by
    rw [List.find?_cons, List.find?_cons, pre_del' b c s x (h x (List.mem_cons_self ..)), find_del b c s L fun y hy => h y (List.mem_cons_of_mem _ hy)]
theorem wordNext_del {d : UInt8} (hd : Del d) (b s : List UInt8) {n : Nat} (hn : n ≤ s.length) : wordNext (s ++ d :: b) n = wordNext s n := by
  unfold wordNext
  rcases Nat.lt_or_ge n s.length with h | h
  · rw [List.getElem?_append_left h]
  · have : n = s.length := by omega
    subst this
    rw [List.getElem?_append_right (Nat.le_refl _), List.getElem?_eq_none (Nat.le_refl _)]
    rw [Nat.sub_self, List.getElem?_cons_zero]
    exact hd.next
theorem lexToken_del {d : UInt8} (hd : Del d) (b : List UInt8) (c : UInt8) (r : List UInt8) (h : c = 39 → 2 ≤ r.length) : lexToken (c :: r ++ d :: b) = lexToken (c :: r) := by
  simp only [List.cons_append, lexToken]
  by_cases hc : isDigit c = true
  · rw [if_pos hc, if_pos hc]
    unfold lexNumber
    have e1 : (c :: (r ++ d :: b)).takeWhile isDigit = (c :: r).takeWhile isDigit := tw_del hd.digit b (c :: r)
    have e2 := wordNext_del hd b (c :: r) (takeWhile_le isDigit (c :: r))
    rw [List.cons_append] at e2
    rw [e1, e2]
  rw [if_neg hc, if_neg hc]
  by_cases hl : isLetter c = true
  · rw [if_pos hl, if_pos hl]
    unfold lexName
    have e1 : (c :: (r ++ d :: b)).takeWhile isInner = (c :: r).takeWhile isInner := tw_del hd.inner b (c :: r)
    rw [e1]
  rw [if_neg hl, if_neg hl]
  by_cases hq : decide (cv c = 39) = true
  · rw [if_pos hq, if_pos hq]
    have h39 : c = 39 := by
      rw [decide_eq_true_eq] at hq
      apply UInt8.toNat_inj.1
      have : (c.toNat : Int) = 39 := hq
      show c.toNat = 39
      omega
    match r, h h39 with
    | x :: y :: r, _ => rfl
    | [x], h => simp at h
    | [], h => simp at h
  · rw [if_neg hq, if_neg hq]
    unfold lexSign
    have e1 := find_del b c r signs hd.signs
    rw [List.cons_append] at e1
    rw [e1]
theorem skip_del {d : UInt8} (hd : Del d) (b : List UInt8) {c : UInt8} (r : List UInt8) (hw : isWhite c = false) (hsl : ([47, 47] : List UInt8).isPrefixOf (c :: r) = false) : skipLen (c :: r ++ d :: b) = 0 ∧ skipLen (c :: r) = 0 := by
  have e1 := pre_del' (d := d) b c r [47, 47] (by simp only [List.tail_cons, List.mem_singleton]; exact hd.slash)
  unfold skipLen
  rw [e1, hsl, if_neg (by decide), if_neg (by decide), List.cons_append, List.takeWhile_cons_of_neg (by rw [hw]; decide), List.takeWhile_cons_of_neg (by rw [hw]; decide)]
  exact ⟨rfl, rfl⟩
theorem tw_sub {p : UInt8 → Bool} {s : List UInt8} : ∀ c ∈ s.takeWhile p, c ∈ s := fun c hc => (List.takeWhile_prefix p).subset hc
theorem lexToken_mem (s : List UInt8) (h : (lexToken s).2.2 = 0) : (lexToken s).1.kind = 1 ∨ ∀ c ∈ (lexToken s).1.text, c ∈ s := by
  match s with
  | [] => simp [lexToken, tokErr] at h
  | c :: r =>
    simp only [lexToken] at h ⊢
    split at h <;> rename_i hc
    · rw [if_pos hc]
      unfold lexNumber at h ⊢
      split at h
      · simp [tokErr] at h
      · rename_i hw
        rw [if_neg hw]
        split at h
        · exact .inl rfl
        · simp [tokErr] at h
    · rw [if_neg hc]
      split at h <;> rename_i hl
      · rw [if_pos hl]
        unfold lexName at h ⊢
        split at h
        · simp [tokErr] at h
        · rename_i hw
          rw [if_neg hw]
          exact .inr tw_sub
      · rw [if_neg hl]
        split at h <;> rename_i hq
        · rw [if_pos hq]
          unfold lexLiteral at h ⊢
          split at h
          · split at h
            · simp [tokErr] at h
            · rename_i hx
              rename_i heq
              rename_i b _ _
              rw [if_neg hx]
              exact .inl rfl
          · simp [tokErr] at h
        · rw [if_neg hq]
          unfold lexSign at h ⊢
          split at h
          · rename_i x hx
            have h1 := List.find?_some hx
            exact .inr fun d hd => (List.isPrefixOf_iff_prefix.1 h1).subset hd
          · simp [tokErr] at h
def endB : List UInt8 := [59, 32, 125]
/-- A text that is read ahead of the body's end is read ahead of ')' as well. -/
theorem lex_del : ∀ (n : Nat) (s : List UInt8) (l : Int) (T : List Tok), s.length ≤ n → (∀ j, ([47, 47] : List UInt8).isPrefixOf (s.drop j) = false) → lexAt (s ++ endB) l = .ok T →
    ∃ (S R : List Tok) (l' : Int), T = S ++ R ∧ lexAt endB l' = .ok R ∧ S.length ≤ s.length ∧ (∀ t ∈ S, t.kind = 1 ∨ ∀ c ∈ t.text, c ∈ s) ∧ ∀ b l2, ∃ S2 l3, S2.map kt = S.map kt ∧ lexAt (s ++ 41 :: b) l2 = (lexAt (41 :: b) l3).map (S2 ++ ·)
  | n, [], l, T, _, _, h => ⟨[], T, l, rfl, h, Nat.le_refl _, by simp, fun b l2 => ⟨[], l2, rfl, by rw [List.nil_append]; cases lexAt (41 :: b) l2 <;> rfl⟩⟩
  | 0, c :: r, _, _, hn, _, _ => by simp at hn
  | n + 1, c :: r, l, T, hn, hsl, h => by
    by_cases hw : isWhite c = true
    · rw [List.cons_append, lexAt_white hw] at h
      obtain ⟨S, R, l', h1, h2, h3, h4, h5⟩ := lex_del n r _ T (by simpa using hn) (fun j => hsl (j + 1)) h
      refine ⟨S, R, l', h1, h2, by rw [List.length_cons]; omega, fun t ht => (h4 t ht).imp id fun h c hc => List.mem_cons_of_mem _ (h c hc), fun b l2 => ?_⟩
      rw [List.cons_append, lexAt_white hw]
      exact h5 b _
    have hw' : isWhite c = false := by simpa using hw
    have hk1 : skipLen (c :: r ++ endB) = 0 ∧ skipLen (c :: r) = 0 := skip_del del59 [32, 125] r hw' (hsl 0)
    have hs := hsl 0
    rw [← lexAt_eq (f := (r ++ endB).length + 1) (by simp), lexP, if_neg (by simp), if_pos hk1.1] at h
    by_cases h39 : c = 39 → 2 ≤ r.length
    · have ht := lexToken_del del59 [32, 125] c r h39
      change lexToken (c :: r ++ endB) = _ at ht
      rw [ht] at h
      by_cases he : (lexToken (c :: r)).2.2 ≠ 0
      · rw [if_pos he] at h
        cases h
      have he' : (lexToken (c :: r)).2.2 = 0 := by simpa using he
      rw [if_neg he] at h
      obtain ⟨k1, k2⟩ := lexToken_size _ he'
      obtain ⟨T2, h1, rfl⟩ := map_ok h
      rw [List.drop_append_of_le_length k2, lexAt_eq (by simp only [List.length_append, List.length_drop, List.length_cons] at k2 ⊢; omega)] at h1
      obtain ⟨S, R, l', g1, g2, g3, g4, g5⟩ := lex_del n ((c :: r).drop (lexToken (c :: r)).2.1) _ T2 (by rw [List.length_drop]; omega) (fun j => by rw [List.drop_drop]; exact hsl _) h1
      refine ⟨_ :: S, R, l', by rw [g1]; rfl, g2, by rw [List.length_drop] at g3; rw [List.length_cons]; omega, fun t ht => ?_, fun b l2 => ?_⟩
      · rcases List.mem_cons.1 ht with rfl | ht
        · exact lexToken_mem _ he'
        · exact (g4 t ht).imp id fun h c hc => List.mem_of_mem_drop (h c hc)
      · obtain ⟨S2, l3, m1, m2⟩ := g5 b (l2 + (((c :: r ++ 41 :: b).take (lexToken (c :: r)).2.1).count 10 : Nat))
        refine ⟨{ (lexToken (c :: r)).1 with line := l2 } :: S2, l3, by rw [List.map_cons, List.map_cons, m1]; rfl, ?_⟩
        have hk2 := skip_del del41 b r hw' (hsl 0)
        rw [← lexAt_eq (f := (r ++ 41 :: b).length + 1) (by simp), lexP, if_neg (by simp), if_pos hk2.1, lexToken_del del41 b c r h39, if_neg he, List.drop_append_of_le_length k2,
          lexAt_eq (by simp only [List.length_append, List.length_drop, List.length_cons] at k2 ⊢; omega), m2]
        cases lexAt (41 :: b) l3 <;> rfl
    · have hc : c = 39 ∧ r.length < 2 := by
        by_cases hc : c = 39
        · exact ⟨hc, by have : ¬ 2 ≤ r.length := fun h => h39 fun _ => h; omega⟩
        · exact absurd (fun h => absurd h hc) h39
      obtain ⟨rfl, hr⟩ := hc
      match r, hr with
      | [], _ =>
        have : (lexToken (39 :: [] ++ endB)).2.2 = 3 := by rfl
        rw [if_pos (by rw [this]; decide)] at h
        cases h
      | [x], _ =>
        have : (lexToken (39 :: [x] ++ endB)).2.2 = 3 := by rfl
        rw [if_pos (by rw [this]; decide)] at h
        cases h
      | _ :: _ :: _, hr => simp at hr; omega
theorem lexAt_sign (x : UInt8) (hx : x = 40 ∨ x = 41) (Y : List UInt8) (l : Int) : lexAt (x :: Y) l = (lexAt Y l).map (⟨4, [x], l⟩ :: ·) := by
  have h1 : skipLen (x :: Y) = 0 := by rcases hx with rfl | rfl <;> exact skip_head (by decide) (by decide)
  have h2 : lexToken (x :: Y) = (⟨4, [x], 0⟩, 1, 0) := by rcases hx with rfl | rfl <;> rfl
  have h3 : ([x] : List UInt8).count 10 = 0 := by rcases hx with rfl | rfl <;> decide
  rw [← lexAt_eq (f := Y.length + 1) (by simp), lexP, if_neg (by simp), if_pos h1, h2, if_neg (by simp)]
  simp only [List.drop_succ_cons, List.drop_zero, List.take_succ_cons, List.take_zero, h3]
  rw [lexAt_eq (Nat.le_refl _)]
  simp
theorem lexAt_signs (x : UInt8) (hx : x = 40 ∨ x = 41) (Y : List UInt8) (l : Int) : ∀ k : Nat, lexAt (List.replicate k x ++ Y) l = (lexAt Y l).map (List.replicate k ⟨4, [x], l⟩ ++ ·)
  | 0 => by simp; cases lexAt Y l <;> rfl
  | k + 1 => by
    rw [List.replicate_succ, List.cons_append, lexAt_sign x hx, lexAt_signs x hx Y l k, List.replicate_succ]
    cases lexAt Y l <;> rfl
theorem lexAt_endB (l : Int) : lexAt endB l = .ok [⟨4, [59], l⟩, ⟨4, [125], l⟩] := by
  have h1 : lexAt [125] l = .ok [⟨4, [125], l⟩] := by
    rw [← lexAt_eq (f := 1) (by simp), lexP, if_neg (by simp), if_pos (by decide)]
    rfl
  have h2 : lexToken endB = (⟨4, [59], 0⟩, 1, 0) := by rfl
  have h3 : lexAt [32, 125] l = .ok [⟨4, [125], l⟩] := by
    rw [lexAt_white (by decide)]
    rw [show (([32] : List UInt8).count 10 : Nat) = 0 by decide]
    simpa using h1
  rw [← lexAt_eq (f := 3) (by decide), lexP, if_neg (by decide), if_pos (by decide), h2, if_neg (by decide)]
  simp only [endB, List.drop_succ_cons, List.drop_zero, List.take_succ_cons, List.take_zero]
  rw [lexAt_eq (by decide), show (([59] : List UInt8).count 10 : Nat) = 0 by decide]
  simp only [Int.natCast_zero, Int.add_zero]
  rw [h3]
  rfl
def preB : List UInt8 := [102, 117, 110, 99, 32, 109, 97, 105, 110, 40, 41, 32, 123, 32, 120, 32, 61, 32]
theorem lex_preB (X : List UInt8) : lexAt (preB ++ X) 1 = (lexAt X 1).map (hd7 ++ ·) := by
  have h1 : ∀ F, lexP (F + 11) (preB ++ X) 1 = ((((((((lexP F (32 :: X) 1).map (⟨4, [61], 1⟩ :: ·)).map (⟨2, [120], 1⟩ :: ·)).map (⟨4, [123], 1⟩ :: ·)).map (⟨4, [41], 1⟩ :: ·)).map (⟨4, [40], 1⟩ :: ·)).map (⟨2, nMain, 1⟩ :: ·)).map (⟨3, kwFunc, 1⟩ :: ·)) := fun F => by kernel_rfl
  rw [← lexAt_eq (f := X.length + 9 + 11) (by simp [preB]), h1, lexAt_eq (by simp), lexAt_white (by decide)]
  rw [show (([32] : List UInt8).count 10 : Nat) = 0 by decide]
  simp only [Int.natCast_zero, Int.add_zero]
  cases lexAt X 1 <;> rfl
def bodyB (s : List UInt8) : List UInt8 := preB ++ s ++ endB
theorem get_app {A B : List Tok} {j : Nat} (h : A.length ≤ j) : (A ++ B)[j]? = B[j - A.length]? := List.getElem?_append_right h
theorem paren_plain {s : List UInt8} {T : List Tok} {p : Pr} {i op k : Nat} (hs : s.length ≤ 60) (hk : k ≤ 30) (hk0 : 0 < k) (h59 : (59 : UInt8) ∉ s) (hsl : ∀ j, ([47, 47] : List UInt8).isPrefixOf (s.drop j) = false)
    (hT : lexAt (bodyB s) 1 = .ok T) (hp : sProg T (10 * T.length + 20) pr0 0 0 = some (.ok p i op)) :
    ∃ T' i' op', lexAt (bodyB (List.replicate k 40 ++ s ++ List.replicate k 41)) 1 = .ok T' ∧ sProg T' (10 * T'.length + 20) pr0 0 0 = some (.ok p i' op') := by
  rw [bodyB, List.append_assoc, lex_preB] at hT
  obtain ⟨T0, hT0, rfl⟩ := map_ok hT
  obtain ⟨S, R, l', rfl, hR, hSl, hSm, hcl⟩ := lex_del _ s 1 T0 (Nat.le_refl _) hsl hT0
  rw [lexAt_endB] at hR
  cases hR
  obtain ⟨k', rfl⟩ : ∃ k', k = k' + 1 := ⟨k - 1, by omega⟩
  obtain ⟨S2, l3, hS2, hlex⟩ := hcl (List.replicate k' 41 ++ endB) 1
  have hS2l : S2.length = S.length := by simpa using congrArg List.length hS2
  have hL : lexAt (bodyB (List.replicate (k' + 1) 40 ++ s ++ List.replicate (k' + 1) 41)) 1 = .ok (hd7 ++ (List.replicate (k' + 1) ⟨4, [40], 1⟩ ++ (S2 ++ (List.replicate (k' + 1) ⟨4, [41], l3⟩ ++ [⟨4, [59], l3⟩, ⟨4, [125], l3⟩])))) := by
    rw [bodyB, List.append_assoc, lex_preB, List.append_assoc, List.append_assoc, lexAt_signs 40 (.inl rfl), List.replicate_succ (a := (41 : UInt8)), List.cons_append, hlex, ← List.cons_append, ← List.replicate_succ (a := (41 : UInt8)), lexAt_signs 41 (.inr rfl), lexAt_endB]
    rfl
  obtain ⟨f, e, m, he, hm⟩ := body_bwd hp
  have h7 := ((ex_good _ f).1 0 7 1 _ he).2.1 rfl
  have hmlt := isTok_lt hm
  have h7l : hd7.length = 7 := rfl
  have hm' : m = 7 + S.length := by
    simp only [List.length_append, h7l, List.length_cons, List.length_nil] at hmlt
    rcases Nat.lt_or_ge m (7 + S.length) with h | h
    · exfalso
      have hg : (hd7 ++ (S ++ [⟨4, [59], l'⟩, ⟨4, [125], l'⟩]))[m]? = some S[m - 7] := by
        rw [get_app (by rw [h7l]; omega), h7l, List.getElem?_append_left (by omega)]
        simp
      unfold isTok at hm
      rw [hg] at hm
      simp only [Bool.and_eq_true, Bool.or_eq_true, decide_eq_true_eq, List.contains_cons, List.contains_nil, Bool.or_false, beq_iff_eq] at hm
      rcases hSm _ (List.getElem_mem (by omega : m - 7 < S.length)) with h1 | h1
      · rw [h1] at hm
        exact absurd hm.1 (by decide)
      · exact h59 (h1 59 (by rw [hm.2]; exact List.mem_cons_self ..))
    · rcases Nat.lt_or_ge (7 + S.length) m with h2 | h2
      · exfalso
        obtain rfl : m = 7 + S.length + 1 := by omega
        have hg : (hd7 ++ (S ++ [⟨4, [59], l'⟩, ⟨4, [125], l'⟩]))[7 + S.length + 1]? = some ⟨4, [125], l'⟩ := by
          rw [get_app (by rw [h7l]; omega), h7l, get_app (by omega), show 7 + S.length + 1 - 7 - S.length = 1 by omega]
          rfl
        unfold isTok at hm
        rw [hg] at hm
        simp at hm
      · omega
  subst hm'
  have g59 : (hd7 ++ (S ++ [⟨4, [59], l'⟩, ⟨4, [125], l'⟩]))[7 + S.length]? = some ⟨4, [59], l'⟩ := by
    rw [get_app (by rw [h7l]; omega), h7l, get_app (by omega), show 7 + S.length - 7 - S.length = 0 by omega]
    rfl
  have g125 : (hd7 ++ (S ++ [⟨4, [59], l'⟩, ⟨4, [125], l'⟩]))[7 + S.length + 1]? = some ⟨4, [125], l'⟩ := by
    rw [get_app (by rw [h7l]; omega), h7l, get_app (by omega), show 7 + S.length + 1 - 7 - S.length = 1 by omega]
    rfl
  have s59 : SignAt _ _ [59] := SignAt.of g59 rfl rfl
  have s125 : SignAt _ _ [125] := SignAt.of g125 rfl rfl
  obtain ⟨i0, o0, hpe⟩ := body_fwd he hm (by rw [s125.tok]; decide) (by simp [h7l]; omega) hp
  cases hpe
  generalize hk' : k' + 1 = k at hL hk hk0
  generalize hTT : (hd7 ++ (List.replicate k ⟨4, [40], 1⟩ ++ (S2 ++ (List.replicate k ⟨4, [41], l3⟩ ++ [⟨4, [59], l3⟩, ⟨4, [125], l3⟩]))) : List Tok) = TT at hL
  have hTl : TT.length = 9 + S.length + 2 * k := by
    rw [← hTT]
    simp only [List.length_append, h7l, List.length_cons, List.length_nil, List.length_replicate]
    omega
  have G1 : ∀ n, n < k → TT[7 + n]? = some ⟨4, [40], 1⟩ := fun n hn => by
    rw [← hTT, get_app (by rw [h7l]; omega), h7l, Nat.add_sub_cancel_left, List.getElem?_append_left (by simpa using hn)]
    simp [hn]
  have G2 : ∀ n, n < S.length → TT[7 + k + n]? = S2[n]? := fun n hn => by
    rw [← hTT, get_app (by rw [h7l]; omega), h7l, get_app (by rw [List.length_replicate]; omega), List.length_replicate, show 7 + k + n - 7 - k = n by omega, List.getElem?_append_left (by omega)]
  have G3 : ∀ n, n < k → TT[7 + S.length + k + n]? = some ⟨4, [41], l3⟩ := fun n hn => by
    rw [← hTT, get_app (by rw [h7l]; omega), h7l, get_app (by rw [List.length_replicate]; omega), List.length_replicate, get_app (by omega), show 7 + S.length + k + n - 7 - k - S2.length = n by omega, List.getElem?_append_left (by simpa using hn)]
    simp [hn]
  have G4 : TT[7 + S.length + k + k]? = some ⟨4, [59], l3⟩ := by
    rw [← hTT, get_app (by rw [h7l]; omega), h7l, get_app (by rw [List.length_replicate]; omega), List.length_replicate, get_app (by omega), show 7 + S.length + k + k - 7 - k - S2.length = k by omega, get_app (by rw [List.length_replicate]; omega), List.length_replicate, Nat.sub_self]
    rfl
  have G5 : TT[7 + S.length + k + k + 1]? = some ⟨4, [125], l3⟩ := by
    rw [← hTT, get_app (by rw [h7l]; omega), h7l, get_app (by rw [List.length_replicate]; omega), List.length_replicate, get_app (by omega), show 7 + S.length + k + k + 1 - 7 - k - S2.length = k + 1 by omega, get_app (by rw [List.length_replicate]; omega), List.length_replicate, show k + 1 - k = 1 by omega]
    rfl
  have c41 : SignAt TT (7 + S.length + k + 0) [41] := SignAt.of (G3 0 hk0) rfl rfl
  rw [Nat.add_zero] at c41
  have c59 : SignAt TT (7 + S.length + k + k) [59] := SignAt.of G4 rfl rfl
  have c125 : SignAt TT (7 + S.length + k + k + 1) [125] := SignAt.of G5 rfl rfl
  have hB : Brk (hd7 ++ (S ++ [⟨4, [59], l'⟩, ⟨4, [125], l'⟩])) TT k 7 (7 + S.length) := by
    refine ⟨fun j hj1 hj2 => ?_, ?_, fun xs h1 h2 => ?_, ?_⟩
    · obtain ⟨n, rfl⟩ : ∃ n, j = 7 + n := ⟨j - 7, by omega⟩
      have hn : n < S.length := by omega
      have hn2 : n < S2.length := by omega
      refine ⟨S[n], S2[n], ?_, ?_, ?_⟩
      · rw [get_app (by rw [h7l]; omega), h7l, Nat.add_sub_cancel_left, List.getElem?_append_left hn]
        simp [hn]
      · rw [show 7 + n + k = 7 + k + n by omega, G2 n hn]
        simp [hn2]
      · have h1 : (S2.map kt)[n]? = (S.map kt)[n]? := by rw [hS2]
        simp only [List.getElem?_map, List.getElem?_eq_getElem hn, List.getElem?_eq_getElem hn2, Option.map_some, Option.some.injEq, kt, Prod.mk.injEq] at h1
        exact h1
    · have := G3 0 hk0
      rw [Nat.add_zero] at this
      unfold kindAt
      rw [this, g59]
    · rw [c41.tok, s59.tok, h1, h2]
    · rw [s59.tok]
      decide
  have hE := ((ex_par (c := k) hB f f (Nat.le_refl _)).1 0 7 1 _ _ _ he).2 (Nat.le_refl _) (Nat.le_refl _) (by omega)
  have hP := parens (T := TT) (z := 0) k 7 1 (by rw [show 1 + k = 1 + k from rfl]; exact hE.2) (fun n hn => SignAt.of (G1 n hn) rfl rfl) (fun n hn => SignAt.of (G3 n hn) rfl rfl) (fun x => sign_noop c59 (.inr rfl) x) (by omega)
  obtain ⟨r, hr⟩ := sProg_ends TT (10 * TT.length + 20) pr0 0 0 (Nat.zero_le _) (by omega)
  have hfin : ∃ i op, r = .ok (asPr e) i op := by
    subst hTT
    exact body_fwd hP (by rw [c59.tok]; decide) (by rw [c125.tok]; decide) (by rw [hTl]; omega) hr
  obtain ⟨i', op', rfl⟩ := hfin
  exact ⟨TT, i', op', hL, hr⟩
end Go.Stele
/- The parser in plain Lean: constructs within constructs. -/
set_option maxRecDepth 100000
namespace Go.Stele
/-- The signs ahead of the variable: '-' for true, '(' for false. -/
def depHead (bs : List Bool) : List UInt8 := bs.map fun b => if b then 45 else 40
def depTail (bs : List Bool) : List UInt8 := List.replicate (bs.count false) 41
def depSrc (bs : List Bool) : List UInt8 := depHead bs ++ 121 :: depTail bs
def depTok (b : Bool) : Tok := ⟨4, [if b then 45 else 40], 1⟩
def depEx : List Bool → Ex
  | [] => .mk nVar 0 [121] []
  | true :: r => .mk nNeg 0 [] [depEx r]
  | false :: r => depEx r
theorem lexAt_minus (Y : List UInt8) (l : Int) : lexAt (45 :: Y) l = (lexAt Y l).map (⟨4, [45], l⟩ :: ·) := by
  have h1 : skipLen (45 :: Y) = 0 := skip_head (by decide) (by decide)
  have h2 : lexToken (45 :: Y) = (⟨4, [45], 0⟩, 1, 0) := by rfl
  have h3 : ([45] : List UInt8).count 10 = 0 := by decide
  rw [← lexAt_eq (f := Y.length + 1) (by simp), lexP, if_neg (by simp), if_pos h1, h2, if_neg (by decide)]
  simp only [List.drop_succ_cons, List.drop_zero, List.take_succ_cons, List.take_zero, h3]
  rw [lexAt_eq (Nat.le_refl _)]
  simp
theorem lexAt_head (Y : List UInt8) : ∀ bs : List Bool, lexAt (depHead bs ++ Y) 1 = (lexAt Y 1).map (bs.map depTok ++ ·)
  | [] => by show lexAt Y 1 = _; cases lexAt Y 1 <;> rfl
  | true :: bs => by
    show lexAt (45 :: (depHead bs ++ Y)) 1 = _
    rw [lexAt_minus, lexAt_head Y bs]
    cases lexAt Y 1 <;> rfl
  | false :: bs => by
    show lexAt (40 :: (depHead bs ++ Y)) 1 = _
    rw [lexAt_sign 40 (.inl rfl), lexAt_head Y bs]
    cases lexAt Y 1 <;> rfl
theorem lexAt_y {d : UInt8} (hd : Del d) (b : List UInt8) : lexAt (121 :: d :: b) 1 = (lexAt (d :: b) 1).map (⟨2, [121], 1⟩ :: ·) := by
  have h1 : skipLen (121 :: d :: b) = 0 := skip_head (by decide) (by decide)
  have h2 : lexToken (121 :: d :: b) = (⟨2, [121], 0⟩, 1, 0) := (lexToken_del hd b 121 [] (fun h => absurd h (by decide))).trans (by decide +kernel)
  have h3 : ([121] : List UInt8).count 10 = 0 := by decide
  rw [← lexAt_eq (f := (d :: b).length + 1) (by simp), lexP, if_neg (by simp), if_pos h1, h2, if_neg (by decide)]
  simp only [List.drop_succ_cons, List.drop_zero, List.take_succ_cons, List.take_zero, h3]
  rw [lexAt_eq (Nat.le_refl _)]
  simp
def depToks (bs : List Bool) : List Tok := hd7 ++ (bs.map depTok ++ ⟨2, [121], 1⟩ :: (List.replicate (bs.count false) ⟨4, [41], 1⟩ ++ [⟨4, [59], 1⟩, ⟨4, [125], 1⟩]))
theorem dep_lex (bs : List Bool) : lexAt (bodyB (depSrc bs)) 1 = .ok (depToks bs) := by
  have h : lexAt (121 :: (depTail bs ++ endB)) 1 = .ok (⟨2, [121], 1⟩ :: (List.replicate (bs.count false) ⟨4, [41], 1⟩ ++ [⟨4, [59], 1⟩, ⟨4, [125], 1⟩])) := by
    unfold depTail
    cases hc : bs.count false with
    | zero =>
      show lexAt (121 :: 59 :: [32, 125]) 1 = _
      rw [lexAt_y del59]
      show (lexAt endB 1).map _ = _
      rw [lexAt_endB]
      rfl
    | succ k =>
      show lexAt (121 :: 41 :: (List.replicate k 41 ++ endB)) 1 = _
      rw [lexAt_y del41, ← List.cons_append, ← List.replicate_succ, lexAt_signs 41 (.inr rfl), lexAt_endB]
      rfl
  rw [bodyB, depSrc, List.append_assoc, List.append_assoc, lex_preB, lexAt_head, List.cons_append, h]
  rfl
section
variable {bs : List Bool}
theorem dep_h7 : hd7.length = 7 := rfl
theorem dep_head {j : Nat} (h : j < bs.length) : (depToks bs)[7 + j]? = some (depTok bs[j]) := by
  unfold depToks
  rw [get_app (by rw [dep_h7]; omega), dep_h7, Nat.add_sub_cancel_left, List.getElem?_append_left (by simpa using h)]
  simp [h]
theorem dep_y : (depToks bs)[7 + bs.length]? = some ⟨2, [121], 1⟩ := by
  unfold depToks
  rw [get_app (by rw [dep_h7]; omega), dep_h7, Nat.add_sub_cancel_left, get_app (by simp)]
  simp
theorem dep_close {n : Nat} (h : n < bs.count false) : (depToks bs)[8 + bs.length + n]? = some ⟨4, [41], 1⟩ := by
  unfold depToks
  rw [get_app (by rw [dep_h7]; omega), dep_h7, get_app (by simp; omega), List.length_map, show 8 + bs.length + n - 7 - bs.length = n + 1 by omega, List.getElem?_cons_succ, List.getElem?_append_left (by simpa using h)]
  simp [h]
theorem dep_semi : (depToks bs)[8 + bs.length + bs.count false]? = some ⟨4, [59], 1⟩ := by
  unfold depToks
  rw [get_app (by rw [dep_h7]; omega), dep_h7, get_app (by simp; omega), List.length_map, show 8 + bs.length + bs.count false - 7 - bs.length = bs.count false + 1 by omega, List.getElem?_cons_succ, get_app (by simp)]
  simp
theorem dep_brace : (depToks bs)[8 + bs.length + bs.count false + 1]? = some ⟨4, [125], 1⟩ := by
  unfold depToks
  rw [get_app (by rw [dep_h7]; omega), dep_h7, get_app (by simp; omega), List.length_map, show 8 + bs.length + bs.count false + 1 - 7 - bs.length = bs.count false + 1 + 1 by omega, List.getElem?_cons_succ, get_app (by simp)]
  simp
theorem dep_len : (depToks bs).length = 10 + bs.length + bs.count false := by
  unfold depToks
  simp only [List.length_append, dep_h7, List.length_map, List.length_cons, List.length_replicate, List.length_nil]
  omega
theorem dep_sign {j : Nat} (h : j < bs.length) : (bs[j] = true → SignAt (depToks bs) (7 + j) [45]) ∧ (bs[j] = false → SignAt (depToks bs) (7 + j) [40]) := by
  have := dep_head h
  exact ⟨fun hb => SignAt.of this rfl (by rw [hb]; rfl), fun hb => SignAt.of this rfl (by rw [hb]; rfl)⟩
theorem dep_after (n : Nat) (h : n ≤ bs.count false) : SignAt (depToks bs) (8 + bs.length + n) [41] ∨ SignAt (depToks bs) (8 + bs.length + n) [59] := by
  rcases Nat.lt_or_ge n (bs.count false) with h1 | h1
  · exact .inl (SignAt.of (dep_close h1) rfl rfl)
  · obtain rfl : n = bs.count false := by omega
    exact .inr (SignAt.of dep_semi rfl rfl)
theorem dep_noop (n : Nat) (h : n ≤ bs.count false) (k : Nat) : isTok (depToks bs) (8 + bs.length + n) (lvOps k) = false := by
  rcases dep_after n h with h | h
  · exact sign_noop h (.inl rfl) k
  · exact sign_noop h (.inr rfl) k
theorem dep_var (op : Nat) : eUnary (depToks bs) 2 (7 + bs.length) op = some (.ok (.mk nVar 0 [121] []) (8 + bs.length) op) := by
  have hy : ∀ xs, isTok (depToks bs) (7 + bs.length) xs = false := fun xs => by
    unfold isTok
    rw [dep_y]
    rfl
  have hn : ∀ x : List UInt8, x ≠ [41] → x ≠ [59] → isTok (depToks bs) (7 + bs.length + 1) [x] = false := fun x h1 h2 => by
    rw [show 7 + bs.length + 1 = 8 + bs.length + 0 by omega]
    rcases dep_after (bs := bs) 0 (Nat.zero_le _) with h | h <;> rw [h.tok] <;> simp [h1.symm, h2.symm]
  rw [eUnary, if_neg (by rw [hy]; decide), if_neg (by rw [hy]; decide), ePrim, if_neg (by rw [hy]; decide), if_neg (by unfold kindAt; rw [dep_y]; decide)]
  have e1 : sWord (depToks bs) 2 (7 + bs.length) op = .ok [121] (7 + bs.length + 1) op := by
    unfold sWord
    rw [dep_y]
    rfl
  simp only [obind, e1]
  rw [if_neg (by rw [hn _ (by decide) (by decide)]; decide), if_neg (by rw [hn _ (by decide) (by decide)]; decide), show 7 + bs.length + 1 = 8 + bs.length by omega]
theorem count_drop {j : Nat} (h : j < bs.length) : (bs.drop j).count false = (if bs[j] = false then 1 else 0) + (bs.drop (j + 1)).count false := by
  rw [List.drop_eq_getElem_cons h, List.count_cons]
  cases bs[j] <;> simp <;> omega
theorem count_drop_le (j : Nat) : (bs.drop j).count false ≤ bs.count false := (List.drop_sublist j bs).count_le _
theorem dep_ok : ∀ (n j op : Nat), j + n = bs.length → op + n ≤ 100 → eUnary (depToks bs) (9 * n + 2) (7 + j) op = some (.ok (depEx (bs.drop j)) (8 + bs.length + (bs.drop j).count false) op)
  | 0, j, op, h, _ => by
    obtain rfl : j = bs.length := by omega
    rw [List.drop_length]
    exact dep_var op
  | n + 1, j, op, h, ho => by
    have hj : j < bs.length := by omega
    have ih := dep_ok n (j + 1) (op + 1) (by omega) (by omega)
    have hs := dep_sign hj
    have hd := List.drop_eq_getElem_cons hj
    have hc := count_drop hj
    have hle := count_drop_le (bs := bs) (j + 1)
    have hle' := count_drop_le (bs := bs) j
    rw [hd, ← hd, hc, hd]
    cases hb : bs[j] with
    | true =>
      rw [if_neg (by simp), Nat.zero_add]
      have := unary_minus (hs.1 hb) ih (by omega)
      rw [show 9 * (n + 1) + 2 = (9 * n + 2 + 1) + 8 by omega]
      have h2 := (ex_le (depToks bs) (9 * n + 2 + 1) (9 * n + 2 + 1 + 8) (by omega)).2.2.1 (7 + j) op _ this
      exact h2
    | false =>
      rw [if_pos rfl]
      have h1 := lev_of_unary ih (dep_noop _ hle) 6 0 rfl
      have hcl : SignAt (depToks bs) (8 + bs.length + (bs.drop (j + 1)).count false) [41] := SignAt.of (dep_close (by rw [hb, if_pos rfl] at hc; omega)) rfl rfl
      have := unary_paren (hs.2 hb) h1 hcl (by omega)
      rw [show 9 * (n + 1) + 2 = 9 * n + 2 + 1 + 6 + 2 by omega, show 8 + bs.length + (1 + (bs.drop (j + 1)).count false) = 8 + bs.length + (bs.drop (j + 1)).count false + 1 by omega]
      exact this
theorem dep_line {j : Nat} (h : j < bs.length) : failLine (depToks bs) (7 + j) = 1 := by
  unfold failLine
  rw [Nat.min_eq_left (by rw [dep_len]; omega), dep_head h]
  rfl
theorem dep_bad : ∀ (n j op : Nat), j + n + 1 ≤ bs.length → op + n = 100 → eUnary (depToks bs) (9 * n + 2) (7 + j) op = some (.err 1 6)
  | 0, j, op, h, ho => by
    have hs := dep_sign (bs := bs) (j := j) (by omega)
    rw [← dep_line (bs := bs) (j := j) (by omega)]
    refine unary_limit ?_ (by omega)
    cases hb : bs[j] with
    | true => exact .inr (hs.1 hb)
    | false => exact .inl (hs.2 hb)
  | n + 1, j, op, h, ho => by
    have hj : j < bs.length := by omega
    have ih := dep_bad n (j + 1) (op + 1) (by omega) (by omega)
    have hs := dep_sign hj
    cases hb : bs[j] with
    | true =>
      have := unary_minus_err (hs.1 hb) ih (by omega)
      rw [show 9 * (n + 1) + 2 = (9 * n + 2 + 1) + 8 by omega]
      exact (ex_le (depToks bs) (9 * n + 2 + 1) (9 * n + 2 + 1 + 8) (by omega)).2.2.1 (7 + j) op _ this
    | false =>
      have := unary_paren_err (hs.2 hb) (lev_of_unary_err ih 6 0 rfl) (by omega)
      rw [show 9 * (n + 1) + 2 = 9 * n + 2 + 1 + 6 + 2 by omega]
      exact this
/-- 98 constructs within the body. -/
theorem dep98 (h : bs.length = 98) : ∃ i op, sProg (depToks bs) (10 * (depToks bs).length + 20) pr0 0 0 = some (.ok (asPr (depEx bs)) i op) := by
  obtain ⟨r, hr⟩ := sProg_ends (depToks bs) (10 * (depToks bs).length + 20) pr0 0 0 (Nat.zero_le _) (by omega)
  have h1 := dep_ok (bs := bs) 98 0 1 (by omega) (by omega)
  rw [List.drop_zero] at h1
  have h2 := lev_of_unary h1 (dep_noop _ (Nat.le_refl _)) 6 0 rfl
  have c59 := SignAt.of (dep_semi (bs := bs)) rfl rfl
  have c125 := SignAt.of (dep_brace (bs := bs)) rfl rfl
  obtain ⟨i, op, rfl⟩ := body_fwd (X := bs.map depTok ++ ⟨2, [121], 1⟩ :: (List.replicate (bs.count false) ⟨4, [41], 1⟩ ++ [⟨4, [59], 1⟩, ⟨4, [125], 1⟩])) h2 (by have := c59.tok [[59]]; exact this.trans (by decide)) (by have := c125.tok [[125]]; exact this.trans (by decide)) (by have := dep_len (bs := bs); unfold depToks at this; omega) hr
  exact ⟨i, op, hr⟩
/-- 100 constructs. -/
theorem dep100 (h : bs.length = 100) : sProg (depToks bs) (10 * (depToks bs).length + 20) pr0 0 0 = some (.err 1 6) := by
  obtain ⟨r, hr⟩ := sProg_ends (depToks bs) (10 * (depToks bs).length + 20) pr0 0 0 (Nat.zero_le _) (by omega)
  have h2 := lev_of_unary_err (dep_bad (bs := bs) 99 0 1 (by omega) (by omega)) 6 0 rfl
  obtain rfl := body_err (X := bs.map depTok ++ ⟨2, [121], 1⟩ :: (List.replicate (bs.count false) ⟨4, [41], 1⟩ ++ [⟨4, [59], 1⟩, ⟨4, [125], 1⟩])) h2 hr
  exact hr
end
end Go.Stele
set_option maxRecDepth 100000
namespace Go.Stele
open Go.Lib
/-- A character that ends whatever stands ahead of it, white space or not. -/
structure Fin2 (d : UInt8) : Prop where
  digit : isDigit d = false
  inner : isInner d = false
  next : (isLetter d || decide (cv d = 95)) = false
  slash : d ≠ 47
  signs : ∀ x ∈ signs, d ∉ x.tail
theorem wordNext_fin {d : UInt8} (hd : Fin2 d) (b s : List UInt8) {n : Nat} (hn : n ≤ s.length) : wordNext (s ++ d :: b) n = wordNext s n := by
  unfold wordNext
  rcases Nat.lt_or_ge n s.length with h | h
  · rw [List.getElem?_append_left h]
  · have : n = s.length := by omega
    subst this
    rw [List.getElem?_append_right (Nat.le_refl _), List.getElem?_eq_none (Nat.le_refl _)]
    rw [Nat.sub_self, List.getElem?_cons_zero]
    exact hd.next
theorem lexToken_fin {d : UInt8} (hd : Fin2 d) (b : List UInt8) (c : UInt8) (r : List UInt8) (h : c = 39 → 2 ≤ r.length) : lexToken (c :: r ++ d :: b) = lexToken (c :: r) := by
  simp only [List.cons_append, lexToken]
  by_cases hc : isDigit c = true
  · rw [if_pos hc, if_pos hc]
    unfold lexNumber
    have e1 : (c :: (r ++ d :: b)).takeWhile isDigit = (c :: r).takeWhile isDigit := tw_del hd.digit b (c :: r)
    have e2 := wordNext_fin hd b (c :: r) (takeWhile_le isDigit (c :: r))
    rw [List.cons_append] at e2
    rw [e1, e2]
  rw [if_neg hc, if_neg hc]
  by_cases hl : isLetter c = true
  · rw [if_pos hl, if_pos hl]
    unfold lexName
    have e1 : (c :: (r ++ d :: b)).takeWhile isInner = (c :: r).takeWhile isInner := tw_del hd.inner b (c :: r)
    rw [e1]
  rw [if_neg hl, if_neg hl]
  by_cases hq : decide (cv c = 39) = true
  · rw [if_pos hq, if_pos hq]
    have h39 : c = 39 := by
      rw [decide_eq_true_eq] at hq
      apply UInt8.toNat_inj.1
      have : (c.toNat : Int) = 39 := hq
      show c.toNat = 39
      omega
    match r, h h39 with
    | x :: y :: r, _ => rfl
    | [x], h => simp at h
    | [], h => simp at h
  · rw [if_neg hq, if_neg hq]
    unfold lexSign
    have e1 := find_del b c r signs hd.signs
    rw [List.cons_append] at e1
    rw [e1]
theorem skip_fin {d : UInt8} (hd : Fin2 d) (b : List UInt8) {c : UInt8} (r : List UInt8) (hw : isWhite c = false) (hsl : ([47, 47] : List UInt8).isPrefixOf (c :: r) = false) : skipLen (c :: r ++ d :: b) = 0 ∧ skipLen (c :: r) = 0 := by
  have e1 := pre_del' (d := d) b c r [47, 47] (by simp only [List.tail_cons, List.mem_singleton]; exact hd.slash)
  unfold skipLen
  rw [e1, hsl, if_neg (by decide), if_neg (by decide), List.cons_append, List.takeWhile_cons_of_neg (by rw [hw]; decide), List.takeWhile_cons_of_neg (by rw [hw]; decide)]
  exact ⟨rfl, rfl⟩
/-- On whatever line it begins, the text has these tokens. -/
def Lx (s : List UInt8) (ks : List KT) : Prop := ∀ l : Int, ∃ A, lexAt s l = .ok A ∧ A.map kt = ks
theorem Lx.nil : Lx [] [] := fun l => ⟨[], lexAt_nil l, rfl⟩
theorem Lx.white {c : UInt8} (hc : isWhite c = true) {b : List UInt8} {ks : List KT} (h : Lx b ks) : Lx (c :: b) ks := fun l => by
  rw [lexAt_white hc]
  exact h _
theorem Lx.whites : ∀ {w b : List UInt8} {ks : List KT}, (∀ c ∈ w, isWhite c = true) → Lx b ks → Lx (w ++ b) ks
  | [], _, _, _, h => h
  | c :: w, _, _, hw, h => Lx.white (hw c (List.mem_cons_self ..)) (Lx.whites (fun x hx => hw x (List.mem_cons_of_mem _ hx)) h)
theorem Lx.tok {x rest : List UInt8} {k : Int} {ks : List KT} (hne : x ≠ []) (hs : skipLen (x ++ rest) = 0) (ht : lexToken (x ++ rest) = (⟨k, x, 0⟩, x.length, 0)) (h : Lx rest ks) : Lx (x ++ rest) ((k, x) :: ks) := fun l => by
  rw [← lexAt_eq (f := (x ++ rest).length + 1) (by omega), lexP, if_neg (by simp [hne]), if_pos hs, ht, if_neg (by simp)]
  simp only
  rw [List.drop_left, lexAt_eq (by rw [List.length_append]; omega)]
  obtain ⟨A, h1, h2⟩ := h (l + (((x ++ rest).take x.length).count 10 : Nat))
  rw [h1]
  exact ⟨_, rfl, by rw [List.map_cons, h2]; rfl⟩
theorem Lx.del {x b : List UInt8} {k l0 : Int} {d : UInt8} {ks : List KT} (ha : Again ⟨k, x, l0⟩) (hd : Fin2 d) (h : Lx (d :: b) ks) : Lx (x ++ d :: b) ((k, x) :: ks) := by
  obtain ⟨_, hne, hs, _, ht⟩ := ha
  simp only at hne hs ht
  obtain ⟨c, r, rfl⟩ := List.exists_cons_of_ne_nil hne
  obtain ⟨h47, hw⟩ := skip_zero hs
  have hw' : isWhite c = false := by
    cases h0 : isWhite c with
    | false => rfl
    | true => rw [List.takeWhile_cons_of_pos h0] at hw; cases hw
  refine Lx.tok hne (skip_fin hd b r hw' h47).1 ?_ h
  rw [lexToken_fin hd b c r ?_]
  · exact ht
  · rintro rfl
    have h1 : lexLiteral (39 :: r) = (⟨k, 39 :: r, 0⟩, (39 :: r).length, 0) := ht
    match r, h1 with
    | [], h1 => simp [lexLiteral, tokErr] at h1
    | [_], h1 => simp [lexLiteral, tokErr] at h1
    | _ :: _ :: _, _ => simp
theorem Lx.sign {c : UInt8} (hc : c ∈ ([40, 41, 91, 93, 44, 59, 123, 125, 45] : List UInt8)) {rest : List UInt8} {ks : List KT} (h : Lx rest ks) : Lx (c :: rest) (sg c :: ks) := by
  have h1 : skipLen (c :: rest) = 0 := by
    have : ∀ c ∈ ([40, 41, 91, 93, 44, 59, 123, 125, 45] : List UInt8), isWhite c = false ∧ c ≠ 47 := by decide
    exact skip_head (this c hc).1 (this c hc).2
  have h2 : lexToken (c :: rest) = (⟨4, [c], 0⟩, 1, 0) := by
    simp only [List.mem_cons, List.not_mem_nil, or_false] at hc
    rcases hc with rfl | rfl | rfl | rfl | rfl | rfl | rfl | rfl | rfl <;> rfl
  exact Lx.tok (x := [c]) (by simp) h1 h2 h
theorem Lx.bang {c : UInt8} (hc : c ≠ 61) {r : List UInt8} {ks : List KT} (h : Lx (c :: r) ks) : Lx (33 :: c :: r) (sg 33 :: ks) := by
  have h1 : skipLen (33 :: c :: r) = 0 := skip_head (by decide) (by decide)
  have h2 : lexToken (33 :: c :: r) = (⟨4, [33], 0⟩, 1, 0) := by
    have h3 : signs.find? (fun x => x.isPrefixOf (33 :: c :: r)) = some [33] := by
      have h4 : ((61 : UInt8) == c) = false := by
        rw [beq_eq_false_iff_ne]
        exact fun h => hc h.symm
      simp [signs, List.isPrefixOf, h4]
    show lexSign (33 :: c :: r) = _
    unfold lexSign
    rw [h3]
    rfl
  exact Lx.tok (x := [33]) (by simp) h1 h2 h
theorem fin59 : Fin2 59 := ⟨by decide, by decide, by decide, by decide, by decide⟩
theorem fin41 : Fin2 41 := ⟨by decide, by decide, by decide, by decide, by decide⟩
theorem fin32 : Fin2 32 := ⟨by decide, by decide, by decide, by decide, by decide⟩
theorem fin40 : Fin2 40 := ⟨by decide, by decide, by decide, by decide, by decide⟩
theorem fin91 : Fin2 91 := ⟨by decide, by decide, by decide, by decide, by decide⟩
theorem fin93 : Fin2 93 := ⟨by decide, by decide, by decide, by decide, by decide⟩
theorem fin44 : Fin2 44 := ⟨by decide, by decide, by decide, by decide, by decide⟩
/-- The text begins with a character that ends what stands ahead. -/
def DelS (s : List UInt8) : Prop := ∃ d b, s = d :: b ∧ Fin2 d
theorem Lx.delS {x s : List UInt8} {k l0 : Int} {ks : List KT} (ha : Again ⟨k, x, l0⟩) (hd : DelS s) (h : Lx s ks) : Lx (x ++ s) ((k, x) :: ks) := by
  obtain ⟨d, b, rfl, hd⟩ := hd
  exact Lx.del ha hd h
theorem kw_again : ∀ x ∈ keywords, x.length ≤ 24 ∧ x ≠ [] ∧ skipLen x = 0 ∧ (10 : UInt8) ∉ x ∧ lexToken x = (⟨3, x, 0⟩, x.length, 0) := by decide +kernel
theorem again_kw {x : List UInt8} (h : x ∈ keywords) : Again ⟨3, x, 0⟩ := kw_again x h
theorem again_sg {x : List UInt8} (h : x ∈ signs) : Again ⟨4, x, 0⟩ := again_sign x h
theorem op_facts1 : ∀ s, s < 6 → ∀ o ∈ lvOps s, o ≠ nNum ∧ o ≠ nVar ∧ o ≠ nElem ∧ o ≠ nCall := by decide +kernel
theorem op_facts2 : ∀ s, s < 6 → ∀ o ∈ lvOps s, o ≠ nNeg ∧ o ≠ nNot ∧ strengthP o = s ∧ o ∈ signs := by decide +kernel
theorem op_facts (s : Nat) (hs : s < 6) (o : List UInt8) (ho : o ∈ lvOps s) : o ≠ nNum ∧ o ≠ nVar ∧ o ≠ nElem ∧ o ≠ nCall ∧ o ≠ nNeg ∧ o ≠ nNot ∧ strengthP o = s ∧ o ∈ signs := by
  obtain ⟨h1, h2, h3, h4⟩ := op_facts1 s hs o ho
  exact ⟨h1, h2, h3, h4, op_facts2 s hs o ho⟩
theorem opnd_no {o t : List UInt8} {k : Nat} (h : k ≤ strengthP o) : opnd (o, t) k = t := by
  unfold opnd
  rw [if_neg (by simp only; omega)]
theorem opnd_yes {o t : List UInt8} {k : Nat} (h : strengthP o < k) : opnd (o, t) k = [40] ++ t ++ [41] := by
  unfold opnd
  rw [if_pos h]
theorem fE_num (n : Nat) : fE (.mk nNum n [] []) = decDigits n := by
  rw [fE_mk, fNode, if_pos rfl]
theorem fE_var (s : List UInt8) : fE (.mk nVar 0 s []) = s := by
  rw [fE_mk, fNode, if_neg (by decide), if_pos rfl]
theorem fE_elem (s : List UInt8) (a : Ex) : fE (.mk nElem 0 s [a]) = s ++ [91] ++ fE a ++ [93] := by
  rw [fE_mk, fNode, if_neg (by decide), if_neg (by decide), if_pos ⟨rfl, rfl⟩]
  rfl
theorem fE_call (s : List UInt8) (l : List Ex) : fE (.mk nCall 0 s l) = s ++ [40] ++ join (l.map fE) comSp ++ [41] := by
  rw [fE_mk, fNode, if_neg (by decide), if_neg (by decide), if_neg (fun h => absurd h.1 (by decide)), if_pos rfl, List.map_map]
  rfl
theorem fE_neg (a : Ex) : fE (.mk nNeg 0 [] [a]) = 45 :: opnd (exOp a, fE a) 6 := by
  rw [fE_mk, fNode, if_neg (by decide), if_neg (by decide), if_neg (fun h => absurd h.1 (by decide)), if_neg (by decide), if_pos ⟨rfl, rfl⟩]
  rfl
theorem fE_not (a : Ex) : fE (.mk nNot 0 [] [a]) = 33 :: opnd (exOp a, fE a) 6 := by
  rw [fE_mk, fNode, if_neg (by decide), if_neg (by decide), if_neg (fun h => absurd h.1 (by decide)), if_neg (by decide), if_neg (fun h => absurd h.1 (by decide)), if_pos ⟨rfl, rfl⟩]
  rfl
theorem fE_bin {s : Nat} {o : List UInt8} (hs : s < 6) (ho : o ∈ lvOps s) (a b : Ex) : fE (.mk o 0 [] [a, b]) = opnd (exOp a, fE a) (leftLv s) ++ [32] ++ o ++ [32] ++ opnd (exOp b, fE b) (s + 1) := by
  obtain ⟨h1, h2, h3, h4, h5, h6, h7, _⟩ := op_facts s hs o ho
  rw [fE_mk, fNode, if_neg h1, if_neg h2, if_neg (fun h => h3 h.1), if_neg h4, if_neg (fun h => h5 h.1), if_neg (fun h => h6 h.1), if_pos (by rfl), h7]
  rfl
theorem name_head {s : List UInt8} (h : NameOk s) : ∃ c r, s = c :: r ∧ c ≠ 61 := by
  obtain ⟨_, hne, _, _, ht⟩ := h
  obtain ⟨c, r, hr⟩ := List.exists_cons_of_ne_nil hne
  simp only at hr ht
  refine ⟨c, r, hr, ?_⟩
  rintro rfl
  rw [hr] at ht
  have h1 : lexSign (61 :: r) = (⟨2, 61 :: r, 0⟩, (61 :: r).length, 0) := ht
  unfold lexSign at h1
  split at h1
  · injection h1 with h1 _
    injection h1 with h1 _ _
    exact absurd h1 (by decide)
  · injection h1 with h1 _
    injection h1 with h1 _ _
    exact absurd h1 (by decide)
/-- The text of an expression does not begin with the equality sign. -/
theorem pe_head : ∀ (n : Nat) (e : Ex), nEx e ≤ n → ∀ (k : Nat) (ts : List KT) (d : Nat), k ≤ 6 → PE e k ts d → ∃ c r, opnd (exOp e, fE e) k = c :: r ∧ c ≠ 61
  | 0, .mk _ _ _ _, hn => by rw [nEx] at hn; omega
  | n + 1, e, hn => by
    intro k ts d hk h
    cases h with
    | num h =>
      rename_i m
      show ∃ c r, opnd (nNum, fE _) k = _ ∧ _
      rw [opnd_no (by rw [show strengthP nNum = 7 from rfl]; omega), fE_num]
      obtain ⟨c, r, hr⟩ := List.exists_cons_of_ne_nil (decDigits_ne m)
      refine ⟨c, r, hr, ?_⟩
      rintro rfl
      have := dec_digits m 61 (by rw [hr]; exact List.mem_cons_self ..)
      exact absurd this (by decide)
    | var h =>
      show ∃ c r, opnd (nVar, fE _) k = _ ∧ _
      rw [opnd_no (by rw [show strengthP nVar = 7 from rfl]; omega), fE_var]
      exact name_head h
    | elem h ha =>
      show ∃ c r, opnd (nElem, fE _) k = _ ∧ _
      rw [opnd_no (by rw [show strengthP nElem = 7 from rfl]; omega), fE_elem]
      obtain ⟨c, r, rfl, hc⟩ := name_head h
      exact ⟨c, _, rfl, hc⟩
    | call h ha =>
      show ∃ c r, opnd (nCall, fE _) k = _ ∧ _
      rw [opnd_no (by rw [show strengthP nCall = 7 from rfl]; omega), fE_call]
      obtain ⟨c, r, rfl, hc⟩ := name_head h
      exact ⟨c, _, rfl, hc⟩
    | neg ha =>
      show ∃ c r, opnd (nNeg, fE _) k = _ ∧ _
      rw [opnd_no (by rw [show strengthP nNeg = 6 from rfl]; omega), fE_neg]
      exact ⟨_, _, rfl, by decide⟩
    | not ha =>
      show ∃ c r, opnd (nNot, fE _) k = _ ∧ _
      rw [opnd_no (by rw [show strengthP nNot = 6 from rfl]; omega), fE_not]
      exact ⟨_, _, rfl, by decide⟩
    | par hs ho hk2 ha hb =>
      obtain ⟨_, _, _, _, _, _, h7, _⟩ := op_facts _ hs _ ho
      simp only [exOp]
      rw [opnd_yes (by omega)]
      exact ⟨_, _, rfl, by decide⟩
    | bin hs ho hk2 ha hb =>
      obtain ⟨_, _, _, _, _, _, h7, _⟩ := op_facts _ hs _ ho
      simp only [nEx, nExs] at hn
      simp only [exOp]
      rw [opnd_no (by omega), fE_bin hs ho]
      obtain ⟨c, r, hr, hc⟩ := pe_head n _ (by omega) _ _ _ (by unfold leftLv; split <;> omega) ha
      rw [hr]
      exact ⟨c, _, rfl, hc⟩
/-- What is printed of e is lexed into its tokens. -/
def LE (e : Ex) : Prop := ∀ (k : Nat) (ts : List KT) (d : Nat) (rest : List UInt8) (ks : List KT), k ≤ 6 → PE e k ts d → DelS rest → Lx rest ks → Lx (opnd (exOp e, fE e) k ++ rest) (ts ++ ks)
theorem delS_cons {d : UInt8} (hd : Fin2 d) (b : List UInt8) : DelS (d :: b) := ⟨d, b, rfl, hd⟩
theorem LE.zero {e : Ex} (h : LE e) {ts : List KT} {d : Nat} {rest : List UInt8} {ks : List KT} (hp : PE e 0 ts d) (hd : DelS rest) (hl : Lx rest ks) : Lx (fE e ++ rest) (ts ++ ks) := by
  have := h 0 ts d rest ks (by omega) hp hd hl
  rwa [opnd_no (Nat.zero_le _)] at this
theorem join_two (x y : List UInt8) (r : List (List UInt8)) : join (x :: y :: r) comSp = x ++ (44 :: 32 :: join (y :: r) comSp) := by
  have h : join (x :: y :: r) comSp = x ++ comSp ++ join (y :: r) comSp := by simp [join]
  rw [h, List.append_assoc]
  rfl
theorem list_lex : ∀ (l : List Ex) (ts : List KT) (d : Nat) (rest : List UInt8) (ks : List KT), (∀ x ∈ l, LE x) → PEs l ts d → DelS rest → Lx rest ks → Lx (join (l.map fE) comSp ++ rest) (ts ++ ks)
  | [], ts, d, rest, ks, _, hp, _, h => by
    cases hp with
    | nil => exact h
  | a :: l, ts, d, rest, ks, hl, hp, hd, h => by
    cases hp with
    | one ha =>
      rw [show List.map fE [a] = [fE a] from rfl, join_one]
      exact (hl a (List.mem_cons_self ..)).zero ha hd h
    | @more _ b l t1 t2 d1 d2 ha hr =>
      have h2 := list_lex (b :: l) t2 d2 rest ks (fun x hx => hl x (List.mem_cons_of_mem _ hx)) hr hd h
      rw [List.map_cons, List.map_cons, join_two, List.append_assoc, List.append_assoc]
      refine (hl a (List.mem_cons_self ..)).zero ha (delS_cons fin44 _) ?_
      exact Lx.sign (by decide) (Lx.white (by decide) h2)
theorem ex_lex : ∀ (n : Nat) (e : Ex), nEx e ≤ n → LE e
  | 0, .mk _ _ _ _, hn => by rw [nEx] at hn; omega
  | n + 1, e, hn => by
    intro k ts d rest ks hk hp hd hl
    have bin : ∀ {s : Nat} {o : List UInt8} {a b : Ex} {t1 t2 : List KT} {d1 d2 : Nat} {rest : List UInt8} {ks : List KT}, nEx (.mk o 0 [] [a, b]) ≤ n + 1 → s < 6 → o ∈ lvOps s → PE a (leftLv s) t1 d1 → PE b (s + 1) t2 d2 → DelS rest → Lx rest ks →
        Lx (fE (.mk o 0 [] [a, b]) ++ rest) ((t1 ++ (4, o) :: t2) ++ ks) := by
      intro s o a b t1 t2 d1 d2 rest ks hn hs ho pa pb hd hl
      obtain ⟨_, _, _, _, _, _, _, h8⟩ := op_facts s hs o ho
      simp only [nEx, nExs] at hn
      rw [fE_bin hs ho]
      have h2 := ex_lex n b (by omega) (s + 1) t2 d2 rest ks (by omega) pb hd hl
      have h3 : Lx (o ++ 32 :: (opnd (exOp b, fE b) (s + 1) ++ rest)) ((4, o) :: (t2 ++ ks)) := Lx.del (again_sg h8) fin32 (Lx.white (by decide) h2)
      have h4 := ex_lex n a (by omega) (leftLv s) t1 d1 (32 :: (o ++ 32 :: (opnd (exOp b, fE b) (s + 1) ++ rest))) _ (by unfold leftLv; split <;> omega) pa (delS_cons fin32 _) (Lx.white (by decide) h3)
      simpa only [List.append_assoc, List.cons_append, List.nil_append] using h4
    cases hp with
    | num h =>
      show Lx (opnd (nNum, fE _) k ++ rest) _
      rw [opnd_no (by rw [show strengthP nNum = 7 from rfl]; omega), fE_num]
      exact Lx.delS (again_dec h 0) hd hl
    | var h =>
      show Lx (opnd (nVar, fE _) k ++ rest) _
      rw [opnd_no (by rw [show strengthP nVar = 7 from rfl]; omega), fE_var]
      exact Lx.delS h hd hl
    | elem h ha =>
      rename_i s a t1 d1
      simp only [nEx, nExs] at hn
      show Lx (opnd (nElem, fE _) k ++ rest) _
      rw [opnd_no (by rw [show strengthP nElem = 7 from rfl]; omega), fE_elem]
      have h1 := (ex_lex n a (by omega)).zero ha (delS_cons fin93 rest) (Lx.sign (by decide) hl)
      have h2 := Lx.del h fin91 (Lx.sign (by decide) h1)
      simpa only [List.append_assoc, List.cons_append, List.nil_append] using h2
    | call h ha =>
      rename_i s l t1 d1
      simp only [nEx] at hn
      show Lx (opnd (nCall, fE _) k ++ rest) _
      rw [opnd_no (by rw [show strengthP nCall = 7 from rfl]; omega), fE_call]
      have h1 := list_lex l t1 d1 (41 :: rest) _ (fun x hx => ex_lex n x (by have := nExs_mem hx; omega)) ha (delS_cons fin41 rest) (Lx.sign (by decide) hl)
      have h2 := Lx.del h fin40 (Lx.sign (by decide) h1)
      simpa only [List.append_assoc, List.cons_append, List.nil_append] using h2
    | neg ha =>
      simp only [nEx, nExs] at hn
      show Lx (opnd (nNeg, fE _) k ++ rest) _
      rw [opnd_no (by rw [show strengthP nNeg = 6 from rfl]; omega), fE_neg]
      exact Lx.sign (by decide) (ex_lex n _ (by omega) 6 _ _ rest ks (by omega) ha hd hl)
    | not ha =>
      rename_i a t1 d1
      simp only [nEx, nExs] at hn
      show Lx (opnd (nNot, fE _) k ++ rest) _
      rw [opnd_no (by rw [show strengthP nNot = 6 from rfl]; omega), fE_not]
      have h1 := ex_lex n a (by omega) 6 _ _ rest ks (by omega) ha hd hl
      obtain ⟨c, r, hr, hc⟩ := pe_head _ a (Nat.le_refl _) _ _ _ (by omega) ha
      rw [hr] at h1 ⊢
      exact Lx.bang hc h1
    | par hs ho hk2 ha hb =>
      obtain ⟨_, _, _, _, _, _, h7, _⟩ := op_facts _ hs _ ho
      have h1 := bin hn hs ho ha hb (delS_cons fin41 rest) (Lx.sign (by decide) hl)
      simp only [exOp]
      rw [opnd_yes (by omega)]
      have h2 := Lx.sign (c := 40) (by decide) h1
      simpa only [List.append_assoc, List.cons_append, List.nil_append] using h2
    | bin hs ho hk2 ha hb =>
      obtain ⟨_, _, _, _, _, _, h7, _⟩ := op_facts _ hs _ ho
      simp only [exOp]
      rw [opnd_no (by omega)]
      exact bin hn hs ho ha hb hd hl
theorem le (e : Ex) : LE e := ex_lex _ e (Nat.le_refl _)
/-! ### Statements -/
def Ind (ind : List UInt8) : Prop := ∀ c ∈ ind, isWhite c = true
theorem Ind.two {ind : List UInt8} (h : Ind ind) : Ind (ind2 ind) := fun c hc => by
  rcases List.mem_append.1 hc with h1 | h1
  · exact h c h1
  · simp only [List.mem_cons, List.not_mem_nil, or_false, or_self] at h1
    subst h1
    decide
theorem fOne_one (e : Ex) : fOne [e] = fE e := by
  unfold fOne
  rw [show List.map fE [e] = [fE e] from rfl, join_one]
theorem kw {x b : List UInt8} {ks : List KT} (hx : x ∈ keywords) (h : Lx b ks) : Lx (x ++ 32 :: b) ((3, x) :: ks) := Lx.del (again_kw hx) fin32 (Lx.white (by decide) h)
theorem ends {rest : List UInt8} {ks : List KT} (h : Lx rest ks) : Lx (59 :: 10 :: rest) (sg 59 :: ks) := Lx.sign (by decide) (Lx.white (by decide) h)
theorem opens {rest : List UInt8} {ks : List KT} (h : Lx rest ks) : Lx (32 :: 123 :: 10 :: rest) (sg 123 :: ks) := Lx.white (by decide) (Lx.sign (by decide) (Lx.white (by decide) h))
theorem equals {rest : List UInt8} {ks : List KT} (h : Lx rest ks) : Lx (61 :: 32 :: rest) (sg 61 :: ks) := Lx.del (x := [61]) (again_sg (by decide)) fin32 (Lx.white (by decide) h)
theorem sm_lex : ∀ (n : Nat), (∀ (s : Sm), nSm s ≤ n → ∀ (ts : List KT) (d : Nat) (ind rest : List UInt8) (ks : List KT), Ind ind → PS s ts d → Lx rest ks → Lx (fS ind s ++ rest) (ts ++ ks)) ∧
    (∀ (l : List Sm), nSms l ≤ n → ∀ (ts : List KT) (d : Nat) (ind rest : List UInt8) (ks : List KT), Ind ind → PSs l ts d → Lx rest ks → Lx (fSs ind l ++ rest) (ts ++ ks))
  | 0 => by
    refine ⟨fun s hn => ?_, fun l hn ts d ind rest ks hi hp h => ?_⟩
    · obtain ⟨k, a, b, c, d, e⟩ := s
      rw [nSm] at hn
      omega
    · cases hp with
      | nil => exact h
      | cons h1 h2 =>
        rename_i s _ _ _ _ _
        obtain ⟨k, a, b, c, d, e⟩ := s
        rw [nSms, nSm] at hn
        omega
  | n + 1 => by
    obtain ⟨hS, hL⟩ := sm_lex n
    have hS' : ∀ (s : Sm), nSm s ≤ n + 1 → ∀ (ts : List KT) (d : Nat) (ind rest : List UInt8) (ks : List KT), Ind ind → PS s ts d → Lx rest ks → Lx (fS ind s ++ rest) (ts ++ ks) := by
      intro s hn ts d ind rest ks hi hp h
      have hi2 := hi.two
      cases hp with
      | assign hs he =>
        rename_i s e t1
        have h1 := Lx.whites hi (Lx.del hs fin32 (Lx.white (by decide) (equals ((le e).zero he (delS_cons fin59 _) (ends h)))))
        rw [fS_mk, fLine, if_pos rfl, fOne_one]
        simpa only [List.append_assoc, List.cons_append, List.nil_append] using h1
      | store hs hx he =>
        rename_i s x e t1 t2 d1 d2
        have h1 := Lx.whites hi (Lx.del hs fin91 (Lx.sign (by decide) ((le x).zero hx (delS_cons fin93 _) (Lx.sign (by decide) (Lx.white (c := 32) (by decide) (equals ((le e).zero he (delS_cons fin59 _) (ends h))))))))
        rw [fS_mk, fLine, if_neg (by decide), if_pos rfl, fOne_one, fOne_one]
        simpa only [List.append_assoc, List.cons_append, List.nil_append] using h1
      | call hs hl =>
        rename_i s l t1 d1
        have h1 := Lx.whites hi (Lx.del hs fin40 (Lx.sign (by decide) (list_lex l t1 d1 _ _ (fun x _ => le x) hl (delS_cons fin41 _) (Lx.sign (by decide) (ends h)))))
        rw [fS_mk, fLine, if_neg (by decide), if_neg (by decide), if_pos rfl, fOne_one, fE_call]
        simpa only [List.append_assoc, List.cons_append, List.nil_append] using h1
      | ret he =>
        rename_i e t1
        have h1 := Lx.whites hi (kw (x := kwReturn) (by decide) ((le e).zero he (delS_cons fin59 _) (ends h)))
        rw [fS_mk, fLine, if_neg (by decide), if_neg (by decide), if_neg (by decide), if_pos rfl, fOne_one]
        simpa only [kwReturn, List.append_assoc, List.cons_append, List.nil_append] using h1
      | halt =>
        have h1 := Lx.whites hi (Lx.del (again_kw (x := kwHalt) (by decide)) fin59 (ends h))
        rw [fS_mk, fLine, if_neg (by decide), if_neg (by decide), if_neg (by decide), if_neg (by decide), if_pos rfl]
        simpa only [kwHalt, List.append_assoc, List.cons_append, List.nil_append] using h1
      | ifElse he g1 g2 hne =>
        rename_i e th el t0 t1 t2 d0 d1 d2
        simp only [nSm] at hn
        have k1 : Lx (ind ++ 125 :: 10 :: rest) (sg 125 :: ks) := Lx.whites hi (Lx.sign (by decide) (Lx.white (by decide) h))
        have k2 := hL el (by omega) t2 d2 (ind2 ind) _ _ hi2 g2 k1
        have k3 := Lx.whites hi (Lx.sign (c := 125) (by decide) (Lx.white (c := 32) (by decide) (Lx.del (again_kw (x := kwElse) (by decide)) fin32 (opens k2))))
        have k4 := hL th (by omega) t1 d1 (ind2 ind) _ _ hi2 g1 k3
        have h1 := Lx.whites hi (kw (x := kwIf) (by decide) ((le e).zero he (delS_cons fin32 _) (opens k4)))
        have hem : el.isEmpty = false := by cases el <;> simp_all
        rw [fS_mk, fLine, if_neg (by decide), if_neg (by decide), if_neg (by decide), if_neg (by decide), if_neg (by decide), if_pos (by decide), if_neg (by decide), fOne_one, hem, if_neg (by decide)]
        simpa only [kwIf, kwElse, List.append_assoc, List.cons_append, List.nil_append] using h1
      | ifThen he g1 =>
        rename_i e th t0 t1 d0 d1
        simp only [nSm] at hn
        have k1 : Lx (ind ++ 125 :: 10 :: rest) (sg 125 :: ks) := Lx.whites hi (Lx.sign (by decide) (Lx.white (by decide) h))
        have k4 := hL th (by omega) t1 d1 (ind2 ind) _ _ hi2 g1 k1
        have h1 := Lx.whites hi (kw (x := kwIf) (by decide) ((le e).zero he (delS_cons fin32 _) (opens k4)))
        rw [fS_mk, fLine, if_neg (by decide), if_neg (by decide), if_neg (by decide), if_neg (by decide), if_neg (by decide), if_pos (by decide), if_neg (by decide), fOne_one, if_pos (by rfl)]
        simpa only [kwIf, List.append_assoc, List.cons_append, List.nil_append, List.append_nil] using h1
      | «while» he g1 =>
        rename_i e th t0 t1 d0 d1
        simp only [nSm] at hn
        have k1 : Lx (ind ++ 125 :: 10 :: rest) (sg 125 :: ks) := Lx.whites hi (Lx.sign (by decide) (Lx.white (by decide) h))
        have k4 := hL th (by omega) t1 d1 (ind2 ind) _ _ hi2 g1 k1
        have h1 := Lx.whites hi (kw (x := kwWhile) (by decide) ((le e).zero he (delS_cons fin32 _) (opens k4)))
        rw [fS_mk, fLine, if_neg (by decide), if_neg (by decide), if_neg (by decide), if_neg (by decide), if_neg (by decide), if_pos (by decide), if_pos rfl, fOne_one, if_pos (by rfl)]
        simpa only [kwWhile, List.append_assoc, List.cons_append, List.nil_append, List.append_nil] using h1
    refine ⟨hS', fun l hn ts d ind rest ks hi hp h => ?_⟩
    cases hp with
    | nil => exact h
    | cons h1 h2 =>
      rename_i s l t1 t2 d1 d2
      have hpos : 0 < nSm s := by obtain ⟨k, a, b, c, d, e⟩ := s; rw [nSm]; omega
      rw [nSms] at hn
      rw [fSs, List.append_assoc, List.append_assoc]
      exact hS' s (by omega) t1 d1 ind _ _ hi h1 (hL l (by omega) t2 d2 ind rest ks hi h2 h)
theorem sms_lex {l : List Sm} {ts : List KT} {d : Nat} {ind rest : List UInt8} {ks : List KT} (hi : Ind ind) (hp : PSs l ts d) (h : Lx rest ks) : Lx (fSs ind l ++ rest) (ts ++ ks) := (sm_lex _).2 l (Nat.le_refl _) ts d ind rest ks hi hp h
/-! ### Declarations -/
theorem names_lex : ∀ (l : List (List UInt8)) (rest : List UInt8) (ks : List KT), AllOk l → DelS rest → Lx rest ks → Lx (join l comSp ++ rest) (commas l ++ ks)
  | [], rest, ks, _, _, h => h
  | [a], rest, ks, ha, hd, h => by
    rw [join_one]
    exact Lx.delS (ha a (List.mem_cons_self ..)) hd h
  | a :: b :: l, rest, ks, ha, hd, h => by
    have h2 := names_lex (b :: l) rest ks (fun x hx => ha x (List.mem_cons_of_mem _ hx)) hd h
    rw [join_two, List.append_assoc]
    exact Lx.del (ha a (List.mem_cons_self ..)) fin44 (Lx.sign (by decide) (Lx.white (by decide) h2))
theorem vars_lex {l : List (List UInt8)} {rest : List UInt8} {ks : List KT} (hl : AllOk l) (h : Lx rest ks) : Lx ((if l = [] then [] else varsT l) ++ rest) (varK l ++ ks) := by
  unfold varK
  split
  · exact h
  · have h1 := kw (x := kwVar) (by decide) (names_lex l _ _ hl (delS_cons fin59 _) (ends h))
    unfold varsT
    simpa only [kwVar, List.append_assoc, List.cons_append, List.nil_append] using h1
theorem fn_lex {a : FnD} {ts : List KT} {d : Nat} {rest : List UInt8} {ks : List KT} (hp : PF a ts d) (h : Lx rest ks) : Lx (fFn a ++ rest) (ts ++ ks) := by
  cases hp with
  | mk hn hps hls hb =>
    rename_i nm ps ls b t1 d1
    have k1 : Lx (125 :: 10 :: rest) (sg 125 :: ks) := Lx.sign (by decide) (Lx.white (by decide) h)
    have k2 := sms_lex (ind := [32, 32]) (by intro c hc; simp only [List.mem_cons, List.not_mem_nil, or_false, or_self] at hc; subst hc; decide) hb k1
    have k3 : Lx ((if ls = [] then [] else [32, 32] ++ varsT ls) ++ (fSs [32, 32] b ++ 125 :: 10 :: rest)) (varK ls ++ (t1 ++ sg 125 :: ks)) := by
      have := vars_lex hls k2
      split
      · rename_i hls0
        rwa [if_pos hls0] at this
      · rename_i hls0
        rw [if_neg hls0] at this
        rw [List.append_assoc]
        exact Lx.white (by decide) (Lx.white (by decide) this)
    have k4 := names_lex ps _ _ hps (delS_cons fin41 _) (Lx.sign (by decide) (opens k3))
    have h1 := kw (x := kwFunc) (by decide) (Lx.del hn fin40 (Lx.sign (by decide) k4))
    unfold fFn
    simpa only [kwFunc, List.append_assoc, List.cons_append, List.nil_append] using h1
theorem ar_lex {a : Ar} {rest : List UInt8} {ks : List KT} (ha : NameOk a.name ∧ a.size < 4294967296) (h : Lx rest ks) : Lx (fAr a ++ rest) (arK a ++ ks) := by
  have h1 := kw (x := kwArray) (by decide) (Lx.del ha.1 fin91 (Lx.sign (by decide) (Lx.del (again_dec ha.2 0) fin93 (Lx.sign (by decide) (ends h)))))
  unfold fAr arK
  simpa only [kwArray, List.append_assoc, List.cons_append, List.nil_append] using h1
theorem ars_lex : ∀ (l : List Ar) {rest : List UInt8} {ks : List KT}, ArsOk l → Lx rest ks → Lx ((l.map fAr).flatten ++ rest) ((l.map arK).flatten ++ ks)
  | [], _, _, _, h => h
  | a :: l, _, _, hl, h => by
    rw [List.map_cons, List.map_cons, List.flatten_cons, List.flatten_cons, List.append_assoc, List.append_assoc]
    exact ar_lex (hl a (List.mem_cons_self ..)) (ars_lex l (fun x hx => hl x (List.mem_cons_of_mem _ hx)) h)
theorem fns_lex : ∀ (l : List FnD) {ts : List KT} {rest : List UInt8} {ks : List KT}, PFs l ts → Lx rest ks → Lx ((l.map fFn).flatten ++ rest) (ts ++ ks)
  | [], _, _, _, hp, h => by
    cases hp with
    | nil => exact h
  | a :: l, _, _, _, hp, h => by
    cases hp with
    | cons hf hd hl =>
      rw [List.map_cons, List.flatten_cons, List.append_assoc, List.append_assoc]
      exact fn_lex hf (fns_lex l hl h)
/-- A printed program is lexed into its tokens. -/
theorem print_lex {p : Pr} {ts : List KT} (hp : PP p ts) : Lx (formatP p) ts := by
  cases hp with
  | mk hv ha hf =>
    have h1 := vars_lex hv (ars_lex _ ha (fns_lex _ hf Lx.nil))
    unfold formatP
    simpa only [List.append_assoc, List.append_nil] using h1
end Go.Stele
