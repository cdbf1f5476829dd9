/- The parser in plain Lean: a program is the row of its declarations. -/
import Derived.Test.YtfodkbchknknjaaGreatDoorParExt
set_option linter.unusedVariables false
set_option linter.unusedSimpArgs false
namespace Go.Stele
def Pr.app (p q : Pr) : Pr := ⟨p.vars ++ q.vars, p.arrays ++ q.arrays, p.funcs ++ q.funcs⟩
def noDecl : Pr := ⟨[], [], []⟩
theorem Pr.app_assoc (p q r : Pr) : (p.app q).app r = p.app (q.app r) := by simp [Pr.app]
theorem Pr.app_no (p : Pr) : p.app noDecl = p := by simp [Pr.app, noDecl]
theorem Pr.no_app (p : Pr) : noDecl.app p = p := by simp [Pr.app, noDecl]
/-- One declaration stands from i to j. -/
inductive Decl (T : List Tok) : Nat → Pr → Nat → Prop where
  | var {i j : Nat} {l : List (List UInt8)} (h : isTok T i [kwVar] = true) (f0 i1 : Nat) (h1 : ∀ f, f0 ≤ f → sNames T f (i + 1) 0 = some (.ok l i1 0)) (h2 : sNeed T [59] i1 0 = .ok () j 0) : Decl T i ⟨l, [], []⟩ j
  | array {i j : Nat} {a : Ar} (h0 : isTok T i [kwVar] = false) (h : isTok T i [kwArray] = true) (h1 : sArray T (i + 1) 0 = some (.ok a j 0)) : Decl T i ⟨[], [a], []⟩ j
  | func {i j : Nat} {a : FnD} (h0 : isTok T i [kwVar] = false) (h0' : isTok T i [kwArray] = false) (h : isTok T i [kwFunc] = true) (f0 : Nat) (h1 : ∀ f, f0 ≤ f → sFunc T f (i + 1) 0 = some (.ok a j 0)) : Decl T i ⟨[], [], [a]⟩ j
/-- Declarations stand from i to j. -/
inductive Decls (T : List Tok) : Nat → Nat → Pr → Nat → Prop where
  | nil {i : Nat} : Decls T 0 i noDecl i
  | cons {n i j k : Nat} {p q : Pr} (h : Decl T i p j) (ht : Decls T n j q k) : Decls T (n + 1) i (p.app q) k
theorem Decls.trans {T : List Tok} {n m : Nat} : ∀ {i j k : Nat} {p q : Pr}, Decls T n i p j → Decls T m j q k → ∃ o, Decls T o i (p.app q) k := by
  intro i j k p q h1 h2
  induction h1 with
  | nil => rw [Pr.no_app]; exact ⟨m, h2⟩
  | cons h ht ih =>
    obtain ⟨o, ho⟩ := ih h2
    rw [Pr.app_assoc]
    exact ⟨o + 1, .cons h ho⟩
section
variable {T T' : List Tok} {d : Nat}
/-- Rows of variables. -/
theorem vars_decls (hA : Ag T T' d T.length) : ∀ (f : Nat) (acc l : List (List UInt8)) (i i' op' : Nat), sVars T f acc i 0 = some (.ok l i' op') → op' = 0 ∧ ∃ l2 n, l = acc ++ l2 ∧ Decls T' n (i + d) ⟨l2, [], []⟩ (i' + d)
  | 0, _, _, _, _, _, h => by cases h
  | f + 1, acc, l, i, i', op', h => by
    rw [sVars] at h
    split at h
    · rename_i ht
      have hi := isTok_lt ht
      rcases obind_some h with ⟨l1, i1, op1, h1, h2⟩ | ⟨_, _, _, h2⟩
      · obtain ⟨_, _, g3, rfl⟩ := sNames_good T f (i + 1) 0 _ h1
        rcases obind_some h2 with ⟨u, i2, op2, h3, h4⟩ | ⟨_, _, _, h4⟩
        · have hg := sNeed_good T [59] i1 0
          injection h3 with h3
          rw [h3] at hg
          obtain ⟨k1, k2, k3, rfl⟩ := hg
          have hl := k3 (g3 (by omega))
          obtain ⟨rfl, l2, n, rfl, hD⟩ := vars_decls hA f _ _ _ _ _ h4
          refine ⟨rfl, l1 ++ l2, n + 1, by simp, ?_⟩
          have e : (⟨l1 ++ l2, [], []⟩ : Pr) = (⟨l1, [], []⟩ : Pr).app ⟨l2, [], []⟩ := by simp [Pr.app]
          rw [e]
          refine .cons (j := i2 + d) (.var (by rw [hA.isTok hi]; exact ht) f (i1 + d) (fun g hg => ?_) ?_) hD
          · have := (names_ext hA f g (i + 1) 0 hg _ _ _ h1).2.2 (.inl (by have := k2 rfl; omega))
            rw [show i + d + 1 = i + 1 + d by omega]
            exact this
          · have := (need_ext hA [59] i1 0 _ _ _ (congrArg some h3)).2.2 (.inr ⟨rfl, hl⟩)
            injection this
        · cases h4
      · cases h2
    · cases h
      exact ⟨rfl, [], 0, by simp, .nil⟩
theorem prog_decls (hA : Ag T T' d T.length) : ∀ (f : Nat) (p q : Pr) (i j op' : Nat), i ≤ T.length → sProg T f p i 0 = some (.ok q j op') → ∃ dl n, q = p.app dl ∧ Decls T' n (i + d) dl (T.length + d)
  | 0, _, _, _, _, _, _, h => by cases h
  | f + 1, p, q, i, j, op', hi, h => by
    rw [sProg] at h
    split at h
    · cases h
      have : i = T.length := by omega
      subst this
      exact ⟨noDecl, 0, (Pr.app_no p).symm, .nil⟩
    rename_i hlt
    have hlt' : i < T.length := by omega
    split at h
    · rcases obind_some h with ⟨l1, i1, op1, h1, h2⟩ | ⟨_, _, _, h2⟩
      · obtain ⟨rfl, l2, n, rfl, hD⟩ := vars_decls hA f _ _ _ _ _ h1
        have hg := sVars_good T f [] i 0 _ h1
        obtain ⟨dl, m, rfl, hD2⟩ := prog_decls hA f _ _ _ _ _ (hg.2.2.1 hi) h2
        obtain ⟨o, ho⟩ := hD.trans hD2
        refine ⟨_, o, ?_, ho⟩
        simp [Pr.app]
      · cases h2
    rename_i hv
    have hv' : isTok T i [kwVar] = false := by simpa using hv
    split at h
    · rename_i ha
      rcases obind_some h with ⟨a, i1, op1, h1, h2⟩ | ⟨_, _, _, h2⟩
      · obtain ⟨g1, g2, g3, rfl⟩ := sArray_good T (i + 1) 0 _ h1
        obtain ⟨dl, m, rfl, hD2⟩ := prog_decls hA f _ _ _ _ _ (g3 (by omega)) h2
        refine ⟨_, m + 1, ?_, .cons (j := i1 + d) (.array (a := a) (by rw [hA.isTok hlt']; exact hv') (by rw [hA.isTok hlt']; exact ha) ?_) hD2⟩
        · simp [Pr.app]
        · have := (array_ext hA (i + 1) 0 _ _ _ h1).2.2 (.inr ⟨rfl, g3 (by omega)⟩)
          rw [show i + d + 1 = i + 1 + d by omega]
          exact this
      · cases h2
    rename_i ha
    have ha' : isTok T i [kwArray] = false := by simpa using ha
    split at h
    · rename_i hf
      rcases obind_some h with ⟨a, i1, op1, h1, h2⟩ | ⟨_, _, _, h2⟩
      · obtain ⟨g1, g2, g3, rfl⟩ := sFunc_good T f (i + 1) 0 _ h1
        obtain ⟨dl, m, rfl, hD2⟩ := prog_decls hA f _ _ _ _ _ (g3 (by omega)) h2
        refine ⟨_, m + 1, ?_, .cons (j := i1 + d) (.func (a := a) (by rw [hA.isTok hlt']; exact hv') (by rw [hA.isTok hlt']; exact ha') (by rw [hA.isTok hlt']; exact hf) f fun g hg => ?_) hD2⟩
        · simp [Pr.app]
        · have := (func_ext hA f g (i + 1) 0 hg _ _ _ h1).2.2 (.inr ⟨rfl, g3 (by omega)⟩)
          rw [show i + d + 1 = i + 1 + d by omega]
          exact this
      · cases h2
    · unfold synErr at h
      cases h
end
theorem tok_end {T : List Tok} (xs : List (List UInt8)) : isTok T T.length xs = false := by
  unfold isTok
  rw [List.getElem?_eq_none (Nat.le_refl _)]
/-- The variables at the head of a row of declarations. -/
theorem decls_vars {T : List Tok} {n i j : Nat} {dl : Pr} (h : Decls T n i dl j) : j = T.length → ∃ f0 l i' m dl', (∀ f, f0 ≤ f → ∀ acc, sVars T f acc i 0 = some (.ok (acc ++ l) i' 0)) ∧ Decls T m i' dl' j ∧ dl = (⟨l, [], []⟩ : Pr).app dl' ∧ m ≤ n ∧ (isTok T i [kwVar] = true → m < n) := by
  induction h with
  | nil =>
    intro hj
    subst hj
    refine ⟨1, [], T.length, 0, noDecl, fun f hf acc => ?_, .nil, by simp [Pr.app, noDecl], Nat.le_refl _, fun h => by rw [tok_end] at h; cases h⟩
    obtain ⟨g, rfl⟩ : ∃ g, f = g + 1 := ⟨f - 1, by omega⟩
    rw [sVars, if_neg (by rw [tok_end]; decide)]
    simp
  | @cons n i j k p q hd ht ih =>
    intro hk
    obtain ⟨f0, l, i', m, dl', h1, h2, h3, h4, h5⟩ := ih hk
    cases hd with
    | @var _ l1 hv f1 i1 hn hs =>
      refine ⟨max f0 f1 + 1, l1 ++ l, i', m, dl', fun f hf acc => ?_, h2, by rw [h3]; simp [Pr.app], by omega, fun _ => by omega⟩
      obtain ⟨g, rfl⟩ : ∃ g, f = g + 1 := ⟨f - 1, by omega⟩
      rw [sVars, if_pos hv, hn g (by omega)]
      show obind (some (sNeed T [59] i1 0)) _ = _
      rw [hs]
      show sVars T g (acc ++ l1) j 0 = _
      rw [h1 g (by omega)]
      simp
    | @array _ a hv ha h =>
      refine ⟨1, [], i, n + 1, _, fun f hf acc => ?_, .cons (.array hv ha h) ht, by rw [show (⟨[], [], []⟩ : Pr) = noDecl from rfl, Pr.no_app], by omega, fun h' => by rw [hv] at h'; cases h'⟩
      obtain ⟨g, rfl⟩ : ∃ g, f = g + 1 := ⟨f - 1, by omega⟩
      rw [sVars, if_neg (by rw [hv]; decide)]
      simp
    | @func _ a hv ha' ha f1 h =>
      refine ⟨1, [], i, n + 1, _, fun f hf acc => ?_, .cons (.func hv ha' ha f1 h) ht, by rw [show (⟨[], [], []⟩ : Pr) = noDecl from rfl, Pr.no_app], by omega, fun h' => by rw [hv] at h'; cases h'⟩
      obtain ⟨g, rfl⟩ : ∃ g, f = g + 1 := ⟨f - 1, by omega⟩
      rw [sVars, if_neg (by rw [hv]; decide)]
      simp
theorem decls_prog {T : List Tok} : ∀ (N n i : Nat) (dl : Pr), n ≤ N → Decls T n i dl T.length → ∃ f0, ∀ f, f0 ≤ f → ∀ p, sProg T f p i 0 = some (.ok (p.app dl) T.length 0)
  | N, n, i, dl, hn, h => by
    have hv := decls_vars h rfl
    cases h with
    | nil =>
      refine ⟨1, fun f hf p => ?_⟩
      obtain ⟨g, rfl⟩ : ∃ g, f = g + 1 := ⟨f - 1, by omega⟩
      rw [sProg, if_pos (Nat.le_refl _), Pr.app_no]
    | @cons n _ j _ p q hd ht =>
      cases N with
      | zero => omega
      | succ N =>
      cases hd with
      | @var _ l1 hv1 f1 i1 hn1 hs =>
        obtain ⟨f0, l, i', m, dl', h1, h2, h3, h4, h5⟩ := hv
        obtain ⟨f2, h6⟩ := decls_prog N m i' dl' (by have := h5 hv1; omega) h2
        have hlt := isTok_lt hv1
        refine ⟨max f0 f2 + 1, fun f hf p => ?_⟩
        obtain ⟨g, rfl⟩ : ∃ g, f = g + 1 := ⟨f - 1, by omega⟩
        rw [sProg, if_neg (by omega), if_pos hv1, h1 g (by omega)]
        show sProg T g _ i' 0 = _
        rw [h6 g (by omega), h3]
        simp [Pr.app]
      | @array _ a hv0 ha h =>
        obtain ⟨f2, h6⟩ := decls_prog N n j q (by omega) ht
        have hlt := isTok_lt ha
        refine ⟨f2 + 1, fun f hf p => ?_⟩
        obtain ⟨g, rfl⟩ : ∃ g, f = g + 1 := ⟨f - 1, by omega⟩
        rw [sProg, if_neg (by omega), if_neg (by rw [hv0]; decide), if_pos ha, h]
        show sProg T g _ j 0 = _
        rw [h6 g (by omega)]
        simp [Pr.app]
      | @func _ a hv0 ha hf1 f1 h =>
        obtain ⟨f2, h6⟩ := decls_prog N n j q (by omega) ht
        have hlt := isTok_lt hf1
        refine ⟨max f1 f2 + 1, fun f hf p => ?_⟩
        obtain ⟨g, rfl⟩ : ∃ g, f = g + 1 := ⟨f - 1, by omega⟩
        rw [sProg, if_neg (by omega), if_neg (by rw [hv0]; decide), if_neg (by rw [ha]; decide), if_pos hf1, h g (by omega)]
        show sProg T g _ j 0 = _
        rw [h6 g (by omega)]
        simp [Pr.app]
/-- Two programs' tokens, one behind the other. -/
theorem prog_cat {A B : List Tok} {p q : Pr} {fa fb i1 i2 o1 o2 : Nat} (ha : sProg A fa noDecl 0 0 = some (.ok p i1 o1)) (hb : sProg B fb noDecl 0 0 = some (.ok q i2 o2)) {B' : List Tok} (hB : B'.map (fun t => (t.kind, t.text)) = B.map (fun t => (t.kind, t.text))) :
    ∃ i op, sProg (A ++ B') (10 * (A ++ B').length + 20) noDecl 0 0 = some (.ok (p.app q) i op) := by
  have hlen : B'.length = B.length := by simpa using congrArg List.length hB
  have hA1 : Ag A (A ++ B') 0 A.length := fun j hj => ⟨A[j], A[j], by simp [hj], by simp [List.getElem?_append_left hj, hj], rfl, rfl⟩
  have hA2 : Ag B (A ++ B') A.length B.length := fun j hj => by
    have h1 : (B'.map (fun t => (t.kind, t.text)))[j]? = (B.map (fun t => (t.kind, t.text)))[j]? := by rw [hB]
    have hj' : j < B'.length := by omega
    refine ⟨B[j], B'[j], by simp [hj], ?_, ?_⟩
    · rw [List.getElem?_append_right (by omega), Nat.add_sub_cancel]
      simp [hj']
    · simp only [List.getElem?_map, List.getElem?_eq_getElem hj, List.getElem?_eq_getElem hj', Option.map_some, Option.some.injEq, Prod.mk.injEq] at h1
      exact h1
  obtain ⟨d1, n1, rfl, hD1⟩ := prog_decls hA1 fa _ _ 0 _ _ (Nat.zero_le _) ha
  obtain ⟨d2, n2, rfl, hD2⟩ := prog_decls hA2 fb _ _ 0 _ _ (Nat.zero_le _) hb
  rw [Nat.zero_add, Nat.add_zero] at hD1
  rw [Nat.zero_add] at hD2
  obtain ⟨o, ho⟩ := hD1.trans hD2
  rw [show B.length + A.length = (A ++ B').length by rw [List.length_append]; omega] at ho
  obtain ⟨f0, h⟩ := decls_prog o o 0 _ (Nat.le_refl _) ho
  obtain ⟨r, hr⟩ := sProg_ends (A ++ B') (10 * (A ++ B').length + 20) noDecl 0 0 (Nat.zero_le _) (by omega)
  have h1 := prog_le (A ++ B') (10 * (A ++ B').length + 20) (max f0 (10 * (A ++ B').length + 20)) noDecl 0 0 (by omega) _ hr
  rw [h _ (by omega)] at h1
  cases h1
  rw [Pr.no_app, Pr.no_app]
  rw [Pr.no_app] at hr
  exact ⟨_, _, hr⟩
end Go.Stele
