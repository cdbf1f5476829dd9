/- The parser in plain Lean: an expression that ends ahead of ';' may end ahead of ')' as well, behind more open constructs. -/
import Derived.Test.YtfodkbchknknjaaDoorParExt
import Derived.Test.YtfodkbchknknjaaDoorLexJoin
import Derived.KernelRfl
set_option linter.unusedVariables false
set_option linter.unusedSimpArgs false
namespace Go.Stele
/-- From place z up to place m, T's tokens stand in T' too, d places later; at m stand two signs that no expression goes on with. -/
structure Brk (T T' : List Tok) (d z m : Nat) : Prop where
  ag : ∀ j, z ≤ j → j < m → ∃ t t', T[j]? = some t ∧ T'[j + d]? = some t' ∧ t'.kind = t.kind ∧ t'.text = t.text
  kind : kindAt T' (m + d) = kindAt T m
  tok : ∀ xs : List (List UInt8), xs.contains [59] = false → xs.contains [41] = false → isTok T' (m + d) xs = isTok T m xs
  par : isTok T m [[41]] = false
/-- What r computes, starting at i with op open constructs, r' computes d places later with c more. -/
def PR {A : Type} (d c z m i op : Nat) (r r' : OR A) : Prop := ∀ v i' op', r = some (.ok v i' op') → i ≤ i' ∧ (z ≤ i → i' ≤ m → op + c + (m - i) ≤ 100 → op' + c + (m - i') ≤ 100 ∧ r' = some (.ok v (i' + d) (op' + c)))
section
variable {T T' : List Tok} {d c z m : Nat}
theorem PR.none {A : Type} {i op : Nat} {r' : OR A} : PR d c z m i op none r' := fun _ _ _ h => by cases h
theorem PR.ok {A : Type} {i op : Nat} {v : A} : PR d c z m i op (some (.ok v i op)) (some (.ok v (i + d) (op + c))) := fun _ _ _ h => by
  cases h
  exact ⟨Nat.le_refl _, fun _ _ h => ⟨h, rfl⟩⟩
theorem PR.bind {A B : Type} {i op : Nat} {r r' : OR A} {f f' : A → Nat → Nat → OR B} (hr : PR d c z m i op r r') (hf : ∀ v i1 op1, r = some (.ok v i1 op1) → i ≤ i1 → PR d c z m i1 op1 (f v i1 op1) (f' v (i1 + d) (op1 + c))) :
    PR d c z m i op (obind r f) (obind r' f') := fun v i' op' h => by
  rcases obind_some h with ⟨w, i1, op1, h1, h2⟩ | ⟨l, e, _, h1⟩
  · obtain ⟨g1, g2⟩ := hr _ _ _ h1
    obtain ⟨k1, k2⟩ := hf _ _ _ h1 g1 _ _ _ h2
    refine ⟨by omega, fun hz hm ho => ?_⟩
    obtain ⟨g3, g4⟩ := g2 hz (by omega) ho
    obtain ⟨k3, k4⟩ := k2 (by omega) hm g3
    exact ⟨k3, by rw [g4]; exact k4⟩
  · cases h1
theorem PR.eq {A : Type} {i op : Nat} {r r' r2 : OR A} (h : PR d c z m i op r r') (he : z ≤ i → i ≤ m → r2 = r') : PR d c z m i op r r2 := fun v i' op' hv => by
  obtain ⟨g1, g2⟩ := h _ _ _ hv
  refine ⟨g1, fun hz hm ho => ?_⟩
  rw [he hz (by omega)]
  exact g2 hz hm ho
theorem PR.weak {A : Type} {i j op : Nat} {r r' : OR A} (h : PR d c z m j op r r') (hij : i ≤ j) : PR d c z m i op r r' := fun v i' op' hv => by
  obtain ⟨g1, g2⟩ := h _ _ _ hv
  exact ⟨by omega, fun hz hm ho => g2 (by omega) hm (by omega)⟩
theorem PR.weakEq {A : Type} {i j op : Nat} {r r' r2 : OR A} (hij : i ≤ j) (he : z ≤ i → j ≤ m → r2 = r') (h : PR d c z m j op r r') : PR d c z m i op r r2 := fun v i' op' hv => by
  obtain ⟨g1, g2⟩ := h _ _ _ hv
  refine ⟨by omega, fun hz hm ho => ?_⟩
  rw [he hz (by omega)]
  exact g2 (by omega) hm (by omega)
theorem PR.ite {A : Type} {i op : Nat} {c1 c2 : Prop} [Decidable c1] [Decidable c2] {x y x' y' : OR A} (hc : z ≤ i → i ≤ m → (c2 ↔ c1)) (hx : c1 → PR d c z m i op x x') (hy : ¬c1 → PR d c z m i op y y') :
    PR d c z m i op (if c1 then x else y) (if c2 then x' else y') := by
  by_cases h : c1
  · refine PR.eq (r' := x') ?_ fun hz hi => by rw [if_pos ((hc hz hi).2 h)]
    rw [if_pos h]
    exact hx h
  · refine PR.eq (r' := y') ?_ fun hz hi => by rw [if_neg (fun hh => h ((hc hz hi).1 hh))]
    rw [if_neg h]
    exact hy h
theorem Brk.at (hB : Brk T T' d z m) {i : Nat} (hz : z ≤ i) (hi : i < m) (xs : List (List UInt8)) : isTok T' (i + d) xs = Go.Stele.isTok T i xs := by
  obtain ⟨t, t', h1, h2, h3, h4⟩ := hB.ag i hz hi
  unfold Go.Stele.isTok
  rw [h1, h2]
  simp only [h3, h4]
theorem Brk.text (hB : Brk T T' d z m) {i : Nat} (hz : z ≤ i) (hi : i < m) : textAt T' (i + d) = textAt T i := by
  obtain ⟨t, t', h1, h2, h3, h4⟩ := hB.ag i hz hi
  unfold textAt
  rw [h1, h2]
  exact h4
theorem Brk.isTok (hB : Brk T T' d z m) {i : Nat} (hz : z ≤ i) (hi : i ≤ m) {xs : List (List UInt8)} (h1 : xs.contains [59] = false) (h2 : xs.contains [41] = false) : isTok T' (i + d) xs = isTok T i xs := by
  rcases Nat.lt_or_ge i m with h | h
  · exact hB.at hz h xs
  · obtain rfl : i = m := by omega
    exact hB.tok xs h1 h2
theorem Brk.kindAt (hB : Brk T T' d z m) {i : Nat} (hz : z ≤ i) (hi : i ≤ m) : kindAt T' (i + d) = Go.Stele.kindAt T i := by
  rcases Nat.lt_or_ge i m with h | h
  · obtain ⟨t, t', h1, h2, h3, h4⟩ := hB.ag i hz h
    unfold Go.Stele.kindAt
    rw [h1, h2]
    exact h3
  · obtain rfl : i = m := by omega
    exact hB.kind
theorem PR.tok {A : Type} (hB : Brk T T' d z m) {i op : Nat} {xs : List (List UInt8)} {x y x' y' : OR A} (h1 : xs.contains [59] = false) (h2 : xs.contains [41] = false) (hx : PR d c z m i op x x') (hy : PR d c z m i op y y') :
    PR d c z m i op (if isTok T i xs then x else y) (if isTok T' (i + d) xs then x' else y') := PR.ite (fun hz hi => by rw [hB.isTok hz hi h1 h2]) (fun _ => hx) (fun _ => hy)
theorem word_par (hB : Brk T T' d z m) (k : Int) (i op : Nat) : PR d c z m i op (some (sWord T k i op)) (some (sWord T' k (i + d) (op + c))) := fun v i' op' h => by
  unfold sWord at h
  split at h
  · rename_i t ht
    split at h
    · rename_i hk
      cases h
      refine ⟨by omega, fun hz hm ho => ⟨by omega, ?_⟩⟩
      obtain ⟨t1, t', h1, h2, h3, h4⟩ := hB.ag i hz (by omega)
      rw [ht] at h1
      cases h1
      unfold sWord
      rw [h2]
      simp only [h3, h4, if_pos hk]
      rw [show i + d + 1 = i + 1 + d by omega]
    · cases h
  · cases h
theorem need_par (hB : Brk T T' d z m) (x : List UInt8) (i op : Nat) : PR d c z m i op (some (sNeed T x i op)) (some (sNeed T' x (i + d) (op + c))) := fun v i' op' h => by
  unfold sNeed at h
  split at h
  · rename_i ht
    cases h
    refine ⟨by omega, fun hz hm ho => ⟨by omega, ?_⟩⟩
    unfold sNeed
    rw [hB.at hz (by omega), if_pos ht, show i + d + 1 = i + 1 + d by omega]
  · cases h
theorem begin_par (hB : Brk T T' d z m) (x : List UInt8) (i op : Nat) : PR d c z m i op (some (sBegin T x i op)) (some (sBegin T' x (i + d) (op + c))) := fun v i' op' h => by
  unfold sBegin at h
  split at h
  · rename_i ht
    split at h
    · cases h
    · rename_i hop
      cases h
      refine ⟨by omega, fun hz hm ho => ⟨by omega, ?_⟩⟩
      unfold sBegin
      rw [hB.at hz (by omega), if_pos ht, if_neg (by omega), show i + d + 1 = i + 1 + d by omega, show op + c + 1 = op + 1 + c by omega]
  · cases h
theorem end_par (hB : Brk T T' d z m) (x : List UInt8) (i op : Nat) (hop : 0 < op) : PR d c z m i op (some (sEnd T x i op)) (some (sEnd T' x (i + d) (op + c))) := fun v i' op' h => by
  unfold sEnd sNeed at h
  split at h
  · rename_i ht
    cases h
    refine ⟨by omega, fun hz hm ho => ⟨by omega, ?_⟩⟩
    unfold sEnd sNeed
    rw [hB.at hz (by omega), if_pos ht, show i + d + 1 = i + 1 + d by omega]
    show some (Res.ok () (i + 1 + d) (op + c - 1)) = _
    rw [show op + c - 1 = op - 1 + c by omega]
  · cases h
theorem number_par (hB : Brk T T' d z m) (i op : Nat) : PR d c z m i op (some (sNumber T i op)) (some (sNumber T' (i + d) (op + c))) := fun v i' op' h => by
  have h0 := word_par (c := c) hB 1 i op
  unfold sNumber at h
  cases hw : sWord T 1 i op with
  | err l e => rw [hw] at h; cases h
  | ok s i1 op1 =>
    rw [hw] at h
    cases h
    obtain ⟨g1, g2⟩ := h0 _ _ _ (congrArg some hw)
    refine ⟨g1, fun hz hm ho => ?_⟩
    obtain ⟨g3, g4⟩ := g2 hz hm ho
    refine ⟨g3, ?_⟩
    injection g4 with g4
    unfold sNumber
    rw [g4]
    rfl
/-- What stands between two signs. -/
theorem wrap_par (hB : Brk T T' d z m) {A : Type} {x y : List UInt8} {i op : Nat} {g g' : Nat → Nat → OR A} {s : Bool} (hgood : ∀ i1 op1, GoodO T s i1 op1 (g i1 op1)) (hg : ∀ i1 op1, PR d c z m i1 op1 (g i1 op1) (g' (i1 + d) (op1 + c))) :
    PR d c z m i op (obind (some (sBegin T x i op)) fun _ i' op' => obind (g i' op') fun v i' op' => obind (some (sEnd T y i' op')) fun _ i' op' => some (.ok v i' op'))
      (obind (some (sBegin T' x (i + d) (op + c))) fun _ i' op' => obind (g' i' op') fun v i' op' => obind (some (sEnd T' y i' op')) fun _ i' op' => some (.ok v i' op')) := by
  refine PR.bind (begin_par hB x i op) fun _ i1 op1 h1 _ => PR.bind (hg i1 op1) fun v i2 op2 h2 _ => PR.bind (end_par hB y i2 op2 ?_) fun _ i3 op3 _ _ => PR.ok
  injection h1 with h1
  obtain ⟨_, k2, _, _⟩ := sBegin_ok h1
  have := (hgood i1 op1 _ h2).2.2.2
  omega
theorem un_par (hB : Brk T T' d z m) {x nm : List UInt8} {i op : Nat} {g g' : Nat → Nat → OR Ex} {s : Bool} (hgood : ∀ i1 op1, GoodO T s i1 op1 (g i1 op1)) (hg : ∀ i1 op1, PR d c z m i1 op1 (g i1 op1) (g' (i1 + d) (op1 + c))) :
    PR d c z m i op (obind (some (sBegin T x i op)) fun _ i' op' => obind (g i' op') fun e i' op' => some (.ok (Ex.mk nm 0 [] [e]) i' (op' - 1)))
      (obind (some (sBegin T' x (i + d) (op + c))) fun _ i' op' => obind (g' i' op') fun e i' op' => some (.ok (Ex.mk nm 0 [] [e]) i' (op' - 1))) := by
  refine PR.bind (begin_par hB x i op) fun _ i1 op1 h1 _ => PR.bind (hg i1 op1) fun v i2 op2 h2 _ => ?_
  injection h1 with h1
  obtain ⟨_, k2, _, _⟩ := sBegin_ok h1
  have := (hgood i1 op1 _ h2).2.2.2
  intro w i' op' hw
  cases hw
  exact ⟨Nat.le_refl _, fun _ _ ho => ⟨by omega, by rw [show op2 + c - 1 = op2 - 1 + c by omega]⟩⟩
theorem lv_no (k : Nat) : (lvOps k).contains [59] = false ∧ (lvOps k).contains [41] = false := by
  unfold lvOps
  split <;> decide
theorem ex_par (hB : Brk T T' d z m) : ∀ f g : Nat, f ≤ g → (∀ k i op, PR d c z m i op (eLev T f k i op) (eLev T' g k (i + d) (op + c))) ∧ (∀ k e i op, PR d c z m i op (eLoop T f k e i op) (eLoop T' g k e (i + d) (op + c))) ∧
    (∀ i op, PR d c z m i op (eUnary T f i op) (eUnary T' g (i + d) (op + c))) ∧ (∀ i op, PR d c z m i op (ePrim T f i op) (ePrim T' g (i + d) (op + c))) ∧ (∀ i op, PR d c z m i op (eIndex T f i op) (eIndex T' g (i + d) (op + c))) ∧
    (∀ i op, PR d c z m i op (eArgs T f i op) (eArgs T' g (i + d) (op + c))) ∧ (∀ acc i op, PR d c z m i op (eArgsLoop T f acc i op) (eArgsLoop T' g acc (i + d) (op + c)))
  | 0, g, _ => ⟨fun _ _ _ => by rw [eLev]; exact PR.none, fun _ _ _ _ => by rw [eLoop]; exact PR.none, fun _ _ => by rw [eUnary]; exact PR.none, fun _ _ => by rw [ePrim]; exact PR.none, fun _ _ => by rw [eIndex]; exact PR.none, fun _ _ => by rw [eArgs]; exact PR.none, fun _ _ _ => by rw [eArgsLoop]; exact PR.none⟩
  | f + 1, 0, h => by omega
  | f + 1, g + 1, h => by
    obtain ⟨hL, hO, hU, hP, hI, hR, hA⟩ := ex_par hB f g (by omega)
    obtain ⟨gL, gO, gU, gP, gI, gR, gA⟩ := ex_good T f
    refine ⟨fun k i op => ?_, fun k e i op => ?_, fun i op => ?_, fun i op => ?_, fun i op => ?_, fun i op => ?_, fun acc i op => ?_⟩
    · rw [eLev, eLev]
      exact PR.ite (fun _ _ => Iff.rfl) (fun _ => hU _ _) (fun _ => PR.bind (hL _ _ _) fun _ _ _ _ _ => hO _ _ _ _)
    · rw [eLoop, eLoop]
      refine PR.tok hB (lv_no k).1 (lv_no k).2 ?_ PR.ok
      refine PR.weakEq (j := i + 1) (r' := obind (eLev T' g (k + 1) (i + d + 1) (op + c)) fun e2 i' op' => if k = 2 then some (.ok (.mk (textAt T i) 0 [] [e, e2]) i' op') else eLoop T' g k (.mk (textAt T i) 0 [] [e, e2]) i' op') (by omega) (fun hz hi => by rw [hB.text hz (by omega)]) ?_
      rw [show i + d + 1 = i + 1 + d by omega]
      exact PR.bind (hL _ _ _) fun _ _ _ _ _ => PR.ite (fun _ _ => Iff.rfl) (fun _ => PR.ok) (fun _ => hO _ _ _ _)
    · rw [eUnary, eUnary]
      exact PR.tok hB (by decide) (by decide) (un_par hB gU hU) (PR.tok hB (by decide) (by decide) (un_par hB gU hU) (hP _ _))
    · rw [ePrim, ePrim]
      refine PR.tok hB (by decide) (by decide) (wrap_par (g := eLev T f 0) (g' := eLev T' g 0) hB (gL 0) (hL 0)) ?_
      refine PR.ite (fun hz hi => by rw [hB.kindAt hz hi]) (fun _ => PR.bind (number_par hB _ _) fun _ _ _ _ _ => PR.ok) (fun _ => ?_)
      exact PR.bind (word_par hB 2 _ _) fun _ _ _ _ _ => PR.tok hB (by decide) (by decide) (PR.bind (hI _ _) fun _ _ _ _ _ => PR.ok) (PR.tok hB (by decide) (by decide) (PR.bind (hR _ _) fun _ _ _ _ _ => PR.ok) PR.ok)
    · rw [eIndex, eIndex]
      exact wrap_par (g := eLev T f 0) (g' := eLev T' g 0) hB (gL 0) (hL 0)
    · rw [eArgs, eArgs]
      exact wrap_par (g := eArgsLoop T f []) (g' := eArgsLoop T' g []) hB (gA []) (hA [])
    · rw [eArgsLoop, eArgsLoop]
      have hrest : PR d c z m i op (obind (some (if acc = [] then .ok () i op else sNeed T [44] i op)) fun _ i' op' => obind (eLev T f 0 i' op') fun e i' op' => eArgsLoop T f (acc ++ [e]) i' op')
          (obind (some (if acc = [] then .ok () (i + d) (op + c) else sNeed T' [44] (i + d) (op + c))) fun _ i' op' => obind (eLev T' g 0 i' op') fun e i' op' => eArgsLoop T' g (acc ++ [e]) i' op') := by
        refine PR.bind ?_ fun _ _ _ _ _ => PR.bind (hL _ _ _) fun _ _ _ _ _ => hA _ _ _
        split
        · exact PR.ok
        · exact need_par hB _ _ _
      by_cases hz : z ≤ i
      case neg =>
        intro v i' op' hv
        have h9 : eArgsLoop T (f + 1) acc i op = some (.ok v i' op') := by rw [eArgsLoop]; exact hv
        exact ⟨((ex_good T (f + 1)).2.2.2.2.2.2 acc i op _ h9).1, fun h => absurd h hz⟩
      rcases Nat.lt_or_ge i m with hi | hi
      · rw [hB.at hz hi]
        exact PR.ite (fun _ _ => Iff.rfl) (fun _ => PR.ok) (fun _ => hrest)
      · intro v i' op' hv
        have hnt : i = m → isTok T i [[41]] = false := fun h => by rw [h]; exact hB.par
        have hge : i < i' ∨ isTok T i [[41]] = true := by
          cases ht : isTok T i [[41]] with
          | true => exact .inr rfl
          | false =>
            rw [ht, if_neg (by decide)] at hv
            refine .inl ?_
            rcases obind_some hv with ⟨u, i1, op1, h1, h2⟩ | ⟨_, _, _, h2⟩
            · have hi1 : i ≤ i1 := by
                split at h1
                · cases h1; exact Nat.le_refl _
                · injection h1 with h1
                  have := sNeed_good T [44] i op
                  rw [h1] at this
                  obtain ⟨k1, _⟩ := this
                  exact k1
              rcases obind_some h2 with ⟨e, i2, op2, h3, h4⟩ | ⟨_, _, _, h4⟩
              · have k1 := (gL 0 i1 op1 _ h3).2.1 rfl
                have k2 := (gA _ i2 op2 _ h4).1
                omega
              · cases h4
            · cases h2
        rcases hge with hge | hge
        · exact ⟨by omega, fun _ hm => by omega⟩
        · have : i ≠ m := fun h => by rw [hnt h] at hge; cases hge
          rw [if_pos hge] at hv
          cases hv
          exact ⟨Nat.le_refl _, fun _ hm => by omega⟩
end
end Go.Stele
/- The parser in plain Lean: a main function with one assignment; parentheses and signs around an operand. -/
set_option linter.unusedVariables false
set_option linter.unusedSimpArgs false
set_option maxRecDepth 100000
namespace Go.Stele
def nMain : List UInt8 := [109, 97, 105, 110]
/-- The tokens ahead of the expression. -/
def hd7 : List Tok := [⟨3, kwFunc, 1⟩, ⟨2, nMain, 1⟩, ⟨4, [40], 1⟩, ⟨4, [41], 1⟩, ⟨4, [123], 1⟩, ⟨2, [120], 1⟩, ⟨4, [61], 1⟩]
def asPr (e : Ex) : Pr := ⟨[], [], [⟨nMain, [], [], [.mk 1 [120] [] [e] [] []]⟩]⟩
def pr0 : Pr := ⟨[], [], []⟩
theorem body_eq (X : List Tok) (f : Nat) : sProg (hd7 ++ X) (f + 4) pr0 0 0 = obind (eLev (hd7 ++ X) f 0 7 1) fun e i op => obind (some (sNeed (hd7 ++ X) [59] i op)) fun _ i op =>
    obind (sStmts (hd7 ++ X) (f + 2) [.mk 1 [120] [] [e] [] []] i op) fun b i op => obind (some (sEnd (hd7 ++ X) [125] i op)) fun _ i op => sProg (hd7 ++ X) (f + 3) ⟨[], [], [⟨nMain, [], [], b⟩]⟩ i op := by
  have e1 : sProg (hd7 ++ X) (f + 4) pr0 0 0 = obind (sFunc (hd7 ++ X) (f + 3) 1 0) fun a i op => sProg (hd7 ++ X) (f + 3) ⟨[], [], [a]⟩ i op := rfl
  have e2 : sFunc (hd7 ++ X) (f + 3) 1 0 = obind (sStmts (hd7 ++ X) (f + 3) [] 5 1) fun b i op => obind (some (sEnd (hd7 ++ X) [125] i op)) fun _ i op => some (.ok ⟨nMain, [], [], b⟩ i op) := rfl
  have e3 : sStmts (hd7 ++ X) (f + 3) [] 5 1 = obind (sStmt (hd7 ++ X) (f + 2) 5 1) fun s i op => sStmts (hd7 ++ X) (f + 2) [s] i op := by rw [sStmts]; rfl
  have e4 : sStmt (hd7 ++ X) (f + 2) 5 1 = obind (sSimple (hd7 ++ X) (f + 1) 5 1) fun s i op => obind (some (sNeed (hd7 ++ X) [59] i op)) fun _ i op => some (.ok s i op) := by rw [sStmt]; rfl
  have e5 : sSimple (hd7 ++ X) (f + 1) 5 1 = obind (eLev (hd7 ++ X) f 0 7 1) fun e i op => some (.ok (.mk 1 [120] [] [e] [] []) i op) := by rw [sSimple]; rfl
  rw [e1, e2, e3, e4, e5]
  match eLev (hd7 ++ X) f 0 7 1 with
  | none => rfl
  | some (.err l e) => rfl
  | some (.ok e i op) =>
    show obind (obind (obind (obind (some (sNeed (hd7 ++ X) [59] i op)) _) _) _) _ = obind (some (sNeed (hd7 ++ X) [59] i op)) _
    match sNeed (hd7 ++ X) [59] i op with
    | .err l e => rfl
    | .ok u i op =>
      show obind (obind (sStmts (hd7 ++ X) (f + 2) _ i op) _) _ = obind (sStmts (hd7 ++ X) (f + 2) _ i op) _
      match sStmts (hd7 ++ X) (f + 2) [.mk 1 [120] [] [e] [] []] i op with
      | none => rfl
      | some (.err l e) => rfl
      | some (.ok b i op) =>
        show obind (obind (some (sEnd (hd7 ++ X) [125] i op)) _) _ = obind (some (sEnd (hd7 ++ X) [125] i op)) _
        match sEnd (hd7 ++ X) [125] i op with
        | .err l e => rfl
        | .ok u i op => rfl
theorem body_bwd {X : List Tok} {F i op : Nat} {p : Pr} (h : sProg (hd7 ++ X) F pr0 0 0 = some (.ok p i op)) : ∃ f e m, eLev (hd7 ++ X) f 0 7 1 = some (.ok e m 1) ∧ isTok (hd7 ++ X) m [[59]] = true := by
  have h1 := prog_le (hd7 ++ X) F (F + 4) pr0 0 0 (by omega) _ h
  rw [body_eq] at h1
  rcases obind_some h1 with ⟨e, m, op1, h2, h3⟩ | ⟨_, _, _, h3⟩
  · have hop := ((ex_good (hd7 ++ X) F).1 0 7 1 _ h2).2.2.2
    subst hop
    rcases obind_some h3 with ⟨u, i1, op2, h4, h5⟩ | ⟨_, _, _, h5⟩
    · refine ⟨F, e, m, h2, ?_⟩
      injection h4 with h4
      unfold sNeed at h4
      split at h4
      · assumption
      · cases h4
    · cases h5
  · cases h3
theorem body_fwd {X : List Tok} {f0 m : Nat} {e : Ex} (he : eLev (hd7 ++ X) f0 0 7 1 = some (.ok e m 1)) (h59 : isTok (hd7 ++ X) m [[59]] = true) (h125 : isTok (hd7 ++ X) (m + 1) [[125]] = true) (hl : (hd7 ++ X).length = m + 2) {F : Nat} {r : Res Pr}
    (hr : sProg (hd7 ++ X) F pr0 0 0 = some r) : ∃ i op, r = .ok (asPr e) i op := by
  have h1 := prog_le (hd7 ++ X) F (F + f0 + 4) pr0 0 0 (by omega) _ hr
  rw [body_eq, (ex_le (hd7 ++ X) f0 (F + f0) (by omega)).1 0 7 1 _ he] at h1
  have e1 : sNeed (hd7 ++ X) [59] m 1 = .ok () (m + 1) 1 := by unfold sNeed; rw [if_pos h59]
  have e2 : sStmts (hd7 ++ X) (F + f0 + 2) [.mk 1 [120] [] [e] [] []] (m + 1) 1 = some (.ok [.mk 1 [120] [] [e] [] []] (m + 1) 1) := by rw [sStmts, if_pos h125]
  have e3 : sEnd (hd7 ++ X) [125] (m + 1) 1 = .ok () (m + 2) 0 := by
    unfold sEnd sNeed
    rw [if_pos h125]
    rfl
  have e4 : sProg (hd7 ++ X) (F + f0 + 3) (asPr e) (m + 2) 0 = some (.ok (asPr e) (m + 2) 0) := by rw [sProg, if_pos (by omega)]
  simp only [obind, e1, e2, e3] at h1
  have h2 := e4.symm.trans h1
  injection h2 with h2
  exact ⟨_, _, h2.symm⟩
theorem body_err {X : List Tok} {f0 : Nat} {l x : Int} (he : eLev (hd7 ++ X) f0 0 7 1 = some (.err l x)) {F : Nat} {r : Res Pr} (hr : sProg (hd7 ++ X) F pr0 0 0 = some r) : r = .err l x := by
  have h1 := prog_le (hd7 ++ X) F (F + f0 + 4) pr0 0 0 (by omega) _ hr
  rw [body_eq, (ex_le (hd7 ++ X) f0 (F + f0) (by omega)).1 0 7 1 _ he] at h1
  injection h1 with h1
  exact h1.symm
section
variable {T : List Tok}
/-- An operand that no operator follows is an expression of any level. -/
theorem lev_of_unary {f j op i o : Nat} {e : Ex} (h : eUnary T f j op = some (.ok e i o)) (hn : ∀ k, isTok T i (lvOps k) = false) : ∀ (n k : Nat), k + n = 6 → eLev T (f + 1 + n) k j op = some (.ok e i o)
  | 0, k, hk => by
    rw [Nat.add_zero, eLev, if_pos (by omega)]
    exact h
  | n + 1, k, hk => by
    rw [show f + 1 + (n + 1) = (f + 1 + n) + 1 by omega, eLev, if_neg (by omega), lev_of_unary h hn n (k + 1) (by omega)]
    show eLoop T (f + 1 + n) k e i o = _
    rw [show f + 1 + n = (f + n) + 1 by omega, eLoop, if_neg (by rw [hn]; decide)]
theorem lev_of_unary_err {f j op : Nat} {l x : Int} (h : eUnary T f j op = some (.err l x)) : ∀ (n k : Nat), k + n = 6 → eLev T (f + 1 + n) k j op = some (.err l x)
  | 0, k, hk => by
    rw [Nat.add_zero, eLev, if_pos (by omega)]
    exact h
  | n + 1, k, hk => by
    rw [show f + 1 + (n + 1) = (f + 1 + n) + 1 by omega, eLev, if_neg (by omega), lev_of_unary_err h n (k + 1) (by omega)]
    rfl
/-- What is known of the sign at j. -/
structure SignAt (T : List Tok) (j : Nat) (x : List UInt8) : Prop where
  tok : ∀ xs, isTok T j xs = xs.contains x
theorem SignAt.of {j : Nat} {t : Tok} {x : List UInt8} (h : T[j]? = some t) (hk : t.kind = 4) (hx : t.text = x) : SignAt T j x := ⟨fun xs => by
  unfold isTok
  rw [h]
  simp only [hk, hx]
  simp⟩
theorem unary_paren {f j op i : Nat} {e : Ex} (h1 : SignAt T j [40]) (h2 : eLev T f 0 (j + 1) (op + 1) = some (.ok e i (op + 1))) (h3 : SignAt T i [41]) (ho : op < 100) : eUnary T (f + 2) j op = some (.ok e (i + 1) op) := by
  rw [eUnary, if_neg (by rw [h1.tok]; decide), if_neg (by rw [h1.tok]; decide), ePrim, if_pos (by rw [h1.tok]; decide)]
  have e1 : sBegin T [40] j op = .ok () (j + 1) (op + 1) := by
    unfold sBegin
    rw [if_pos (by rw [h1.tok]; decide), if_neg (by omega)]
  have e2 : sEnd T [41] i (op + 1) = .ok () (i + 1) op := by
    unfold sEnd sNeed
    rw [if_pos (by rw [h3.tok]; decide)]
    rfl
  simp only [obind, e1, h2, e2]
theorem unary_paren_err {f j op : Nat} {l x : Int} (h1 : SignAt T j [40]) (h2 : eLev T f 0 (j + 1) (op + 1) = some (.err l x)) (ho : op < 100) : eUnary T (f + 2) j op = some (.err l x) := by
  rw [eUnary, if_neg (by rw [h1.tok]; decide), if_neg (by rw [h1.tok]; decide), ePrim, if_pos (by rw [h1.tok]; decide)]
  have e1 : sBegin T [40] j op = .ok () (j + 1) (op + 1) := by
    unfold sBegin
    rw [if_pos (by rw [h1.tok]; decide), if_neg (by omega)]
  simp only [obind, e1, h2]
theorem unary_minus {f j op i : Nat} {e : Ex} (h1 : SignAt T j [45]) (h2 : eUnary T f (j + 1) (op + 1) = some (.ok e i (op + 1))) (ho : op < 100) : eUnary T (f + 1) j op = some (.ok (.mk nNeg 0 [] [e]) i op) := by
  rw [eUnary, if_pos (by rw [h1.tok]; decide)]
  have e1 : sBegin T [45] j op = .ok () (j + 1) (op + 1) := by
    unfold sBegin
    rw [if_pos (by rw [h1.tok]; decide), if_neg (by omega)]
  simp only [obind, e1, h2, Nat.add_sub_cancel]
theorem unary_minus_err {f j op : Nat} {l x : Int} (h1 : SignAt T j [45]) (h2 : eUnary T f (j + 1) (op + 1) = some (.err l x)) (ho : op < 100) : eUnary T (f + 1) j op = some (.err l x) := by
  rw [eUnary, if_pos (by rw [h1.tok]; decide)]
  have e1 : sBegin T [45] j op = .ok () (j + 1) (op + 1) := by
    unfold sBegin
    rw [if_pos (by rw [h1.tok]; decide), if_neg (by omega)]
  simp only [obind, e1, h2]
/-- A construct too many. -/
theorem unary_limit {f j op : Nat} (h1 : SignAt T j [40] ∨ SignAt T j [45]) (ho : 100 ≤ op) : eUnary T (f + 2) j op = some (.err (failLine T j) 6) := by
  rcases h1 with h1 | h1
  · rw [eUnary, if_neg (by rw [h1.tok]; decide), if_neg (by rw [h1.tok]; decide), ePrim, if_pos (by rw [h1.tok]; decide)]
    have e1 : sBegin T [40] j op = .err (failLine T j) 6 := by
      unfold sBegin
      rw [if_pos (by rw [h1.tok]; decide), if_pos ho]
    simp only [obind, e1]
  · rw [eUnary, if_pos (by rw [h1.tok]; decide)]
    have e1 : sBegin T [45] j op = .err (failLine T j) 6 := by
      unfold sBegin
      rw [if_pos (by rw [h1.tok]; decide), if_pos ho]
    simp only [obind, e1]
theorem sign_noop {j : Nat} {x : List UInt8} (h : SignAt T j x) (hx : x = [41] ∨ x = [59]) (k : Nat) : isTok T j (lvOps k) = false := by
  rw [h.tok]
  rcases hx with rfl | rfl
  · exact (lv_no k).2
  · exact (lv_no k).1
/-- Parentheses around an expression. -/
theorem parens {f z m : Nat} {e : Ex} : ∀ (k j op : Nat), eLev T f 0 (j + k) (op + k) = some (.ok e m (op + k)) → (∀ n, n < k → SignAt T (j + n) [40]) → (∀ n, n < k → SignAt T (m + n) [41]) → (∀ x, isTok T (m + k) (lvOps x) = false) → op + k ≤ 100 →
    eLev T (f + 9 * k) 0 j op = some (.ok e (m + k) op)
  | 0, j, op, h, _, _, _, _ => h
  | k + 1, j, op, h, h1, h2, h3, ho => by
    have ih := parens (z := z) k (j + 1) (op + 1) (by rw [show j + 1 + k = j + (k + 1) by omega, show op + 1 + k = op + (k + 1) by omega]; exact h) (fun n hn => by rw [show j + 1 + n = j + (n + 1) by omega]; exact h1 (n + 1) (by omega)) (fun n hn => h2 n (by omega))
      (fun x => sign_noop (h2 k (by omega)) (.inl rfl) x) (by omega)
    have := lev_of_unary (unary_paren (h1 0 (by omega)) ih (h2 k (by omega)) (by omega)) h3 6 0 rfl
    rw [show f + 9 * (k + 1) = f + 9 * k + 2 + 1 + 6 by omega, show m + (k + 1) = m + k + 1 by omega]
    exact this
end
end Go.Stele
/- The lexer and the parser in plain Lean: parentheses around an expression that stands alone in a body. -/
set_option linter.unusedVariables false
set_option linter.unusedSimpArgs false
set_option maxRecDepth 100000
namespace Go.Stele
/-- A character that ends whatever stands ahead of it. -/
structure Del (d : UInt8) : Prop where
  digit : isDigit d = false
  inner : isInner d = false
  next : (isLetter d || decide (cv d = 95)) = false
  white : isWhite d = false
  slash : d ≠ 47
  signs : ∀ x ∈ signs, d ∉ x.tail
theorem del59 : Del 59 := ⟨by decide, by decide, by decide, by decide, by decide, by decide⟩
theorem del41 : Del 41 := ⟨by decide, by decide, by decide, by decide, by decide, by decide⟩
theorem tw_del {p : UInt8 → Bool} {d : UInt8} (hp : p d = false) (b : List UInt8) : ∀ s : List UInt8, (s ++ d :: b).takeWhile p = s.takeWhile p
  | [] => by rw [List.nil_append, List.takeWhile_cons_of_neg (by simp [hp])]; rfl
  | c :: s => by
    rw [List.cons_append]
    by_cases h : p c = true
    · rw [List.takeWhile_cons_of_pos h, List.takeWhile_cons_of_pos h, tw_del hp b s]
    · rw [List.takeWhile_cons_of_neg h, List.takeWhile_cons_of_neg h]
theorem pre_del {d : UInt8} (b : List UInt8) : ∀ (x s : List UInt8), d ∉ x → x.isPrefixOf (s ++ d :: b) = x.isPrefixOf s
  | [], s, _ => by simp
  | c :: x, [], h => by
    have : ¬ c = d := fun hc => h (by rw [hc]; exact List.mem_cons_self ..)
    simp [List.isPrefixOf, this]
  | c :: x, e :: s, h => by
    have := pre_del b x s fun hx => h (List.mem_cons_of_mem _ hx)
    simp only [List.cons_append, List.isPrefixOf, this]
theorem pre_del' {d : UInt8} (b : List UInt8) (c : UInt8) (s : List UInt8) : ∀ x : List UInt8, d ∉ x.tail → x.isPrefixOf (c :: s ++ d :: b) = x.isPrefixOf (c :: s)
  | [], _ => by simp
  | a :: x, h => by
    have := pre_del b x s h
    simp only [List.cons_append, List.isPrefixOf, this]
theorem find_del {d : UInt8} (b : List UInt8) (c : UInt8) (s : List UInt8) : ∀ L : List (List UInt8), (∀ x ∈ L, d ∉ x.tail) → L.find? (fun x => x.isPrefixOf (c :: s ++ d :: b)) = L.find? (fun x => x.isPrefixOf (c :: s))
  | [], _ => rfl
  | x :: L, h => by
    rw [List.find?_cons, List.find?_cons, pre_del' b c s x (h x (List.mem_cons_self ..)), find_del b c s L fun y hy => h y (List.mem_cons_of_mem _ hy)]
theorem wordNext_del {d : UInt8} (hd : Del d) (b s : List UInt8) {n : Nat} (hn : n ≤ s.length) : wordNext (s ++ d :: b) n = wordNext s n := by
  unfold wordNext
  rcases Nat.lt_or_ge n s.length with h | h
  · rw [List.getElem?_append_left h]
  · have : n = s.length := by omega
    subst this
    rw [List.getElem?_append_right (Nat.le_refl _), List.getElem?_eq_none (Nat.le_refl _)]
    rw [Nat.sub_self, List.getElem?_cons_zero]
    exact hd.next
theorem lexToken_del {d : UInt8} (hd : Del d) (b : List UInt8) (c : UInt8) (r : List UInt8) (h : c = 39 → 2 ≤ r.length) : lexToken (c :: r ++ d :: b) = lexToken (c :: r) := by
  simp only [List.cons_append, lexToken]
  by_cases hc : isDigit c = true
  · rw [if_pos hc, if_pos hc]
    unfold lexNumber
    have e1 : (c :: (r ++ d :: b)).takeWhile isDigit = (c :: r).takeWhile isDigit := tw_del hd.digit b (c :: r)
    have e2 := wordNext_del hd b (c :: r) (takeWhile_le isDigit (c :: r))
    rw [List.cons_append] at e2
    rw [e1, e2]
  rw [if_neg hc, if_neg hc]
  by_cases hl : isLetter c = true
  · rw [if_pos hl, if_pos hl]
    unfold lexName
    have e1 : (c :: (r ++ d :: b)).takeWhile isInner = (c :: r).takeWhile isInner := tw_del hd.inner b (c :: r)
    rw [e1]
  rw [if_neg hl, if_neg hl]
  by_cases hq : decide (cv c = 39) = true
  · rw [if_pos hq, if_pos hq]
    have h39 : c = 39 := by
      rw [decide_eq_true_eq] at hq
      apply UInt8.toNat_inj.1
      have : (c.toNat : Int) = 39 := hq
      show c.toNat = 39
      omega
    match r, h h39 with
    | x :: y :: r, _ => rfl
    | [x], h => simp at h
    | [], h => simp at h
  · rw [if_neg hq, if_neg hq]
    unfold lexSign
    have e1 := find_del b c r signs hd.signs
    rw [List.cons_append] at e1
    rw [e1]
theorem skip_del {d : UInt8} (hd : Del d) (b : List UInt8) {c : UInt8} (r : List UInt8) (hw : isWhite c = false) (hsl : ([47, 47] : List UInt8).isPrefixOf (c :: r) = false) : skipLen (c :: r ++ d :: b) = 0 ∧ skipLen (c :: r) = 0 := by
  have e1 := pre_del' (d := d) b c r [47, 47] (by simp only [List.tail_cons, List.mem_singleton]; exact hd.slash)
  unfold skipLen
  rw [e1, hsl, if_neg (by decide), if_neg (by decide), List.cons_append, List.takeWhile_cons_of_neg (by rw [hw]; decide), List.takeWhile_cons_of_neg (by rw [hw]; decide)]
  exact ⟨rfl, rfl⟩
theorem tw_sub {p : UInt8 → Bool} {s : List UInt8} : ∀ c ∈ s.takeWhile p, c ∈ s := fun c hc => (List.takeWhile_prefix p).subset hc
theorem lexToken_mem (s : List UInt8) (h : (lexToken s).2.2 = 0) : (lexToken s).1.kind = 1 ∨ ∀ c ∈ (lexToken s).1.text, c ∈ s := by
  match s with
  | [] => simp [lexToken, tokErr] at h
  | c :: r =>
    simp only [lexToken] at h ⊢
    split at h <;> rename_i hc
    · rw [if_pos hc]
      unfold lexNumber at h ⊢
      split at h
      · simp [tokErr] at h
      · rename_i hw
        rw [if_neg hw]
        split at h
        · exact .inl rfl
        · simp [tokErr] at h
    · rw [if_neg hc]
      split at h <;> rename_i hl
      · rw [if_pos hl]
        unfold lexName at h ⊢
        split at h
        · simp [tokErr] at h
        · rename_i hw
          rw [if_neg hw]
          exact .inr tw_sub
      · rw [if_neg hl]
        split at h <;> rename_i hq
        · rw [if_pos hq]
          unfold lexLiteral at h ⊢
          split at h
          · split at h
            · simp [tokErr] at h
            · rename_i hx
              rename_i heq
              rename_i b _ _
              rw [if_neg hx]
              exact .inl rfl
          · simp [tokErr] at h
        · rw [if_neg hq]
          unfold lexSign at h ⊢
          split at h
          · rename_i x hx
            have h1 := List.find?_some hx
            exact .inr fun d hd => (List.isPrefixOf_iff_prefix.1 h1).subset hd
          · simp [tokErr] at h
def endB : List UInt8 := [59, 32, 125]
/-- A text that is read ahead of the body's end is read ahead of ')' as well. -/
theorem lex_del : ∀ (n : Nat) (s : List UInt8) (l : Int) (T : List Tok), s.length ≤ n → (∀ j, ([47, 47] : List UInt8).isPrefixOf (s.drop j) = false) → lexAt (s ++ endB) l = .ok T →
    ∃ (S R : List Tok) (l' : Int), T = S ++ R ∧ lexAt endB l' = .ok R ∧ S.length ≤ s.length ∧ (∀ t ∈ S, t.kind = 1 ∨ ∀ c ∈ t.text, c ∈ s) ∧ ∀ b l2, ∃ S2 l3, S2.map kt = S.map kt ∧ lexAt (s ++ 41 :: b) l2 = (lexAt (41 :: b) l3).map (S2 ++ ·)
  | n, [], l, T, _, _, h => ⟨[], T, l, rfl, h, Nat.le_refl _, by simp, fun b l2 => ⟨[], l2, rfl, by rw [List.nil_append]; cases lexAt (41 :: b) l2 <;> rfl⟩⟩
  | 0, c :: r, _, _, hn, _, _ => by simp at hn
  | n + 1, c :: r, l, T, hn, hsl, h => by
    by_cases hw : isWhite c = true
    · rw [List.cons_append, lexAt_white hw] at h
      obtain ⟨S, R, l', h1, h2, h3, h4, h5⟩ := lex_del n r _ T (by simpa using hn) (fun j => hsl (j + 1)) h
      refine ⟨S, R, l', h1, h2, by rw [List.length_cons]; omega, fun t ht => (h4 t ht).imp id fun h c hc => List.mem_cons_of_mem _ (h c hc), fun b l2 => ?_⟩
      rw [List.cons_append, lexAt_white hw]
      exact h5 b _
    have hw' : isWhite c = false := by simpa using hw
    have hk1 : skipLen (c :: r ++ endB) = 0 ∧ skipLen (c :: r) = 0 := skip_del del59 [32, 125] r hw' (hsl 0)
    have hs := hsl 0
    rw [← lexAt_eq (f := (r ++ endB).length + 1) (by simp), lexP, if_neg (by simp), if_pos hk1.1] at h
    by_cases h39 : c = 39 → 2 ≤ r.length
    · have ht := lexToken_del del59 [32, 125] c r h39
      change lexToken (c :: r ++ endB) = _ at ht
      rw [ht] at h
      by_cases he : (lexToken (c :: r)).2.2 ≠ 0
      · rw [if_pos he] at h
        cases h
      have he' : (lexToken (c :: r)).2.2 = 0 := by simpa using he
      rw [if_neg he] at h
      obtain ⟨k1, k2⟩ := lexToken_size _ he'
      obtain ⟨T2, h1, rfl⟩ := map_ok h
      rw [List.drop_append_of_le_length k2, lexAt_eq (by simp only [List.length_append, List.length_drop, List.length_cons] at k2 ⊢; omega)] at h1
      obtain ⟨S, R, l', g1, g2, g3, g4, g5⟩ := lex_del n ((c :: r).drop (lexToken (c :: r)).2.1) _ T2 (by rw [List.length_drop]; omega) (fun j => by rw [List.drop_drop]; exact hsl _) h1
      refine ⟨_ :: S, R, l', by rw [g1]; rfl, g2, by rw [List.length_drop] at g3; rw [List.length_cons]; omega, fun t ht => ?_, fun b l2 => ?_⟩
      · rcases List.mem_cons.1 ht with rfl | ht
        · exact lexToken_mem _ he'
        · exact (g4 t ht).imp id fun h c hc => List.mem_of_mem_drop (h c hc)
      · obtain ⟨S2, l3, m1, m2⟩ := g5 b (l2 + (((c :: r ++ 41 :: b).take (lexToken (c :: r)).2.1).count 10 : Nat))
        refine ⟨{ (lexToken (c :: r)).1 with line := l2 } :: S2, l3, by rw [List.map_cons, List.map_cons, m1]; rfl, ?_⟩
        have hk2 := skip_del del41 b r hw' (hsl 0)
        rw [← lexAt_eq (f := (r ++ 41 :: b).length + 1) (by simp), lexP, if_neg (by simp), if_pos hk2.1, lexToken_del del41 b c r h39, if_neg he, List.drop_append_of_le_length k2,
          lexAt_eq (by simp only [List.length_append, List.length_drop, List.length_cons] at k2 ⊢; omega), m2]
        cases lexAt (41 :: b) l3 <;> rfl
    · have hc : c = 39 ∧ r.length < 2 := by
        by_cases hc : c = 39
        · exact ⟨hc, by have : ¬ 2 ≤ r.length := fun h => h39 fun _ => h; omega⟩
        · exact absurd (fun h => absurd h hc) h39
      obtain ⟨rfl, hr⟩ := hc
      match r, hr with
      | [], _ =>
        have : (lexToken (39 :: [] ++ endB)).2.2 = 3 := by rfl
        rw [if_pos (by rw [this]; decide)] at h
        cases h
      | [x], _ =>
        have : (lexToken (39 :: [x] ++ endB)).2.2 = 3 := by rfl
        rw [if_pos (by rw [this]; decide)] at h
        cases h
      | _ :: _ :: _, hr => simp at hr; omega
theorem lexAt_sign (x : UInt8) (hx : x = 40 ∨ x = 41) (Y : List UInt8) (l : Int) : lexAt (x :: Y) l = (lexAt Y l).map (⟨4, [x], l⟩ :: ·) := by
  have h1 : skipLen (x :: Y) = 0 := by rcases hx with rfl | rfl <;> exact skip_head (by decide) (by decide)
  have h2 : lexToken (x :: Y) = (⟨4, [x], 0⟩, 1, 0) := by rcases hx with rfl | rfl <;> rfl
  have h3 : ([x] : List UInt8).count 10 = 0 := by rcases hx with rfl | rfl <;> decide
  rw [← lexAt_eq (f := Y.length + 1) (by simp), lexP, if_neg (by simp), if_pos h1, h2, if_neg (by simp)]
  simp only [List.drop_succ_cons, List.drop_zero, List.take_succ_cons, List.take_zero, h3]
  rw [lexAt_eq (Nat.le_refl _)]
  simp
theorem lexAt_signs (x : UInt8) (hx : x = 40 ∨ x = 41) (Y : List UInt8) (l : Int) : ∀ k : Nat, lexAt (List.replicate k x ++ Y) l = (lexAt Y l).map (List.replicate k ⟨4, [x], l⟩ ++ ·)
  | 0 => by simp; cases lexAt Y l <;> rfl
  | k + 1 => by
    rw [List.replicate_succ, List.cons_append, lexAt_sign x hx, lexAt_signs x hx Y l k, List.replicate_succ]
    cases lexAt Y l <;> rfl
theorem lexAt_endB (l : Int) : lexAt endB l = .ok [⟨4, [59], l⟩, ⟨4, [125], l⟩] := by
  have h1 : lexAt [125] l = .ok [⟨4, [125], l⟩] := by
    rw [← lexAt_eq (f := 1) (by simp), lexP, if_neg (by simp), if_pos (by decide)]
    rfl
  have h2 : lexToken endB = (⟨4, [59], 0⟩, 1, 0) := by rfl
  have h3 : lexAt [32, 125] l = .ok [⟨4, [125], l⟩] := by
    rw [lexAt_white (by decide)]
    rw [show (([32] : List UInt8).count 10 : Nat) = 0 by decide]
    simpa using h1
  rw [← lexAt_eq (f := 3) (by decide), lexP, if_neg (by decide), if_pos (by decide), h2, if_neg (by decide)]
  simp only [endB, List.drop_succ_cons, List.drop_zero, List.take_succ_cons, List.take_zero]
  rw [lexAt_eq (by decide), show (([59] : List UInt8).count 10 : Nat) = 0 by decide]
  simp only [Int.natCast_zero, Int.add_zero]
  rw [h3]
  rfl
def preB : List UInt8 := [102, 117, 110, 99, 32, 109, 97, 105, 110, 40, 41, 32, 123, 32, 120, 32, 61, 32]
theorem lex_preB (X : List UInt8) : lexAt (preB ++ X) 1 = (lexAt X 1).map (hd7 ++ ·) := by
  have h1 : ∀ F, lexP (F + 11) (preB ++ X) 1 = ((((((((lexP F (32 :: X) 1).map (⟨4, [61], 1⟩ :: ·)).map (⟨2, [120], 1⟩ :: ·)).map (⟨4, [123], 1⟩ :: ·)).map (⟨4, [41], 1⟩ :: ·)).map (⟨4, [40], 1⟩ :: ·)).map (⟨2, nMain, 1⟩ :: ·)).map (⟨3, kwFunc, 1⟩ :: ·)) := fun F => by kernel_rfl
  rw [← lexAt_eq (f := X.length + 9 + 11) (by simp [preB]), h1, lexAt_eq (by simp), lexAt_white (by decide)]
  rw [show (([32] : List UInt8).count 10 : Nat) = 0 by decide]
  simp only [Int.natCast_zero, Int.add_zero]
  cases lexAt X 1 <;> rfl
def bodyB (s : List UInt8) : List UInt8 := preB ++ s ++ endB
theorem get_app {A B : List Tok} {j : Nat} (h : A.length ≤ j) : (A ++ B)[j]? = B[j - A.length]? := List.getElem?_append_right h
theorem paren_plain {s : List UInt8} {T : List Tok} {p : Pr} {i op k : Nat} (hs : s.length ≤ 60) (hk : k ≤ 30) (hk0 : 0 < k) (h59 : (59 : UInt8) ∉ s) (hsl : ∀ j, ([47, 47] : List UInt8).isPrefixOf (s.drop j) = false)
    (hT : lexAt (bodyB s) 1 = .ok T) (hp : sProg T (10 * T.length + 20) pr0 0 0 = some (.ok p i op)) :
    ∃ T' i' op', lexAt (bodyB (List.replicate k 40 ++ s ++ List.replicate k 41)) 1 = .ok T' ∧ sProg T' (10 * T'.length + 20) pr0 0 0 = some (.ok p i' op') := by
  rw [bodyB, List.append_assoc, lex_preB] at hT
  obtain ⟨T0, hT0, rfl⟩ := map_ok hT
  obtain ⟨S, R, l', rfl, hR, hSl, hSm, hcl⟩ := lex_del _ s 1 T0 (Nat.le_refl _) hsl hT0
  rw [lexAt_endB] at hR
  cases hR
  obtain ⟨k', rfl⟩ : ∃ k', k = k' + 1 := ⟨k - 1, by omega⟩
  obtain ⟨S2, l3, hS2, hlex⟩ := hcl (List.replicate k' 41 ++ endB) 1
  have hS2l : S2.length = S.length := by simpa using congrArg List.length hS2
  have hL : lexAt (bodyB (List.replicate (k' + 1) 40 ++ s ++ List.replicate (k' + 1) 41)) 1 = .ok (hd7 ++ (List.replicate (k' + 1) ⟨4, [40], 1⟩ ++ (S2 ++ (List.replicate (k' + 1) ⟨4, [41], l3⟩ ++ [⟨4, [59], l3⟩, ⟨4, [125], l3⟩])))) := by
    rw [bodyB, List.append_assoc, lex_preB, List.append_assoc, List.append_assoc, lexAt_signs 40 (.inl rfl), List.replicate_succ (a := (41 : UInt8)), List.cons_append, hlex, ← List.cons_append, ← List.replicate_succ (a := (41 : UInt8)), lexAt_signs 41 (.inr rfl), lexAt_endB]
    rfl
  obtain ⟨f, e, m, he, hm⟩ := body_bwd hp
  have h7 := ((ex_good _ f).1 0 7 1 _ he).2.1 rfl
  have hmlt := isTok_lt hm
  have h7l : hd7.length = 7 := rfl
  have hm' : m = 7 + S.length := by
    simp only [List.length_append, h7l, List.length_cons, List.length_nil] at hmlt
    rcases Nat.lt_or_ge m (7 + S.length) with h | h
    · exfalso
      have hg : (hd7 ++ (S ++ [⟨4, [59], l'⟩, ⟨4, [125], l'⟩]))[m]? = some S[m - 7] := by
        rw [get_app (by rw [h7l]; omega), h7l, List.getElem?_append_left (by omega)]
        simp
      unfold isTok at hm
      rw [hg] at hm
      simp only [Bool.and_eq_true, Bool.or_eq_true, decide_eq_true_eq, List.contains_cons, List.contains_nil, Bool.or_false, beq_iff_eq] at hm
      rcases hSm _ (List.getElem_mem (by omega : m - 7 < S.length)) with h1 | h1
      · rw [h1] at hm
        exact absurd hm.1 (by decide)
      · exact h59 (h1 59 (by rw [hm.2]; exact List.mem_cons_self ..))
    · rcases Nat.lt_or_ge (7 + S.length) m with h2 | h2
      · exfalso
        obtain rfl : m = 7 + S.length + 1 := by omega
        have hg : (hd7 ++ (S ++ [⟨4, [59], l'⟩, ⟨4, [125], l'⟩]))[7 + S.length + 1]? = some ⟨4, [125], l'⟩ := by
          rw [get_app (by rw [h7l]; omega), h7l, get_app (by omega), show 7 + S.length + 1 - 7 - S.length = 1 by omega]
          rfl
        unfold isTok at hm
        rw [hg] at hm
        simp at hm
      · omega
  subst hm'
  have g59 : (hd7 ++ (S ++ [⟨4, [59], l'⟩, ⟨4, [125], l'⟩]))[7 + S.length]? = some ⟨4, [59], l'⟩ := by
    rw [get_app (by rw [h7l]; omega), h7l, get_app (by omega), show 7 + S.length - 7 - S.length = 0 by omega]
    rfl
  have g125 : (hd7 ++ (S ++ [⟨4, [59], l'⟩, ⟨4, [125], l'⟩]))[7 + S.length + 1]? = some ⟨4, [125], l'⟩ := by
    rw [get_app (by rw [h7l]; omega), h7l, get_app (by omega), show 7 + S.length + 1 - 7 - S.length = 1 by omega]
    rfl
  have s59 : SignAt _ _ [59] := SignAt.of g59 rfl rfl
  have s125 : SignAt _ _ [125] := SignAt.of g125 rfl rfl
  obtain ⟨i0, o0, hpe⟩ := body_fwd he hm (by rw [s125.tok]; decide) (by simp [h7l]; omega) hp
  cases hpe
  generalize hk' : k' + 1 = k at hL hk hk0
  generalize hTT : (hd7 ++ (List.replicate k ⟨4, [40], 1⟩ ++ (S2 ++ (List.replicate k ⟨4, [41], l3⟩ ++ [⟨4, [59], l3⟩, ⟨4, [125], l3⟩]))) : List Tok) = TT at hL
  have hTl : TT.length = 9 + S.length + 2 * k := by
    rw [← hTT]
    simp only [List.length_append, h7l, List.length_cons, List.length_nil, List.length_replicate]
    omega
  have G1 : ∀ n, n < k → TT[7 + n]? = some ⟨4, [40], 1⟩ := fun n hn => by
    rw [← hTT, get_app (by rw [h7l]; omega), h7l, Nat.add_sub_cancel_left, List.getElem?_append_left (by simpa using hn)]
    simp [hn]
  have G2 : ∀ n, n < S.length → TT[7 + k + n]? = S2[n]? := fun n hn => by
    rw [← hTT, get_app (by rw [h7l]; omega), h7l, get_app (by rw [List.length_replicate]; omega), List.length_replicate, show 7 + k + n - 7 - k = n by omega, List.getElem?_append_left (by omega)]
  have G3 : ∀ n, n < k → TT[7 + S.length + k + n]? = some ⟨4, [41], l3⟩ := fun n hn => by
    rw [← hTT, get_app (by rw [h7l]; omega), h7l, get_app (by rw [List.length_replicate]; omega), List.length_replicate, get_app (by omega), show 7 + S.length + k + n - 7 - k - S2.length = n by omega, List.getElem?_append_left (by simpa using hn)]
    simp [hn]
  have G4 : TT[7 + S.length + k + k]? = some ⟨4, [59], l3⟩ := by
    rw [← hTT, get_app (by rw [h7l]; omega), h7l, get_app (by rw [List.length_replicate]; omega), List.length_replicate, get_app (by omega), show 7 + S.length + k + k - 7 - k - S2.length = k by omega, get_app (by rw [List.length_replicate]; omega), List.length_replicate, Nat.sub_self]
    rfl
  have G5 : TT[7 + S.length + k + k + 1]? = some ⟨4, [125], l3⟩ := by
    rw [← hTT, get_app (by rw [h7l]; omega), h7l, get_app (by rw [List.length_replicate]; omega), List.length_replicate, get_app (by omega), show 7 + S.length + k + k + 1 - 7 - k - S2.length = k + 1 by omega, get_app (by rw [List.length_replicate]; omega), List.length_replicate, show k + 1 - k = 1 by omega]
    rfl
  have c41 : SignAt TT (7 + S.length + k + 0) [41] := SignAt.of (G3 0 hk0) rfl rfl
  rw [Nat.add_zero] at c41
  have c59 : SignAt TT (7 + S.length + k + k) [59] := SignAt.of G4 rfl rfl
  have c125 : SignAt TT (7 + S.length + k + k + 1) [125] := SignAt.of G5 rfl rfl
  have hB : Brk (hd7 ++ (S ++ [⟨4, [59], l'⟩, ⟨4, [125], l'⟩])) TT k 7 (7 + S.length) := by
    refine ⟨fun j hj1 hj2 => ?_, ?_, fun xs h1 h2 => ?_, ?_⟩
    · obtain ⟨n, rfl⟩ : ∃ n, j = 7 + n := ⟨j - 7, by omega⟩
      have hn : n < S.length := by omega
      have hn2 : n < S2.length := by omega
      refine ⟨S[n], S2[n], ?_, ?_, ?_⟩
      · rw [get_app (by rw [h7l]; omega), h7l, Nat.add_sub_cancel_left, List.getElem?_append_left hn]
        simp [hn]
      · rw [show 7 + n + k = 7 + k + n by omega, G2 n hn]
        simp [hn2]
      · have h1 : (S2.map kt)[n]? = (S.map kt)[n]? := by rw [hS2]
        simp only [List.getElem?_map, List.getElem?_eq_getElem hn, List.getElem?_eq_getElem hn2, Option.map_some, Option.some.injEq, kt, Prod.mk.injEq] at h1
        exact h1
    · have := G3 0 hk0
      rw [Nat.add_zero] at this
      unfold kindAt
      rw [this, g59]
    · rw [c41.tok, s59.tok, h1, h2]
    · rw [s59.tok]
      decide
  have hE := ((ex_par (c := k) hB f f (Nat.le_refl _)).1 0 7 1 _ _ _ he).2 (Nat.le_refl _) (Nat.le_refl _) (by omega)
  have hP := parens (T := TT) (z := 0) k 7 1 (by rw [show 1 + k = 1 + k from rfl]; exact hE.2) (fun n hn => SignAt.of (G1 n hn) rfl rfl) (fun n hn => SignAt.of (G3 n hn) rfl rfl) (fun x => sign_noop c59 (.inr rfl) x) (by omega)
  obtain ⟨r, hr⟩ := sProg_ends TT (10 * TT.length + 20) pr0 0 0 (Nat.zero_le _) (by omega)
  have hfin : ∃ i op, r = .ok (asPr e) i op := by
    subst hTT
    exact body_fwd hP (by rw [c59.tok]; decide) (by rw [c125.tok]; decide) (by rw [hTl]; omega) hr
  obtain ⟨i', op', rfl⟩ := hfin
  exact ⟨TT, i', op', hL, hr⟩
end Go.Stele
/- The parser in plain Lean: constructs within constructs. -/
set_option linter.unusedVariables false
set_option linter.unusedSimpArgs false
set_option maxRecDepth 100000
namespace Go.Stele
/-- The signs ahead of the variable: '-' for true, '(' for false. -/
def depHead (bs : List Bool) : List UInt8 := bs.map fun b => if b then 45 else 40
def depTail (bs : List Bool) : List UInt8 := List.replicate (bs.count false) 41
def depSrc (bs : List Bool) : List UInt8 := depHead bs ++ 121 :: depTail bs
def depTok (b : Bool) : Tok := ⟨4, [if b then 45 else 40], 1⟩
def depEx : List Bool → Ex
  | [] => .mk nVar 0 [121] []
  | true :: r => .mk nNeg 0 [] [depEx r]
  | false :: r => depEx r
theorem lexAt_minus (Y : List UInt8) (l : Int) : lexAt (45 :: Y) l = (lexAt Y l).map (⟨4, [45], l⟩ :: ·) := by
  have h1 : skipLen (45 :: Y) = 0 := skip_head (by decide) (by decide)
  have h2 : lexToken (45 :: Y) = (⟨4, [45], 0⟩, 1, 0) := by rfl
  have h3 : ([45] : List UInt8).count 10 = 0 := by decide
  rw [← lexAt_eq (f := Y.length + 1) (by simp), lexP, if_neg (by simp), if_pos h1, h2, if_neg (by decide)]
  simp only [List.drop_succ_cons, List.drop_zero, List.take_succ_cons, List.take_zero, h3]
  rw [lexAt_eq (Nat.le_refl _)]
  simp
theorem lexAt_head (Y : List UInt8) : ∀ bs : List Bool, lexAt (depHead bs ++ Y) 1 = (lexAt Y 1).map (bs.map depTok ++ ·)
  | [] => by show lexAt Y 1 = _; cases lexAt Y 1 <;> rfl
  | true :: bs => by
    show lexAt (45 :: (depHead bs ++ Y)) 1 = _
    rw [lexAt_minus, lexAt_head Y bs]
    cases lexAt Y 1 <;> rfl
  | false :: bs => by
    show lexAt (40 :: (depHead bs ++ Y)) 1 = _
    rw [lexAt_sign 40 (.inl rfl), lexAt_head Y bs]
    cases lexAt Y 1 <;> rfl
theorem lexAt_y {d : UInt8} (hd : Del d) (b : List UInt8) : lexAt (121 :: d :: b) 1 = (lexAt (d :: b) 1).map (⟨2, [121], 1⟩ :: ·) := by
  have h1 : skipLen (121 :: d :: b) = 0 := skip_head (by decide) (by decide)
  have h2 : lexToken (121 :: d :: b) = (⟨2, [121], 0⟩, 1, 0) := (lexToken_del hd b 121 [] (fun h => absurd h (by decide))).trans (by decide +kernel)
  have h3 : ([121] : List UInt8).count 10 = 0 := by decide
  rw [← lexAt_eq (f := (d :: b).length + 1) (by simp), lexP, if_neg (by simp), if_pos h1, h2, if_neg (by decide)]
  simp only [List.drop_succ_cons, List.drop_zero, List.take_succ_cons, List.take_zero, h3]
  rw [lexAt_eq (Nat.le_refl _)]
  simp
def depToks (bs : List Bool) : List Tok := hd7 ++ (bs.map depTok ++ ⟨2, [121], 1⟩ :: (List.replicate (bs.count false) ⟨4, [41], 1⟩ ++ [⟨4, [59], 1⟩, ⟨4, [125], 1⟩]))
theorem dep_lex (bs : List Bool) : lexAt (bodyB (depSrc bs)) 1 = .ok (depToks bs) := by
  have h : lexAt (121 :: (depTail bs ++ endB)) 1 = .ok (⟨2, [121], 1⟩ :: (List.replicate (bs.count false) ⟨4, [41], 1⟩ ++ [⟨4, [59], 1⟩, ⟨4, [125], 1⟩])) := by
    unfold depTail
    cases hc : bs.count false with
    | zero =>
      show lexAt (121 :: 59 :: [32, 125]) 1 = _
      rw [lexAt_y del59]
      show (lexAt endB 1).map _ = _
      rw [lexAt_endB]
      rfl
    | succ k =>
      show lexAt (121 :: 41 :: (List.replicate k 41 ++ endB)) 1 = _
      rw [lexAt_y del41, ← List.cons_append, ← List.replicate_succ, lexAt_signs 41 (.inr rfl), lexAt_endB]
      rfl
  rw [bodyB, depSrc, List.append_assoc, List.append_assoc, lex_preB, lexAt_head, List.cons_append, h]
  rfl
section
variable {bs : List Bool}
theorem dep_h7 : hd7.length = 7 := rfl
theorem dep_head {j : Nat} (h : j < bs.length) : (depToks bs)[7 + j]? = some (depTok bs[j]) := by
  unfold depToks
  rw [get_app (by rw [dep_h7]; omega), dep_h7, Nat.add_sub_cancel_left, List.getElem?_append_left (by simpa using h)]
  simp [h]
theorem dep_y : (depToks bs)[7 + bs.length]? = some ⟨2, [121], 1⟩ := by
  unfold depToks
  rw [get_app (by rw [dep_h7]; omega), dep_h7, Nat.add_sub_cancel_left, get_app (by simp)]
  simp
theorem dep_close {n : Nat} (h : n < bs.count false) : (depToks bs)[8 + bs.length + n]? = some ⟨4, [41], 1⟩ := by
  unfold depToks
  rw [get_app (by rw [dep_h7]; omega), dep_h7, get_app (by simp; omega), List.length_map, show 8 + bs.length + n - 7 - bs.length = n + 1 by omega, List.getElem?_cons_succ, List.getElem?_append_left (by simpa using h)]
  simp [h]
theorem dep_semi : (depToks bs)[8 + bs.length + bs.count false]? = some ⟨4, [59], 1⟩ := by
  unfold depToks
  rw [get_app (by rw [dep_h7]; omega), dep_h7, get_app (by simp; omega), List.length_map, show 8 + bs.length + bs.count false - 7 - bs.length = bs.count false + 1 by omega, List.getElem?_cons_succ, get_app (by simp)]
  simp
theorem dep_brace : (depToks bs)[8 + bs.length + bs.count false + 1]? = some ⟨4, [125], 1⟩ := by
  unfold depToks
  rw [get_app (by rw [dep_h7]; omega), dep_h7, get_app (by simp; omega), List.length_map, show 8 + bs.length + bs.count false + 1 - 7 - bs.length = bs.count false + 1 + 1 by omega, List.getElem?_cons_succ, get_app (by simp)]
  simp
theorem dep_len : (depToks bs).length = 10 + bs.length + bs.count false := by
  unfold depToks
  simp only [List.length_append, dep_h7, List.length_map, List.length_cons, List.length_replicate, List.length_nil]
  omega
theorem dep_sign {j : Nat} (h : j < bs.length) : (bs[j] = true → SignAt (depToks bs) (7 + j) [45]) ∧ (bs[j] = false → SignAt (depToks bs) (7 + j) [40]) := by
  have := dep_head h
  exact ⟨fun hb => SignAt.of this rfl (by rw [hb]; rfl), fun hb => SignAt.of this rfl (by rw [hb]; rfl)⟩
theorem dep_after (n : Nat) (h : n ≤ bs.count false) : SignAt (depToks bs) (8 + bs.length + n) [41] ∨ SignAt (depToks bs) (8 + bs.length + n) [59] := by
  rcases Nat.lt_or_ge n (bs.count false) with h1 | h1
  · exact .inl (SignAt.of (dep_close h1) rfl rfl)
  · obtain rfl : n = bs.count false := by omega
    exact .inr (SignAt.of dep_semi rfl rfl)
theorem dep_noop (n : Nat) (h : n ≤ bs.count false) (k : Nat) : isTok (depToks bs) (8 + bs.length + n) (lvOps k) = false := by
  rcases dep_after n h with h | h
  · exact sign_noop h (.inl rfl) k
  · exact sign_noop h (.inr rfl) k
theorem dep_var (op : Nat) : eUnary (depToks bs) 2 (7 + bs.length) op = some (.ok (.mk nVar 0 [121] []) (8 + bs.length) op) := by
  have hy : ∀ xs, isTok (depToks bs) (7 + bs.length) xs = false := fun xs => by
    unfold isTok
    rw [dep_y]
    rfl
  have hn : ∀ x : List UInt8, x ≠ [41] → x ≠ [59] → isTok (depToks bs) (7 + bs.length + 1) [x] = false := fun x h1 h2 => by
    rw [show 7 + bs.length + 1 = 8 + bs.length + 0 by omega]
    rcases dep_after (bs := bs) 0 (Nat.zero_le _) with h | h <;> rw [h.tok] <;> simp [h1.symm, h2.symm]
  rw [eUnary, if_neg (by rw [hy]; decide), if_neg (by rw [hy]; decide), ePrim, if_neg (by rw [hy]; decide), if_neg (by unfold kindAt; rw [dep_y]; decide)]
  have e1 : sWord (depToks bs) 2 (7 + bs.length) op = .ok [121] (7 + bs.length + 1) op := by
    unfold sWord
    rw [dep_y]
    rfl
  simp only [obind, e1]
  rw [if_neg (by rw [hn _ (by decide) (by decide)]; decide), if_neg (by rw [hn _ (by decide) (by decide)]; decide), show 7 + bs.length + 1 = 8 + bs.length by omega]
theorem count_drop {j : Nat} (h : j < bs.length) : (bs.drop j).count false = (if bs[j] = false then 1 else 0) + (bs.drop (j + 1)).count false := by
  rw [List.drop_eq_getElem_cons h, List.count_cons]
  cases bs[j] <;> simp <;> omega
theorem count_drop_le (j : Nat) : (bs.drop j).count false ≤ bs.count false := (List.drop_sublist j bs).count_le _
theorem dep_ok : ∀ (n j op : Nat), j + n = bs.length → op + n ≤ 100 → eUnary (depToks bs) (9 * n + 2) (7 + j) op = some (.ok (depEx (bs.drop j)) (8 + bs.length + (bs.drop j).count false) op)
  | 0, j, op, h, _ => by
    obtain rfl : j = bs.length := by omega
    rw [List.drop_length]
    exact dep_var op
  | n + 1, j, op, h, ho => by
    have hj : j < bs.length := by omega
    have ih := dep_ok n (j + 1) (op + 1) (by omega) (by omega)
    have hs := dep_sign hj
    have hd := List.drop_eq_getElem_cons hj
    have hc := count_drop hj
    have hle := count_drop_le (bs := bs) (j + 1)
    have hle' := count_drop_le (bs := bs) j
    rw [hd, ← hd, hc, hd]
    cases hb : bs[j] with
    | true =>
      rw [if_neg (by simp), Nat.zero_add]
      have := unary_minus (hs.1 hb) ih (by omega)
      rw [show 9 * (n + 1) + 2 = (9 * n + 2 + 1) + 8 by omega]
      have h2 := (ex_le (depToks bs) (9 * n + 2 + 1) (9 * n + 2 + 1 + 8) (by omega)).2.2.1 (7 + j) op _ this
      exact h2
    | false =>
      rw [if_pos rfl]
      have h1 := lev_of_unary ih (dep_noop _ hle) 6 0 rfl
      have hcl : SignAt (depToks bs) (8 + bs.length + (bs.drop (j + 1)).count false) [41] := SignAt.of (dep_close (by rw [hb, if_pos rfl] at hc; omega)) rfl rfl
      have := unary_paren (hs.2 hb) h1 hcl (by omega)
      rw [show 9 * (n + 1) + 2 = 9 * n + 2 + 1 + 6 + 2 by omega, show 8 + bs.length + (1 + (bs.drop (j + 1)).count false) = 8 + bs.length + (bs.drop (j + 1)).count false + 1 by omega]
      exact this
theorem dep_line {j : Nat} (h : j < bs.length) : failLine (depToks bs) (7 + j) = 1 := by
  unfold failLine
  rw [Nat.min_eq_left (by rw [dep_len]; omega), dep_head h]
  rfl
theorem dep_bad : ∀ (n j op : Nat), j + n + 1 ≤ bs.length → op + n = 100 → eUnary (depToks bs) (9 * n + 2) (7 + j) op = some (.err 1 6)
  | 0, j, op, h, ho => by
    have hs := dep_sign (bs := bs) (j := j) (by omega)
    rw [← dep_line (bs := bs) (j := j) (by omega)]
    refine unary_limit ?_ (by omega)
    cases hb : bs[j] with
    | true => exact .inr (hs.1 hb)
    | false => exact .inl (hs.2 hb)
  | n + 1, j, op, h, ho => by
    have hj : j < bs.length := by omega
    have ih := dep_bad n (j + 1) (op + 1) (by omega) (by omega)
    have hs := dep_sign hj
    cases hb : bs[j] with
    | true =>
      have := unary_minus_err (hs.1 hb) ih (by omega)
      rw [show 9 * (n + 1) + 2 = (9 * n + 2 + 1) + 8 by omega]
      exact (ex_le (depToks bs) (9 * n + 2 + 1) (9 * n + 2 + 1 + 8) (by omega)).2.2.1 (7 + j) op _ this
    | false =>
      have := unary_paren_err (hs.2 hb) (lev_of_unary_err ih 6 0 rfl) (by omega)
      rw [show 9 * (n + 1) + 2 = 9 * n + 2 + 1 + 6 + 2 by omega]
      exact this
/-- 98 constructs within the body. -/
theorem dep98 (h : bs.length = 98) : ∃ i op, sProg (depToks bs) (10 * (depToks bs).length + 20) pr0 0 0 = some (.ok (asPr (depEx bs)) i op) := by
  obtain ⟨r, hr⟩ := sProg_ends (depToks bs) (10 * (depToks bs).length + 20) pr0 0 0 (Nat.zero_le _) (by omega)
  have h1 := dep_ok (bs := bs) 98 0 1 (by omega) (by omega)
  rw [List.drop_zero] at h1
  have h2 := lev_of_unary h1 (dep_noop _ (Nat.le_refl _)) 6 0 rfl
  have c59 := SignAt.of (dep_semi (bs := bs)) rfl rfl
  have c125 := SignAt.of (dep_brace (bs := bs)) rfl rfl
  obtain ⟨i, op, rfl⟩ := body_fwd (X := bs.map depTok ++ ⟨2, [121], 1⟩ :: (List.replicate (bs.count false) ⟨4, [41], 1⟩ ++ [⟨4, [59], 1⟩, ⟨4, [125], 1⟩])) h2 (by have := c59.tok [[59]]; exact this.trans (by decide)) (by have := c125.tok [[125]]; exact this.trans (by decide)) (by have := dep_len (bs := bs); unfold depToks at this; omega) hr
  exact ⟨i, op, hr⟩
/-- 100 constructs. -/
theorem dep100 (h : bs.length = 100) : sProg (depToks bs) (10 * (depToks bs).length + 20) pr0 0 0 = some (.err 1 6) := by
  obtain ⟨r, hr⟩ := sProg_ends (depToks bs) (10 * (depToks bs).length + 20) pr0 0 0 (Nat.zero_le _) (by omega)
  have h2 := lev_of_unary_err (dep_bad (bs := bs) 99 0 1 (by omega) (by omega)) 6 0 rfl
  obtain rfl := body_err (X := bs.map depTok ++ ⟨2, [121], 1⟩ :: (List.replicate (bs.count false) ⟨4, [41], 1⟩ ++ [⟨4, [59], 1⟩, ⟨4, [125], 1⟩])) h2 hr
  exact hr
end
end Go.Stele
