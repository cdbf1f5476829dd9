/- Texts joined: ParDepth, RtLex, RtSize, Fmt6, ParP8, ParS1. -/
import Derived.KernelRfl
import Derived.Test.YtfodkbchknknjaaGreatDoorBRowU4
import Derived.Test.YtfodkbchknknjaaGreatDoorBRowU5
import Derived.Test.YtfodkbchknknjaaGreatDoorBRowU6
import Derived.Test.YtfodkbchknknjaaGreatDoorBRowU7
set_option linter.unusedVariables false
set_option linter.unusedSimpArgs false
namespace Go.Stele
/-- From place z up to place m, T's tokens stand in T' too, d places later; at m stand two signs that no expression goes on with. -/
structure Brk (T T' : List Tok) (d z m : Nat) : Prop where
  ag : ∀ j, z ≤ j → j < m → ∃ t t', T[j]? = some t ∧ T'[j + d]? = some t' ∧ t'.kind = t.kind ∧ t'.text = t.text
  kind : kindAt T' (m + d) = kindAt T m
  tok : ∀ xs : List (List UInt8), xs.contains [59] = false → xs.contains [41] = false → isTok T' (m + d) xs = isTok T m xs
  par : isTok T m [[41]] = false
/-- What r computes, starting at i with op open constructs, r' computes d places later with c more. -/
def PR {A : Type} (d c z m i op : Nat) (r r' : OR A) : Prop := ∀ v i' op', r = some (.ok v i' op') → i ≤ i' ∧ (z ≤ i → i' ≤ m → op + c + (m - i) ≤ 100 → op' + c + (m - i') ≤ 100 ∧ r' = some (.ok v (i' + d) (op' + c)))
section
variable {T T' : List Tok} {d c z m : Nat}
theorem PR.none {A : Type} {i op : Nat} {r' : OR A} : PR d c z m i op none r' := fun _ _ _ h => by cases h
theorem PR.ok {A : Type} {i op : Nat} {v : A} : PR d c z m i op (some (.ok v i op)) (some (.ok v (i + d) (op + c))) := fun _ _ _ h => by
  cases h
  exact ⟨Nat.le_refl _, fun _ _ h => ⟨h, rfl⟩⟩
theorem PR.bind {A B : Type} {i op : Nat} {r r' : OR A} {f f' : A → Nat → Nat → OR B} (hr : PR d c z m i op r r') (hf : ∀ v i1 op1, r = some (.ok v i1 op1) → i ≤ i1 → PR d c z m i1 op1 (f v i1 op1) (f' v (i1 + d) (op1 + c))) :
    PR d c z m i op (obind r f) (obind r' f') := fun v i' op' h => by
  rcases obind_some h with ⟨w, i1, op1, h1, h2⟩ | ⟨l, e, _, h1⟩
  · obtain ⟨g1, g2⟩ := hr _ _ _ h1
    obtain ⟨k1, k2⟩ := hf _ _ _ h1 g1 _ _ _ h2
    refine ⟨by omega, fun hz hm ho => ?_⟩
    obtain ⟨g3, g4⟩ := g2 hz (by omega) ho
    obtain ⟨k3, k4⟩ := k2 (by omega) hm g3
    exact ⟨k3, by rw [g4]; exact k4⟩
  · cases h1
theorem PR.eq {A : Type} {i op : Nat} {r r' r2 : OR A} (h : PR d c z m i op r r') (he : z ≤ i → i ≤ m → r2 = r') : PR d c z m i op r r2 := fun v i' op' hv => by
  obtain ⟨g1, g2⟩ := h _ _ _ hv
  refine ⟨g1, fun hz hm ho => ?_⟩
  rw [he hz (by omega)]
  exact g2 hz hm ho
theorem PR.weak {A : Type} {i j op : Nat} {r r' : OR A} (h : PR d c z m j op r r') (hij : i ≤ j) : PR d c z m i op r r' := fun v i' op' hv => by
  obtain ⟨g1, g2⟩ := h _ _ _ hv
  exact ⟨by omega, fun hz hm ho => g2 (by omega) hm (by omega)⟩
theorem PR.weakEq {A : Type} {i j op : Nat} {r r' r2 : OR A} (hij : i ≤ j) (he : z ≤ i → j ≤ m → r2 = r') (h : PR d c z m j op r r') : PR d c z m i op r r2 := fun v i' op' hv => by
  obtain ⟨g1, g2⟩ := h _ _ _ hv
  refine ⟨by omega, fun hz hm ho => ?_⟩
  rw [he hz (by omega)]
  exact g2 (by omega) hm (by omega)
theorem PR.ite {A : Type} {i op : Nat} {c1 c2 : Prop} [Decidable c1] [Decidable c2] {x y x' y' : OR A} (hc : z ≤ i → i ≤ m → (c2 ↔ c1)) (hx : c1 → PR d c z m i op x x') (hy : ¬c1 → PR d c z m i op y y') :
    PR d c z m i op (if c1 then x else y) (if c2 then x' else y') := by
  by_cases h : c1
  · refine PR.eq (r' := x') ?_ fun hz hi => by rw [if_pos ((hc hz hi).2 h)]
    rw [if_pos h]
    exact hx h
  · refine PR.eq (r' := y') ?_ fun hz hi => by rw [if_neg (fun hh => h ((hc hz hi).1 hh))]
    rw [if_neg h]
    exact hy h
theorem Brk.at (hB : Brk T T' d z m) {i : Nat} (hz : z ≤ i) (hi : i < m) (xs : List (List UInt8)) : isTok T' (i + d) xs = Go.Stele.isTok T i xs := by
  obtain ⟨t, t', h1, h2, h3, h4⟩ := hB.ag i hz hi
  unfold Go.Stele.isTok
  rw [h1, h2]
  simp only [h3, h4]
theorem Brk.text (hB : Brk T T' d z m) {i : Nat} (hz : z ≤ i) (hi : i < m) : textAt T' (i + d) = textAt T i := by
  obtain ⟨t, t', h1, h2, h3, h4⟩ := hB.ag i hz hi
  unfold textAt
  rw [h1, h2]
  exact h4
theorem Brk.isTok (hB : Brk T T' d z m) {i : Nat} (hz : z ≤ i) (hi : i ≤ m) {xs : List (List UInt8)} (h1 : xs.contains [59] = false) (h2 : xs.contains [41] = false) : isTok T' (i + d) xs = isTok T i xs := by
  rcases Nat.lt_or_ge i m with h | h
  · exact hB.at hz h xs
  · obtain rfl : i = m := by omega
    exact hB.tok xs h1 h2
theorem Brk.kindAt (hB : Brk T T' d z m) {i : Nat} (hz : z ≤ i) (hi : i ≤ m) : kindAt T' (i + d) = Go.Stele.kindAt T i := by
  rcases Nat.lt_or_ge i m with h | h
  · obtain ⟨t, t', h1, h2, h3, h4⟩ := hB.ag i hz h
    unfold Go.Stele.kindAt
    rw [h1, h2]
    exact h3
  · obtain rfl : i = m := by omega
    exact hB.kind
theorem PR.tok {A : Type} (hB : Brk T T' d z m) {i op : Nat} {xs : List (List UInt8)} {x y x' y' : OR A} (h1 : xs.contains [59] = false) (h2 : xs.contains [41] = false) (hx : PR d c z m i op x x') (hy : PR d c z m i op y y') :
    PR d c z m i op (if isTok T i xs then x else y) (if isTok T' (i + d) xs then x' else y') := PR.ite (fun hz hi => by rw [hB.isTok hz hi h1 h2]) (fun _ => hx) (fun _ => hy)
theorem word_par (hB : Brk T T' d z m) (k : Int) (i op : Nat) : PR d c z m i op (some (sWord T k i op)) (some (sWord T' k (i + d) (op + c))) := fun v i' op' h => by
  unfold sWord at h
  split at h
  · rename_i t ht
    split at h
    · rename_i hk
      cases h
      refine ⟨by omega, fun hz hm ho => ⟨by omega, ?_⟩⟩
      obtain ⟨t1, t', h1, h2, h3, h4⟩ := hB.ag i hz (by omega)
      rw [ht] at h1
      cases h1
      unfold sWord
      rw [h2]
      simp only [h3, h4, if_pos hk]
      rw [show i + d + 1 = i + 1 + d by omega]
    · cases h
  · cases h
theorem need_par (hB : Brk T T' d z m) (x : List UInt8) (i op : Nat) : PR d c z m i op (some (sNeed T x i op)) (some (sNeed T' x (i + d) (op + c))) := fun v i' op' h => by
  unfold sNeed at h
  split at h
  · rename_i ht
    cases h
    refine ⟨by omega, fun hz hm ho => ⟨by omega, ?_⟩⟩
    unfold sNeed
    rw [hB.at hz (by omega), if_pos ht, show i + d + 1 = i + 1 + d by omega]
  · cases h
theorem begin_par (hB : Brk T T' d z m) (x : List UInt8) (i op : Nat) : PR d c z m i op (some (sBegin T x i op)) (some (sBegin T' x (i + d) (op + c))) := fun v i' op' h => by
  unfold sBegin at h
  split at h
  · rename_i ht
    split at h
    · cases h
    · rename_i hop
      cases h
      refine ⟨by omega, fun hz hm ho => ⟨by omega, ?_⟩⟩
      unfold sBegin
      rw [hB.at hz (by omega), if_pos ht, if_neg (by omega), show i + d + 1 = i + 1 + d by omega, show op + c + 1 = op + 1 + c by omega]
  · cases h
theorem end_par (hB : Brk T T' d z m) (x : List UInt8) (i op : Nat) (hop : 0 < op) : PR d c z m i op (some (sEnd T x i op)) (some (sEnd T' x (i + d) (op + c))) := fun v i' op' h => by
  unfold sEnd sNeed at h
  split at h
  · rename_i ht
    cases h
    refine ⟨by omega, fun hz hm ho => ⟨by omega, ?_⟩⟩
    unfold sEnd sNeed
    rw [hB.at hz (by omega), if_pos ht, show i + d + 1 = i + 1 + d by omega]
    show some (Res.ok () (i + 1 + d) (op + c - 1)) = _
    rw [show op + c - 1 = op - 1 + c by omega]
  · cases h
theorem number_par (hB : Brk T T' d z m) (i op : Nat) : PR d c z m i op (some (sNumber T i op)) (some (sNumber T' (i + d) (op + c))) := fun v i' op' h => by
  have h0 := word_par (c := c) hB 1 i op
  unfold sNumber at h
  cases hw : sWord T 1 i op with
  | err l e => rw [hw] at h; cases h
  | ok s i1 op1 =>
    rw [hw] at h
    cases h
    obtain ⟨g1, g2⟩ := h0 _ _ _ (congrArg some hw)
    refine ⟨g1, fun hz hm ho => ?_⟩
    obtain ⟨g3, g4⟩ := g2 hz hm ho
    refine ⟨g3, ?_⟩
    injection g4 with g4
    unfold sNumber
    rw [g4]
    rfl
/-- What stands between two signs. -/
theorem wrap_par (hB : Brk T T' d z m) {A : Type} {x y : List UInt8} {i op : Nat} {g g' : Nat → Nat → OR A} {s : Bool} (hgood : ∀ i1 op1, GoodO T s i1 op1 (g i1 op1)) (hg : ∀ i1 op1, PR d c z m i1 op1 (g i1 op1) (g' (i1 + d) (op1 + c))) :
    PR d c z m i op (obind (some (sBegin T x i op)) fun _ i' op' => obind (g i' op') fun v i' op' => obind (some (sEnd T y i' op')) fun _ i' op' => some (.ok v i' op'))
      (obind (some (sBegin T' x (i + d) (op + c))) fun _ i' op' => obind (g' i' op') fun v i' op' => obind (some (sEnd T' y i' op')) fun _ i' op' => some (.ok v i' op')) := by
  refine PR.bind (begin_par hB x i op) fun _ i1 op1 h1 _ => PR.bind (hg i1 op1) fun v i2 op2 h2 _ => PR.bind (end_par hB y i2 op2 ?_) fun _ i3 op3 _ _ => PR.ok
  injection h1 with h1
  obtain ⟨_, k2, _, _⟩ := sBegin_ok h1
  have := (hgood i1 op1 _ h2).2.2.2
  omega
theorem un_par (hB : Brk T T' d z m) {x nm : List UInt8} {i op : Nat} {g g' : Nat → Nat → OR Ex} {s : Bool} (hgood : ∀ i1 op1, GoodO T s i1 op1 (g i1 op1)) (hg : ∀ i1 op1, PR d c z m i1 op1 (g i1 op1) (g' (i1 + d) (op1 + c))) :
    PR d c z m i op (obind (some (sBegin T x i op)) fun _ i' op' => obind (g i' op') fun e i' op' => some (.ok (Ex.mk nm 0 [] [e]) i' (op' - 1)))
      (obind (some (sBegin T' x (i + d) (op + c))) fun _ i' op' => obind (g' i' op') fun e i' op' => some (.ok (Ex.mk nm 0 [] [e]) i' (op' - 1))) := by
  refine PR.bind (begin_par hB x i op) fun _ i1 op1 h1 _ => PR.bind (hg i1 op1) fun v i2 op2 h2 _ => ?_
  injection h1 with h1
  obtain ⟨_, k2, _, _⟩ := sBegin_ok h1
  have := (hgood i1 op1 _ h2).2.2.2
  intro w i' op' hw
  cases hw
  exact ⟨Nat.le_refl _, fun _ _ ho => ⟨by omega, by rw [show op2 + c - 1 = op2 - 1 + c by omega]⟩⟩
theorem lv_no (k : Nat) : (lvOps k).contains [59] = false ∧ (lvOps k).contains [41] = false := by
  unfold lvOps
  split <;> decide
theorem ex_par (hB : Brk T T' d z m) : ∀ f g : Nat, f ≤ g → (∀ k i op, PR d c z m i op (eLev T f k i op) (eLev T' g k (i + d) (op + c))) ∧ (∀ k e i op, PR d c z m i op (eLoop T f k e i op) (eLoop T' g k e (i + d) (op + c))) ∧
    (∀ i op, PR d c z m i op (eUnary T f i op) (eUnary T' g (i + d) (op + c))) ∧ (∀ i op, PR d c z m i op (ePrim T f i op) (ePrim T' g (i + d) (op + c))) ∧ (∀ i op, PR d c z m i op (eIndex T f i op) (eIndex T' g (i + d) (op + c))) ∧
    (∀ i op, PR d c z m i op (eArgs T f i op) (eArgs T' g (i + d) (op + c))) ∧ (∀ acc i op, PR d c z m i op (eArgsLoop T f acc i op) (eArgsLoop T' g acc (i + d) (op + c)))
  | 0, g, _ => ⟨fun _ _ _ => by rw [eLev]; exact PR.none, fun _ _ _ _ => by rw [eLoop]; exact PR.none, fun _ _ => by rw [eUnary]; exact PR.none, fun _ _ => by rw [ePrim]; exact PR.none, fun _ _ => by rw [eIndex]; exact PR.none, fun _ _ => by rw [eArgs]; exact PR.none, fun _ _ _ => by rw [eArgsLoop]; exact PR.none⟩
  | f + 1, 0, h => by omega
  | f + 1, g + 1, h => by
    obtain ⟨hL, hO, hU, hP, hI, hR, hA⟩ := ex_par hB f g (by omega)
    obtain ⟨gL, gO, gU, gP, gI, gR, gA⟩ := ex_good T f
    refine ⟨fun k i op => ?_, fun k e i op => ?_, fun i op => ?_, fun i op => ?_, fun i op => ?_, fun i op => ?_, fun acc i op => ?_⟩
    · rw [eLev, eLev]
      exact PR.ite (fun _ _ => Iff.rfl) (fun _ => hU _ _) (fun _ => PR.bind (hL _ _ _) fun _ _ _ _ _ => hO _ _ _ _)
    · rw [eLoop, eLoop]
      refine PR.tok hB (lv_no k).1 (lv_no k).2 ?_ PR.ok
      refine PR.weakEq (j := i + 1) (r' := obind (eLev T' g (k + 1) (i + d + 1) (op + c)) fun e2 i' op' => if k = 2 then some (.ok (.mk (textAt T i) 0 [] [e, e2]) i' op') else eLoop T' g k (.mk (textAt T i) 0 [] [e, e2]) i' op') (by omega) (fun hz hi => by rw [hB.text hz (by omega)]) ?_
      rw [show i + d + 1 = i + 1 + d by omega]
      exact PR.bind (hL _ _ _) fun _ _ _ _ _ => PR.ite (fun _ _ => Iff.rfl) (fun _ => PR.ok) (fun _ => hO _ _ _ _)
    · rw [eUnary, eUnary]
      exact PR.tok hB (by decide) (by decide) (un_par hB gU hU) (PR.tok hB (by decide) (by decide) (un_par hB gU hU) (hP _ _))
    · rw [ePrim, ePrim]
      refine PR.tok hB (by decide) (by decide) (wrap_par (g := eLev T f 0) (g' := eLev T' g 0) hB (gL 0) (hL 0)) ?_
      refine PR.ite (fun hz hi => by rw [hB.kindAt hz hi]) (fun _ => PR.bind (number_par hB _ _) fun _ _ _ _ _ => PR.ok) (fun _ => ?_)
      exact PR.bind (word_par hB 2 _ _) fun _ _ _ _ _ => PR.tok hB (by decide) (by decide) (PR.bind (hI _ _) fun _ _ _ _ _ => PR.ok) (PR.tok hB (by decide) (by decide) (PR.bind (hR _ _) fun _ _ _ _ _ => PR.ok) PR.ok)
    · rw [eIndex, eIndex]
      exact wrap_par (g := eLev T f 0) (g' := eLev T' g 0) hB (gL 0) (hL 0)
    · rw [eArgs, eArgs]
      exact wrap_par (g := eArgsLoop T f []) (g' := eArgsLoop T' g []) hB (gA []) (hA [])
    · rw [eArgsLoop, eArgsLoop]
      have hrest : PR d c z m i op (obind (some (if acc = [] then .ok () i op else sNeed T [44] i op)) fun _ i' op' => obind (eLev T f 0 i' op') fun e i' op' => eArgsLoop T f (acc ++ [e]) i' op')
          (obind (some (if acc = [] then .ok () (i + d) (op + c) else sNeed T' [44] (i + d) (op + c))) fun _ i' op' => obind (eLev T' g 0 i' op') fun e i' op' => eArgsLoop T' g (acc ++ [e]) i' op') := by
        refine PR.bind ?_ fun _ _ _ _ _ => PR.bind (hL _ _ _) fun _ _ _ _ _ => hA _ _ _
        split
        · exact PR.ok
        · exact need_par hB _ _ _
      by_cases hz : z ≤ i
      case neg =>
        intro v i' op' hv
        have h9 : eArgsLoop T (f + 1) acc i op = some (.ok v i' op') := by rw [eArgsLoop]; exact hv
        exact ⟨((ex_good T (f + 1)).2.2.2.2.2.2 acc i op _ h9).1, fun h => absurd h hz⟩
      rcases Nat.lt_or_ge i m with hi | hi
      · rw [hB.at hz hi]
        exact PR.ite (fun _ _ => Iff.rfl) (fun _ => PR.ok) (fun _ => hrest)
      · intro v i' op' hv
        have hnt : i = m → isTok T i [[41]] = false := fun h => by rw [h]; exact hB.par
        have hge : i < i' ∨ isTok T i [[41]] = true := by
          cases ht : isTok T i [[41]] with
          | true => exact .inr rfl
          | false =>
            rw [ht, if_neg (by decide)] at hv
            refine .inl ?_
            rcases obind_some hv with ⟨u, i1, op1, h1, h2⟩ | ⟨_, _, _, h2⟩
            · have hi1 : i ≤ i1 := by
                split at h1
                · cases h1; exact Nat.le_refl _
                · injection h1 with h1
                  have := sNeed_good T [44] i op
                  rw [h1] at this
                  obtain ⟨k1, _⟩ := this
                  exact k1
              rcases obind_some h2 with ⟨e, i2, op2, h3, h4⟩ | ⟨_, _, _, h4⟩
              · have k1 := (gL 0 i1 op1 _ h3).2.1 rfl
                have k2 := (gA _ i2 op2 _ h4).1
                omega
              · cases h4
            · cases h2
        rcases hge with hge | hge
        · exact ⟨by omega, fun _ hm => by omega⟩
        · have : i ≠ m := fun h => by rw [hnt h] at hge; cases hge
          rw [if_pos hge] at hv
          cases hv
          exact ⟨Nat.le_refl _, fun _ hm => by omega⟩
end
end Go.Stele
/- The parser in plain Lean: a main function with one assignment; parentheses and signs around an operand. -/
set_option maxRecDepth 100000
namespace Go.Stele
def nMain : List UInt8 := [109, 97, 105, 110]
/-- The tokens ahead of the expression. -/
def hd7 : List Tok := [⟨3, kwFunc, 1⟩, ⟨2, nMain, 1⟩, ⟨4, [40], 1⟩, ⟨4, [41], 1⟩, ⟨4, [123], 1⟩, ⟨2, [120], 1⟩, ⟨4, [61], 1⟩]
def asPr (e : Ex) : Pr := ⟨[], [], [⟨nMain, [], [], [.mk 1 [120] [] [e] [] []]⟩]⟩
def pr0 : Pr := ⟨[], [], []⟩
theorem body_eq (X : List Tok) (f : Nat) : sProg (hd7 ++ X) (f + 4) pr0 0 0 = obind (eLev (hd7 ++ X) f 0 7 1) fun e i op => obind (some (sNeed (hd7 ++ X) [59] i op)) fun _ i op =>
    obind (sStmts (hd7 ++ X) (f + 2) [.mk 1 [120] [] [e] [] []] i op) fun b i op => obind (some (sEnd (hd7 ++ X) [125] i op)) fun _ i op => sProg (hd7 ++ X) (f + 3) ⟨[], [], [⟨nMain, [], [], b⟩]⟩ i op := by
  have e1 : sProg (hd7 ++ X) (f + 4) pr0 0 0 = obind (sFunc (hd7 ++ X) (f + 3) 1 0) fun a i op => sProg (hd7 ++ X) (f + 3) ⟨[], [], [a]⟩ i op := rfl
  have e2 : sFunc (hd7 ++ X) (f + 3) 1 0 = obind (sStmts (hd7 ++ X) (f + 3) [] 5 1) fun b i op => obind (some (sEnd (hd7 ++ X) [125] i op)) fun _ i op => some (.ok ⟨nMain, [], [], b⟩ i op) := rfl
  have e3 : sStmts (hd7 ++ X) (f + 3) [] 5 1 = obind (sStmt (hd7 ++ X) (f + 2) 5 1) fun s i op => sStmts (hd7 ++ X) (f + 2) [s] i op := by rw [sStmts]; rfl
  have e4 : sStmt (hd7 ++ X) (f + 2) 5 1 = obind (sSimple (hd7 ++ X) (f + 1) 5 1) fun s i op => obind (some (sNeed (hd7 ++ X) [59] i op)) fun _ i op => some (.ok s i op) := by rw [sStmt]; rfl
  have e5 : sSimple (hd7 ++ X) (f + 1) 5 1 = obind (eLev (hd7 ++ X) f 0 7 1) fun e i op => some (.ok (.mk 1 [120] [] [e] [] []) i op) := by rw [sSimple]; rfl
  rw [e1, e2, e3, e4, e5]
  match eLev (hd7 ++ X) f 0 7 1 with
  | none => rfl
  | some (.err l e) => rfl
  | some (.ok e i op) =>
    show obind (obind (obind (obind (some (sNeed (hd7 ++ X) [59] i op)) _) _) _) _ = obind (some (sNeed (hd7 ++ X) [59] i op)) _
    match sNeed (hd7 ++ X) [59] i op with
    | .err l e => rfl
    | .ok u i op =>
      show obind (obind (sStmts (hd7 ++ X) (f + 2) _ i op) _) _ = obind (sStmts (hd7 ++ X) (f + 2) _ i op) _
      match sStmts (hd7 ++ X) (f + 2) [.mk 1 [120] [] [e] [] []] i op with
      | none => rfl
      | some (.err l e) => rfl
      | some (.ok b i op) =>
        show obind (obind (some (sEnd (hd7 ++ X) [125] i op)) _) _ = obind (some (sEnd (hd7 ++ X) [125] i op)) _
        match sEnd (hd7 ++ X) [125] i op with
        | .err l e => rfl
        | .ok u i op => rfl
theorem body_bwd {X : List Tok} {F i op : Nat} {p : Pr} (h : sProg (hd7 ++ X) F pr0 0 0 = some (.ok p i op)) : ∃ f e m, eLev (hd7 ++ X) f 0 7 1 = some (.ok e m 1) ∧ isTok (hd7 ++ X) m [[59]] = true := by
  have h1 := prog_le (hd7 ++ X) F (F + 4) pr0 0 0 (by omega) _ h
  rw [body_eq] at h1
  rcases obind_some h1 with ⟨e, m, op1, h2, h3⟩ | ⟨_, _, _, h3⟩
  · have hop := ((ex_good (hd7 ++ X) F).1 0 7 1 _ h2).2.2.2
    subst hop
    rcases obind_some h3 with ⟨u, i1, op2, h4, h5⟩ | ⟨_, _, _, h5⟩
    · refine ⟨F, e, m, h2, ?_⟩
      injection h4 with h4
      unfold sNeed at h4
      split at h4
      · assumption
      · cases h4
    · cases h5
  · cases h3
theorem body_fwd {X : List Tok} {f0 m : Nat} {e : Ex} (he : eLev (hd7 ++ X) f0 0 7 1 = some (.ok e m 1)) (h59 : isTok (hd7 ++ X) m [[59]] = true) (h125 : isTok (hd7 ++ X) (m + 1) [[125]] = true) (hl : (hd7 ++ X).length = m + 2) {F : Nat} {r : Res Pr}
    (hr : sProg (hd7 ++ X) F pr0 0 0 = some r) : ∃ i op, r = .ok (asPr e) i op := by
  have h1 := prog_le (hd7 ++ X) F (F + f0 + 4) pr0 0 0 (by omega) _ hr
  rw [body_eq, (ex_le (hd7 ++ X) f0 (F + f0) (by omega)).1 0 7 1 _ he] at h1
  have e1 : sNeed (hd7 ++ X) [59] m 1 = .ok () (m + 1) 1 := by unfold sNeed; rw [if_pos h59]
  have e2 : sStmts (hd7 ++ X) (F + f0 + 2) [.mk 1 [120] [] [e] [] []] (m + 1) 1 = some (.ok [.mk 1 [120] [] [e] [] []] (m + 1) 1) := by rw [sStmts, if_pos h125]
  have e3 : sEnd (hd7 ++ X) [125] (m + 1) 1 = .ok () (m + 2) 0 := by
    unfold sEnd sNeed
    rw [if_pos h125]
    rfl
  have e4 : sProg (hd7 ++ X) (F + f0 + 3) (asPr e) (m + 2) 0 = some (.ok (asPr e) (m + 2) 0) := by rw [sProg, if_pos (by omega)]
  simp only [obind, e1, e2, e3] at h1
  have h2 := e4.symm.trans h1
  injection h2 with h2
  exact ⟨_, _, h2.symm⟩
theorem body_err {X : List Tok} {f0 : Nat} {l x : Int} (he : eLev (hd7 ++ X) f0 0 7 1 = some (.err l x)) {F : Nat} {r : Res Pr} (hr : sProg (hd7 ++ X) F pr0 0 0 = some r) : r = .err l x := by
  have h1 := prog_le (hd7 ++ X) F (F + f0 + 4) pr0 0 0 (by omega) _ hr
  rw [body_eq, (ex_le (hd7 ++ X) f0 (F + f0) (by omega)).1 0 7 1 _ he] at h1
  injection h1 with h1
  exact h1.symm
section
variable {T : List Tok}
/-- An operand that no operator follows is an expression of any level. -/
theorem lev_of_unary {f j op i o : Nat} {e : Ex} (h : eUnary T f j op = some (.ok e i o)) (hn : ∀ k, isTok T i (lvOps k) = false) : ∀ (n k : Nat), k + n = 6 → eLev T (f + 1 + n) k j op = some (.ok e i o)
  | 0, k, hk => by
    rw [Nat.add_zero, eLev, if_pos (by omega)]
    exact h
  | n + 1, k, hk => by
    rw [show f + 1 + (n + 1) = (f + 1 + n) + 1 by omega, eLev, if_neg (by omega), lev_of_unary h hn n (k + 1) (by omega)]
    show eLoop T (f + 1 + n) k e i o = _
    rw [show f + 1 + n = (f + n) + 1 by omega, eLoop, if_neg (by rw [hn]; decide)]
theorem lev_of_unary_err {f j op : Nat} {l x : Int} (h : eUnary T f j op = some (.err l x)) : ∀ (n k : Nat), k + n = 6 → eLev T (f + 1 + n) k j op = some (.err l x)
  | 0, k, hk => by
    rw [Nat.add_zero, eLev, if_pos (by omega)]
    exact h
  | n + 1, k, hk => by
    rw [show f + 1 + (n + 1) = (f + 1 + n) + 1 by omega, eLev, if_neg (by omega), lev_of_unary_err h n (k + 1) (by omega)]
    rfl
/-- What is known of the sign at j. -/
structure SignAt (T : List Tok) (j : Nat) (x : List UInt8) : Prop where
  tok : ∀ xs, isTok T j xs = xs.contains x
theorem SignAt.of {j : Nat} {t : Tok} {x : List UInt8} (h : T[j]? = some t) (hk : t.kind = 4) (hx : t.text = x) : SignAt T j x := ⟨fun xs => by
  unfold isTok
  rw [h]
  simp only [hk, hx]
  simp⟩
theorem unary_paren {f j op i : Nat} {e : Ex} (h1 : SignAt T j [40]) (h2 : eLev T f 0 (j + 1) (op + 1) = some (.ok e i (op + 1))) (h3 : SignAt T i [41]) (ho : op < 100) : eUnary T (f + 2) j op = some (.ok e (i + 1) op) := by
  rw [eUnary, if_neg (by rw [h1.tok]; decide), if_neg (by rw [h1.tok]; decide), ePrim, if_pos (by rw [h1.tok]; decide)]
  have e1 : sBegin T [40] j op = .ok () (j + 1) (op + 1) := by
    unfold sBegin
    rw [if_pos (by rw [h1.tok]; decide), if_neg (by omega)]
  have e2 : sEnd T [41] i (op + 1) = .ok () (i + 1) op := by
    unfold sEnd sNeed
    rw [if_pos (by rw [h3.tok]; decide)]
    rfl
  simp only [obind, e1, h2, e2]
theorem unary_paren_err {f j op : Nat} {l x : Int} (h1 : SignAt T j [40]) (h2 : eLev T f 0 (j + 1) (op + 1) = some (.err l x)) (ho : op < 100) : eUnary T (f + 2) j op = some (.err l x) := by
  rw [eUnary, if_neg (by rw [h1.tok]; decide), if_neg (by rw [h1.tok]; decide), ePrim, if_pos (by rw [h1.tok]; decide)]
  have e1 : sBegin T [40] j op = .ok () (j + 1) (op + 1) := by
    unfold sBegin
    rw [if_pos (by rw [h1.tok]; decide), if_neg (by omega)]
  simp only [obind, e1, h2]
theorem unary_minus {f j op i : Nat} {e : Ex} (h1 : SignAt T j [45]) (h2 : eUnary T f (j + 1) (op + 1) = some (.ok e i (op + 1))) (ho : op < 100) : eUnary T (f + 1) j op = some (.ok (.mk nNeg 0 [] [e]) i op) := by
  rw [eUnary, if_pos (by rw [h1.tok]; decide)]
  have e1 : sBegin T [45] j op = .ok () (j + 1) (op + 1) := by
    unfold sBegin
    rw [if_pos (by rw [h1.tok]; decide), if_neg (by omega)]
  simp only [obind, e1, h2, Nat.add_sub_cancel]
theorem unary_minus_err {f j op : Nat} {l x : Int} (h1 : SignAt T j [45]) (h2 : eUnary T f (j + 1) (op + 1) = some (.err l x)) (ho : op < 100) : eUnary T (f + 1) j op = some (.err l x) := by
  rw [eUnary, if_pos (by rw [h1.tok]; decide)]
  have e1 : sBegin T [45] j op = .ok () (j + 1) (op + 1) := by
    unfold sBegin
    rw [if_pos (by rw [h1.tok]; decide), if_neg (by omega)]
  simp only [obind, e1, h2]
/-- A construct too many. -/
theorem unary_limit {f j op : Nat} (h1 : SignAt T j [40] ∨ SignAt T j [45]) (ho : 100 ≤ op) : eUnary T (f + 2) j op = some (.err (failLine T j) 6) := by
  rcases h1 with h1 | h1
  · rw [eUnary, if_neg (by rw [h1.tok]; decide), if_neg (by rw [h1.tok]; decide), ePrim, if_pos (by rw [h1.tok]; decide)]
    have e1 : sBegin T [40] j op = .err (failLine T j) 6 := by
      unfold sBegin
      rw [if_pos (by rw [h1.tok]; decide), if_pos ho]
    simp only [obind, e1]
  · rw [eUnary, if_pos (by rw [h1.tok]; decide)]
    have e1 : sBegin T [45] j op = .err (failLine T j) 6 := by
      unfold sBegin
      rw [if_pos (by rw [h1.tok]; decide), if_pos ho]
    simp only [obind, e1]
theorem sign_noop {j : Nat} {x : List UInt8} (h : SignAt T j x) (hx : x = [41] ∨ x = [59]) (k : Nat) : isTok T j (lvOps k) = false := by
  rw [h.tok]
  rcases hx with rfl | rfl
  · exact (lv_no k).2
  · exact (lv_no k).1
/-- Parentheses around an expression. -/
theorem parens {f z m : Nat} {e : Ex} : ∀ (k j op : Nat), eLev T f 0 (j + k) (op + k) = some (.ok e m (op + k)) → (∀ n, n < k → SignAt T (j + n) [40]) → (∀ n, n < k → SignAt T (m + n) [41]) → (∀ x, isTok T (m + k) (lvOps x) = false) → op + k ≤ 100 →
    eLev T (f + 9 * k) 0 j op = some (.ok e (m + k) op)
  | 0, j, op, h, _, _, _, _ => h
  | k + 1, j, op, h, h1, h2, h3, ho => by
    have ih := parens (z := z) k (j + 1) (op + 1) (by rw [show j + 1 + k = j + (k + 1) by omega, show op + 1 + k = op + (k + 1) by omega]; exact h) (fun n hn => by rw [show j + 1 + n = j + (n + 1) by omega]; exact h1 (n + 1) (by omega)) (fun n hn => h2 n (by omega))
      (fun x => sign_noop (h2 k (by omega)) (.inl rfl) x) (by omega)
    have := lev_of_unary (unary_paren (h1 0 (by omega)) ih (h2 k (by omega)) (by omega)) h3 6 0 rfl
    rw [show f + 9 * (k + 1) = f + 9 * k + 2 + 1 + 6 by omega, show m + (k + 1) = m + k + 1 by omega]
    exact this
end
end Go.Stele
/- The lexer and the parser in plain Lean: parentheses around an expression that stands alone in a body. -/
set_option maxRecDepth 100000
namespace Go.Stele
/-- A character that ends whatever stands ahead of it. -/
structure Del (d : UInt8) : Prop where
  digit : isDigit d = false
  inner : isInner d = false
  next : (isLetter d || decide (cv d = 95)) = false
  white : isWhite d = false
  slash : d ≠ 47
  signs : ∀ x ∈ signs, d ∉ x.tail
theorem del59 : Del 59 := ⟨by decide, by decide, by decide, by decide, by decide, by decide⟩
theorem del41 : Del 41 := ⟨by decide, by decide, by decide, by decide, by decide, by decide⟩
theorem tw_del {p : UInt8 → Bool} {d : UInt8} (hp : p d = false) (b : List UInt8) : ∀ s : List UInt8, (s ++ d :: b).takeWhile p = s.takeWhile p
  | [] => by rw [List.nil_append, List.takeWhile_cons_of_neg (by simp [hp])]; rfl
  | c :: s => by
    rw [List.cons_append]
    by_cases h : p c = true
    · rw [List.takeWhile_cons_of_pos h, List.takeWhile_cons_of_pos h, tw_del hp b s]
    · rw [List.takeWhile_cons_of_neg h, List.takeWhile_cons_of_neg h]
theorem pre_del {d : UInt8} (b : List UInt8) : ∀ (x s : List UInt8), d ∉ x → x.isPrefixOf (s ++ d :: b) = x.isPrefixOf s
  | [], s, _ => by simp
  | c :: x, [], h => by
    have : ¬ c = d := fun hc => h (by rw [hc]; exact List.mem_cons_self ..)
    simp [List.isPrefixOf, this]
  | c :: x, e :: s, h => by
    have := pre_del b x s fun hx => h (List.mem_cons_of_mem _ hx)
    simp only [List.cons_append, List.isPrefixOf, this]
theorem pre_del' {d : UInt8} (b : List UInt8) (c : UInt8) (s : List UInt8) : ∀ x : List UInt8, d ∉ x.tail → x.isPrefixOf (c :: s ++ d :: b) = x.isPrefixOf (c :: s)
  | [], _ => by simp
  | a :: x, h => by
    have := pre_del b x s h
    simp only [List.cons_append, List.isPrefixOf, this]
theorem find_del {d : UInt8} (b : List UInt8) (c : UInt8) (s : List UInt8) : ∀ L : List (List UInt8), (∀ x ∈ L, d ∉ x.tail) → L.find? (fun x => x.isPrefixOf (c :: s ++ d :: b)) = L.find? (fun x => x.isPrefixOf (c :: s))
  | [], _ => rfl
  | x :: L, h => by
    rw [List.find?_cons, List.find?_cons, pre_del' b c s x (h x (List.mem_cons_self ..)), find_del b c s L fun y hy => h y (List.mem_cons_of_mem _ hy)]
theorem wordNext_del {d : UInt8} (hd : Del d) (b s : List UInt8) {n : Nat} (hn : n ≤ s.length) : wordNext (s ++ d :: b) n = wordNext s n := by
  unfold wordNext
  rcases Nat.lt_or_ge n s.length with h | h
  · rw [List.getElem?_append_left h]
  · have : n = s.length := by omega
    subst this
    rw [List.getElem?_append_right (Nat.le_refl _), List.getElem?_eq_none (Nat.le_refl _)]
    rw [Nat.sub_self, List.getElem?_cons_zero]
    exact hd.next
theorem lexToken_del {d : UInt8} (hd : Del d) (b : List UInt8) (c : UInt8) (r : List UInt8) (h : c = 39 → 2 ≤ r.length) : lexToken (c :: r ++ d :: b) = lexToken (c :: r) := by
  simp only [List.cons_append, lexToken]
  by_cases hc : isDigit c = true
  · rw [if_pos hc, if_pos hc]
    unfold lexNumber
    have e1 : (c :: (r ++ d :: b)).takeWhile isDigit = (c :: r).takeWhile isDigit := tw_del hd.digit b (c :: r)
    have e2 := wordNext_del hd b (c :: r) (takeWhile_le isDigit (c :: r))
    rw [List.cons_append] at e2
    rw [e1, e2]
  rw [if_neg hc, if_neg hc]
  by_cases hl : isLetter c = true
  · rw [if_pos hl, if_pos hl]
    unfold lexName
    have e1 : (c :: (r ++ d :: b)).takeWhile isInner = (c :: r).takeWhile isInner := tw_del hd.inner b (c :: r)
    rw [e1]
  rw [if_neg hl, if_neg hl]
  by_cases hq : decide (cv c = 39) = true
  · rw [if_pos hq, if_pos hq]
    have h39 : c = 39 := by
      rw [decide_eq_true_eq] at hq
      apply UInt8.toNat_inj.1
      have : (c.toNat : Int) = 39 := hq
      show c.toNat = 39
      omega
    match r, h h39 with
    | x :: y :: r, _ => rfl
    | [x], h => simp at h
    | [], h => simp at h
  · rw [if_neg hq, if_neg hq]
    unfold lexSign
    have e1 := find_del b c r signs hd.signs
    rw [List.cons_append] at e1
    rw [e1]
theorem skip_del {d : UInt8} (hd : Del d) (b : List UInt8) {c : UInt8} (r : List UInt8) (hw : isWhite c = false) (hsl : ([47, 47] : List UInt8).isPrefixOf (c :: r) = false) : skipLen (c :: r ++ d :: b) = 0 ∧ skipLen (c :: r) = 0 := by
  have e1 := pre_del' (d := d) b c r [47, 47] (by simp only [List.tail_cons, List.mem_singleton]; exact hd.slash)
  unfold skipLen
  rw [e1, hsl, if_neg (by decide), if_neg (by decide), List.cons_append, List.takeWhile_cons_of_neg (by rw [hw]; decide), List.takeWhile_cons_of_neg (by rw [hw]; decide)]
  exact ⟨rfl, rfl⟩
theorem tw_sub {p : UInt8 → Bool} {s : List UInt8} : ∀ c ∈ s.takeWhile p, c ∈ s := fun c hc => (List.takeWhile_prefix p).subset hc
theorem lexToken_mem (s : List UInt8) (h : (lexToken s).2.2 = 0) : (lexToken s).1.kind = 1 ∨ ∀ c ∈ (lexToken s).1.text, c ∈ s := by
  match s with
  | [] => simp [lexToken, tokErr] at h
  | c :: r =>
    simp only [lexToken] at h ⊢
    split at h <;> rename_i hc
    · rw [if_pos hc]
      unfold lexNumber at h ⊢
      split at h
      · simp [tokErr] at h
      · rename_i hw
        rw [if_neg hw]
        split at h
        · exact .inl rfl
        · simp [tokErr] at h
    · rw [if_neg hc]
      split at h <;> rename_i hl
      · rw [if_pos hl]
        unfold lexName at h ⊢
        split at h
        · simp [tokErr] at h
        · rename_i hw
          rw [if_neg hw]
          exact .inr tw_sub
      · rw [if_neg hl]
        split at h <;> rename_i hq
        · rw [if_pos hq]
          unfold lexLiteral at h ⊢
          split at h
          · split at h
            · simp [tokErr] at h
            · rename_i hx
              rename_i heq
              rename_i b _ _
              rw [if_neg hx]
              exact .inl rfl
          · simp [tokErr] at h
        · rw [if_neg hq]
          unfold lexSign at h ⊢
          split at h
          · rename_i x hx
            have h1 := List.find?_some hx
            exact .inr fun d hd => (List.isPrefixOf_iff_prefix.1 h1).subset hd
          · simp [tokErr] at h
def endB : List UInt8 := [59, 32, 125]
/-- A text that is read ahead of the body's end is read ahead of ')' as well. -/
theorem lex_del : ∀ (n : Nat) (s : List UInt8) (l : Int) (T : List Tok), s.length ≤ n → (∀ j, ([47, 47] : List UInt8).isPrefixOf (s.drop j) = false) → lexAt (s ++ endB) l = .ok T →
    ∃ (S R : List Tok) (l' : Int), T = S ++ R ∧ lexAt endB l' = .ok R ∧ S.length ≤ s.length ∧ (∀ t ∈ S, t.kind = 1 ∨ ∀ c ∈ t.text, c ∈ s) ∧ ∀ b l2, ∃ S2 l3, S2.map kt = S.map kt ∧ lexAt (s ++ 41 :: b) l2 = (lexAt (41 :: b) l3).map (S2 ++ ·)
  | n, [], l, T, _, _, h => ⟨[], T, l, rfl, h, Nat.le_refl _, by simp, fun b l2 => ⟨[], l2, rfl, by rw [List.nil_append]; cases lexAt (41 :: b) l2 <;> rfl⟩⟩
  | 0, c :: r, _, _, hn, _, _ => by simp at hn
  | n + 1, c :: r, l, T, hn, hsl, h => by
    by_cases hw : isWhite c = true
    · rw [List.cons_append, lexAt_white hw] at h
      obtain ⟨S, R, l', h1, h2, h3, h4, h5⟩ := lex_del n r _ T (by simpa using hn) (fun j => hsl (j + 1)) h
      refine ⟨S, R, l', h1, h2, by rw [List.length_cons]; omega, fun t ht => (h4 t ht).imp id fun h c hc => List.mem_cons_of_mem _ (h c hc), fun b l2 => ?_⟩
      rw [List.cons_append, lexAt_white hw]
      exact h5 b _
    have hw' : isWhite c = false := by simpa using hw
    have hk1 : skipLen (c :: r ++ endB) = 0 ∧ skipLen (c :: r) = 0 := skip_del del59 [32, 125] r hw' (hsl 0)
    have hs := hsl 0
    rw [← lexAt_eq (f := (r ++ endB).length + 1) (by simp), lexP, if_neg (by simp), if_pos hk1.1] at h
    by_cases h39 : c = 39 → 2 ≤ r.length
    · have ht := lexToken_del del59 [32, 125] c r h39
      change lexToken (c :: r ++ endB) = _ at ht
      rw [ht] at h
      by_cases he : (lexToken (c :: r)).2.2 ≠ 0
      · rw [if_pos he] at h
        cases h
      have he' : (lexToken (c :: r)).2.2 = 0 := by simpa using he
      rw [if_neg he] at h
      obtain ⟨k1, k2⟩ := lexToken_size _ he'
      obtain ⟨T2, h1, rfl⟩ := map_ok h
      rw [List.drop_append_of_le_length k2, lexAt_eq (by simp only [List.length_append, List.length_drop, List.length_cons] at k2 ⊢; omega)] at h1
      obtain ⟨S, R, l', g1, g2, g3, g4, g5⟩ := lex_del n ((c :: r).drop (lexToken (c :: r)).2.1) _ T2 (by rw [List.length_drop]; omega) (fun j => by rw [List.drop_drop]; exact hsl _) h1
      refine ⟨_ :: S, R, l', by rw [g1]; rfl, g2, by rw [List.length_drop] at g3; rw [List.length_cons]; omega, fun t ht => ?_, fun b l2 => ?_⟩
      · rcases List.mem_cons.1 ht with rfl | ht
        · exact lexToken_mem _ he'
        · exact (g4 t ht).imp id fun h c hc => List.mem_of_mem_drop (h c hc)
      · obtain ⟨S2, l3, m1, m2⟩ := g5 b (l2 + (((c :: r ++ 41 :: b).take (lexToken (c :: r)).2.1).count 10 : Nat))
        refine ⟨{ (lexToken (c :: r)).1 with line := l2 } :: S2, l3, by rw [List.map_cons, List.map_cons, m1]; rfl, ?_⟩
        have hk2 := skip_del del41 b r hw' (hsl 0)
        rw [← lexAt_eq (f := (r ++ 41 :: b).length + 1) (by simp), lexP, if_neg (by simp), if_pos hk2.1, lexToken_del del41 b c r h39, if_neg he, List.drop_append_of_le_length k2,
          lexAt_eq (by simp only [List.length_append, List.length_drop, List.length_cons] at k2 ⊢; omega), m2]
        cases lexAt (41 :: b) l3 <;> rfl
    · have hc : c = 39 ∧ r.length < 2 := by
        by_cases hc : c = 39
        · exact ⟨hc, by have : ¬ 2 ≤ r.length := fun h => h39 fun _ => h; omega⟩
        · exact absurd (fun h => absurd h hc) h39
      obtain ⟨rfl, hr⟩ := hc
      match r, hr with
      | [], _ =>
        have : (lexToken (39 :: [] ++ endB)).2.2 = 3 := by rfl
        rw [if_pos (by rw [this]; decide)] at h
        cases h
      | [x], _ =>
        have : (lexToken (39 :: [x] ++ endB)).2.2 = 3 := by rfl
        rw [if_pos (by rw [this]; decide)] at h
        cases h
      | _ :: _ :: _, hr => simp at hr; omega
theorem lexAt_sign (x : UInt8) (hx : x = 40 ∨ x = 41) (Y : List UInt8) (l : Int) : lexAt (x :: Y) l = (lexAt Y l).map (⟨4, [x], l⟩ :: ·) := by
  have h1 : skipLen (x :: Y) = 0 := by rcases hx with rfl | rfl <;> exact skip_head (by decide) (by decide)
  have h2 : lexToken (x :: Y) = (⟨4, [x], 0⟩, 1, 0) := by rcases hx with rfl | rfl <;> rfl
  have h3 : ([x] : List UInt8).count 10 = 0 := by rcases hx with rfl | rfl <;> decide
  rw [← lexAt_eq (f := Y.length + 1) (by simp), lexP, if_neg (by simp), if_pos h1, h2, if_neg (by simp)]
  simp only [List.drop_succ_cons, List.drop_zero, List.take_succ_cons, List.take_zero, h3]
  rw [lexAt_eq (Nat.le_refl _)]
  simp
theorem lexAt_signs (x : UInt8) (hx : x = 40 ∨ x = 41) (Y : List UInt8) (l : Int) : ∀ k : Nat, lexAt (List.replicate k x ++ Y) l = (lexAt Y l).map (List.replicate k ⟨4, [x], l⟩ ++ ·)
  | 0 => by simp; cases lexAt Y l <;> rfl
  | k + 1 => by
    rw [List.replicate_succ, List.cons_append, lexAt_sign x hx, lexAt_signs x hx Y l k, List.replicate_succ]
    cases lexAt Y l <;> rfl
theorem lexAt_endB (l : Int) : lexAt endB l = .ok [⟨4, [59], l⟩, ⟨4, [125], l⟩] := by
  have h1 : lexAt [125] l = .ok [⟨4, [125], l⟩] := by
    rw [← lexAt_eq (f := 1) (by simp), lexP, if_neg (by simp), if_pos (by decide)]
    rfl
  have h2 : lexToken endB = (⟨4, [59], 0⟩, 1, 0) := by rfl
  have h3 : lexAt [32, 125] l = .ok [⟨4, [125], l⟩] := by
    rw [lexAt_white (by decide)]
    rw [show (([32] : List UInt8).count 10 : Nat) = 0 by decide]
    simpa using h1
  rw [← lexAt_eq (f := 3) (by decide), lexP, if_neg (by decide), if_pos (by decide), h2, if_neg (by decide)]
  simp only [endB, List.drop_succ_cons, List.drop_zero, List.take_succ_cons, List.take_zero]
  rw [lexAt_eq (by decide), show (([59] : List UInt8).count 10 : Nat) = 0 by decide]
  simp only [Int.natCast_zero, Int.add_zero]
  rw [h3]
  rfl
def preB : List UInt8 := [102, 117, 110, 99, 32, 109, 97, 105, 110, 40, 41, 32, 123, 32, 120, 32, 61, 32]
theorem lex_preB (X : List UInt8) : lexAt (preB ++ X) 1 = (lexAt X 1).map (hd7 ++ ·) := by
  have h1 : ∀ F, lexP (F + 11) (preB ++ X) 1 = ((((((((lexP F (32 :: X) 1).map (⟨4, [61], 1⟩ :: ·)).map (⟨2, [120], 1⟩ :: ·)).map (⟨4, [123], 1⟩ :: ·)).map (⟨4, [41], 1⟩ :: ·)).map (⟨4, [40], 1⟩ :: ·)).map (⟨2, nMain, 1⟩ :: ·)).map (⟨3, kwFunc, 1⟩ :: ·)) := fun F => by kernel_rfl
  rw [← lexAt_eq (f := X.length + 9 + 11) (by simp [preB]), h1, lexAt_eq (by simp), lexAt_white (by decide)]
  rw [show (([32] : List UInt8).count 10 : Nat) = 0 by decide]
  simp only [Int.natCast_zero, Int.add_zero]
  cases lexAt X 1 <;> rfl
def bodyB (s : List UInt8) : List UInt8 := preB ++ s ++ endB
theorem get_app {A B : List Tok} {j : Nat} (h : A.length ≤ j) : (A ++ B)[j]? = B[j - A.length]? := List.getElem?_append_right h
theorem paren_plain {s : List UInt8} {T : List Tok} {p : Pr} {i op k : Nat} (hs : s.length ≤ 60) (hk : k ≤ 30) (hk0 : 0 < k) (h59 : (59 : UInt8) ∉ s) (hsl : ∀ j, ([47, 47] : List UInt8).isPrefixOf (s.drop j) = false)
    (hT : lexAt (bodyB s) 1 = .ok T) (hp : sProg T (10 * T.length + 20) pr0 0 0 = some (.ok p i op)) :
    ∃ T' i' op', lexAt (bodyB (List.replicate k 40 ++ s ++ List.replicate k 41)) 1 = .ok T' ∧ sProg T' (10 * T'.length + 20) pr0 0 0 = some (.ok p i' op') := by
  rw [bodyB, List.append_assoc, lex_preB] at hT
  obtain ⟨T0, hT0, rfl⟩ := map_ok hT
  obtain ⟨S, R, l', rfl, hR, hSl, hSm, hcl⟩ := lex_del _ s 1 T0 (Nat.le_refl _) hsl hT0
  rw [lexAt_endB] at hR
  cases hR
  obtain ⟨k', rfl⟩ : ∃ k', k = k' + 1 := ⟨k - 1, by omega⟩
  obtain ⟨S2, l3, hS2, hlex⟩ := hcl (List.replicate k' 41 ++ endB) 1
  have hS2l : S2.length = S.length := by simpa using congrArg List.length hS2
  have hL : lexAt (bodyB (List.replicate (k' + 1) 40 ++ s ++ List.replicate (k' + 1) 41)) 1 = .ok (hd7 ++ (List.replicate (k' + 1) ⟨4, [40], 1⟩ ++ (S2 ++ (List.replicate (k' + 1) ⟨4, [41], l3⟩ ++ [⟨4, [59], l3⟩, ⟨4, [125], l3⟩])))) := by
    rw [bodyB, List.append_assoc, lex_preB, List.append_assoc, List.append_assoc, lexAt_signs 40 (.inl rfl), List.replicate_succ (a := (41 : UInt8)), List.cons_append, hlex, ← List.cons_append, ← List.replicate_succ (a := (41 : UInt8)), lexAt_signs 41 (.inr rfl), lexAt_endB]
    rfl
  obtain ⟨f, e, m, he, hm⟩ := body_bwd hp
  have h7 := ((ex_good _ f).1 0 7 1 _ he).2.1 rfl
  have hmlt := isTok_lt hm
  have h7l : hd7.length = 7 := rfl
  have hm' : m = 7 + S.length := by
    simp only [List.length_append, h7l, List.length_cons, List.length_nil] at hmlt
    rcases Nat.lt_or_ge m (7 + S.length) with h | h
    · exfalso
      have hg : (hd7 ++ (S ++ [⟨4, [59], l'⟩, ⟨4, [125], l'⟩]))[m]? = some S[m - 7] := by
        rw [get_app (by rw [h7l]; omega), h7l, List.getElem?_append_left (by omega)]
        simp
      unfold isTok at hm
      rw [hg] at hm
      simp only [Bool.and_eq_true, Bool.or_eq_true, decide_eq_true_eq, List.contains_cons, List.contains_nil, Bool.or_false, beq_iff_eq] at hm
      rcases hSm _ (List.getElem_mem (by omega : m - 7 < S.length)) with h1 | h1
      · rw [h1] at hm
        exact absurd hm.1 (by decide)
      · exact h59 (h1 59 (by rw [hm.2]; exact List.mem_cons_self ..))
    · rcases Nat.lt_or_ge (7 + S.length) m with h2 | h2
      · exfalso
        obtain rfl : m = 7 + S.length + 1 := by omega
        have hg : (hd7 ++ (S ++ [⟨4, [59], l'⟩, ⟨4, [125], l'⟩]))[7 + S.length + 1]? = some ⟨4, [125], l'⟩ := by
          rw [get_app (by rw [h7l]; omega), h7l, get_app (by omega), show 7 + S.length + 1 - 7 - S.length = 1 by omega]
          rfl
        unfold isTok at hm
        rw [hg] at hm
        simp at hm
      · omega
  subst hm'
  have g59 : (hd7 ++ (S ++ [⟨4, [59], l'⟩, ⟨4, [125], l'⟩]))[7 + S.length]? = some ⟨4, [59], l'⟩ := by
    rw [get_app (by rw [h7l]; omega), h7l, get_app (by omega), show 7 + S.length - 7 - S.length = 0 by omega]
    rfl
  have g125 : (hd7 ++ (S ++ [⟨4, [59], l'⟩, ⟨4, [125], l'⟩]))[7 + S.length + 1]? = some ⟨4, [125], l'⟩ := by
    rw [get_app (by rw [h7l]; omega), h7l, get_app (by omega), show 7 + S.length + 1 - 7 - S.length = 1 by omega]
    rfl
  have s59 : SignAt _ _ [59] := SignAt.of g59 rfl rfl
  have s125 : SignAt _ _ [125] := SignAt.of g125 rfl rfl
  obtain ⟨i0, o0, hpe⟩ := body_fwd he hm (by rw [s125.tok]; decide) (by simp [h7l]; omega) hp
  cases hpe
  generalize hk' : k' + 1 = k at hL hk hk0
  generalize hTT : (hd7 ++ (List.replicate k ⟨4, [40], 1⟩ ++ (S2 ++ (List.replicate k ⟨4, [41], l3⟩ ++ [⟨4, [59], l3⟩, ⟨4, [125], l3⟩]))) : List Tok) = TT at hL
  have hTl : TT.length = 9 + S.length + 2 * k := by
    rw [← hTT]
    simp only [List.length_append, h7l, List.length_cons, List.length_nil, List.length_replicate]
    omega
  have G1 : ∀ n, n < k → TT[7 + n]? = some ⟨4, [40], 1⟩ := fun n hn => by
    rw [← hTT, get_app (by rw [h7l]; omega), h7l, Nat.add_sub_cancel_left, List.getElem?_append_left (by simpa using hn)]
    simp [hn]
  have G2 : ∀ n, n < S.length → TT[7 + k + n]? = S2[n]? := fun n hn => by
    rw [← hTT, get_app (by rw [h7l]; omega), h7l, get_app (by rw [List.length_replicate]; omega), List.length_replicate, show 7 + k + n - 7 - k = n by omega, List.getElem?_append_left (by omega)]
  have G3 : ∀ n, n < k → TT[7 + S.length + k + n]? = some ⟨4, [41], l3⟩ := fun n hn => by
    rw [← hTT, get_app (by rw [h7l]; omega), h7l, get_app (by rw [List.length_replicate]; omega), List.length_replicate, get_app (by omega), show 7 + S.length + k + n - 7 - k - S2.length = n by omega, List.getElem?_append_left (by simpa using hn)]
    simp [hn]
  have G4 : TT[7 + S.length + k + k]? = some ⟨4, [59], l3⟩ := by
    rw [← hTT, get_app (by rw [h7l]; omega), h7l, get_app (by rw [List.length_replicate]; omega), List.length_replicate, get_app (by omega), show 7 + S.length + k + k - 7 - k - S2.length = k by omega, get_app (by rw [List.length_replicate]; omega), List.length_replicate, Nat.sub_self]
    rfl
  have G5 : TT[7 + S.length + k + k + 1]? = some ⟨4, [125], l3⟩ := by
    rw [← hTT, get_app (by rw [h7l]; omega), h7l, get_app (by rw [List.length_replicate]; omega), List.length_replicate, get_app (by omega), show 7 + S.length + k + k + 1 - 7 - k - S2.length = k + 1 by omega, get_app (by rw [List.length_replicate]; omega), List.length_replicate, show k + 1 - k = 1 by omega]
    rfl
  have c41 : SignAt TT (7 + S.length + k + 0) [41] := SignAt.of (G3 0 hk0) rfl rfl
  rw [Nat.add_zero] at c41
  have c59 : SignAt TT (7 + S.length + k + k) [59] := SignAt.of G4 rfl rfl
  have c125 : SignAt TT (7 + S.length + k + k + 1) [125] := SignAt.of G5 rfl rfl
  have hB : Brk (hd7 ++ (S ++ [⟨4, [59], l'⟩, ⟨4, [125], l'⟩])) TT k 7 (7 + S.length) := by
    refine ⟨fun j hj1 hj2 => ?_, ?_, fun xs h1 h2 => ?_, ?_⟩
    · obtain ⟨n, rfl⟩ : ∃ n, j = 7 + n := ⟨j - 7, by omega⟩
      have hn : n < S.length := by omega
      have hn2 : n < S2.length := by omega
      refine ⟨S[n], S2[n], ?_, ?_, ?_⟩
      · rw [get_app (by rw [h7l]; omega), h7l, Nat.add_sub_cancel_left, List.getElem?_append_left hn]
        simp [hn]
      · rw [show 7 + n + k = 7 + k + n by omega, G2 n hn]
        simp [hn2]
      · have h1 : (S2.map kt)[n]? = (S.map kt)[n]? := by rw [hS2]
        simp only [List.getElem?_map, List.getElem?_eq_getElem hn, List.getElem?_eq_getElem hn2, Option.map_some, Option.some.injEq, kt, Prod.mk.injEq] at h1
        exact h1
    · have := G3 0 hk0
      rw [Nat.add_zero] at this
      unfold kindAt
      rw [this, g59]
    · rw [c41.tok, s59.tok, h1, h2]
    · rw [s59.tok]
      decide
  have hE := ((ex_par (c := k) hB f f (Nat.le_refl _)).1 0 7 1 _ _ _ he).2 (Nat.le_refl _) (Nat.le_refl _) (by omega)
  have hP := parens (T := TT) (z := 0) k 7 1 (by rw [show 1 + k = 1 + k from rfl]; exact hE.2) (fun n hn => SignAt.of (G1 n hn) rfl rfl) (fun n hn => SignAt.of (G3 n hn) rfl rfl) (fun x => sign_noop c59 (.inr rfl) x) (by omega)
  obtain ⟨r, hr⟩ := sProg_ends TT (10 * TT.length + 20) pr0 0 0 (Nat.zero_le _) (by omega)
  have hfin : ∃ i op, r = .ok (asPr e) i op := by
    subst hTT
    exact body_fwd hP (by rw [c59.tok]; decide) (by rw [c125.tok]; decide) (by rw [hTl]; omega) hr
  obtain ⟨i', op', rfl⟩ := hfin
  exact ⟨TT, i', op', hL, hr⟩
end Go.Stele
/- The parser in plain Lean: constructs within constructs. -/
set_option maxRecDepth 100000
namespace Go.Stele
/-- The signs ahead of the variable: '-' for true, '(' for false. -/
def depHead (bs : List Bool) : List UInt8 := bs.map fun b => if b then 45 else 40
def depTail (bs : List Bool) : List UInt8 := List.replicate (bs.count false) 41
def depSrc (bs : List Bool) : List UInt8 := depHead bs ++ 121 :: depTail bs
def depTok (b : Bool) : Tok := ⟨4, [if b then 45 else 40], 1⟩
def depEx : List Bool → Ex
  | [] => .mk nVar 0 [121] []
  | true :: r => .mk nNeg 0 [] [depEx r]
  | false :: r => depEx r
theorem lexAt_minus (Y : List UInt8) (l : Int) : lexAt (45 :: Y) l = (lexAt Y l).map (⟨4, [45], l⟩ :: ·) := by
  have h1 : skipLen (45 :: Y) = 0 := skip_head (by decide) (by decide)
  have h2 : lexToken (45 :: Y) = (⟨4, [45], 0⟩, 1, 0) := by rfl
  have h3 : ([45] : List UInt8).count 10 = 0 := by decide
  rw [← lexAt_eq (f := Y.length + 1) (by simp), lexP, if_neg (by simp), if_pos h1, h2, if_neg (by decide)]
  simp only [List.drop_succ_cons, List.drop_zero, List.take_succ_cons, List.take_zero, h3]
  rw [lexAt_eq (Nat.le_refl _)]
  simp
theorem lexAt_head (Y : List UInt8) : ∀ bs : List Bool, lexAt (depHead bs ++ Y) 1 = (lexAt Y 1).map (bs.map depTok ++ ·)
  | [] => by show lexAt Y 1 = _; cases lexAt Y 1 <;> rfl
  | true :: bs => by
    show lexAt (45 :: (depHead bs ++ Y)) 1 = _
    rw [lexAt_minus, lexAt_head Y bs]
    cases lexAt Y 1 <;> rfl
  | false :: bs => by
    show lexAt (40 :: (depHead bs ++ Y)) 1 = _
    rw [lexAt_sign 40 (.inl rfl), lexAt_head Y bs]
    cases lexAt Y 1 <;> rfl
theorem lexAt_y {d : UInt8} (hd : Del d) (b : List UInt8) : lexAt (121 :: d :: b) 1 = (lexAt (d :: b) 1).map (⟨2, [121], 1⟩ :: ·) := by
  have h1 : skipLen (121 :: d :: b) = 0 := skip_head (by decide) (by decide)
  have h2 : lexToken (121 :: d :: b) = (⟨2, [121], 0⟩, 1, 0) := (lexToken_del hd b 121 [] (fun h => absurd h (by decide))).trans (by decide +kernel)
  have h3 : ([121] : List UInt8).count 10 = 0 := by decide
  rw [← lexAt_eq (f := (d :: b).length + 1) (by simp), lexP, if_neg (by simp), if_pos h1, h2, if_neg (by decide)]
  simp only [List.drop_succ_cons, List.drop_zero, List.take_succ_cons, List.take_zero, h3]
  rw [lexAt_eq (Nat.le_refl _)]
  simp
def depToks (bs : List Bool) : List Tok := hd7 ++ (bs.map depTok ++ ⟨2, [121], 1⟩ :: (List.replicate (bs.count false) ⟨4, [41], 1⟩ ++ [⟨4, [59], 1⟩, ⟨4, [125], 1⟩]))
theorem dep_lex (bs : List Bool) : lexAt (bodyB (depSrc bs)) 1 = .ok (depToks bs) := by
  have h : lexAt (121 :: (depTail bs ++ endB)) 1 = .ok (⟨2, [121], 1⟩ :: (List.replicate (bs.count false) ⟨4, [41], 1⟩ ++ [⟨4, [59], 1⟩, ⟨4, [125], 1⟩])) := by
    unfold depTail
    cases hc : bs.count false with
    | zero =>
      show lexAt (121 :: 59 :: [32, 125]) 1 = _
      rw [lexAt_y del59]
      show (lexAt endB 1).map _ = _
      rw [lexAt_endB]
      rfl
    | succ k =>
      show lexAt (121 :: 41 :: (List.replicate k 41 ++ endB)) 1 = _
      rw [lexAt_y del41, ← List.cons_append, ← List.replicate_succ, lexAt_signs 41 (.inr rfl), lexAt_endB]
      rfl
  rw [bodyB, depSrc, List.append_assoc, List.append_assoc, lex_preB, lexAt_head, List.cons_append, h]
  rfl
section
variable {bs : List Bool}
theorem dep_h7 : hd7.length = 7 := rfl
theorem dep_head {j : Nat} (h : j < bs.length) : (depToks bs)[7 + j]? = some (depTok bs[j]) := by
  unfold depToks
  rw [get_app (by rw [dep_h7]; omega), dep_h7, Nat.add_sub_cancel_left, List.getElem?_append_left (by simpa using h)]
  simp [h]
theorem dep_y : (depToks bs)[7 + bs.length]? = some ⟨2, [121], 1⟩ := by
  unfold depToks
  rw [get_app (by rw [dep_h7]; omega), dep_h7, Nat.add_sub_cancel_left, get_app (by simp)]
  simp
theorem dep_close {n : Nat} (h : n < bs.count false) : (depToks bs)[8 + bs.length + n]? = some ⟨4, [41], 1⟩ := by
  unfold depToks
  rw [get_app (by rw [dep_h7]; omega), dep_h7, get_app (by simp; omega), List.length_map, show 8 + bs.length + n - 7 - bs.length = n + 1 by omega, List.getElem?_cons_succ, List.getElem?_append_left (by simpa using h)]
  simp [h]
theorem dep_semi : (depToks bs)[8 + bs.length + bs.count false]? = some ⟨4, [59], 1⟩ := by
  unfold depToks
  rw [get_app (by rw [dep_h7]; omega), dep_h7, get_app (by simp; omega), List.length_map, show 8 + bs.length + bs.count false - 7 - bs.length = bs.count false + 1 by omega, List.getElem?_cons_succ, get_app (by simp)]
  simp
theorem dep_brace : (depToks bs)[8 + bs.length + bs.count false + 1]? = some ⟨4, [125], 1⟩ := by
  unfold depToks
  rw [get_app (by rw [dep_h7]; omega), dep_h7, get_app (by simp; omega), List.length_map, show 8 + bs.length + bs.count false + 1 - 7 - bs.length = bs.count false + 1 + 1 by omega, List.getElem?_cons_succ, get_app (by simp)]
  simp
theorem dep_len : (depToks bs).length = 10 + bs.length + bs.count false := by
  unfold depToks
  simp only [List.length_append, dep_h7, List.length_map, List.length_cons, List.length_replicate, List.length_nil]
  omega
theorem dep_sign {j : Nat} (h : j < bs.length) : (bs[j] = true → SignAt (depToks bs) (7 + j) [45]) ∧ (bs[j] = false → SignAt (depToks bs) (7 + j) [40]) := by
  have := dep_head h
  exact ⟨fun hb => SignAt.of this rfl (by rw [hb]; rfl), fun hb => SignAt.of this rfl (by rw [hb]; rfl)⟩
theorem dep_after (n : Nat) (h : n ≤ bs.count false) : SignAt (depToks bs) (8 + bs.length + n) [41] ∨ SignAt (depToks bs) (8 + bs.length + n) [59] := by
  rcases Nat.lt_or_ge n (bs.count false) with h1 | h1
  · exact .inl (SignAt.of (dep_close h1) rfl rfl)
  · obtain rfl : n = bs.count false := by omega
    exact .inr (SignAt.of dep_semi rfl rfl)
theorem dep_noop (n : Nat) (h : n ≤ bs.count false) (k : Nat) : isTok (depToks bs) (8 + bs.length + n) (lvOps k) = false := by
  rcases dep_after n h with h | h
  · exact sign_noop h (.inl rfl) k
  · exact sign_noop h (.inr rfl) k
theorem dep_var (op : Nat) : eUnary (depToks bs) 2 (7 + bs.length) op = some (.ok (.mk nVar 0 [121] []) (8 + bs.length) op) := by
  have hy : ∀ xs, isTok (depToks bs) (7 + bs.length) xs = false := fun xs => by
    unfold isTok
    rw [dep_y]
    rfl
  have hn : ∀ x : List UInt8, x ≠ [41] → x ≠ [59] → isTok (depToks bs) (7 + bs.length + 1) [x] = false := fun x h1 h2 => by
    rw [show 7 + bs.length + 1 = 8 + bs.length + 0 by omega]
    rcases dep_after (bs := bs) 0 (Nat.zero_le _) with h | h <;> rw [h.tok] <;> simp [h1.symm, h2.symm]
  rw [eUnary, if_neg (by rw [hy]; decide), if_neg (by rw [hy]; decide), ePrim, if_neg (by rw [hy]; decide), if_neg (by unfold kindAt; rw [dep_y]; decide)]
  have e1 : sWord (depToks bs) 2 (7 + bs.length) op = .ok [121] (7 + bs.length + 1) op := by
    unfold sWord
    rw [dep_y]
    rfl
  simp only [obind, e1]
  rw [if_neg (by rw [hn _ (by decide) (by decide)]; decide), if_neg (by rw [hn _ (by decide) (by decide)]; decide), show 7 + bs.length + 1 = 8 + bs.length by omega]
theorem count_drop {j : Nat} (h : j < bs.length) : (bs.drop j).count false = (if bs[j] = false then 1 else 0) + (bs.drop (j + 1)).count false := by
  rw [List.drop_eq_getElem_cons h, List.count_cons]
  cases bs[j] <;> simp <;> omega
theorem count_drop_le (j : Nat) : (bs.drop j).count false ≤ bs.count false := (List.drop_sublist j bs).count_le _
theorem dep_ok : ∀ (n j op : Nat), j + n = bs.length → op + n ≤ 100 → eUnary (depToks bs) (9 * n + 2) (7 + j) op = some (.ok (depEx (bs.drop j)) (8 + bs.length + (bs.drop j).count false) op)
  | 0, j, op, h, _ => by
    obtain rfl : j = bs.length := by omega
    rw [List.drop_length]
    exact dep_var op
  | n + 1, j, op, h, ho => by
    have hj : j < bs.length := by omega
    have ih := dep_ok n (j + 1) (op + 1) (by omega) (by omega)
    have hs := dep_sign hj
    have hd := List.drop_eq_getElem_cons hj
    have hc := count_drop hj
    have hle := count_drop_le (bs := bs) (j + 1)
    have hle' := count_drop_le (bs := bs) j
    rw [hd, ← hd, hc, hd]
    cases hb : bs[j] with
    | true =>
      rw [if_neg (by simp), Nat.zero_add]
      have := unary_minus (hs.1 hb) ih (by omega)
      rw [show 9 * (n + 1) + 2 = (9 * n + 2 + 1) + 8 by omega]
      have h2 := (ex_le (depToks bs) (9 * n + 2 + 1) (9 * n + 2 + 1 + 8) (by omega)).2.2.1 (7 + j) op _ this
      exact h2
    | false =>
      rw [if_pos rfl]
      have h1 := lev_of_unary ih (dep_noop _ hle) 6 0 rfl
      have hcl : SignAt (depToks bs) (8 + bs.length + (bs.drop (j + 1)).count false) [41] := SignAt.of (dep_close (by rw [hb, if_pos rfl] at hc; omega)) rfl rfl
      have := unary_paren (hs.2 hb) h1 hcl (by omega)
      rw [show 9 * (n + 1) + 2 = 9 * n + 2 + 1 + 6 + 2 by omega, show 8 + bs.length + (1 + (bs.drop (j + 1)).count false) = 8 + bs.length + (bs.drop (j + 1)).count false + 1 by omega]
      exact this
theorem dep_line {j : Nat} (h : j < bs.length) : failLine (depToks bs) (7 + j) = 1 := by
  unfold failLine
  rw [Nat.min_eq_left (by rw [dep_len]; omega), dep_head h]
  rfl
theorem dep_bad : ∀ (n j op : Nat), j + n + 1 ≤ bs.length → op + n = 100 → eUnary (depToks bs) (9 * n + 2) (7 + j) op = some (.err 1 6)
  | 0, j, op, h, ho => by
    have hs := dep_sign (bs := bs) (j := j) (by omega)
    rw [← dep_line (bs := bs) (j := j) (by omega)]
    refine unary_limit ?_ (by omega)
    cases hb : bs[j] with
    | true => exact .inr (hs.1 hb)
    | false => exact .inl (hs.2 hb)
  | n + 1, j, op, h, ho => by
    have hj : j < bs.length := by omega
    have ih := dep_bad n (j + 1) (op + 1) (by omega) (by omega)
    have hs := dep_sign hj
    cases hb : bs[j] with
    | true =>
      have := unary_minus_err (hs.1 hb) ih (by omega)
      rw [show 9 * (n + 1) + 2 = (9 * n + 2 + 1) + 8 by omega]
      exact (ex_le (depToks bs) (9 * n + 2 + 1) (9 * n + 2 + 1 + 8) (by omega)).2.2.1 (7 + j) op _ this
    | false =>
      have := unary_paren_err (hs.2 hb) (lev_of_unary_err ih 6 0 rfl) (by omega)
      rw [show 9 * (n + 1) + 2 = 9 * n + 2 + 1 + 6 + 2 by omega]
      exact this
/-- 98 constructs within the body. -/
theorem dep98 (h : bs.length = 98) : ∃ i op, sProg (depToks bs) (10 * (depToks bs).length + 20) pr0 0 0 = some (.ok (asPr (depEx bs)) i op) := by
  obtain ⟨r, hr⟩ := sProg_ends (depToks bs) (10 * (depToks bs).length + 20) pr0 0 0 (Nat.zero_le _) (by omega)
  have h1 := dep_ok (bs := bs) 98 0 1 (by omega) (by omega)
  rw [List.drop_zero] at h1
  have h2 := lev_of_unary h1 (dep_noop _ (Nat.le_refl _)) 6 0 rfl
  have c59 := SignAt.of (dep_semi (bs := bs)) rfl rfl
  have c125 := SignAt.of (dep_brace (bs := bs)) rfl rfl
  obtain ⟨i, op, rfl⟩ := body_fwd (X := bs.map depTok ++ ⟨2, [121], 1⟩ :: (List.replicate (bs.count false) ⟨4, [41], 1⟩ ++ [⟨4, [59], 1⟩, ⟨4, [125], 1⟩])) h2 (by have := c59.tok [[59]]; exact this.trans (by decide)) (by have := c125.tok [[125]]; exact this.trans (by decide)) (by have := dep_len (bs := bs); unfold depToks at this; omega) hr
  exact ⟨i, op, hr⟩
/-- 100 constructs. -/
theorem dep100 (h : bs.length = 100) : sProg (depToks bs) (10 * (depToks bs).length + 20) pr0 0 0 = some (.err 1 6) := by
  obtain ⟨r, hr⟩ := sProg_ends (depToks bs) (10 * (depToks bs).length + 20) pr0 0 0 (Nat.zero_le _) (by omega)
  have h2 := lev_of_unary_err (dep_bad (bs := bs) 99 0 1 (by omega) (by omega)) 6 0 rfl
  obtain rfl := body_err (X := bs.map depTok ++ ⟨2, [121], 1⟩ :: (List.replicate (bs.count false) ⟨4, [41], 1⟩ ++ [⟨4, [59], 1⟩, ⟨4, [125], 1⟩])) h2 hr
  exact hr
end
end Go.Stele
set_option maxRecDepth 100000
namespace Go.Stele
open Go.Lib
/-- A character that ends whatever stands ahead of it, white space or not. -/
structure Fin2 (d : UInt8) : Prop where
  digit : isDigit d = false
  inner : isInner d = false
  next : (isLetter d || decide (cv d = 95)) = false
  slash : d ≠ 47
  signs : ∀ x ∈ signs, d ∉ x.tail
theorem wordNext_fin {d : UInt8} (hd : Fin2 d) (b s : List UInt8) {n : Nat} (hn : n ≤ s.length) : wordNext (s ++ d :: b) n = wordNext s n := by
  unfold wordNext
  rcases Nat.lt_or_ge n s.length with h | h
  · rw [List.getElem?_append_left h]
  · have : n = s.length := by omega
    subst this
    rw [List.getElem?_append_right (Nat.le_refl _), List.getElem?_eq_none (Nat.le_refl _)]
    rw [Nat.sub_self, List.getElem?_cons_zero]
    exact hd.next
theorem lexToken_fin {d : UInt8} (hd : Fin2 d) (b : List UInt8) (c : UInt8) (r : List UInt8) (h : c = 39 → 2 ≤ r.length) : lexToken (c :: r ++ d :: b) = lexToken (c :: r) := by
  simp only [List.cons_append, lexToken]
  by_cases hc : isDigit c = true
  · rw [if_pos hc, if_pos hc]
    unfold lexNumber
    have e1 : (c :: (r ++ d :: b)).takeWhile isDigit = (c :: r).takeWhile isDigit := tw_del hd.digit b (c :: r)
    have e2 := wordNext_fin hd b (c :: r) (takeWhile_le isDigit (c :: r))
    rw [List.cons_append] at e2
    rw [e1, e2]
  rw [if_neg hc, if_neg hc]
  by_cases hl : isLetter c = true
  · rw [if_pos hl, if_pos hl]
    unfold lexName
    have e1 : (c :: (r ++ d :: b)).takeWhile isInner = (c :: r).takeWhile isInner := tw_del hd.inner b (c :: r)
    rw [e1]
  rw [if_neg hl, if_neg hl]
  by_cases hq : decide (cv c = 39) = true
  · rw [if_pos hq, if_pos hq]
    have h39 : c = 39 := by
      rw [decide_eq_true_eq] at hq
      apply UInt8.toNat_inj.1
      have : (c.toNat : Int) = 39 := hq
      show c.toNat = 39
      omega
    match r, h h39 with
    | x :: y :: r, _ => rfl
    | [x], h => simp at h
    | [], h => simp at h
  · rw [if_neg hq, if_neg hq]
    unfold lexSign
    have e1 := find_del b c r signs hd.signs
    rw [List.cons_append] at e1
    rw [e1]
theorem skip_fin {d : UInt8} (hd : Fin2 d) (b : List UInt8) {c : UInt8} (r : List UInt8) (hw : isWhite c = false) (hsl : ([47, 47] : List UInt8).isPrefixOf (c :: r) = false) : skipLen (c :: r ++ d :: b) = 0 ∧ skipLen (c :: r) = 0 := by
  have e1 := pre_del' (d := d) b c r [47, 47] (by simp only [List.tail_cons, List.mem_singleton]; exact hd.slash)
  unfold skipLen
  rw [e1, hsl, if_neg (by decide), if_neg (by decide), List.cons_append, List.takeWhile_cons_of_neg (by rw [hw]; decide), List.takeWhile_cons_of_neg (by rw [hw]; decide)]
  exact ⟨rfl, rfl⟩
/-- On whatever line it begins, the text has these tokens. -/
def Lx (s : List UInt8) (ks : List KT) : Prop := ∀ l : Int, ∃ A, lexAt s l = .ok A ∧ A.map kt = ks
theorem Lx.nil : Lx [] [] := fun l => ⟨[], lexAt_nil l, rfl⟩
theorem Lx.white {c : UInt8} (hc : isWhite c = true) {b : List UInt8} {ks : List KT} (h : Lx b ks) : Lx (c :: b) ks := fun l => by
  rw [lexAt_white hc]
  exact h _
theorem Lx.whites : ∀ {w b : List UInt8} {ks : List KT}, (∀ c ∈ w, isWhite c = true) → Lx b ks → Lx (w ++ b) ks
  | [], _, _, _, h => h
  | c :: w, _, _, hw, h => Lx.white (hw c (List.mem_cons_self ..)) (Lx.whites (fun x hx => hw x (List.mem_cons_of_mem _ hx)) h)
theorem Lx.tok {x rest : List UInt8} {k : Int} {ks : List KT} (hne : x ≠ []) (hs : skipLen (x ++ rest) = 0) (ht : lexToken (x ++ rest) = (⟨k, x, 0⟩, x.length, 0)) (h : Lx rest ks) : Lx (x ++ rest) ((k, x) :: ks) := fun l => by
  rw [← lexAt_eq (f := (x ++ rest).length + 1) (by omega), lexP, if_neg (by simp [hne]), if_pos hs, ht, if_neg (by simp)]
  simp only
  rw [List.drop_left, lexAt_eq (by rw [List.length_append]; omega)]
  obtain ⟨A, h1, h2⟩ := h (l + (((x ++ rest).take x.length).count 10 : Nat))
  rw [h1]
  exact ⟨_, rfl, by rw [List.map_cons, h2]; rfl⟩
theorem Lx.del {x b : List UInt8} {k l0 : Int} {d : UInt8} {ks : List KT} (ha : Again ⟨k, x, l0⟩) (hd : Fin2 d) (h : Lx (d :: b) ks) : Lx (x ++ d :: b) ((k, x) :: ks) := by
  obtain ⟨_, hne, hs, _, ht⟩ := ha
  simp only at hne hs ht
  obtain ⟨c, r, rfl⟩ := List.exists_cons_of_ne_nil hne
  obtain ⟨h47, hw⟩ := skip_zero hs
  have hw' : isWhite c = false := by
    cases h0 : isWhite c with
    | false => rfl
    | true => rw [List.takeWhile_cons_of_pos h0] at hw; cases hw
  refine Lx.tok hne (skip_fin hd b r hw' h47).1 ?_ h
  rw [lexToken_fin hd b c r ?_]
  · exact ht
  · rintro rfl
    have h1 : lexLiteral (39 :: r) = (⟨k, 39 :: r, 0⟩, (39 :: r).length, 0) := ht
    match r, h1 with
    | [], h1 => simp [lexLiteral, tokErr] at h1
    | [_], h1 => simp [lexLiteral, tokErr] at h1
    | _ :: _ :: _, _ => simp
theorem Lx.sign {c : UInt8} (hc : c ∈ ([40, 41, 91, 93, 44, 59, 123, 125, 45] : List UInt8)) {rest : List UInt8} {ks : List KT} (h : Lx rest ks) : Lx (c :: rest) (sg c :: ks) := by
  have h1 : skipLen (c :: rest) = 0 := by
    have : ∀ c ∈ ([40, 41, 91, 93, 44, 59, 123, 125, 45] : List UInt8), isWhite c = false ∧ c ≠ 47 := by decide
    exact skip_head (this c hc).1 (this c hc).2
  have h2 : lexToken (c :: rest) = (⟨4, [c], 0⟩, 1, 0) := by
    simp only [List.mem_cons, List.not_mem_nil, or_false] at hc
    rcases hc with rfl | rfl | rfl | rfl | rfl | rfl | rfl | rfl | rfl <;> rfl
  exact Lx.tok (x := [c]) (by simp) h1 h2 h
theorem Lx.bang {c : UInt8} (hc : c ≠ 61) {r : List UInt8} {ks : List KT} (h : Lx (c :: r) ks) : Lx (33 :: c :: r) (sg 33 :: ks) := by
  have h1 : skipLen (33 :: c :: r) = 0 := skip_head (by decide) (by decide)
  have h2 : lexToken (33 :: c :: r) = (⟨4, [33], 0⟩, 1, 0) := by
    have h3 : signs.find? (fun x => x.isPrefixOf (33 :: c :: r)) = some [33] := by
      have h4 : ((61 : UInt8) == c) = false := by
        rw [beq_eq_false_iff_ne]
        exact fun h => hc h.symm
      simp [signs, List.isPrefixOf, h4]
    show lexSign (33 :: c :: r) = _
    unfold lexSign
    rw [h3]
    rfl
  exact Lx.tok (x := [33]) (by simp) h1 h2 h
theorem fin59 : Fin2 59 := ⟨by decide, by decide, by decide, by decide, by decide⟩
theorem fin41 : Fin2 41 := ⟨by decide, by decide, by decide, by decide, by decide⟩
theorem fin32 : Fin2 32 := ⟨by decide, by decide, by decide, by decide, by decide⟩
theorem fin40 : Fin2 40 := ⟨by decide, by decide, by decide, by decide, by decide⟩
theorem fin91 : Fin2 91 := ⟨by decide, by decide, by decide, by decide, by decide⟩
theorem fin93 : Fin2 93 := ⟨by decide, by decide, by decide, by decide, by decide⟩
theorem fin44 : Fin2 44 := ⟨by decide, by decide, by decide, by decide, by decide⟩
/-- The text begins with a character that ends what stands ahead. -/
def DelS (s : List UInt8) : Prop := ∃ d b, s = d :: b ∧ Fin2 d
theorem Lx.delS {x s : List UInt8} {k l0 : Int} {ks : List KT} (ha : Again ⟨k, x, l0⟩) (hd : DelS s) (h : Lx s ks) : Lx (x ++ s) ((k, x) :: ks) := by
  obtain ⟨d, b, rfl, hd⟩ := hd
  exact Lx.del ha hd h
theorem kw_again : ∀ x ∈ keywords, x.length ≤ 24 ∧ x ≠ [] ∧ skipLen x = 0 ∧ (10 : UInt8) ∉ x ∧ lexToken x = (⟨3, x, 0⟩, x.length, 0) := by decide +kernel
theorem again_kw {x : List UInt8} (h : x ∈ keywords) : Again ⟨3, x, 0⟩ := kw_again x h
theorem again_sg {x : List UInt8} (h : x ∈ signs) : Again ⟨4, x, 0⟩ := again_sign x h
theorem op_facts1 : ∀ s, s < 6 → ∀ o ∈ lvOps s, o ≠ nNum ∧ o ≠ nVar ∧ o ≠ nElem ∧ o ≠ nCall := by decide +kernel
theorem op_facts2 : ∀ s, s < 6 → ∀ o ∈ lvOps s, o ≠ nNeg ∧ o ≠ nNot ∧ strengthP o = s ∧ o ∈ signs := by decide +kernel
theorem op_facts (s : Nat) (hs : s < 6) (o : List UInt8) (ho : o ∈ lvOps s) : o ≠ nNum ∧ o ≠ nVar ∧ o ≠ nElem ∧ o ≠ nCall ∧ o ≠ nNeg ∧ o ≠ nNot ∧ strengthP o = s ∧ o ∈ signs := by
  obtain ⟨h1, h2, h3, h4⟩ := op_facts1 s hs o ho
  exact ⟨h1, h2, h3, h4, op_facts2 s hs o ho⟩
theorem opnd_no {o t : List UInt8} {k : Nat} (h : k ≤ strengthP o) : opnd (o, t) k = t := by
  unfold opnd
  rw [if_neg (by simp only; omega)]
theorem opnd_yes {o t : List UInt8} {k : Nat} (h : strengthP o < k) : opnd (o, t) k = [40] ++ t ++ [41] := by
  unfold opnd
  rw [if_pos h]
theorem fE_num (n : Nat) : fE (.mk nNum n [] []) = decDigits n := by
  rw [fE_mk, fNode, if_pos rfl]
theorem fE_var (s : List UInt8) : fE (.mk nVar 0 s []) = s := by
  rw [fE_mk, fNode, if_neg (by decide), if_pos rfl]
theorem fE_elem (s : List UInt8) (a : Ex) : fE (.mk nElem 0 s [a]) = s ++ [91] ++ fE a ++ [93] := by
  rw [fE_mk, fNode, if_neg (by decide), if_neg (by decide), if_pos ⟨rfl, rfl⟩]
  rfl
theorem fE_call (s : List UInt8) (l : List Ex) : fE (.mk nCall 0 s l) = s ++ [40] ++ join (l.map fE) comSp ++ [41] := by
  rw [fE_mk, fNode, if_neg (by decide), if_neg (by decide), if_neg (fun h => absurd h.1 (by decide)), if_pos rfl, List.map_map]
  rfl
theorem fE_neg (a : Ex) : fE (.mk nNeg 0 [] [a]) = 45 :: opnd (exOp a, fE a) 6 := by
  rw [fE_mk, fNode, if_neg (by decide), if_neg (by decide), if_neg (fun h => absurd h.1 (by decide)), if_neg (by decide), if_pos ⟨rfl, rfl⟩]
  rfl
theorem fE_not (a : Ex) : fE (.mk nNot 0 [] [a]) = 33 :: opnd (exOp a, fE a) 6 := by
  rw [fE_mk, fNode, if_neg (by decide), if_neg (by decide), if_neg (fun h => absurd h.1 (by decide)), if_neg (by decide), if_neg (fun h => absurd h.1 (by decide)), if_pos ⟨rfl, rfl⟩]
  rfl
theorem fE_bin {s : Nat} {o : List UInt8} (hs : s < 6) (ho : o ∈ lvOps s) (a b : Ex) : fE (.mk o 0 [] [a, b]) = opnd (exOp a, fE a) (leftLv s) ++ [32] ++ o ++ [32] ++ opnd (exOp b, fE b) (s + 1) := by
  obtain ⟨h1, h2, h3, h4, h5, h6, h7, _⟩ := op_facts s hs o ho
  rw [fE_mk, fNode, if_neg h1, if_neg h2, if_neg (fun h => h3 h.1), if_neg h4, if_neg (fun h => h5 h.1), if_neg (fun h => h6 h.1), if_pos (by rfl), h7]
  rfl
theorem name_head {s : List UInt8} (h : NameOk s) : ∃ c r, s = c :: r ∧ c ≠ 61 := by
  obtain ⟨_, hne, _, _, ht⟩ := h
  obtain ⟨c, r, hr⟩ := List.exists_cons_of_ne_nil hne
  simp only at hr ht
  refine ⟨c, r, hr, ?_⟩
  rintro rfl
  rw [hr] at ht
  have h1 : lexSign (61 :: r) = (⟨2, 61 :: r, 0⟩, (61 :: r).length, 0) := ht
  unfold lexSign at h1
  split at h1
  · injection h1 with h1 _
    injection h1 with h1 _ _
    exact absurd h1 (by decide)
  · injection h1 with h1 _
    injection h1 with h1 _ _
    exact absurd h1 (by decide)
/-- The text of an expression does not begin with the equality sign. -/
theorem pe_head : ∀ (n : Nat) (e : Ex), nEx e ≤ n → ∀ (k : Nat) (ts : List KT) (d : Nat), k ≤ 6 → PE e k ts d → ∃ c r, opnd (exOp e, fE e) k = c :: r ∧ c ≠ 61
  | 0, .mk _ _ _ _, hn => by rw [nEx] at hn; omega
  | n + 1, e, hn => by
    intro k ts d hk h
    cases h with
    | num h =>
      rename_i m
      show ∃ c r, opnd (nNum, fE _) k = _ ∧ _
      rw [opnd_no (by rw [show strengthP nNum = 7 from rfl]; omega), fE_num]
      obtain ⟨c, r, hr⟩ := List.exists_cons_of_ne_nil (decDigits_ne m)
      refine ⟨c, r, hr, ?_⟩
      rintro rfl
      have := dec_digits m 61 (by rw [hr]; exact List.mem_cons_self ..)
      exact absurd this (by decide)
    | var h =>
      show ∃ c r, opnd (nVar, fE _) k = _ ∧ _
      rw [opnd_no (by rw [show strengthP nVar = 7 from rfl]; omega), fE_var]
      exact name_head h
    | elem h ha =>
      show ∃ c r, opnd (nElem, fE _) k = _ ∧ _
      rw [opnd_no (by rw [show strengthP nElem = 7 from rfl]; omega), fE_elem]
      obtain ⟨c, r, rfl, hc⟩ := name_head h
      exact ⟨c, _, rfl, hc⟩
    | call h ha =>
      show ∃ c r, opnd (nCall, fE _) k = _ ∧ _
      rw [opnd_no (by rw [show strengthP nCall = 7 from rfl]; omega), fE_call]
      obtain ⟨c, r, rfl, hc⟩ := name_head h
      exact ⟨c, _, rfl, hc⟩
    | neg ha =>
      show ∃ c r, opnd (nNeg, fE _) k = _ ∧ _
      rw [opnd_no (by rw [show strengthP nNeg = 6 from rfl]; omega), fE_neg]
      exact ⟨_, _, rfl, by decide⟩
    | not ha =>
      show ∃ c r, opnd (nNot, fE _) k = _ ∧ _
      rw [opnd_no (by rw [show strengthP nNot = 6 from rfl]; omega), fE_not]
      exact ⟨_, _, rfl, by decide⟩
    | par hs ho hk2 ha hb =>
      obtain ⟨_, _, _, _, _, _, h7, _⟩ := op_facts _ hs _ ho
      simp only [exOp]
      rw [opnd_yes (by omega)]
      exact ⟨_, _, rfl, by decide⟩
    | bin hs ho hk2 ha hb =>
      obtain ⟨_, _, _, _, _, _, h7, _⟩ := op_facts _ hs _ ho
      simp only [nEx, nExs] at hn
      simp only [exOp]
      rw [opnd_no (by omega), fE_bin hs ho]
      obtain ⟨c, r, hr, hc⟩ := pe_head n _ (by omega) _ _ _ (by unfold leftLv; split <;> omega) ha
      rw [hr]
      exact ⟨c, _, rfl, hc⟩
/-- What is printed of e is lexed into its tokens. -/
def LE (e : Ex) : Prop := ∀ (k : Nat) (ts : List KT) (d : Nat) (rest : List UInt8) (ks : List KT), k ≤ 6 → PE e k ts d → DelS rest → Lx rest ks → Lx (opnd (exOp e, fE e) k ++ rest) (ts ++ ks)
theorem delS_cons {d : UInt8} (hd : Fin2 d) (b : List UInt8) : DelS (d :: b) := ⟨d, b, rfl, hd⟩
theorem LE.zero {e : Ex} (h : LE e) {ts : List KT} {d : Nat} {rest : List UInt8} {ks : List KT} (hp : PE e 0 ts d) (hd : DelS rest) (hl : Lx rest ks) : Lx (fE e ++ rest) (ts ++ ks) := by
  have := h 0 ts d rest ks (by omega) hp hd hl
  rwa [opnd_no (Nat.zero_le _)] at this
theorem join_two (x y : List UInt8) (r : List (List UInt8)) : join (x :: y :: r) comSp = x ++ (44 :: 32 :: join (y :: r) comSp) := by
  have h : join (x :: y :: r) comSp = x ++ comSp ++ join (y :: r) comSp := by simp [join]
  rw [h, List.append_assoc]
  rfl
theorem list_lex : ∀ (l : List Ex) (ts : List KT) (d : Nat) (rest : List UInt8) (ks : List KT), (∀ x ∈ l, LE x) → PEs l ts d → DelS rest → Lx rest ks → Lx (join (l.map fE) comSp ++ rest) (ts ++ ks)
  | [], ts, d, rest, ks, _, hp, _, h => by
    cases hp with
    | nil => exact h
  | a :: l, ts, d, rest, ks, hl, hp, hd, h => by
    cases hp with
    | one ha =>
      rw [show List.map fE [a] = [fE a] from rfl, join_one]
      exact (hl a (List.mem_cons_self ..)).zero ha hd h
    | @more _ b l t1 t2 d1 d2 ha hr =>
      have h2 := list_lex (b :: l) t2 d2 rest ks (fun x hx => hl x (List.mem_cons_of_mem _ hx)) hr hd h
      rw [List.map_cons, List.map_cons, join_two, List.append_assoc, List.append_assoc]
      refine (hl a (List.mem_cons_self ..)).zero ha (delS_cons fin44 _) ?_
      exact Lx.sign (by decide) (Lx.white (by decide) h2)
theorem ex_lex : ∀ (n : Nat) (e : Ex), nEx e ≤ n → LE e
  | 0, .mk _ _ _ _, hn => by rw [nEx] at hn; omega
  | n + 1, e, hn => by
    intro k ts d rest ks hk hp hd hl
    have bin : ∀ {s : Nat} {o : List UInt8} {a b : Ex} {t1 t2 : List KT} {d1 d2 : Nat} {rest : List UInt8} {ks : List KT}, nEx (.mk o 0 [] [a, b]) ≤ n + 1 → s < 6 → o ∈ lvOps s → PE a (leftLv s) t1 d1 → PE b (s + 1) t2 d2 → DelS rest → Lx rest ks →
        Lx (fE (.mk o 0 [] [a, b]) ++ rest) ((t1 ++ (4, o) :: t2) ++ ks) := by
      intro s o a b t1 t2 d1 d2 rest ks hn hs ho pa pb hd hl
      obtain ⟨_, _, _, _, _, _, _, h8⟩ := op_facts s hs o ho
      simp only [nEx, nExs] at hn
      rw [fE_bin hs ho]
      have h2 := ex_lex n b (by omega) (s + 1) t2 d2 rest ks (by omega) pb hd hl
      have h3 : Lx (o ++ 32 :: (opnd (exOp b, fE b) (s + 1) ++ rest)) ((4, o) :: (t2 ++ ks)) := Lx.del (again_sg h8) fin32 (Lx.white (by decide) h2)
      have h4 := ex_lex n a (by omega) (leftLv s) t1 d1 (32 :: (o ++ 32 :: (opnd (exOp b, fE b) (s + 1) ++ rest))) _ (by unfold leftLv; split <;> omega) pa (delS_cons fin32 _) (Lx.white (by decide) h3)
      simpa only [List.append_assoc, List.cons_append, List.nil_append] using h4
    cases hp with
    | num h =>
      show Lx (opnd (nNum, fE _) k ++ rest) _
      rw [opnd_no (by rw [show strengthP nNum = 7 from rfl]; omega), fE_num]
      exact Lx.delS (again_dec h 0) hd hl
    | var h =>
      show Lx (opnd (nVar, fE _) k ++ rest) _
      rw [opnd_no (by rw [show strengthP nVar = 7 from rfl]; omega), fE_var]
      exact Lx.delS h hd hl
    | elem h ha =>
      rename_i s a t1 d1
      simp only [nEx, nExs] at hn
      show Lx (opnd (nElem, fE _) k ++ rest) _
      rw [opnd_no (by rw [show strengthP nElem = 7 from rfl]; omega), fE_elem]
      have h1 := (ex_lex n a (by omega)).zero ha (delS_cons fin93 rest) (Lx.sign (by decide) hl)
      have h2 := Lx.del h fin91 (Lx.sign (by decide) h1)
      simpa only [List.append_assoc, List.cons_append, List.nil_append] using h2
    | call h ha =>
      rename_i s l t1 d1
      simp only [nEx] at hn
      show Lx (opnd (nCall, fE _) k ++ rest) _
      rw [opnd_no (by rw [show strengthP nCall = 7 from rfl]; omega), fE_call]
      have h1 := list_lex l t1 d1 (41 :: rest) _ (fun x hx => ex_lex n x (by have := nExs_mem hx; omega)) ha (delS_cons fin41 rest) (Lx.sign (by decide) hl)
      have h2 := Lx.del h fin40 (Lx.sign (by decide) h1)
      simpa only [List.append_assoc, List.cons_append, List.nil_append] using h2
    | neg ha =>
      simp only [nEx, nExs] at hn
      show Lx (opnd (nNeg, fE _) k ++ rest) _
      rw [opnd_no (by rw [show strengthP nNeg = 6 from rfl]; omega), fE_neg]
      exact Lx.sign (by decide) (ex_lex n _ (by omega) 6 _ _ rest ks (by omega) ha hd hl)
    | not ha =>
      rename_i a t1 d1
      simp only [nEx, nExs] at hn
      show Lx (opnd (nNot, fE _) k ++ rest) _
      rw [opnd_no (by rw [show strengthP nNot = 6 from rfl]; omega), fE_not]
      have h1 := ex_lex n a (by omega) 6 _ _ rest ks (by omega) ha hd hl
      obtain ⟨c, r, hr, hc⟩ := pe_head _ a (Nat.le_refl _) _ _ _ (by omega) ha
      rw [hr] at h1 ⊢
      exact Lx.bang hc h1
    | par hs ho hk2 ha hb =>
      obtain ⟨_, _, _, _, _, _, h7, _⟩ := op_facts _ hs _ ho
      have h1 := bin hn hs ho ha hb (delS_cons fin41 rest) (Lx.sign (by decide) hl)
      simp only [exOp]
      rw [opnd_yes (by omega)]
      have h2 := Lx.sign (c := 40) (by decide) h1
      simpa only [List.append_assoc, List.cons_append, List.nil_append] using h2
    | bin hs ho hk2 ha hb =>
      obtain ⟨_, _, _, _, _, _, h7, _⟩ := op_facts _ hs _ ho
      simp only [exOp]
      rw [opnd_no (by omega)]
      exact bin hn hs ho ha hb hd hl
theorem le (e : Ex) : LE e := ex_lex _ e (Nat.le_refl _)
/-! ### Statements -/
def Ind (ind : List UInt8) : Prop := ∀ c ∈ ind, isWhite c = true
theorem Ind.two {ind : List UInt8} (h : Ind ind) : Ind (ind2 ind) := fun c hc => by
  rcases List.mem_append.1 hc with h1 | h1
  · exact h c h1
  · simp only [List.mem_cons, List.not_mem_nil, or_false, or_self] at h1
    subst h1
    decide
theorem fOne_one (e : Ex) : fOne [e] = fE e := by
  unfold fOne
  rw [show List.map fE [e] = [fE e] from rfl, join_one]
theorem kw {x b : List UInt8} {ks : List KT} (hx : x ∈ keywords) (h : Lx b ks) : Lx (x ++ 32 :: b) ((3, x) :: ks) := Lx.del (again_kw hx) fin32 (Lx.white (by decide) h)
theorem ends {rest : List UInt8} {ks : List KT} (h : Lx rest ks) : Lx (59 :: 10 :: rest) (sg 59 :: ks) := Lx.sign (by decide) (Lx.white (by decide) h)
theorem opens {rest : List UInt8} {ks : List KT} (h : Lx rest ks) : Lx (32 :: 123 :: 10 :: rest) (sg 123 :: ks) := Lx.white (by decide) (Lx.sign (by decide) (Lx.white (by decide) h))
theorem equals {rest : List UInt8} {ks : List KT} (h : Lx rest ks) : Lx (61 :: 32 :: rest) (sg 61 :: ks) := Lx.del (x := [61]) (again_sg (by decide)) fin32 (Lx.white (by decide) h)
theorem sm_lex : ∀ (n : Nat), (∀ (s : Sm), nSm s ≤ n → ∀ (ts : List KT) (d : Nat) (ind rest : List UInt8) (ks : List KT), Ind ind → PS s ts d → Lx rest ks → Lx (fS ind s ++ rest) (ts ++ ks)) ∧
    (∀ (l : List Sm), nSms l ≤ n → ∀ (ts : List KT) (d : Nat) (ind rest : List UInt8) (ks : List KT), Ind ind → PSs l ts d → Lx rest ks → Lx (fSs ind l ++ rest) (ts ++ ks))
  | 0 => by
    refine ⟨fun s hn => ?_, fun l hn ts d ind rest ks hi hp h => ?_⟩
    · obtain ⟨k, a, b, c, d, e⟩ := s
      rw [nSm] at hn
      omega
    · cases hp with
      | nil => exact h
      | cons h1 h2 =>
        rename_i s _ _ _ _ _
        obtain ⟨k, a, b, c, d, e⟩ := s
        rw [nSms, nSm] at hn
        omega
  | n + 1 => by
    obtain ⟨hS, hL⟩ := sm_lex n
    have hS' : ∀ (s : Sm), nSm s ≤ n + 1 → ∀ (ts : List KT) (d : Nat) (ind rest : List UInt8) (ks : List KT), Ind ind → PS s ts d → Lx rest ks → Lx (fS ind s ++ rest) (ts ++ ks) := by
      intro s hn ts d ind rest ks hi hp h
      have hi2 := hi.two
      cases hp with
      | assign hs he =>
        rename_i s e t1
        have h1 := Lx.whites hi (Lx.del hs fin32 (Lx.white (by decide) (equals ((le e).zero he (delS_cons fin59 _) (ends h)))))
        rw [fS_mk, fLine, if_pos rfl, fOne_one]
        simpa only [List.append_assoc, List.cons_append, List.nil_append] using h1
      | store hs hx he =>
        rename_i s x e t1 t2 d1 d2
        have h1 := Lx.whites hi (Lx.del hs fin91 (Lx.sign (by decide) ((le x).zero hx (delS_cons fin93 _) (Lx.sign (by decide) (Lx.white (c := 32) (by decide) (equals ((le e).zero he (delS_cons fin59 _) (ends h))))))))
        rw [fS_mk, fLine, if_neg (by decide), if_pos rfl, fOne_one, fOne_one]
        simpa only [List.append_assoc, List.cons_append, List.nil_append] using h1
      | call hs hl =>
        rename_i s l t1 d1
        have h1 := Lx.whites hi (Lx.del hs fin40 (Lx.sign (by decide) (list_lex l t1 d1 _ _ (fun x _ => le x) hl (delS_cons fin41 _) (Lx.sign (by decide) (ends h)))))
        rw [fS_mk, fLine, if_neg (by decide), if_neg (by decide), if_pos rfl, fOne_one, fE_call]
        simpa only [List.append_assoc, List.cons_append, List.nil_append] using h1
      | ret he =>
        rename_i e t1
        have h1 := Lx.whites hi (kw (x := kwReturn) (by decide) ((le e).zero he (delS_cons fin59 _) (ends h)))
        rw [fS_mk, fLine, if_neg (by decide), if_neg (by decide), if_neg (by decide), if_pos rfl, fOne_one]
        simpa only [kwReturn, List.append_assoc, List.cons_append, List.nil_append] using h1
      | halt =>
        have h1 := Lx.whites hi (Lx.del (again_kw (x := kwHalt) (by decide)) fin59 (ends h))
        rw [fS_mk, fLine, if_neg (by decide), if_neg (by decide), if_neg (by decide), if_neg (by decide), if_pos rfl]
        simpa only [kwHalt, List.append_assoc, List.cons_append, List.nil_append] using h1
      | ifElse he g1 g2 hne =>
        rename_i e th el t0 t1 t2 d0 d1 d2
        simp only [nSm] at hn
        have k1 : Lx (ind ++ 125 :: 10 :: rest) (sg 125 :: ks) := Lx.whites hi (Lx.sign (by decide) (Lx.white (by decide) h))
        have k2 := hL el (by omega) t2 d2 (ind2 ind) _ _ hi2 g2 k1
        have k3 := Lx.whites hi (Lx.sign (c := 125) (by decide) (Lx.white (c := 32) (by decide) (Lx.del (again_kw (x := kwElse) (by decide)) fin32 (opens k2))))
        have k4 := hL th (by omega) t1 d1 (ind2 ind) _ _ hi2 g1 k3
        have h1 := Lx.whites hi (kw (x := kwIf) (by decide) ((le e).zero he (delS_cons fin32 _) (opens k4)))
        have hem : el.isEmpty = false := by cases el <;> simp_all
        rw [fS_mk, fLine, if_neg (by decide), if_neg (by decide), if_neg (by decide), if_neg (by decide), if_neg (by decide), if_pos (by decide), if_neg (by decide), fOne_one, hem, if_neg (by decide)]
        simpa only [kwIf, kwElse, List.append_assoc, List.cons_append, List.nil_append] using h1
      | ifThen he g1 =>
        rename_i e th t0 t1 d0 d1
        simp only [nSm] at hn
        have k1 : Lx (ind ++ 125 :: 10 :: rest) (sg 125 :: ks) := Lx.whites hi (Lx.sign (by decide) (Lx.white (by decide) h))
        have k4 := hL th (by omega) t1 d1 (ind2 ind) _ _ hi2 g1 k1
        have h1 := Lx.whites hi (kw (x := kwIf) (by decide) ((le e).zero he (delS_cons fin32 _) (opens k4)))
        rw [fS_mk, fLine, if_neg (by decide), if_neg (by decide), if_neg (by decide), if_neg (by decide), if_neg (by decide), if_pos (by decide), if_neg (by decide), fOne_one, if_pos (by rfl)]
        simpa only [kwIf, List.append_assoc, List.cons_append, List.nil_append, List.append_nil] using h1
      | «while» he g1 =>
        rename_i e th t0 t1 d0 d1
        simp only [nSm] at hn
        have k1 : Lx (ind ++ 125 :: 10 :: rest) (sg 125 :: ks) := Lx.whites hi (Lx.sign (by decide) (Lx.white (by decide) h))
        have k4 := hL th (by omega) t1 d1 (ind2 ind) _ _ hi2 g1 k1
        have h1 := Lx.whites hi (kw (x := kwWhile) (by decide) ((le e).zero he (delS_cons fin32 _) (opens k4)))
        rw [fS_mk, fLine, if_neg (by decide), if_neg (by decide), if_neg (by decide), if_neg (by decide), if_neg (by decide), if_pos (by decide), if_pos rfl, fOne_one, if_pos (by rfl)]
        simpa only [kwWhile, List.append_assoc, List.cons_append, List.nil_append, List.append_nil] using h1
    refine ⟨hS', fun l hn ts d ind rest ks hi hp h => ?_⟩
    cases hp with
    | nil => exact h
    | cons h1 h2 =>
      rename_i s l t1 t2 d1 d2
      have hpos : 0 < nSm s := by obtain ⟨k, a, b, c, d, e⟩ := s; rw [nSm]; omega
      rw [nSms] at hn
      rw [fSs, List.append_assoc, List.append_assoc]
      exact hS' s (by omega) t1 d1 ind _ _ hi h1 (hL l (by omega) t2 d2 ind rest ks hi h2 h)
theorem sms_lex {l : List Sm} {ts : List KT} {d : Nat} {ind rest : List UInt8} {ks : List KT} (hi : Ind ind) (hp : PSs l ts d) (h : Lx rest ks) : Lx (fSs ind l ++ rest) (ts ++ ks) := (sm_lex _).2 l (Nat.le_refl _) ts d ind rest ks hi hp h
/-! ### Declarations -/
theorem names_lex : ∀ (l : List (List UInt8)) (rest : List UInt8) (ks : List KT), AllOk l → DelS rest → Lx rest ks → Lx (join l comSp ++ rest) (commas l ++ ks)
  | [], rest, ks, _, _, h => h
  | [a], rest, ks, ha, hd, h => by
    rw [join_one]
    exact Lx.delS (ha a (List.mem_cons_self ..)) hd h
  | a :: b :: l, rest, ks, ha, hd, h => by
    have h2 := names_lex (b :: l) rest ks (fun x hx => ha x (List.mem_cons_of_mem _ hx)) hd h
    rw [join_two, List.append_assoc]
    exact Lx.del (ha a (List.mem_cons_self ..)) fin44 (Lx.sign (by decide) (Lx.white (by decide) h2))
theorem vars_lex {l : List (List UInt8)} {rest : List UInt8} {ks : List KT} (hl : AllOk l) (h : Lx rest ks) : Lx ((if l = [] then [] else varsT l) ++ rest) (varK l ++ ks) := by
  unfold varK
  split
  · exact h
  · have h1 := kw (x := kwVar) (by decide) (names_lex l _ _ hl (delS_cons fin59 _) (ends h))
    unfold varsT
    simpa only [kwVar, List.append_assoc, List.cons_append, List.nil_append] using h1
theorem fn_lex {a : FnD} {ts : List KT} {d : Nat} {rest : List UInt8} {ks : List KT} (hp : PF a ts d) (h : Lx rest ks) : Lx (fFn a ++ rest) (ts ++ ks) := by
  cases hp with
  | mk hn hps hls hb =>
    rename_i nm ps ls b t1 d1
    have k1 : Lx (125 :: 10 :: rest) (sg 125 :: ks) := Lx.sign (by decide) (Lx.white (by decide) h)
    have k2 := sms_lex (ind := [32, 32]) (by intro c hc; simp only [List.mem_cons, List.not_mem_nil, or_false, or_self] at hc; subst hc; decide) hb k1
    have k3 : Lx ((if ls = [] then [] else [32, 32] ++ varsT ls) ++ (fSs [32, 32] b ++ 125 :: 10 :: rest)) (varK ls ++ (t1 ++ sg 125 :: ks)) := by
      have := vars_lex hls k2
      split
      · rename_i hls0
        rwa [if_pos hls0] at this
      · rename_i hls0
        rw [if_neg hls0] at this
        rw [List.append_assoc]
        exact Lx.white (by decide) (Lx.white (by decide) this)
    have k4 := names_lex ps _ _ hps (delS_cons fin41 _) (Lx.sign (by decide) (opens k3))
    have h1 := kw (x := kwFunc) (by decide) (Lx.del hn fin40 (Lx.sign (by decide) k4))
    unfold fFn
    simpa only [kwFunc, List.append_assoc, List.cons_append, List.nil_append] using h1
theorem ar_lex {a : Ar} {rest : List UInt8} {ks : List KT} (ha : NameOk a.name ∧ a.size < 4294967296) (h : Lx rest ks) : Lx (fAr a ++ rest) (arK a ++ ks) := by
  have h1 := kw (x := kwArray) (by decide) (Lx.del ha.1 fin91 (Lx.sign (by decide) (Lx.del (again_dec ha.2 0) fin93 (Lx.sign (by decide) (ends h)))))
  unfold fAr arK
  simpa only [kwArray, List.append_assoc, List.cons_append, List.nil_append] using h1
theorem ars_lex : ∀ (l : List Ar) {rest : List UInt8} {ks : List KT}, ArsOk l → Lx rest ks → Lx ((l.map fAr).flatten ++ rest) ((l.map arK).flatten ++ ks)
  | [], _, _, _, h => h
  | a :: l, _, _, hl, h => by
    rw [List.map_cons, List.map_cons, List.flatten_cons, List.flatten_cons, List.append_assoc, List.append_assoc]
    exact ar_lex (hl a (List.mem_cons_self ..)) (ars_lex l (fun x hx => hl x (List.mem_cons_of_mem _ hx)) h)
theorem fns_lex : ∀ (l : List FnD) {ts : List KT} {rest : List UInt8} {ks : List KT}, PFs l ts → Lx rest ks → Lx ((l.map fFn).flatten ++ rest) (ts ++ ks)
  | [], _, _, _, hp, h => by
    cases hp with
    | nil => exact h
  | a :: l, _, _, _, hp, h => by
    cases hp with
    | cons hf hd hl =>
      rw [List.map_cons, List.flatten_cons, List.append_assoc, List.append_assoc]
      exact fn_lex hf (fns_lex l hl h)
/-- A printed program is lexed into its tokens. -/
theorem print_lex {p : Pr} {ts : List KT} (hp : PP p ts) : Lx (formatP p) ts := by
  cases hp with
  | mk hv ha hf =>
    have h1 := vars_lex hv (ars_lex _ ha (fns_lex _ hf Lx.nil))
    unfold formatP
    simpa only [List.append_assoc, List.append_nil] using h1
end Go.Stele
set_option maxRecDepth 100000
namespace Go.Stele
open Go.Lib
theorem NameOk.len {s : List UInt8} (h : NameOk s) : s.length ≤ 24 := h.1
theorem opnd_le (o t : List UInt8) (k : Nat) : (opnd (o, t) k).length ≤ t.length + 2 := by
  unfold opnd
  split
  · simp only [List.length_append, List.length_cons, List.length_nil]
    omega
  · simp only
    omega
theorem opnd_ge (o t : List UInt8) (k : Nat) : t.length ≤ (opnd (o, t) k).length := by
  unfold opnd
  split
  · simp only [List.length_append, List.length_cons, List.length_nil]
    omega
  · simp only
    omega
/-- A text is no longer than 26 characters for each token. -/
def ZE (e : Ex) : Prop := ∀ (k : Nat) (ts : List KT) (d : Nat), k ≤ 6 → PE e k ts d → (opnd (exOp e, fE e) k).length ≤ 26 * ts.length
theorem ZE.zero {e : Ex} (h : ZE e) {ts : List KT} {d : Nat} (hp : PE e 0 ts d) : (fE e).length ≤ 26 * ts.length := by
  have := h 0 ts d (by omega) hp
  rwa [opnd_no (Nat.zero_le _)] at this
theorem list_size : ∀ (l : List Ex) (ts : List KT) (d : Nat), (∀ x ∈ l, ZE x) → PEs l ts d → (join (l.map fE) comSp).length ≤ 26 * ts.length
  | [], ts, d, _, hp => Nat.zero_le _
  | a :: l, ts, d, hl, hp => by
    cases hp with
    | one ha =>
      rw [show List.map fE [a] = [fE a] from rfl, join_one]
      exact (hl a (List.mem_cons_self ..)).zero ha
    | @more _ b l t1 t2 d1 d2 ha hr =>
      have h1 := (hl a (List.mem_cons_self ..)).zero ha
      have h2 := list_size (b :: l) t2 d2 (fun x hx => hl x (List.mem_cons_of_mem _ hx)) hr
      rw [List.map_cons] at h2
      rw [List.map_cons, List.map_cons, join_two]
      simp only [List.length_append, List.length_cons]
      omega
theorem ex_size : ∀ (n : Nat) (e : Ex), nEx e ≤ n → ZE e
  | 0, .mk _ _ _ _, hn => by rw [nEx] at hn; omega
  | n + 1, e, hn => by
    intro k ts d hk hp
    have bin : ∀ {s : Nat} {o : List UInt8} {a b : Ex} {t1 t2 : List KT} {d1 d2 : Nat}, nEx (.mk o 0 [] [a, b]) ≤ n + 1 → s < 6 → o ∈ lvOps s → PE a (leftLv s) t1 d1 → PE b (s + 1) t2 d2 → (fE (.mk o 0 [] [a, b])).length ≤ 26 * (t1 ++ (4, o) :: t2).length := by
      intro s o a b t1 t2 d1 d2 hn hs ho pa pb
      obtain ⟨_, _, _, _, _, _, _, h8⟩ := op_facts s hs o ho
      have h9 : o.length ≤ 24 := (again_sg h8).1
      simp only [nEx, nExs] at hn
      have h1 := ex_size n a (by omega) (leftLv s) t1 d1 (by unfold leftLv; split <;> omega) pa
      have h2 := ex_size n b (by omega) (s + 1) t2 d2 (by omega) pb
      rw [fE_bin hs ho]
      simp only [List.length_append, List.length_cons, List.length_nil]
      omega
    cases hp with
    | num h =>
      rename_i m
      show (opnd (nNum, fE _) k).length ≤ _
      rw [opnd_no (by rw [show strengthP nNum = 7 from rfl]; omega), fE_num]
      have := dec_len h
      simp only [List.length_cons, List.length_nil]
      omega
    | var h =>
      show (opnd (nVar, fE _) k).length ≤ _
      rw [opnd_no (by rw [show strengthP nVar = 7 from rfl]; omega), fE_var]
      have := h.len
      simp only [List.length_cons, List.length_nil]
      omega
    | elem h ha =>
      rename_i s a t1 d1
      simp only [nEx, nExs] at hn
      show (opnd (nElem, fE _) k).length ≤ _
      rw [opnd_no (by rw [show strengthP nElem = 7 from rfl]; omega), fE_elem]
      have := h.len
      have h1 := (ex_size n a (by omega)).zero ha
      simp only [List.length_append, List.length_cons, List.length_nil]
      omega
    | call h ha =>
      rename_i s l t1 d1
      simp only [nEx] at hn
      show (opnd (nCall, fE _) k).length ≤ _
      rw [opnd_no (by rw [show strengthP nCall = 7 from rfl]; omega), fE_call]
      have := h.len
      have h1 := list_size l t1 d1 (fun x hx => ex_size n x (by have := nExs_mem hx; omega)) ha
      simp only [List.length_append, List.length_cons, List.length_nil]
      omega
    | neg ha =>
      simp only [nEx, nExs] at hn
      show (opnd (nNeg, fE _) k).length ≤ _
      rw [opnd_no (by rw [show strengthP nNeg = 6 from rfl]; omega), fE_neg]
      have h1 := ex_size n _ (by omega) 6 _ _ (by omega) ha
      simp only [List.length_cons]
      omega
    | not ha =>
      simp only [nEx, nExs] at hn
      show (opnd (nNot, fE _) k).length ≤ _
      rw [opnd_no (by rw [show strengthP nNot = 6 from rfl]; omega), fE_not]
      have h1 := ex_size n _ (by omega) 6 _ _ (by omega) ha
      simp only [List.length_cons]
      omega
    | par hs ho hk2 ha hb =>
      have h1 := bin hn hs ho ha hb
      refine Nat.le_trans (opnd_le _ _ k) ?_
      simp only [List.length_append, List.length_cons, List.length_nil] at h1 ⊢
      omega
    | bin hs ho hk2 ha hb =>
      obtain ⟨_, _, _, _, _, _, h7, _⟩ := op_facts _ hs _ ho
      simp only [exOp]
      rw [opnd_no (by omega)]
      exact bin hn hs ho ha hb
theorem ze (e : Ex) : ZE e := ex_size _ e (Nat.le_refl _)
theorem ind2_len (ind : List UInt8) : (ind2 ind).length = ind.length + 2 := by simp [ind2]
theorem sm_size : ∀ (n : Nat), (∀ (s : Sm), nSm s ≤ n → ∀ (ts : List KT) (d M : Nat) (ind : List UInt8), PS s ts d → ind.length + 2 * d + 40 ≤ M → (fS ind s).length ≤ ts.length * M) ∧
    (∀ (l : List Sm), nSms l ≤ n → ∀ (ts : List KT) (d M : Nat) (ind : List UInt8), PSs l ts d → ind.length + 2 * d + 40 ≤ M → (fSs ind l).length ≤ ts.length * M)
  | 0 => by
    refine ⟨fun s hn => ?_, fun l hn ts d M ind hp hM => ?_⟩
    · obtain ⟨k, a, b, c, d, e⟩ := s
      rw [nSm] at hn
      omega
    · cases hp with
      | nil => exact Nat.zero_le _
      | cons h1 h2 =>
        rename_i s _ _ _ _ _
        obtain ⟨k, a, b, c, d, e⟩ := s
        rw [nSms, nSm] at hn
        omega
  | n + 1 => by
    obtain ⟨hS, hL⟩ := sm_size n
    have hS' : ∀ (s : Sm), nSm s ≤ n + 1 → ∀ (ts : List KT) (d M : Nat) (ind : List UInt8), PS s ts d → ind.length + 2 * d + 40 ≤ M → (fS ind s).length ≤ ts.length * M := by
      intro s hn ts d M ind hp hM
      have em : ∀ (t : Nat), 26 * t ≤ t * M := fun t => by rw [Nat.mul_comm]; exact Nat.mul_le_mul_left t (by omega)
      cases hp with
      | assign hs he =>
        rename_i s e t1
        have h1 := (ze e).zero he
        have h2 := em t1.length
        have h3 := hs.len
        rw [fS_mk, fLine, if_pos rfl, fOne_one]
        simp only [List.length_append, List.length_cons, List.length_nil, Nat.add_mul, Nat.one_mul, Nat.zero_mul, Nat.zero_add]
        omega
      | store hs hx he =>
        rename_i s x e t1 t2 d1 d2
        have h1 := (ze x).zero hx
        have h1' := (ze e).zero he
        have h2 := em t1.length
        have h2' := em t2.length
        have h3 := hs.len
        rw [fS_mk, fLine, if_neg (by decide), if_pos rfl, fOne_one, fOne_one]
        simp only [List.length_append, List.length_cons, List.length_nil, Nat.add_mul, Nat.one_mul, Nat.zero_mul, Nat.zero_add]
        omega
      | call hs hl =>
        rename_i s l t1 d1
        have h1 := list_size l t1 d1 (fun x _ => ze x) hl
        have h2 := em t1.length
        have h3 := hs.len
        rw [fS_mk, fLine, if_neg (by decide), if_neg (by decide), if_pos rfl, fOne_one, fE_call]
        simp only [List.length_append, List.length_cons, List.length_nil, Nat.add_mul, Nat.one_mul, Nat.zero_mul, Nat.zero_add]
        omega
      | ret he =>
        rename_i e t1
        have h1 := (ze e).zero he
        have h2 := em t1.length
        rw [fS_mk, fLine, if_neg (by decide), if_neg (by decide), if_neg (by decide), if_pos rfl, fOne_one]
        simp only [List.length_append, List.length_cons, List.length_nil, Nat.add_mul, Nat.one_mul, Nat.zero_mul, Nat.zero_add]
        omega
      | halt =>
        rw [fS_mk, fLine, if_neg (by decide), if_neg (by decide), if_neg (by decide), if_neg (by decide), if_pos rfl]
        simp only [List.length_append, List.length_cons, List.length_nil, Nat.add_mul, Nat.one_mul, Nat.zero_mul, Nat.zero_add]
        omega
      | ifElse he g1 g2 hne =>
        rename_i e th el t0 t1 t2 d0 d1 d2
        simp only [nSm] at hn
        have h1 := (ze e).zero he
        have h2 := em t0.length
        have k1 := hL th (by omega) t1 d1 M (ind2 ind) g1 (by rw [ind2_len]; omega)
        have k2 := hL el (by omega) t2 d2 M (ind2 ind) g2 (by rw [ind2_len]; omega)
        have hem : el.isEmpty = false := by cases el <;> simp_all
        rw [fS_mk, fLine, if_neg (by decide), if_neg (by decide), if_neg (by decide), if_neg (by decide), if_neg (by decide), if_pos (by decide), if_neg (by decide), fOne_one, hem, if_neg (by decide)]
        simp only [List.length_append, List.length_cons, List.length_nil, Nat.add_mul, Nat.one_mul, Nat.zero_mul, Nat.zero_add]
        omega
      | ifThen he g1 =>
        rename_i e th t0 t1 d0 d1
        simp only [nSm] at hn
        have h1 := (ze e).zero he
        have h2 := em t0.length
        have k1 := hL th (by omega) t1 d1 M (ind2 ind) g1 (by rw [ind2_len]; omega)
        rw [fS_mk, fLine, if_neg (by decide), if_neg (by decide), if_neg (by decide), if_neg (by decide), if_neg (by decide), if_pos (by decide), if_neg (by decide), fOne_one, if_pos (by rfl)]
        simp only [List.length_append, List.length_cons, List.length_nil, Nat.add_mul, Nat.one_mul, Nat.zero_mul, Nat.zero_add]
        omega
      | «while» he g1 =>
        rename_i e th t0 t1 d0 d1
        simp only [nSm] at hn
        have h1 := (ze e).zero he
        have h2 := em t0.length
        have k1 := hL th (by omega) t1 d1 M (ind2 ind) g1 (by rw [ind2_len]; omega)
        rw [fS_mk, fLine, if_neg (by decide), if_neg (by decide), if_neg (by decide), if_neg (by decide), if_neg (by decide), if_pos (by decide), if_pos rfl, fOne_one, if_pos (by rfl)]
        simp only [List.length_append, List.length_cons, List.length_nil, Nat.add_mul, Nat.one_mul, Nat.zero_mul, Nat.zero_add]
        omega
    refine ⟨hS', fun l hn ts d M ind hp hM => ?_⟩
    cases hp with
    | nil => exact Nat.zero_le _
    | cons h1 h2 =>
      rename_i s l t1 t2 d1 d2
      have hpos : 0 < nSm s := by obtain ⟨k, a, b, c, d, e⟩ := s; rw [nSm]; omega
      rw [nSms] at hn
      have k1 := hS' s (by omega) t1 d1 M ind h1 (by omega)
      have k2 := hL l (by omega) t2 d2 M ind h2 (by omega)
      rw [fSs, List.length_append, List.length_append, Nat.add_mul]
      omega
theorem names_size : ∀ (l : List (List UInt8)), AllOk l → (join l comSp).length ≤ 26 * (commas l).length
  | [], _ => Nat.zero_le _
  | [a], ha => by
    rw [join_one]
    have := (ha a (List.mem_cons_self ..)).len
    simp only [commas, List.length_cons, List.length_nil]
    omega
  | a :: b :: l, ha => by
    have h1 := names_size (b :: l) fun x hx => ha x (List.mem_cons_of_mem _ hx)
    have := (ha a (List.mem_cons_self ..)).len
    rw [join_two]
    simp only [commas, List.length_append, List.length_cons]
    omega
theorem varsT_size {l : List (List UInt8)} (hl : AllOk l) : (if l = [] then [] else varsT l).length ≤ 26 * (varK l).length := by
  have h1 := names_size l hl
  unfold varK varsT
  split
  · exact Nat.zero_le _
  · simp only [List.length_append, List.length_cons, List.length_nil]
    omega
theorem fn_size {a : FnD} {ts : List KT} {d : Nat} (hp : PF a ts d) (hd : d ≤ 100) : (fFn a).length ≤ 242 * ts.length := by
  cases hp with
  | mk hn hps hls hb =>
    rename_i nm ps ls b t1 d1
    have h1 := names_size ps hps
    have h2 := varsT_size hls
    have h3 := hn.len
    have h4 := (sm_size _).2 b (Nat.le_refl _) t1 d1 242 [32, 32] hb (by simp only [List.length_cons, List.length_nil]; omega)
    unfold fFn
    by_cases hl0 : ls = []
    · rw [if_pos hl0]
      simp only [List.length_append, List.length_cons, List.length_nil]
      omega
    · rw [if_neg hl0] at h2
      rw [if_neg hl0]
      simp only [List.length_append, List.length_cons, List.length_nil] at h2 ⊢
      omega
theorem ars_size : ∀ (l : List Ar), ArsOk l → ((l.map fAr).flatten).length ≤ 242 * ((l.map arK).flatten).length
  | [], _ => Nat.zero_le _
  | a :: l, hl => by
    have h1 := ars_size l fun x hx => hl x (List.mem_cons_of_mem _ hx)
    have h2 := (hl a (List.mem_cons_self ..)).1.len
    have h3 := dec_len (hl a (List.mem_cons_self ..)).2
    rw [List.map_cons, List.map_cons, List.flatten_cons, List.flatten_cons, List.length_append, List.length_append]
    have h4 : (fAr a).length ≤ 242 * (arK a).length := by
      unfold fAr arK
      simp only [List.length_append, List.length_cons, List.length_nil]
      omega
    omega
theorem fns_size : ∀ (l : List FnD) {ts : List KT}, PFs l ts → ((l.map fFn).flatten).length ≤ 242 * ts.length
  | [], _, hp => Nat.zero_le _
  | a :: l, _, hp => by
    cases hp with
    | cons hf hd hl =>
      have h1 := fn_size hf hd
      have h2 := fns_size l hl
      rw [List.map_cons, List.flatten_cons, List.length_append, List.length_append]
      omega
/-- A printed program has at most 242 characters for each token. -/
theorem print_size {p : Pr} {ts : List KT} (hp : PP p ts) : (formatP p).length ≤ 242 * ts.length := by
  cases hp with
  | mk hv ha hf =>
    have h1 := varsT_size hv
    have h2 := ars_size _ ha
    have h3 := fns_size _ hf
    unfold formatP
    simp only [List.length_append] at h1 h2 h3 ⊢
    omega
theorem pes_len : ∀ (l : List Ex) (ts : List KT) (d : Nat), PEs l ts d → l.length ≤ ts.length + 1
  | [], _, _, _ => Nat.zero_le _
  | a :: l, ts, d, hp => by
    cases hp with
    | one ha => simp only [List.length_cons, List.length_nil]; omega
    | @more _ b l t1 t2 d1 d2 ha hr =>
      have := pes_len (b :: l) t2 d2 hr
      simp only [List.length_cons, List.length_append] at this ⊢
      omega
theorem pes_mem : ∀ (l : List Ex) (ts : List KT) (d : Nat), PEs l ts d → ∀ x ∈ l, ∃ t d', PE x 0 t d' ∧ t.length ≤ ts.length
  | [], _, _, _, _, hx => by cases hx
  | a :: l, ts, d, hp, x, hx => by
    cases hp with
    | one ha =>
      rcases List.mem_cons.1 hx with rfl | hx
      · exact ⟨_, _, ha, Nat.le_refl _⟩
      · cases hx
    | @more _ b l t1 t2 d1 d2 ha hr =>
      rcases List.mem_cons.1 hx with rfl | hx
      · exact ⟨_, _, ha, by simp only [List.length_append]; omega⟩
      · obtain ⟨t, d', h1, h2⟩ := pes_mem (b :: l) t2 d2 hr x hx
        exact ⟨t, d', h1, by simp only [List.length_append, List.length_cons]; omega⟩
end Go.Stele
namespace Go.Proofs.YtfodkbchknknjaaGreatDoor
open Go.GL Go.RowKit Go.Stele
set_option maxRecDepth 100000
set_option maxHeartbeats 4000000
/-! ### A printed program is small -/
theorem okEs_of {l : List Ex} (h : ∀ x ∈ l, okE x) : okEs l := by
  induction l with
  | nil => trivial
  | cons a l ih => exact ⟨h a (List.mem_cons_self ..), ih fun x hx => h x (List.mem_cons_of_mem _ hx)⟩
theorem pe_ok : ∀ (n : Nat) (e : Ex), nEx e ≤ n → ∀ (k : Nat) (ts : List KT) (d : Nat), PE e k ts d → ts.length ≤ 100000 → okE e
  | 0, .mk _ _ _ _, hn => by rw [nEx] at hn; omega
  | n + 1, e, hn => by
    intro k ts d h hz
    cases h with
    | num h => exact ⟨h, by simp, trivial⟩
    | var h => exact ⟨by decide, by simp, trivial⟩
    | elem h ha =>
      simp only [nEx, nExs] at hn
      simp only [List.length_cons, List.length_append, List.length_nil] at hz
      exact ⟨by decide, by simp, pe_ok n _ (by omega) _ _ _ ha (by omega), trivial⟩
    | call h ha =>
      rename_i s l t1 d1
      simp only [nEx] at hn
      simp only [List.length_cons, List.length_append, List.length_nil] at hz
      refine ⟨by decide, by have := pes_len l t1 d1 ha; omega, okEs_of fun x hx => ?_⟩
      obtain ⟨t, d', h1, h2⟩ := pes_mem l t1 d1 ha x hx
      exact pe_ok n x (by have := nExs_mem hx; omega) _ _ _ h1 (by omega)
    | neg ha =>
      simp only [nEx, nExs] at hn
      simp only [List.length_cons] at hz
      exact ⟨by decide, by simp, pe_ok n _ (by omega) _ _ _ ha (by omega), trivial⟩
    | not ha =>
      simp only [nEx, nExs] at hn
      simp only [List.length_cons] at hz
      exact ⟨by decide, by simp, pe_ok n _ (by omega) _ _ _ ha (by omega), trivial⟩
    | par hs ho hk2 ha hb =>
      simp only [nEx, nExs] at hn
      simp only [List.length_cons, List.length_append, List.length_nil] at hz
      exact ⟨by decide, by simp, pe_ok n _ (by omega) _ _ _ ha (by omega), pe_ok n _ (by omega) _ _ _ hb (by omega), trivial⟩
    | bin hs ho hk2 ha hb =>
      simp only [nEx, nExs] at hn
      simp only [List.length_cons, List.length_append, List.length_nil] at hz
      exact ⟨by decide, by simp, pe_ok n _ (by omega) _ _ _ ha (by omega), pe_ok n _ (by omega) _ _ _ hb (by omega), trivial⟩
theorem peOk {e : Ex} {k : Nat} {ts : List KT} {d : Nat} (h : PE e k ts d) (hz : ts.length ≤ 100000) : okE e := pe_ok _ e (Nat.le_refl _) k ts d h hz
theorem ps_ok : ∀ (n : Nat), (∀ (s : Sm), nSm s ≤ n → ∀ (ts : List KT) (d : Nat), PS s ts d → ts.length ≤ 100000 → okS s) ∧
    (∀ (l : List Sm), nSms l ≤ n → ∀ (ts : List KT) (d : Nat), PSs l ts d → ts.length ≤ 100000 → okSs l)
  | 0 => by
    refine ⟨fun s hn => ?_, fun l hn ts d hp hz => ?_⟩
    · obtain ⟨k, a, b, c, d, e⟩ := s
      rw [nSm] at hn
      omega
    · cases hp with
      | nil => trivial
      | cons h1 h2 =>
        rename_i s _ _ _ _ _
        obtain ⟨k, a, b, c, d, e⟩ := s
        rw [nSms, nSm] at hn
        omega
  | n + 1 => by
    obtain ⟨hS, hL⟩ := ps_ok n
    have hS' : ∀ (s : Sm), nSm s ≤ n + 1 → ∀ (ts : List KT) (d : Nat), PS s ts d → ts.length ≤ 100000 → okS s := by
      intro s hn ts d hp hz
      cases hp with
      | assign hs he =>
        simp only [List.length_cons, List.length_append, List.length_nil] at hz
        exact ⟨trivial, ⟨peOk he (by omega), trivial⟩, trivial, trivial⟩
      | store hs hx he =>
        simp only [List.length_cons, List.length_append, List.length_nil] at hz
        exact ⟨⟨peOk hx (by omega), trivial⟩, ⟨peOk he (by omega), trivial⟩, trivial, trivial⟩
      | call hs hl =>
        rename_i s l t1 d1
        simp only [List.length_cons, List.length_append, List.length_nil] at hz
        have : PE (.mk nCall 0 s l) 0 ((2, s) :: sg 40 :: (t1 ++ [sg 41])) (d1 + 1) := .call hs hl
        exact ⟨trivial, ⟨peOk this (by simp only [List.length_cons, List.length_append, List.length_nil]; omega), trivial⟩, trivial, trivial⟩
      | ret he =>
        simp only [List.length_cons, List.length_append, List.length_nil] at hz
        exact ⟨trivial, ⟨peOk he (by omega), trivial⟩, trivial, trivial⟩
      | halt => exact ⟨trivial, trivial, trivial, trivial⟩
      | ifElse he g1 g2 hne =>
        simp only [nSm] at hn
        simp only [List.length_cons, List.length_append, List.length_nil] at hz
        exact ⟨trivial, ⟨peOk he (by omega), trivial⟩, hL _ (by omega) _ _ g1 (by omega), hL _ (by omega) _ _ g2 (by omega)⟩
      | ifThen he g1 =>
        simp only [nSm] at hn
        simp only [List.length_cons, List.length_append, List.length_nil] at hz
        exact ⟨trivial, ⟨peOk he (by omega), trivial⟩, hL _ (by omega) _ _ g1 (by omega), trivial⟩
      | «while» he g1 =>
        simp only [nSm] at hn
        simp only [List.length_cons, List.length_append, List.length_nil] at hz
        exact ⟨trivial, ⟨peOk he (by omega), trivial⟩, hL _ (by omega) _ _ g1 (by omega), trivial⟩
    refine ⟨hS', fun l hn ts d hp hz => ?_⟩
    cases hp with
    | nil => trivial
    | cons h1 h2 =>
      rename_i s l t1 t2 d1 d2
      have hpos : 0 < nSm s := by obtain ⟨k, a, b, c, d, e⟩ := s; rw [nSm]; omega
      rw [nSms] at hn
      simp only [List.length_append] at hz
      exact ⟨hS' s (by omega) _ _ h1 (by omega), hL l (by omega) _ _ h2 (by omega)⟩
theorem pssOk {l : List Sm} {ts : List KT} {d : Nat} (h : PSs l ts d) (hz : ts.length ≤ 100000) : okSs l := (ps_ok _).2 l (Nat.le_refl _) ts d h hz
attribute [local irreducible] LOps LCode LStep LCalls Go.GL.Pure QThen QBlock RetPost LQ LAny LLate LLateOp
section
variable {B0 : Nat} {w0 : World}
/-- What the walk of Format asks of a program. -/
structure FmtOk (p : Pr) : Prop where
  vars : p.vars.length ≤ 1000000000
  arrays : p.arrays.length ≤ 1000000000
  size : ∀ a ∈ p.arrays, a.size < 4294967296
  funcs : p.funcs.length ≤ 1000000000
  params : ∀ f ∈ p.funcs, f.params.length ≤ 1000000000 ∧ f.locals.length ≤ 1000000000 ∧ nSms f.body ≤ 1000000000 ∧ okSs f.body
  len : (formatP p).length ≤ 100000000
theorem flat_take {A : Type} (f : A → List UInt8) {l : List A} {i : Nat} (h : i < l.length) : ((l.take (i + 1)).map f).flatten = ((l.take i).map f).flatten ++ f l[i] := by
  rw [List.take_succ_eq_append_getElem h, List.map_append, List.flatten_append]
  simp
theorem flat_mem {A : Type} (f : A → List UInt8) {l : List A} {i : Nat} (h : i < l.length) : ((l.take i).map f).flatten.length + (f l[i]).length ≤ ((l.map f).flatten).length := by
  have h1 := flat_take f h
  have h2 : (l.map f).flatten = ((l.take (i + 1)).map f).flatten ++ ((l.drop (i + 1)).map f).flatten := by rw [← List.flatten_append, ← List.map_append, List.take_append_drop]
  rw [h2, h1]
  simp only [List.length_append]
  omega
theorem hsub_two (a b : Nat × LObj) (H : Heap) : HSub (b :: H) (H ++ [a, b]) := ⟨[a], (List.perm_append_comm (l₁ := H) (l₂ := [a, b])).trans (List.Perm.trans (List.Perm.swap b a H) (List.Perm.cons b (List.perm_append_singleton a H).symm))⟩
theorem hsub_one (a : Nat × LObj) (H : Heap) : HSub (a :: H) (H ++ [a]) := ⟨[], by rw [List.append_nil]; exact List.perm_append_singleton a H⟩
theorem Format_spec (hG : GW B0 w0) (p : Pr) (hp : FmtOk p) : LCalls (KC B0 w0) 23 [encPr p] [] (Ret (str (formatP p))) := by
  obtain ⟨vars, arrays, funcs⟩ := p
  obtain ⟨p1, p2, p3, p4, p5, p6⟩ := hp
  simp only at p1 p2 p3 p4 p5
  have hlv : (vars.map str).length = vars.length := List.length_map _
  have hla : (arrays.map encAr).length = arrays.length := List.length_map _
  have hlf : (funcs.map encFn).length = funcs.length := List.length_map _
  unfold formatP at p6 ⊢
  simp only [List.length_append] at p6
  simp only
  obtain ⟨V, hV⟩ : ∃ V, V = (if vars = [] then [] else varsT vars) := ⟨_, rfl⟩
  rw [← hV] at p6 ⊢
  rw [encPr]
  simp only
  refine LCalls.intro Tryz.func23 rfl (n := 69) rfl rfl rfl ?_
  repeat first
    | refine LCode.seq ?_
    | refine LCode.region ?_
  refine LOps.step (S.box (cs := [.list (vars.map str), .list (arrays.map encAr), .list (funcs.map encFn)]) rfl fun b1 => ?_) rfl
  repeat first
    | refine LOps.nil ?_
    | refine LCode.seq ?_
    | refine LCode.region ?_
    | refine QThen.normal ?_
    | refine LOps.pure (Pure.as (lv := .atom _) rfl) rfl ?_
  refine LOps.step (S.alloc fun b3 => ?_) rfl
  repeat first
    | refine LOps.nil ?_
    | refine LCode.seq ?_
    | refine LCode.region ?_
    | refine QThen.normal ?_
    | refine LOps.pure (Pure.fieldH rfl) rfl ?_
    | refine LOps.pure (Pure.loadH (c := .list _) rfl (List.Mem.tail _ (List.Mem.head _)) rfl) rfl ?_
    | refine LOps.pure (Pure.llen rfl) rfl ?_
    | refine LOps.pure (Pure.gtr rfl rfl) rfl ?_
  refine LCode.weak (HSub.pick (Pick.there Pick.here) (HSub.refl _)) ?_
  have hB0 : BH b3 [] [(b3, .cells 87 [.atom (.pointer none), .atom (.slice none 0 0)])] := ⟨_, _, [], .inl rfl, BRow.nil, rfl⟩
  refine LCode.midC (A := Heap) (fun _ => [(1, ptr b1 0), (3, ptr b3 0)]) (fun H => (b1, .cells 27 [.list (vars.map str), .list (arrays.map encAr), .list (funcs.map encFn)]) :: H) (fun H => BH b3 V H) ?_ (fun H hB j hj => ?_)
  · refine LCode.cond rfl (fun h1 => ?_) (fun h1 => ?_)
    · have hne : vars ≠ [] := by
        rintro rfl
        exact absurd h1 (by decide)
      rw [if_neg hne] at hV
      have hVl : V.length = 4 + (Go.Lib.join vars comSp).length + 2 := by
        rw [hV]
        simp only [varsT, List.length_append, List.length_cons, List.length_nil]
      repeat first
        | refine LCode.region ?_
        | refine LOps.pure (Pure.fieldH rfl) rfl ?_
        | refine LOps.pure (Pure.loadH (c := .list _) rfl (List.Mem.head _) rfl) rfl ?_
      refine LOps.step (S.fn [_, _] rfl (joinS_spec comSp vars (by omega) (by omega)) ?_) rfl
      repeat first
        | refine LOps.pure (Pure.sadd rfl rfl (by simp only [List.length_append, List.length_cons, List.length_nil]; omega)) rfl ?_
      refine LOps.step (S.callBH [_, _] rfl (writeString_spec b3 [] (varsT vars) _ hB0 (by rw [← hV]; simp only [List.length_nil]; omega)) fun v H2 hB2 => ?_) rfl
      repeat first
        | refine LOps.nil ?_
        | refine QThen.normal ?_
      exact ⟨H2, by rw [hV]; exact hB2, ⟨rfl, rfl, trivial⟩, HSub.refl _, rfl⟩
    · have hne : vars = [] := by
        have := of_decide_eq_false h1
        rw [hlv] at this
        exact List.eq_nil_of_length_eq_zero (by omega)
      rw [if_pos hne] at hV
      repeat first
        | refine LCode.skip ?_
        | refine QThen.normal ?_
      exact ⟨_, by rw [hV]; exact hB0, ⟨rfl, rfl, trivial⟩, HSub.refl _, rfl⟩
  repeat first
    | refine LOps.nil ?_
    | refine LCode.seq ?_
    | refine LCode.region ?_
    | refine LCode.block ?_
    | refine QThen.normal ?_
    | refine LOps.pure (Pure.fieldH rfl) rfl ?_
    | refine LOps.pure (Pure.loadH (c := .list _) rfl (List.Mem.head _) rfl) rfl ?_
    | refine LOps.pure (Pure.llen rfl) rfl ?_
    | refine LOps.pure (Pure.mv (lv := .atom _) rfl) rfl ?_
  refine LCode.loopI (fun k ls H => ∃ i, i ≤ arrays.length ∧ k = arrays.length - i ∧ ls = [(1, ptr b1 0), (3, ptr b3 0), (19, .list (arrays.map encAr)), (20, int .i64 arrays.length), (21, int .i64 i)] ∧ ∃ H', H = (b1, .cells 27 [.list (vars.map str), .list (arrays.map encAr), .list (funcs.map encFn)]) :: H' ∧ BH b3 (V ++ ((arrays.take i).map fAr).flatten) H')
    ⟨_, _, _, ⟨0, Nat.zero_le _, rfl, rfl, _, rfl, by simpa using hB⟩, ⟨rfl, rfl, rfl, int_eq (by omega), rfl, trivial⟩, HSub.refl _⟩ ?_
  clear hB hB0
  rintro k ls H ⟨i, hi, rfl, rfl, H', rfl, hB⟩ j1 hj1
  repeat first
    | refine LOps.nil ?_
    | refine LCode.seq ?_
    | refine LCode.region ?_
    | refine QThen.normal ?_
    | refine LOps.pure (Pure.lss rfl rfl) rfl ?_
  refine LCode.cond rfl (fun hc => ?_) (fun hc => ?_)
  · have hlt : i < arrays.length := by have := of_decide_eq_true hc; omega
    have hm := flat_mem fAr hlt
    have hsz := p3 arrays[i] (List.getElem_mem hlt)
    have hta := flat_take fAr hlt
    repeat first
      | refine LCode.seq ?_
      | refine LCode.region ?_
      | refine LCode.skip ?_
      | refine LCode.block ?_
      | refine QThen.normal ?_
    refine LOps.pure (Pure.ixRef (el' := encAr arrays[i]) (cs := [_, _]) rfl rfl (by omega) (map_get _ _ _ hlt) rfl rfl) rfl ?_
    repeat first
      | refine LOps.pure (Pure.ldRefAgg (cs' := [_, _]) rfl rfl rfl) rfl ?_
    refine LOps.step (S.alloc fun b5 => ?_) rfl
    repeat first
      | refine LOps.nil ?_
      | refine QThen.normal ?_
      | refine LOps.step (S.store (cs' := [_, _]) rfl Pick.here rfl rfl rfl rfl rfl ?_) rfl
    generalize arrays[i] = a at hm hsz hta ⊢
    obtain ⟨nm, sz⟩ := a
    simp only at hsz
    have hdl := dec_len hsz
    rw [show fAr ⟨nm, sz⟩ = [97, 114, 114, 97, 121, 32] ++ nm ++ [91] ++ Go.Lib.decDigits sz ++ [93, 59, 10] from rfl] at hm hta
    simp only [List.length_append, List.length_cons, List.length_nil] at hm
    refine LCode.draw (m := 10) rfl [(b5, .cells 70 [str nm, int .i64 sz])] ?_
    refine LAny.take (i := 0) (by first | exact HSub.nil _ | exact HSub.refl _ | exact HSub.drop (HSub.refl _) | exact HSub.pick Pick.here (HSub.nil _) | exact HSub.pick (Pick.there Pick.here) (HSub.nil _) | exact HSub.pick (Pick.there (Pick.there Pick.here)) (HSub.nil _)) rfl (by kernel_rfl) (by kernel_rfl) (by kernel_rfl) rfl (Pure.fieldH rfl) ?_
    refine LAny.take (i := 1) (by first | exact HSub.nil _ | exact HSub.refl _ | exact HSub.drop (HSub.refl _) | exact HSub.pick Pick.here (HSub.nil _) | exact HSub.pick (Pick.there Pick.here) (HSub.nil _) | exact HSub.pick (Pick.there (Pick.there Pick.here)) (HSub.nil _)) rfl (by kernel_rfl) (by kernel_rfl) (by kernel_rfl) rfl (Pure.loadH (c := .atom _) rfl (List.Mem.head _) rfl) ?_
    refine LAny.take (i := 2) (by first | exact HSub.nil _ | exact HSub.refl _ | exact HSub.drop (HSub.refl _) | exact HSub.pick Pick.here (HSub.nil _) | exact HSub.pick (Pick.there Pick.here) (HSub.nil _) | exact HSub.pick (Pick.there (Pick.there Pick.here)) (HSub.nil _)) rfl (by kernel_rfl) (by kernel_rfl) (by kernel_rfl) rfl (Pure.sadd rfl rfl (by simp only [List.length_append, List.length_cons, List.length_nil]; omega)) ?_
    refine LAny.take (i := 3) (by first | exact HSub.nil _ | exact HSub.refl _ | exact HSub.drop (HSub.refl _) | exact HSub.pick Pick.here (HSub.nil _) | exact HSub.pick (Pick.there Pick.here) (HSub.nil _) | exact HSub.pick (Pick.there (Pick.there Pick.here)) (HSub.nil _)) rfl (by kernel_rfl) (by kernel_rfl) (by kernel_rfl) rfl (Pure.sadd rfl rfl (by simp only [List.length_append, List.length_cons, List.length_nil]; omega)) ?_
    refine LAny.take (i := 4) (by first | exact HSub.nil _ | exact HSub.refl _ | exact HSub.drop (HSub.refl _) | exact HSub.pick Pick.here (HSub.nil _) | exact HSub.pick (Pick.there Pick.here) (HSub.nil _) | exact HSub.pick (Pick.there (Pick.there Pick.here)) (HSub.nil _)) rfl (by kernel_rfl) (by kernel_rfl) (by kernel_rfl) rfl (Pure.fieldH rfl) ?_
    refine LAny.take (i := 5) (by first | exact HSub.nil _ | exact HSub.refl _ | exact HSub.drop (HSub.refl _) | exact HSub.pick Pick.here (HSub.nil _) | exact HSub.pick (Pick.there Pick.here) (HSub.nil _) | exact HSub.pick (Pick.there (Pick.there Pick.here)) (HSub.nil _)) rfl (by kernel_rfl) (by kernel_rfl) (by kernel_rfl) rfl (Pure.loadH (c := .atom _) rfl (List.Mem.head _) rfl) ?_
    refine LAny.late ?_ (HSub.pick Pick.here (HSub.nil _))
    refine LLate.one (i := 6) (by kernel_rfl) (LLateOp.step (H1 := []) rfl (.inl rfl) rfl (List.Perm.refl _) (HSub.pick Pick.here (HSub.nil _)) (S.fn [_] rfl (itoa_spec hG sz (by omega)) ?_))
    refine LLate.one (i := 7) (by kernel_rfl) (LLateOp.pureH rfl rfl (Pure.sadd rfl rfl (by simp only [List.length_append, List.length_cons, List.length_nil]; omega)) ?_)
    refine LLate.one (i := 8) (by kernel_rfl) (LLateOp.pureH rfl rfl (Pure.sadd rfl rfl (by simp only [List.length_append, List.length_cons, List.length_nil]; omega)) ?_)
    refine LLate.one (i := 9) (by kernel_rfl) (LLateOp.step (H1 := H') (F := [(b5, .cells 70 [str nm, int .i64 sz]), (b1, .cells 27 [.list (vars.map str), .list (arrays.map encAr), .list (funcs.map encFn)])]) rfl (.inl rfl) rfl (List.perm_append_comm (l₁ := [_, _])) (HSub.pick Pick.here (HSub.nil _)) (LStep.call (args := [_, _]) (writeString_spec b3 _ ([97, 114, 114, 97, 121, 32] ++ nm ++ [91] ++ Go.Lib.decDigits sz ++ [93, 59, 10]) H' hB (by simp only [List.length_append, List.length_cons, List.length_nil]; omega)) (fun v3 H3 h3 => ?_) (fun ch H3 h3 => ?_)))
    rotate_left
    · obtain ⟨⟨x, hx⟩, _⟩ := h3
      cases hx
    obtain ⟨_, hB3⟩ := h3
    refine LLate.done (by kernel_rfl) ?_
    repeat first
      | refine QThen.normal ?_
      | refine QBlock.normal ?_
    repeat first
      | refine LOps.nil ?_
      | refine LCode.region ?_
      | refine QThen.normal ?_
      | refine LOps.pure (Pure.mv (lv := .atom _) rfl) rfl ?_
      | refine LOps.pure (Pure.add rfl rfl (by omega)) rfl ?_
    exact ⟨_, _, _, by omega, ⟨i + 1, by omega, rfl, rfl, H3, rfl, by rw [hta]; simpa only [List.append_assoc] using hB3⟩, ⟨rfl, rfl, rfl, rfl, int_eq (by omega), trivial⟩, hsub_two _ _ _, hj1⟩
  have hi' : i = arrays.length := by have := of_decide_eq_false hc; omega
  subst hi'
  rw [List.take_length] at hB
  clear hi hc
  generalize hA : (arrays.map fAr).flatten = A at hB p6 ⊢
  repeat first
    | refine LOps.nil ?_
    | refine LCode.seq ?_
    | refine LCode.region ?_
    | refine LCode.exit ?_
    | refine LCode.block ?_
    | refine QThen.normal ?_
    | refine QThen.exit ?_
    | refine QBlock.hit ?_
    | refine LOps.pure (Pure.fieldH rfl) rfl ?_
    | refine LOps.pure (Pure.loadH (c := .list _) rfl (List.Mem.head _) rfl) rfl ?_
    | refine LOps.pure (Pure.llen rfl) rfl ?_
    | refine LOps.pure (Pure.mv (lv := .atom _) rfl) rfl ?_
  refine LCode.loopI (fun k ls H => ∃ i, i ≤ funcs.length ∧ k = funcs.length - i ∧ ls = [(3, ptr b3 0), (37, .list (funcs.map encFn)), (38, int .i64 funcs.length), (39, int .i64 i)] ∧ BH b3 (V ++ A ++ ((funcs.take i).map fFn).flatten) H)
    ⟨_, _, _, ⟨0, Nat.zero_le _, rfl, rfl, by simpa using hB⟩, ⟨rfl, rfl, int_eq (by omega), rfl, trivial⟩, HSub.drop (HSub.refl _)⟩ ?_
  clear hB
  rintro k ls H ⟨i, hi, rfl, rfl, hB⟩ j2 hj2
  repeat first
    | refine LOps.nil ?_
    | refine LCode.seq ?_
    | refine LCode.region ?_
    | refine QThen.normal ?_
    | refine LOps.pure (Pure.lss rfl rfl) rfl ?_
  refine LCode.cond rfl (fun hc => ?_) (fun hc => ?_)
  · have hlt : i < funcs.length := by have := of_decide_eq_true hc; omega
    have hm := flat_mem fFn hlt
    have hpf := p5 funcs[i] (List.getElem_mem hlt)
    have hta := flat_take fFn hlt
    repeat first
      | refine LCode.seq ?_
      | refine LCode.region ?_
      | refine LCode.skip ?_
      | refine LCode.block ?_
      | refine QThen.normal ?_
    refine LOps.pure (Pure.ixRef (el' := encFn funcs[i]) (cs := [_, _, _, _]) rfl rfl (by omega) (map_get _ _ _ hlt) rfl rfl) rfl ?_
    repeat first
      | refine LOps.pure (Pure.ldRefAgg (cs' := [_, _, _, _]) rfl rfl rfl) rfl ?_
    refine LOps.step (S.alloc fun b7 => ?_) rfl
    repeat first
      | refine LOps.nil ?_
      | refine LCode.seq ?_
      | refine QThen.normal ?_
      | refine LOps.step (S.store (cs' := [_, _, _, _]) rfl Pick.here rfl rfl rfl rfl rfl ?_) rfl
    generalize funcs[i] = a at hm hpf hta ⊢
    obtain ⟨nm, ps, lo, bd⟩ := a
    obtain ⟨q1, q2, q3, q4⟩ := hpf
    simp only at q1 q2 q3 q4
    have hll : (lo.map str).length = lo.length := List.length_map _
    rw [show fFn ⟨nm, ps, lo, bd⟩ = [102, 117, 110, 99, 32] ++ nm ++ [40] ++ Go.Lib.join ps comSp ++ [41, 32, 123, 10] ++ (if lo = [] then [] else [32, 32] ++ varsT lo) ++ fSs [32, 32] bd ++ [125, 10] from rfl] at hm hta
    simp only [List.length_append, List.length_cons, List.length_nil] at hm
    refine LCode.draw (m := 10) rfl [(b7, .cells 53 [str nm, .list (ps.map str), .list (lo.map str), .list (bd.map encS)])] ?_
    refine LAny.take (i := 0) (by first | exact HSub.nil _ | exact HSub.refl _ | exact HSub.drop (HSub.refl _) | exact HSub.pick Pick.here (HSub.nil _) | exact HSub.pick (Pick.there Pick.here) (HSub.nil _) | exact HSub.pick (Pick.there (Pick.there Pick.here)) (HSub.nil _)) rfl (by kernel_rfl) (by kernel_rfl) (by kernel_rfl) rfl (Pure.fieldH rfl) ?_
    refine LAny.take (i := 1) (by first | exact HSub.nil _ | exact HSub.refl _ | exact HSub.drop (HSub.refl _) | exact HSub.pick Pick.here (HSub.nil _) | exact HSub.pick (Pick.there Pick.here) (HSub.nil _) | exact HSub.pick (Pick.there (Pick.there Pick.here)) (HSub.nil _)) rfl (by kernel_rfl) (by kernel_rfl) (by kernel_rfl) rfl (Pure.loadH (c := .atom _) rfl (List.Mem.head _) rfl) ?_
    refine LAny.take (i := 2) (by first | exact HSub.nil _ | exact HSub.refl _ | exact HSub.drop (HSub.refl _) | exact HSub.pick Pick.here (HSub.nil _) | exact HSub.pick (Pick.there Pick.here) (HSub.nil _) | exact HSub.pick (Pick.there (Pick.there Pick.here)) (HSub.nil _)) rfl (by kernel_rfl) (by kernel_rfl) (by kernel_rfl) rfl (Pure.sadd rfl rfl (by simp only [List.length_append, List.length_cons, List.length_nil]; omega)) ?_
    refine LAny.take (i := 3) (by first | exact HSub.nil _ | exact HSub.refl _ | exact HSub.drop (HSub.refl _) | exact HSub.pick Pick.here (HSub.nil _) | exact HSub.pick (Pick.there Pick.here) (HSub.nil _) | exact HSub.pick (Pick.there (Pick.there Pick.here)) (HSub.nil _)) rfl (by kernel_rfl) (by kernel_rfl) (by kernel_rfl) rfl (Pure.sadd rfl rfl (by simp only [List.length_append, List.length_cons, List.length_nil]; omega)) ?_
    refine LAny.take (i := 4) (by first | exact HSub.nil _ | exact HSub.refl _ | exact HSub.drop (HSub.refl _) | exact HSub.pick Pick.here (HSub.nil _) | exact HSub.pick (Pick.there Pick.here) (HSub.nil _) | exact HSub.pick (Pick.there (Pick.there Pick.here)) (HSub.nil _)) rfl (by kernel_rfl) (by kernel_rfl) (by kernel_rfl) rfl (Pure.fieldH rfl) ?_
    refine LAny.take (i := 5) (by first | exact HSub.nil _ | exact HSub.refl _ | exact HSub.drop (HSub.refl _) | exact HSub.pick Pick.here (HSub.nil _) | exact HSub.pick (Pick.there Pick.here) (HSub.nil _) | exact HSub.pick (Pick.there (Pick.there Pick.here)) (HSub.nil _)) rfl (by kernel_rfl) (by kernel_rfl) (by kernel_rfl) rfl (Pure.loadH (c := .list _) rfl (List.Mem.head _) rfl) ?_
    refine LAny.late ?_ (HSub.pick Pick.here (HSub.nil _))
    refine LLate.one (i := 6) (by kernel_rfl) (LLateOp.step (H1 := []) rfl (.inl rfl) rfl (List.Perm.refl _) (HSub.pick Pick.here (HSub.nil _)) (S.fn [_, _] rfl (joinS_spec comSp ps q1 (by omega)) ?_))
    refine LLate.one (i := 7) (by kernel_rfl) (LLateOp.pureH rfl rfl (Pure.sadd rfl rfl (by simp only [List.length_append, List.length_cons, List.length_nil]; omega)) ?_)
    refine LLate.one (i := 8) (by kernel_rfl) (LLateOp.pureH rfl rfl (Pure.sadd rfl rfl (by simp only [List.length_append, List.length_cons, List.length_nil]; omega)) ?_)
    refine LLate.one (i := 9) (by kernel_rfl) (LLateOp.step (H1 := H) (F := [(b7, .cells 53 [str nm, .list (ps.map str), .list (lo.map str), .list (bd.map encS)])]) rfl (.inl rfl) rfl (List.perm_append_singleton _ _).symm (HSub.refl _) (LStep.call (args := [_, _]) (writeString_spec b3 _ ([102, 117, 110, 99, 32] ++ nm ++ [40] ++ Go.Lib.join ps comSp ++ [41, 32, 123, 10]) H hB (by simp only [List.length_append, List.length_cons, List.length_nil]; omega)) (fun v3 H3 h3 => ?_) (fun ch H3 h3 => ?_)))
    rotate_left
    · obtain ⟨⟨x, hx⟩, _⟩ := h3
      cases hx
    obtain ⟨_, hB3⟩ := h3
    refine LLate.done (by kernel_rfl) ?_
    repeat first
      | refine QThen.normal ?_
    refine LCode.weak (H' := (b7, .cells 53 [str nm, .list (ps.map str), .list (lo.map str), .list (bd.map encS)]) :: H3) (hsub_one _ _) ?_
    repeat first
      | refine LOps.nil ?_
      | refine LCode.seq ?_
      | refine LCode.region ?_
      | refine QThen.normal ?_
      | refine LOps.pure (Pure.fieldH rfl) rfl ?_
      | refine LOps.pure (Pure.loadH (c := .list _) rfl (List.Mem.head _) rfl) rfl ?_
      | refine LOps.pure (Pure.llen rfl) rfl ?_
      | refine LOps.pure (Pure.gtr rfl rfl) rfl ?_
    refine LCode.cond rfl (fun h1 => ?_) (fun h1 => ?_)
    · have hne : lo ≠ [] := by
        rintro rfl
        exact absurd h1 (by decide)
      rw [if_neg hne] at hm hta
      rw [show varsT lo = [118, 97, 114, 32] ++ Go.Lib.join lo comSp ++ [59, 10] from rfl] at hm hta
      simp only [List.length_append, List.length_cons, List.length_nil] at hm
      repeat first
        | refine LCode.region ?_
        | refine LOps.pure (Pure.fieldH rfl) rfl ?_
        | refine LOps.pure (Pure.loadH (c := .list _) rfl (List.Mem.head _) rfl) rfl ?_
      refine LOps.step (S.fn [_, _] rfl (joinS_spec comSp lo q2 (by omega)) ?_) rfl
      repeat first
        | refine LOps.pure (Pure.sadd rfl rfl (by simp only [List.length_append, List.length_cons, List.length_nil]; omega)) rfl ?_
      refine LOps.step (S.callBH [_, _] rfl (writeString_spec b3 _ ([32, 32, 118, 97, 114, 32] ++ Go.Lib.join lo comSp ++ [59, 10]) H3 hB3 (by simp only [List.length_append, List.length_cons, List.length_nil]; omega)) fun v4 H4 hB4 => ?_) rfl
      repeat first
        | refine LOps.nil ?_
        | refine LCode.seq ?_
        | refine LCode.region ?_
        | refine QThen.normal ?_
        | refine LOps.pure (Pure.fieldH rfl) rfl ?_
        | refine LOps.pure (Pure.loadH (c := .list _) rfl (List.Mem.head _) rfl) rfl ?_
      refine LOps.step (S.callBH [_, _, _] rfl (lines_spec hG _ bd [32, 32] _ b3 H4 (Nat.le_refl _) q3 q4 (by simp only [List.length_append, List.length_cons, List.length_nil]; omega) hB4) fun v5 H5 hB5 => ?_) rfl
      repeat first
        | refine LOps.nil ?_
        | refine LCode.region ?_
        | refine QThen.normal ?_
      refine LOps.step (S.callBH [_, _] rfl (writeString_spec b3 _ [125, 10] H5 hB5 (by simp only [List.length_append, List.length_cons, List.length_nil]; omega)) fun v6 H6 hB6 => ?_) rfl
      repeat first
        | refine LOps.nil ?_
        | refine LCode.region ?_
        | refine QThen.normal ?_
        | refine QBlock.normal ?_
        | refine LOps.pure (Pure.mv (lv := .atom _) rfl) rfl ?_
        | refine LOps.pure (Pure.add rfl rfl (by omega)) rfl ?_
      exact ⟨_, _, _, by omega, ⟨i + 1, by omega, rfl, rfl, by rw [hta]; simpa only [List.append_assoc, List.cons_append, List.nil_append] using hB6⟩, ⟨rfl, rfl, rfl, int_eq (by omega), trivial⟩, HSub.drop (HSub.refl _), hj2⟩
    · have hne : lo = [] := by
        have := of_decide_eq_false h1
        rw [hll] at this
        exact List.eq_nil_of_length_eq_zero (by omega)
      rw [if_pos hne] at hm hta
      simp only [List.length_append, List.length_cons, List.length_nil] at hm
      repeat first
        | refine LCode.seq ?_
        | refine LCode.region ?_
        | refine LCode.skip ?_
        | refine QThen.normal ?_
        | refine LOps.pure (Pure.fieldH rfl) rfl ?_
        | refine LOps.pure (Pure.loadH (c := .list _) rfl (List.Mem.head _) rfl) rfl ?_
      refine LOps.step (S.callBH [_, _, _] rfl (lines_spec hG _ bd [32, 32] _ b3 H3 (Nat.le_refl _) q3 q4 (by simp only [List.length_append, List.length_cons, List.length_nil]; omega) hB3) fun v5 H5 hB5 => ?_) rfl
      repeat first
        | refine LOps.nil ?_
        | refine LCode.region ?_
        | refine QThen.normal ?_
      refine LOps.step (S.callBH [_, _] rfl (writeString_spec b3 _ [125, 10] H5 hB5 (by simp only [List.length_append, List.length_cons, List.length_nil]; omega)) fun v6 H6 hB6 => ?_) rfl
      repeat first
        | refine LOps.nil ?_
        | refine LCode.region ?_
        | refine QThen.normal ?_
        | refine QBlock.normal ?_
        | refine LOps.pure (Pure.mv (lv := .atom _) rfl) rfl ?_
        | refine LOps.pure (Pure.add rfl rfl (by omega)) rfl ?_
      exact ⟨_, _, _, by omega, ⟨i + 1, by omega, rfl, rfl, by rw [hta]; simpa only [List.append_assoc, List.cons_append, List.nil_append] using hB6⟩, ⟨rfl, rfl, rfl, int_eq (by omega), trivial⟩, HSub.drop (HSub.refl _), hj2⟩
  · have hi' : i = funcs.length := by have := of_decide_eq_false hc; omega
    subst hi'
    rw [List.take_length] at hB
    repeat first
      | refine LCode.seq ?_
      | refine LCode.region ?_
      | refine LCode.exit ?_
      | refine QThen.normal ?_
      | refine QThen.exit ?_
      | refine QBlock.hit ?_
    refine LOps.step (S.callH (H1 := H) (F := []) [_] rfl (by simp) (string_spec b3 _ H hB (by simp only [List.length_append, List.length_cons, List.length_nil]; omega)) (fun x H' h => ?_) (fun ch H' h => ?_)) rfl
    · obtain ⟨hx, hH⟩ := h
      cases hx
      repeat first
        | refine LOps.nil ?_
        | refine LCode.ret ?_
        | refine QThen.normal ?_
        | refine LOps.pure (Pure.as (lv := .atom _) rfl) rfl ?_
      exact retRet (hj2.trans (hj1.trans hj)) (AllRes.cons (ResIs.tmp (v := .atom _) rfl (LV.Sub.refl _)) AllRes.nil) rfl
    · cases h.1
end
end Go.Proofs.YtfodkbchknknjaaGreatDoor
namespace Go.Proofs.YtfodkbchknknjaaGreatDoor
open Go.GL Go.RowKit Go.Stele
set_option maxRecDepth 100000
set_option maxHeartbeats 4000000
attribute [local irreducible] LOps LCode LStep LCalls Go.GL.Pure QThen QBlock RetPost LQ LAny LLate LLateOp LCodeR LOpsW RetPostM LIter LYield
def lvs : List (List (List UInt8)) := [lvOps 0, lvOps 1, lvOps 2, lvOps 3, lvOps 4, lvOps 5]
theorem lvs_at (q : Nat) (h : q < 6) : backArgs lvs q = [int .i64 (((5 - q : Nat) : Int)), .list ((lvOps (5 - q)).map str)] := by
  have : q = 0 ∨ q = 1 ∨ q = 2 ∨ q = 3 ∨ q = 4 ∨ q = 5 := by omega
  rcases this with rfl | rfl | rfl | rfl | rfl | rfl <;> rfl
theorem RetPostM.mkRet {C : Ctx} {n : Nat} {e : Env} {H H' : Heap} {R : LRes → Heap → Prop} {rs : List ResultVar} {vs : List LV} {D : Nat} (hd : e.ds = [{ target := .collected D, args := #[] }]) (F : Heap) (hp : H.Perm ((D, .obj (.deferred (some []))) :: F)) (h : AllRes C n e F rs vs) (hH : HSub H' F) (hR : R (.ret (resLV vs)) H') :
    RetPostM C n rs R .ret e H := by
  unfold RetPostM
  exact ⟨D, F, hd, hp, vs, H', h, hH, hR⟩
theorem RetPostM.mkPanic {C : Ctx} {n : Nat} {e : Env} {H H' : Heap} {R : LRes → Heap → Prop} {rs : List ResultVar} {ch : List PanicEntry} {D : Nat} (hd : e.ds = [{ target := .collected D, args := #[] }]) (F : Heap) (hp : H.Perm ((D, .obj (.deferred (some []))) :: F)) (hH : HSub H' F) (hR : R (.panic ch) H') :
    RetPostM C n rs R (.panic ch) e H := by
  unfold RetPostM
  exact .inr ⟨D, F, hd, hp, H', hH, hR⟩
section
variable {B0 : Nat} {w0 : World}
theorem expr_spec (sb : Nat) (T : List Tok) (f : Nat) (hC : CloC B0 w0 sb T f) : ExprC B0 w0 sb T f := by
  intro i op r hi ho hr
  refine LCalls.introM Tryz.func144 rfl (n := 20) rfl rfl rfl ?_
  repeat first
    | refine LCode.seq ?_
    | refine LCode.region ?_
  refine LOps.step (S.box rfl fun b1 => ?_) rfl
  refine LOps.step (S.alloc fun b2 => ?_) rfl
  repeat first
    | refine LOps.nil ?_
    | refine LCode.seq ?_
    | refine LCode.region ?_
    | refine QThen.normal ?_
    | refine LOps.pure (Pure.loadH (c := .atom _) rfl (List.Mem.tail _ (List.Mem.head _)) rfl) rfl ?_
    | refine LOps.pure (Pure.makeFunc rfl rfl) rfl ?_
  refine LOps.step (S.alloc fun b3 => ?_) rfl
  repeat first
    | refine LOps.nil ?_
    | refine LCode.seq ?_
    | refine LCode.region ?_
    | refine QThen.normal ?_
    | refine LOps.step (S.store (cs' := [_]) rfl Pick.here rfl rfl rfl rfl rfl ?_) rfl
  refine LOps.step (S.fn [] rfl levels_spec ?_) rfl
  refine LOps.step (S.call0 [_] rfl (backward_spec levelsLV) (fun v H' h => ?_) (fun ch H' h => ?_)) rfl
  · obtain ⟨bB, h, rfl⟩ := h
    cases h
    repeat first
      | refine LOps.nil ?_
      | refine LCode.block ?_
      | refine QThen.normal ?_
    have hexit : ∀ (first caps : Array Value) (fn : FuncId) (Hclo F : Heap), Clo sb 0 fn first caps Hclo → TEnter Tryz.prog fn := fun _ _ _ _ _ h => h.enter
    refine LCode.rangeFunc (g := .tmp 9) (ps := [10, 11]) (caps := #[.pointer (some ⟨bB, 0, none⟩)]) (by rfl) lvs.length (backArgs lvs)
      [(b3, .cells 148 [.atom (.func (.func 164) #[.pointer (some ⟨sb, 0, none⟩)] #[])]), (b2, .cells 38 [str [], int .u32 0, str [], nilSlice]), (b1, .cells 59 [ptr sb 0]), srcH sb T i op] [(bB, .cells 159 [.list levelsLV])]
      (List.perm_append_singleton _ _).symm (iter_spec bB lvs (by decide)) (fun k hk => by rw [lvs_at k hk]; rfl) (by rfl)
      (fun q Hq => ∃ (fn : FuncId) (first caps : Array Value) (Hclo : Heap), Clo sb (6 - q) fn first caps Hclo ∧ Hq = (b3, .cells 148 [.atom (.func (.func fn) first caps)]) :: (b2, .cells 38 [str [], int .u32 0, str [], nilSlice]) :: (b1, .cells 59 [ptr sb 0]) :: srcH sb T i op :: Hclo)
      ⟨_, _, _, [], .un, rfl⟩ ?_ ?_
    · rintro q Hq hq ⟨fn, first, caps, Hclo, hclo, rfl⟩ j hjd hja l D o oD
      have hq6 : q < 6 := hq
      have hj1 : j.s 1 = ptr b1 0 := hja 1 _ rfl
      have hj3 : j.s 3 = ptr b3 0 := hja 3 _ rfl
      rw [lvs_at q hq6, ← Env.slots_self (e := j) (l := [(1, ptr b1 0), (3, ptr b3 0)]) (by
        intro p hp
        simp only [List.mem_cons, List.not_mem_nil, or_false] at hp
        rcases hp with rfl | rfl
        · exact hj1
        · exact hj3)]
      refine LCodeR.seq ?_
      refine LCodeR.region rfl ?_
      repeat first
        | refine LOps.nil ?_
        | refine QThen.normal ?_
        | refine LOps.pure (Pure.as (lv := .atom _) rfl) rfl ?_
      refine LCodeR.region rfl ?_
      repeat first
        | refine LOps.nil ?_
        | refine QThen.normal ?_
        | refine LOps.pure (Pure.as (lv := .list _) rfl) rfl ?_
      refine ⟨hjd, _, rfl, fun o' => ?_⟩
      refine LCodeR.block ?_
      refine LCodeR.region rfl ?_
      repeat first
        | refine LOps.pure (Pure.loadH (c := .atom _) rfl (List.Mem.tail _ (List.Mem.tail _ (List.Mem.head _))) rfl) rfl ?_
        | refine LOps.pure (Pure.loadH (c := .atom _) rfl (List.Mem.tail _ (List.Mem.tail _ (List.Mem.tail _ (List.Mem.tail _ (List.Mem.head _))))) rfl) rfl ?_
        | refine LOps.pure (Pure.mv (lv := .list _) rfl) rfl ?_
        | refine LOps.pure (Pure.mv (lv := .atom _) rfl) rfl ?_
        | refine LOps.pure (Pure.eql rfl rfl) rfl ?_
      refine LOps.step (S.call0 [_, _, _, _] rfl (binary_spec sb ((lvOps (5 - q)).map str) (decide (((5 - q : Nat) : Int) = 2)) fn first caps) (fun v H' h => ?_) (fun ch H' h => ?_)) rfl
      · obtain ⟨bo, bs, bp, bn, h, rfl⟩ := h
        cases h
        repeat first
          | refine LOps.nil ?_
          | refine QThen.normal ?_
          | refine LOps.step (S.store (cs' := [_]) rfl (Pick.there (Pick.there (Pick.there (Pick.there (Pick.there (Pick.there Pick.here)))))) rfl rfl rfl rfl rfl ?_) rfl
        refine ⟨(b3, .cells 148 [.atom (.func (.func 176) #[] #[.pointer (some ⟨bo, 0, none⟩), .pointer (some ⟨bs, 0, none⟩), .pointer (some ⟨bp, 0, none⟩), .pointer (some ⟨bn, 0, none⟩)])]) :: (b2, .cells 38 [str [], int .u32 0, str [], nilSlice]) :: (b1, .cells 59 [ptr sb 0]) :: srcH sb T i op ::
          (bo, .cells 148 [.atom (.func (.func fn) first caps)]) :: (bs, .cells 59 [ptr sb 0]) :: (bp, .cells 23 [.list ((lvOps (5 - q)).map str)]) :: (bn, .cells 4 [bool (decide (((5 - q : Nat) : Int) = 2))]) :: Hclo, ?_, _, _, _, _, ?_, rfl⟩
        · exact HSub.pick (Pick.there (Pick.there (Pick.there (Pick.there (Pick.there Pick.here))))) (HSub.pick (Pick.there (Pick.there (Pick.there (Pick.there (Pick.there Pick.here))))) (HSub.pick Pick.here (HSub.pick (Pick.there (Pick.there (Pick.there (Pick.there Pick.here)))) (HSub.pick (Pick.there (Pick.there (Pick.there (Pick.there Pick.here)))) (HSub.pick (Pick.there (Pick.there (Pick.there (Pick.there Pick.here)))) (HSub.refl _))))))
        · have e1 : 6 - (q + 1) = 5 - q := by omega
          have e2 : 6 - q = 5 - q + 1 := by omega
          rw [e1]
          rw [e2] at hclo
          exact .bin hclo
      · obtain ⟨_, _, _, _, h, _⟩ := h
        cases h
    · rintro D H' ⟨fn, first, caps, Hclo, hclo, rfl⟩
      have hclo0 : Clo sb 0 fn first caps Hclo := hclo
      have hen := hexit _ _ _ _ [] hclo0
      repeat first
        | refine LCode.seq ?_
        | refine QThen.normal ?_
        | refine QBlock.normal ?_
      refine LCode.weak (H' := (D, .obj (.deferred (some []))) :: (b3, .cells 148 [.atom (.func (.func fn) first caps)]) :: (b2, .cells 38 [str [], int .u32 0, str [], nilSlice]) :: (b1, .cells 59 [ptr sb 0]) :: srcH sb T i op :: Hclo) ⟨[(bB, .cells 159 [.list levelsLV])], List.Perm.refl _⟩ ?_
      repeat first
        | refine LCode.region ?_
        | refine LOps.pure (Pure.loadH (c := .atom _) rfl (List.Mem.tail _ (List.Mem.head _)) rfl) rfl ?_
      refine LOps.step (S.callClo (F := [(D, .obj (.deferred (some []))), (b3, .cells 148 [.atom (.func (.func fn) first caps)]), (b2, .cells 38 [str [], int .u32 0, str [], nilSlice]), (b1, .cells 59 [ptr sb 0])]) (Hc := Hclo) rfl (Pick.there (Pick.there (Pick.there (Pick.there Pick.here)))) (hC _ _ _ _ _ _ _ r hclo0 hi ho hr) (fun v i1 op1 h1 => ?_) (fun l er i1 op1 h1 e' he' => ?_)) rfl
      · repeat first
          | refine LOps.nil ?_
          | refine LCode.ret ?_
          | refine QThen.normal ?_
          | refine LOps.step (S.store (cs' := [_, _, _, _]) rfl (Pick.there (Pick.there (Pick.there Pick.here))) rfl rfl rfl rfl rfl ?_) rfl
        exact RetPostM.mkRet rfl _ (Pick.there (Pick.there Pick.here)) (AllRes.cons (ResIs.cellAgg rfl (List.Mem.head _) rfl (LV.Sub.refl _)) AllRes.nil) (HSub.pick (Pick.there Pick.here) (HSub.nil _)) (by rw [h1]; exact ⟨rfl, rfl⟩)
      · repeat first
          | refine QThen.panic ?_
        refine RetPostM.mkPanic (he'.trans rfl) (srcH sb T i1 op1 :: (Hclo ++ [(b3, .cells 148 [.atom (.func (.func fn) first caps)]), (b2, .cells 38 [str [], int .u32 0, str [], nilSlice]), (b1, .cells 59 [ptr sb 0])])) ?_ (HSub.pick Pick.here (HSub.nil _)) (by rw [h1]; exact ⟨rfl, i1, op1, rfl⟩)
        exact (List.Perm.cons _ List.perm_middle).trans (List.Perm.swap _ _ _)
  · obtain ⟨bB, h, _⟩ := h
    cases h
theorem all_spec (hG : GW B0 w0) (sb : Nat) (T : List Tok) (hT : TOK T) : ∀ f : Nat, CloC B0 w0 sb T f ∧ ExprC B0 w0 sb T f := by
  intro f
  induction f using Nat.strongRecOn with
  | _ f ih =>
    have hC : CloC B0 w0 sb T f := by
      intro k fn first caps Hc i op r hclo hi ho hr
      cases hclo with
      | un =>
        obtain ⟨f, rfl⟩ : ∃ g, f = g + 1 := by
          cases f with
          | zero => rw [eLev] at hr; cases hr
          | succ g => exact ⟨g, rfl⟩
        rw [eLev, if_pos rfl] at hr
        refine LCalls.mono (unary_spec hG sb T hT f (fun g hg => (ih g (by omega)).2) i op r hi ho hr) ?_
        intro r' H h
        cases r with
        | ok v i' op' => exact h
        | err l e => exact h
      | bin h => exact bin_spec hG sb T hT f (fun g hg => (ih g hg).1) _ _ _ _ _ _ _ _ _ h i op r hi ho hr
    exact ⟨hC, expr_spec sb T f hC⟩
end
end Go.Proofs.YtfodkbchknknjaaGreatDoor
namespace Go.Proofs.YtfodkbchknknjaaGreatDoor
open Go.GL Go.RowKit Go.Stele
set_option maxRecDepth 100000
set_option maxHeartbeats 4000000
attribute [local irreducible] LOps LCode LStep LCalls Go.GL.Pure QThen QBlock RetPost LQ LAny LLate LLateOp
def encSL (l : List Sm) : LV := .list (l.map encS)
section
variable {B0 : Nat} {w0 : World}
def BlockC (B0 : Nat) (w0 : World) (sb : Nat) (T : List Tok) (f : Nat) : Prop :=
  ∀ i op r, i ≤ T.length → op ≤ 100 → sBlock T f i op = some r → LCalls (KC B0 w0) 145 [ptr sb 0] [srcH sb T i op] (PostP sb T encSL r)
def StmtsC (B0 : Nat) (w0 : World) (sb : Nat) (T : List Tok) (f : Nat) : Prop :=
  ∀ i op r, i ≤ T.length → op ≤ 100 → sStmts T f [] i op = some r → LCalls (KC B0 w0) 100 [ptr sb 0] [srcH sb T i op] (PostP sb T encSL r)
def StmtC (B0 : Nat) (w0 : World) (sb : Nat) (T : List Tok) (f : Nat) : Prop :=
  ∀ i op r, i ≤ T.length → op ≤ 100 → sStmt T f i op = some r → LCalls (KC B0 w0) 124 [ptr sb 0] [srcH sb T i op] (PostP sb T encS r)
def SimpleC (B0 : Nat) (w0 : World) (sb : Nat) (T : List Tok) (f : Nat) : Prop :=
  ∀ i op r, i ≤ T.length → op ≤ 100 → sSimple T f i op = some r → LCalls (KC B0 w0) 146 [ptr sb 0] [srcH sb T i op] (PostP sb T encS r)
theorem block_spec (sb : Nat) (T : List Tok) (hT : TOK T) (f : Nat) (hS : StmtsC B0 w0 sb T f) : BlockC B0 w0 sb T (f + 1) := by
  intro i op r hi ho hr
  have hl := hT.len
  rw [sBlock] at hr
  refine LCalls.intro Tryz.func145 rfl (n := 11) rfl rfl rfl ?_
  repeat first
    | refine LOps.nil ?_
    | refine LCode.seq ?_
    | refine LCode.region ?_
    | refine QThen.normal ?_
    | refine LOps.pure (Pure.as (lv := .atom _) rfl) rfl ?_
    | refine LOps.pure (Pure.mv (lv := .atom _) rfl) rfl ?_
  refine LOps.step (S.callP [_, _] rfl Pick.here (begin_spec sb T i op [123] hl (by omega) (by omega)) (fun v i1 op1 h1 => ?_) (fun l er i1 op1 h1 e9 he9 => ?_)) rfl
  rotate_left
  · rw [h1, obind_err] at hr
    repeat first | refine QThen.panic ?_ | refine QBlock.panic ?_
    exact panP (by first | exact he9.trans rfl | exact he9.trans hj | exact he9.trans (hj2.trans hj)) (by cases hr; rfl) (HSub.pick Pick.here (HSub.nil _))
  rw [h1, obind_ok] at hr
  obtain ⟨rfl, rfl, ho1, hi1⟩ := sBegin_ok h1
  repeat first
    | refine LOps.nil ?_
    | refine LCode.seq ?_
    | refine LCode.region ?_
    | refine QThen.normal ?_
    | refine LOps.pure (Pure.mv (lv := .atom _) rfl) rfl ?_
  obtain ⟨r1, hr1⟩ := obind_is hr
  refine LOps.step (S.callP [_] rfl Pick.here (hS _ _ r1 (by omega) (by omega) hr1) (fun l i2 op2 h2 => ?_) (fun l er i2 op2 h2 e9 he9 => ?_)) rfl
  rotate_left
  · rw [hr1, h2, obind_err] at hr
    repeat first | refine QThen.panic ?_ | refine QBlock.panic ?_
    exact panP (by first | exact he9.trans rfl | exact he9.trans hj | exact he9.trans (hj2.trans hj)) (by cases hr; rfl) (HSub.pick Pick.here (HSub.nil _))
  rw [hr1, h2, obind_ok] at hr
  obtain ⟨g1, _, g3, rfl⟩ := (st_good T f).2.1 _ _ _ _ (hr1.trans (congrArg some h2))
  have g4 := g3 (by omega)
  repeat first
    | refine LOps.nil ?_
    | refine LCode.seq ?_
    | refine LCode.region ?_
    | refine QThen.normal ?_
    | refine LOps.pure (Pure.as (lv := .list _) rfl) rfl ?_
    | refine LOps.pure (Pure.mv (lv := .atom _) rfl) rfl ?_
  refine LOps.step (S.callP [_, _] rfl Pick.here (end_spec sb T i2 (op + 1) [125] hl (by omega) (by omega) (by omega)) (fun u i3 op3 h3 => ?_) (fun l er i3 op3 h3 e9 he9 => ?_)) rfl
  rotate_left
  · rw [h3, obind_err] at hr
    repeat first | refine QThen.panic ?_ | refine QBlock.panic ?_
    exact panP (by first | exact he9.trans rfl | exact he9.trans hj | exact he9.trans (hj2.trans hj)) (by cases hr; rfl) (HSub.pick Pick.here (HSub.nil _))
  rw [h3, obind_ok] at hr
  repeat first
    | refine LOps.nil ?_
    | refine LCode.seq ?_
    | refine LCode.region ?_
    | refine LCode.ret ?_
    | refine QThen.normal ?_
    | refine LOps.pure (Pure.as (lv := .list _) rfl) rfl ?_
    | refine LOps.pure (Pure.mv (lv := .list _) rfl) rfl ?_
  exact retP (v := l) rfl (AllRes.cons (ResIs.tmp (v := .list _) rfl (LV.Sub.refl _)) AllRes.nil) (by cases hr; rfl) rfl (HSub.refl _)
theorem stmts_spec (sb : Nat) (T : List Tok) (hT : TOK T) (f : Nat) (hS : ∀ g, g < f → StmtC B0 w0 sb T g) : StmtsC B0 w0 sb T f := by
  intro i op r hi ho hr
  have hl := hT.len
  refine LCalls.intro Tryz.func100 rfl (n := 14) rfl rfl rfl ?_
  repeat first
    | refine LOps.nil ?_
    | refine LCode.seq ?_
    | refine LCode.region ?_
    | refine LCode.block ?_
    | refine QThen.normal ?_
    | refine LOps.pure (Pure.as (lv := .atom _) rfl) rfl ?_
  refine LCode.loopI (fun k ls H => ∃ (v : LV) (l : List Sm) (i2 : Nat) (Ha : Heap), k ≤ f ∧ ls = [(0, ptr sb 0), (3, v)] ∧ H = srcH sb T i2 op :: Ha ∧ Acc 6 v (l.map encS) Ha [] ∧ i2 ≤ T.length ∧ l.length ≤ i2 + 1 ∧ sStmts T k l i2 op = some r)
    ⟨f, _, srcH sb T i op :: [], ⟨nilSlice, [], i, _, Nat.le_refl _, rfl, rfl, Acc.nil, by omega, by simp, hr⟩, ⟨rfl, rfl, trivial⟩, HSub.refl _⟩ ?_
  rintro k ls H ⟨v, l, i2, Ha, hkf, rfl, rfl, hacc, hi2, hll, hI⟩ j hj
  obtain ⟨k, rfl⟩ : ∃ k', k = k' + 1 := by
    cases k with
    | zero => rw [sStmts] at hI; cases hI
    | succ k => exact ⟨k, rfl⟩
  rw [sStmts] at hI
  repeat first
    | refine LCode.seq ?_
    | refine LCode.region ?_
    | refine LOps.pure (Pure.mv (lv := .atom _) rfl) rfl ?_
  refine LOps.step (S.lit [_] rfl (elemsOk.cons rfl rfl elemsOk.nil) rfl rfl rfl ?_) rfl
  refine LOps.step (S.fnH [_, _] rfl Pick.here (is_spec sb T i2 op [[125]] hl (by omega) (by simp)) ?_) rfl
  repeat first
    | refine LOps.nil ?_
    | refine QThen.normal ?_
    | refine LOps.pure (Pure.not rfl) rfl ?_
  refine LCode.cond rfl (fun hc => ?_) (fun hc => ?_)
  · have hc' : isTok T i2 [[125]] = false := by simpa using hc
    rw [if_neg (by rw [hc']; decide)] at hI
    repeat first
      | refine LCode.region ?_
      | refine LCode.skip ?_
      | refine LCode.block ?_
      | refine QThen.normal ?_
    refine LOps.pure (Pure.mv (lv := v) rfl) rfl ?_
    repeat first
      | refine LOps.pure (Pure.mv (lv := .atom _) rfl) rfl ?_
    obtain ⟨r2, hr2⟩ := obind_is hI
    refine LOps.step (S.callP [_] rfl Pick.here (hS k (by omega) _ _ r2 (by omega) (by omega) hr2) (fun e2 i4 op4 h4 => ?_) (fun l er i4 op4 h4 e9 he9 => ?_)) rfl
    rotate_left
    · rw [hr2, h4, obind_err] at hI
      repeat first | refine QThen.panic ?_ | refine QBlock.panic ?_
      exact panP (by first | exact he9.trans rfl | exact he9.trans hj | exact he9.trans (hj2.trans hj)) (by cases hI; rfl) (HSub.pick Pick.here (HSub.nil _))
    rw [hr2, h4, obind_ok] at hI
    obtain ⟨g1, g2, g3, rfl⟩ := (st_good T k).2.2.1 _ _ _ (hr2.trans (congrArg some h4))
    have g5 := g3 (by omega)
    have g6 := g2 rfl
    refine LOps.step (S.lit [_] rfl (elemsOk.cons rfl rfl elemsOk.nil) rfl rfl rfl ?_) rfl
    refine LOps.step (S.acc1 rfl hacc rfl (by simp; rfl) rfl (by simp; omega) fun v' H' hacc' => ?_) rfl
    refine LOps.pure (Pure.as (lv := v') rfl) rfl ?_
    repeat first
      | refine LOps.nil ?_
      | refine QThen.normal ?_
      | refine QBlock.normal ?_
    exact ⟨k, _, _, by omega, ⟨v', l ++ [e2], i4, H', by omega, rfl, rfl, by rw [List.map_append]; exact hacc', by omega, by simp; omega, hI⟩, ⟨rfl, rfl, trivial⟩, HSub.refl _, hj⟩
  · have hc' : isTok T i2 [[125]] = true := by simpa using hc
    rw [if_pos hc'] at hI
    repeat first
      | refine LCode.seq ?_
      | refine LCode.region ?_
      | refine LCode.exit ?_
      | refine QThen.normal ?_
      | refine QThen.exit ?_
      | refine QBlock.hit ?_
    refine LOps.pure (Pure.mv (lv := v) rfl) rfl ?_
    refine LOps.pure (Pure.as (lv := v) rfl) rfl ?_
    repeat first
      | refine LOps.nil ?_
      | refine LCode.ret ?_
      | refine QThen.normal ?_
    exact retP (v := l) hj (AllRes.cons (ResIs.tmp (v := v) rfl hacc.sub) AllRes.nil) (by cases hI; rfl) rfl (HSub.pick Pick.here (HSub.nil _))
end
end Go.Proofs.YtfodkbchknknjaaGreatDoor
