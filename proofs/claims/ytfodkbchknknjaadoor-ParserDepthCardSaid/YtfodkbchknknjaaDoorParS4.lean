/- The parser's program, walked. -/
import Derived.Test.YtfodkbchknknjaaDoorParS3
set_option linter.unusedVariables false
set_option linter.unusedSimpArgs false
namespace Go.Proofs.YtfodkbchknknjaaDoor
open Go.GL Go.RowKit Go.Stele
set_option maxRecDepth 100000
set_option maxHeartbeats 4000000
theorem permV {a b c : Nat × LObj} {X Y Z : Heap} : (a :: b :: c :: (X ++ (Y ++ Z))).Perm (X ++ (a :: b :: c :: (Y ++ Z))) := List.perm_append_comm_assoc [a, b, c] X (Y ++ Z)
theorem permA {a b c : Nat × LObj} {X Y Z : Heap} : (a :: b :: c :: (X ++ (Y ++ Z))).Perm (Y ++ (a :: b :: c :: (X ++ Z))) :=
  (((List.perm_append_comm_assoc X Y Z).cons c).cons b |>.cons a).trans (List.perm_append_comm_assoc [a, b, c] Y (X ++ Z))
theorem permF {a b c : Nat × LObj} {X Y Z : Heap} : (a :: b :: c :: (X ++ (Y ++ Z))).Perm (Z ++ (a :: b :: c :: (X ++ Y))) :=
  ((((show (X ++ (Y ++ Z)).Perm (Z ++ (X ++ Y)) from by rw [← List.append_assoc]; exact List.perm_append_comm).cons c).cons b).cons a).trans (List.perm_append_comm_assoc [a, b, c] Z (X ++ Y))
theorem hsubV {a b c : Nat × LObj} {X Y Z : Heap} : HSub (a :: b :: c :: (X ++ (Y ++ Z))) (b :: a :: c :: ((Y ++ Z) ++ X)) :=
  ⟨[], by rw [List.append_nil]; exact (List.Perm.swap _ _ _).trans ((((List.perm_append_comm).cons c).cons b).cons a)⟩
theorem hsubA {a b c : Nat × LObj} {X Y Z : Heap} : HSub (a :: b :: c :: (X ++ (Y ++ Z))) (b :: a :: c :: ((X ++ Z) ++ Y)) :=
  ⟨[], by rw [List.append_nil]; exact (List.Perm.swap _ _ _).trans ((((show ((X ++ Z) ++ Y).Perm (X ++ (Y ++ Z)) from by rw [List.append_assoc]; exact List.perm_append_comm.append_left X).cons c).cons b).cons a)⟩
theorem hsubF {a b c : Nat × LObj} {X Y Z : Heap} : HSub (a :: b :: c :: (X ++ (Y ++ Z))) (b :: a :: c :: ((X ++ Y) ++ Z)) :=
  ⟨[], by rw [List.append_nil, List.append_assoc]; exact List.Perm.swap _ _ _⟩
theorem Acc.cell {s : Nat} {v : LV} {es : List LV} {H F : Heap} (h : Acc s v es H F) : v.cells? = some [v] ∧ [v].all cellOk = true := by
  cases h <;> exact ⟨rfl, rfl⟩
theorem ars_len (l : List Ar) : ∀ v ∈ l.map encAr, v.cells.length = 2 := fun v hv => by
  obtain ⟨x, _, rfl⟩ := List.mem_map.1 hv
  rfl
attribute [local irreducible] LOps LCode LStep LCalls Go.GL.Pure QThen QBlock RetPost LQ LAny LLate LLateOp
section
variable {B0 : Nat} {w0 : World}
theorem program_spec (hG : GW B0 w0) (sb : Nat) (T : List Tok) (hT : TOK T) (f : Nat) (r : Res Pr) (hr : sProg T f ⟨[], [], []⟩ 0 0 = some r) :
    LCalls (KC B0 w0) 13 [ptr sb 0] [srcH sb T 0 0] (PostP sb T encPr r) := by
  have hl := hT.len
  have hml : (T.map encTok).length = T.length := List.length_map _
  refine LCalls.intro Tryd.func13 rfl (n := 47) rfl rfl rfl ?_
  repeat first
    | refine LCode.seq ?_
    | refine LCode.region ?_
  refine LOps.step (S.alloc fun b2 => ?_) rfl
  repeat first
    | refine LOps.nil ?_
    | refine LCode.seq ?_
    | refine LCode.region ?_
    | refine QThen.normal ?_
  refine LOps.step (S.alloc fun b3 => ?_) rfl
  repeat first
    | refine LOps.nil ?_
    | refine LCode.seq ?_
    | refine LCode.block ?_
    | refine QThen.normal ?_
  refine LCode.loopI (fun k ls H => ∃ (p : Pr) (v1 v2 v3 : LV) (i2 : Nat) (H1 H2 H3 : Heap), k ≤ f ∧ ls = [(0, ptr sb 0), (2, ptr b2 0), (3, ptr b3 0)] ∧ H = srcH sb T i2 0 :: (b3, .cells 29 [v1, v2, v3]) :: (b2, .cells 29 [nilSlice, nilSlice, nilSlice]) :: (H1 ++ (H2 ++ H3)) ∧
      Acc 1 v1 (p.vars.map str) H1 [] ∧ Acc 2 v2 (p.arrays.map encAr) H2 [] ∧ Acc 4 v3 (p.funcs.map encFn) H3 [] ∧ i2 ≤ T.length ∧ p.vars.length ≤ i2 ∧ p.arrays.length ≤ i2 ∧ p.funcs.length ≤ i2 ∧ sProg T k p i2 0 = some r)
    ⟨f, _, _, ⟨⟨[], [], []⟩, nilSlice, nilSlice, nilSlice, 0, [], [], [], Nat.le_refl _, rfl, rfl, Acc.nil, Acc.nil, Acc.nil, Nat.zero_le _, Nat.zero_le _, Nat.zero_le _, Nat.zero_le _, hr⟩, ⟨rfl, rfl, rfl, trivial⟩, HSub.pick (Pick.there (Pick.there Pick.here)) (HSub.refl _)⟩ ?_
  rintro k ls H ⟨p, v1, v2, v3, i2, H1, H2, H3, hkf, rfl, rfl, ha1, ha2, ha3, hi2, hl1, hl2, hl3, hI⟩ j hj
  obtain ⟨k, rfl⟩ : ∃ k', k = k' + 1 := by
    cases k with
    | zero => rw [sProg] at hI; cases hI
    | succ k => exact ⟨k, rfl⟩
  rw [sProg] at hI
  repeat first
    | refine LCode.seq ?_
  refine LCode.cut [(0, ptr sb 0), (2, ptr b2 0), (3, ptr b3 0), (13, bool (decide (i2 < T.length)))] ?_ (fun j2 hj2 => ?_)
  · refine LCode.quiet (by kernel_rfl) ?_
    repeat first
      | refine LQ.pure (Pure.mv (lv := .atom _) rfl) rfl ?_
      | refine LQ.pure (Pure.nilCheckH rfl) rfl ?_
      | refine LQ.pure (Pure.fieldH rfl) rfl ?_
      | refine LQ.pure (Pure.loadH (c := .atom _) rfl (List.Mem.head _) rfl) rfl ?_
      | refine LQ.pure (Pure.loadH (c := .list _) rfl (List.Mem.head _) rfl) rfl ?_
      | refine LQ.pure (Pure.llen rfl) rfl ?_
      | refine LQ.pure (Pure.lss rfl rfl) rfl ?_
      | refine LQ.nil ?_
      | refine QThen.normal ?_
    exact ⟨⟨rfl, rfl, rfl, bool_eq (by rw [decide_eq_decide]; simp), trivial⟩, rfl, rfl⟩
  · skip
    refine LCode.cond rfl (fun hc => ?_) (fun hc => ?_)
    · have hlt : i2 < T.length := of_decide_eq_true hc
      rw [if_neg (by omega)] at hI
      repeat first
        | refine LCode.seq ?_
        | refine LCode.region ?_
        | refine LCode.skip ?_
        | refine LCode.block ?_
        | refine QThen.normal ?_
        | refine LOps.pure (Pure.mv (lv := .atom _) rfl) rfl ?_
      refine LOps.step (S.lit [_] rfl (elemsOk.cons rfl rfl elemsOk.nil) rfl rfl rfl ?_) rfl
      refine LOps.step (S.fnH [_, _] rfl Pick.here (is_spec sb T i2 0 [kwVar] hl (by omega) (by simp)) ?_) rfl
      repeat first
        | refine LOps.nil ?_
        | refine QThen.normal ?_
        | refine LOps.pure (Pure.as (lv := .atom _) rfl) rfl ?_
      refine LCode.cond rfl (fun hv => ?_) (fun hv => ?_)
      · rw [if_pos hv] at hI
        obtain ⟨r2, hr2⟩ := obind_is hI
        refine LCode.draw (m := 7) rfl [] ?_
        refine LAny.take (i := 0) (by first | exact HSub.nil _ | exact HSub.refl _ | exact HSub.drop (HSub.refl _) | exact HSub.pick Pick.here (HSub.nil _) | exact HSub.pick (Pick.there Pick.here) (HSub.nil _) | exact HSub.pick (Pick.there (Pick.there Pick.here)) (HSub.nil _)) rfl (by kernel_rfl) (by kernel_rfl) (by kernel_rfl) rfl (Pure.fieldH rfl) ?_
        refine LAny.take (i := 2) (by first | exact HSub.nil _ | exact HSub.refl _ | exact HSub.drop (HSub.refl _) | exact HSub.pick Pick.here (HSub.nil _) | exact HSub.pick (Pick.there Pick.here) (HSub.nil _) | exact HSub.pick (Pick.there (Pick.there Pick.here)) (HSub.nil _)) rfl (by kernel_rfl) (by kernel_rfl) (by kernel_rfl) rfl (Pure.mv (lv := .atom _) rfl) ?_
        refine LAny.late ?_ (HSub.nil _)
        refine LLate.two (i := 1) (j := 3) (by kernel_rfl) ?_ ?_
        · refine LLateOp.pureH rfl rfl (Pure.loadH (c := v1) rfl (List.Mem.tail _ (List.Mem.head _)) rfl) ?_
          refine LLate.one (i := 3) (by kernel_rfl) (LLateOp.whole rfl (.inl rfl) rfl (S.callP [_] rfl Pick.here (vars_spec sb T hT k i2 0 r2 hi2 hr2) (fun l i3 op3 h3 => ?_) (fun l er i3 op3 h3 e' he' => ?_)))
          · obtain ⟨g1, g2, g3, rfl⟩ := sVars_good T k _ _ _ _ (hr2.trans (congrArg some h3))
            have g4 := g3 hi2
            have g5 := g2 hv
            have g6 := vars_len T _ _ _ _ _ _ _ (hr2.trans (congrArg some h3))
            rw [hr2, h3, obind_ok] at hI
            rw [List.length_nil] at g6
            refine LLate.one (i := 4) (by kernel_rfl) (LLateOp.whole rfl (.inl rfl) rfl (S.accF permV rfl ha1 rfl (strs_len l) (strs_ok l) (by simp; omega) fun v' H' ha' => ?_))
            refine LLate.one (i := 5) (by kernel_rfl) (LLateOp.pureH rfl rfl (Pure.fieldH rfl) ?_)
            refine LLate.one (i := 6) (by kernel_rfl) (LLateOp.whole rfl (.inl rfl) rfl (S.store (cs' := [v', v2, v3]) rfl (Pick.there Pick.here) (Acc.cell ha').1 rfl rfl (Acc.cell ha').2 rfl ?_))
            refine LLate.done (by kernel_rfl) ?_
            repeat first
              | refine QThen.normal ?_
              | refine QBlock.normal ?_
            exact ⟨k, _, _, by omega, ⟨{ p with vars := p.vars ++ l }, v', v2, v3, i3, H', H2, H3, by omega, rfl, rfl, by rw [List.map_append]; exact ha', ha2, ha3, g4, by rw [List.length_append]; omega, Nat.le_trans hl2 (by omega), Nat.le_trans hl3 (by omega), hI⟩, ⟨rfl, rfl, rfl, trivial⟩, hsubV, hj2.trans hj⟩
          · rw [hr2, h3, obind_err] at hI
            repeat first
              | refine QThen.panic ?_
              | refine QBlock.panic ?_
            exact panP (he'.trans (hj2.trans hj)) (by cases hI; rfl) (HSub.pick Pick.here (HSub.nil _))
        · refine LLateOp.whole rfl (.inl rfl) rfl (S.callP [_] rfl Pick.here (vars_spec sb T hT k i2 0 r2 hi2 hr2) (fun l i3 op3 h3 => ?_) (fun l er i3 op3 h3 e' he' => ?_))
          · refine LLate.one (i := 1) (by kernel_rfl) (LLateOp.pureH rfl rfl (Pure.loadH (c := v1) rfl (List.Mem.tail _ (List.Mem.head _)) rfl) ?_)
            obtain ⟨g1, g2, g3, rfl⟩ := sVars_good T k _ _ _ _ (hr2.trans (congrArg some h3))
            have g4 := g3 hi2
            have g5 := g2 hv
            have g6 := vars_len T _ _ _ _ _ _ _ (hr2.trans (congrArg some h3))
            rw [hr2, h3, obind_ok] at hI
            rw [List.length_nil] at g6
            refine LLate.one (i := 4) (by kernel_rfl) (LLateOp.whole rfl (.inl rfl) rfl (S.accF permV rfl ha1 rfl (strs_len l) (strs_ok l) (by simp; omega) fun v' H' ha' => ?_))
            refine LLate.one (i := 5) (by kernel_rfl) (LLateOp.pureH rfl rfl (Pure.fieldH rfl) ?_)
            refine LLate.one (i := 6) (by kernel_rfl) (LLateOp.whole rfl (.inl rfl) rfl (S.store (cs' := [v', v2, v3]) rfl (Pick.there Pick.here) (Acc.cell ha').1 rfl rfl (Acc.cell ha').2 rfl ?_))
            refine LLate.done (by kernel_rfl) ?_
            repeat first
              | refine QThen.normal ?_
              | refine QBlock.normal ?_
            exact ⟨k, _, _, by omega, ⟨{ p with vars := p.vars ++ l }, v', v2, v3, i3, H', H2, H3, by omega, rfl, rfl, by rw [List.map_append]; exact ha', ha2, ha3, g4, by rw [List.length_append]; omega, Nat.le_trans hl2 (by omega), Nat.le_trans hl3 (by omega), hI⟩, ⟨rfl, rfl, rfl, trivial⟩, hsubV, hj2.trans hj⟩
          · rw [hr2, h3, obind_err] at hI
            repeat first
              | refine QThen.panic ?_
              | refine QBlock.panic ?_
            exact panP (he'.trans (hj2.trans hj)) (by cases hI; rfl) (HSub.pick Pick.here (HSub.nil _))
      · rw [if_neg (by rw [hv]; decide)] at hI
        repeat first
          | refine LCode.seq ?_
          | refine LCode.region ?_
          | refine LOps.pure (Pure.mv (lv := .atom _) rfl) rfl ?_
        refine LOps.step (S.fnH [_, _] rfl Pick.here (take_spec sb T i2 0 kwArray hl (by omega)) ?_) rfl
        repeat first
          | refine LOps.nil ?_
          | refine QThen.normal ?_
          | refine LOps.pure (Pure.as (lv := .atom _) rfl) rfl ?_
        refine LCode.cond rfl (fun hw => ?_) (fun hw => ?_)
        · have hlt2 := isTok_lt hw
          rw [if_pos hw] at hI
          simp only [hw, if_true]
          obtain ⟨r2, hr2⟩ := obind_is hI
          refine LCode.draw (m := 8) rfl [] ?_
          refine LAny.take (i := 0) (by first | exact HSub.nil _ | exact HSub.refl _ | exact HSub.drop (HSub.refl _) | exact HSub.pick Pick.here (HSub.nil _) | exact HSub.pick (Pick.there Pick.here) (HSub.nil _) | exact HSub.pick (Pick.there (Pick.there Pick.here)) (HSub.nil _)) rfl (by kernel_rfl) (by kernel_rfl) (by kernel_rfl) rfl (Pure.fieldH rfl) ?_
          refine LAny.take (i := 2) (by first | exact HSub.nil _ | exact HSub.refl _ | exact HSub.drop (HSub.refl _) | exact HSub.pick Pick.here (HSub.nil _) | exact HSub.pick (Pick.there Pick.here) (HSub.nil _) | exact HSub.pick (Pick.there (Pick.there Pick.here)) (HSub.nil _)) rfl (by kernel_rfl) (by kernel_rfl) (by kernel_rfl) rfl (Pure.mv (lv := .atom _) rfl) ?_
          refine LAny.late ?_ (HSub.nil _)
          refine LLate.two (i := 1) (j := 3) (by kernel_rfl) ?_ ?_
          · refine LLateOp.pureH rfl rfl (Pure.loadH (c := v2) rfl (List.Mem.tail _ (List.Mem.head _)) rfl) ?_
            refine LLate.one (i := 3) (by kernel_rfl) (LLateOp.whole rfl (.inl rfl) rfl (S.callP [_] rfl Pick.here (array_spec hG sb T hT (i2 + 1) 0 r2 (by omega) (by omega) hr2) (fun l i3 op3 h3 => ?_) (fun l er i3 op3 h3 e' he' => ?_)))
            · obtain ⟨g1, g2, g3, rfl⟩ := sArray_good T _ _ _ (hr2.trans (congrArg some h3))
              have g4 := g3 (by omega)
              rw [hr2, h3, obind_ok] at hI
              refine LLate.one (i := 4) (by kernel_rfl) (LLateOp.whole rfl (.inl rfl) rfl (S.lit [_] rfl (elemsOk.cons rfl rfl elemsOk.nil) rfl rfl rfl ?_))
              refine LLate.one (i := 5) (by kernel_rfl) (LLateOp.whole rfl (.inl rfl) rfl (S.accF permA rfl ha2 rfl (by simp; rfl) rfl (by simp; omega) fun v' H' ha' => ?_))
              refine LLate.one (i := 6) (by kernel_rfl) (LLateOp.pureH rfl rfl (Pure.fieldH rfl) ?_)
              refine LLate.one (i := 7) (by kernel_rfl) (LLateOp.whole rfl (.inl rfl) rfl (S.store (cs' := [v1, v', v3]) rfl (Pick.there Pick.here) (Acc.cell ha').1 rfl rfl (Acc.cell ha').2 rfl ?_))
              refine LLate.done (by kernel_rfl) ?_
              repeat first
                | refine QThen.normal ?_
                | refine QBlock.normal ?_
              exact ⟨k, _, _, by omega, ⟨{ p with arrays := p.arrays ++ [l] }, v1, v', v3, i3, H1, H', H3, by omega, rfl, rfl, ha1, by rw [List.map_append]; exact ha', ha3, g4, Nat.le_trans hl1 (by omega), by rw [List.length_append, List.length_singleton]; omega, Nat.le_trans hl3 (by omega), hI⟩, ⟨rfl, rfl, rfl, trivial⟩, hsubA, hj2.trans hj⟩
            · rw [hr2, h3, obind_err] at hI
              repeat first
                | refine QThen.panic ?_
                | refine QBlock.panic ?_
              exact panP (he'.trans (hj2.trans hj)) (by cases hI; rfl) (HSub.pick Pick.here (HSub.nil _))
          · refine LLateOp.whole rfl (.inl rfl) rfl (S.callP [_] rfl Pick.here (array_spec hG sb T hT (i2 + 1) 0 r2 (by omega) (by omega) hr2) (fun l i3 op3 h3 => ?_) (fun l er i3 op3 h3 e' he' => ?_))
            · refine LLate.two (i := 1) (j := 4) (by kernel_rfl) ?_ ?_
              · refine LLateOp.pureH rfl rfl (Pure.loadH (c := v2) rfl (List.Mem.tail _ (List.Mem.head _)) rfl) ?_
                obtain ⟨g1, g2, g3, rfl⟩ := sArray_good T _ _ _ (hr2.trans (congrArg some h3))
                have g4 := g3 (by omega)
                rw [hr2, h3, obind_ok] at hI
                refine LLate.one (i := 4) (by kernel_rfl) (LLateOp.whole rfl (.inl rfl) rfl (S.lit [_] rfl (elemsOk.cons rfl rfl elemsOk.nil) rfl rfl rfl ?_))
                refine LLate.one (i := 5) (by kernel_rfl) (LLateOp.whole rfl (.inl rfl) rfl (S.accF permA rfl ha2 rfl (by simp; rfl) rfl (by simp; omega) fun v' H' ha' => ?_))
                refine LLate.one (i := 6) (by kernel_rfl) (LLateOp.pureH rfl rfl (Pure.fieldH rfl) ?_)
                refine LLate.one (i := 7) (by kernel_rfl) (LLateOp.whole rfl (.inl rfl) rfl (S.store (cs' := [v1, v', v3]) rfl (Pick.there Pick.here) (Acc.cell ha').1 rfl rfl (Acc.cell ha').2 rfl ?_))
                refine LLate.done (by kernel_rfl) ?_
                repeat first
                  | refine QThen.normal ?_
                  | refine QBlock.normal ?_
                exact ⟨k, _, _, by omega, ⟨{ p with arrays := p.arrays ++ [l] }, v1, v', v3, i3, H1, H', H3, by omega, rfl, rfl, ha1, by rw [List.map_append]; exact ha', ha3, g4, Nat.le_trans hl1 (by omega), by rw [List.length_append, List.length_singleton]; omega, Nat.le_trans hl3 (by omega), hI⟩, ⟨rfl, rfl, rfl, trivial⟩, hsubA, hj2.trans hj⟩
              · obtain ⟨g1, g2, g3, rfl⟩ := sArray_good T _ _ _ (hr2.trans (congrArg some h3))
                have g4 := g3 (by omega)
                rw [hr2, h3, obind_ok] at hI
                refine LLateOp.whole rfl (.inl rfl) rfl (S.lit [_] rfl (elemsOk.cons rfl rfl elemsOk.nil) rfl rfl rfl ?_)
                refine LLate.one (i := 1) (by kernel_rfl) (LLateOp.pureH rfl rfl (Pure.loadH (c := v2) rfl (List.Mem.tail _ (List.Mem.head _)) rfl) ?_)
                refine LLate.one (i := 5) (by kernel_rfl) (LLateOp.whole rfl (.inl rfl) rfl (S.accF permA rfl ha2 rfl (by simp; rfl) rfl (by simp; omega) fun v' H' ha' => ?_))
                refine LLate.one (i := 6) (by kernel_rfl) (LLateOp.pureH rfl rfl (Pure.fieldH rfl) ?_)
                refine LLate.one (i := 7) (by kernel_rfl) (LLateOp.whole rfl (.inl rfl) rfl (S.store (cs' := [v1, v', v3]) rfl (Pick.there Pick.here) (Acc.cell ha').1 rfl rfl (Acc.cell ha').2 rfl ?_))
                refine LLate.done (by kernel_rfl) ?_
                repeat first
                  | refine QThen.normal ?_
                  | refine QBlock.normal ?_
                exact ⟨k, _, _, by omega, ⟨{ p with arrays := p.arrays ++ [l] }, v1, v', v3, i3, H1, H', H3, by omega, rfl, rfl, ha1, by rw [List.map_append]; exact ha', ha3, g4, Nat.le_trans hl1 (by omega), by rw [List.length_append, List.length_singleton]; omega, Nat.le_trans hl3 (by omega), hI⟩, ⟨rfl, rfl, rfl, trivial⟩, hsubA, hj2.trans hj⟩
            · rw [hr2, h3, obind_err] at hI
              repeat first
                | refine QThen.panic ?_
                | refine QBlock.panic ?_
              exact panP (he'.trans (hj2.trans hj)) (by cases hI; rfl) (HSub.pick Pick.here (HSub.nil _))
        · rw [if_neg (by rw [hw]; decide)] at hI
          simp only [hw, Bool.false_eq_true, if_false]
          repeat first
            | refine LCode.seq ?_
            | refine LCode.region ?_
            | refine LOps.pure (Pure.mv (lv := .atom _) rfl) rfl ?_
          refine LOps.step (S.fnH [_, _] rfl Pick.here (take_spec sb T i2 0 kwFunc hl (by omega)) ?_) rfl
          repeat first
            | refine LOps.nil ?_
            | refine QThen.normal ?_
            | refine LOps.pure (Pure.as (lv := .atom _) rfl) rfl ?_
          refine LCode.cond rfl (fun hu => ?_) (fun hu => ?_)
          · have hlt2 := isTok_lt hu
            rw [if_pos hu] at hI
            simp only [hu, if_true]
            obtain ⟨r2, hr2⟩ := obind_is hI
            refine LCode.draw (m := 8) rfl [] ?_
            refine LAny.take (i := 0) (by first | exact HSub.nil _ | exact HSub.refl _ | exact HSub.drop (HSub.refl _) | exact HSub.pick Pick.here (HSub.nil _) | exact HSub.pick (Pick.there Pick.here) (HSub.nil _) | exact HSub.pick (Pick.there (Pick.there Pick.here)) (HSub.nil _)) rfl (by kernel_rfl) (by kernel_rfl) (by kernel_rfl) rfl (Pure.fieldH rfl) ?_
            refine LAny.take (i := 2) (by first | exact HSub.nil _ | exact HSub.refl _ | exact HSub.drop (HSub.refl _) | exact HSub.pick Pick.here (HSub.nil _) | exact HSub.pick (Pick.there Pick.here) (HSub.nil _) | exact HSub.pick (Pick.there (Pick.there Pick.here)) (HSub.nil _)) rfl (by kernel_rfl) (by kernel_rfl) (by kernel_rfl) rfl (Pure.mv (lv := .atom _) rfl) ?_
            refine LAny.late ?_ (HSub.nil _)
            refine LLate.two (i := 1) (j := 3) (by kernel_rfl) ?_ ?_
            · refine LLateOp.pureH rfl rfl (Pure.loadH (c := v3) rfl (List.Mem.tail _ (List.Mem.head _)) rfl) ?_
              refine LLate.one (i := 3) (by kernel_rfl) (LLateOp.whole rfl (.inl rfl) rfl (S.callP [_] rfl Pick.here (func_spec hG sb T hT k (i2 + 1) 0 r2 (by omega) (by omega) hr2) (fun l i3 op3 h3 => ?_) (fun l er i3 op3 h3 e' he' => ?_)))
              · obtain ⟨g1, g2, g3, rfl⟩ := sFunc_good T k _ _ _ (hr2.trans (congrArg some h3))
                have g4 := g3 (by omega)
                rw [hr2, h3, obind_ok] at hI
                refine LLate.one (i := 4) (by kernel_rfl) (LLateOp.whole rfl (.inl rfl) rfl (S.lit [_] rfl (elemsOk.cons rfl rfl elemsOk.nil) rfl rfl rfl ?_))
                refine LLate.one (i := 5) (by kernel_rfl) (LLateOp.whole rfl (.inl rfl) rfl (S.accF permF rfl ha3 rfl (by simp; rfl) rfl (by simp; omega) fun v' H' ha' => ?_))
                refine LLate.one (i := 6) (by kernel_rfl) (LLateOp.pureH rfl rfl (Pure.fieldH rfl) ?_)
                refine LLate.one (i := 7) (by kernel_rfl) (LLateOp.whole rfl (.inl rfl) rfl (S.store (cs' := [v1, v2, v']) rfl (Pick.there Pick.here) (Acc.cell ha').1 rfl rfl (Acc.cell ha').2 rfl ?_))
                refine LLate.done (by kernel_rfl) ?_
                repeat first
                  | refine QThen.normal ?_
                  | refine QBlock.normal ?_
                exact ⟨k, _, _, by omega, ⟨{ p with funcs := p.funcs ++ [l] }, v1, v2, v', i3, H1, H2, H', by omega, rfl, rfl, ha1, ha2, by rw [List.map_append]; exact ha', g4, Nat.le_trans hl1 (by omega), Nat.le_trans hl2 (by omega), by rw [List.length_append, List.length_singleton]; omega, hI⟩, ⟨rfl, rfl, rfl, trivial⟩, hsubF, hj2.trans hj⟩
              · rw [hr2, h3, obind_err] at hI
                repeat first
                  | refine QThen.panic ?_
                  | refine QBlock.panic ?_
                exact panP (he'.trans (hj2.trans hj)) (by cases hI; rfl) (HSub.pick Pick.here (HSub.nil _))
            · refine LLateOp.whole rfl (.inl rfl) rfl (S.callP [_] rfl Pick.here (func_spec hG sb T hT k (i2 + 1) 0 r2 (by omega) (by omega) hr2) (fun l i3 op3 h3 => ?_) (fun l er i3 op3 h3 e' he' => ?_))
              · refine LLate.two (i := 1) (j := 4) (by kernel_rfl) ?_ ?_
                · refine LLateOp.pureH rfl rfl (Pure.loadH (c := v3) rfl (List.Mem.tail _ (List.Mem.head _)) rfl) ?_
                  obtain ⟨g1, g2, g3, rfl⟩ := sFunc_good T k _ _ _ (hr2.trans (congrArg some h3))
                  have g4 := g3 (by omega)
                  rw [hr2, h3, obind_ok] at hI
                  refine LLate.one (i := 4) (by kernel_rfl) (LLateOp.whole rfl (.inl rfl) rfl (S.lit [_] rfl (elemsOk.cons rfl rfl elemsOk.nil) rfl rfl rfl ?_))
                  refine LLate.one (i := 5) (by kernel_rfl) (LLateOp.whole rfl (.inl rfl) rfl (S.accF permF rfl ha3 rfl (by simp; rfl) rfl (by simp; omega) fun v' H' ha' => ?_))
                  refine LLate.one (i := 6) (by kernel_rfl) (LLateOp.pureH rfl rfl (Pure.fieldH rfl) ?_)
                  refine LLate.one (i := 7) (by kernel_rfl) (LLateOp.whole rfl (.inl rfl) rfl (S.store (cs' := [v1, v2, v']) rfl (Pick.there Pick.here) (Acc.cell ha').1 rfl rfl (Acc.cell ha').2 rfl ?_))
                  refine LLate.done (by kernel_rfl) ?_
                  repeat first
                    | refine QThen.normal ?_
                    | refine QBlock.normal ?_
                  exact ⟨k, _, _, by omega, ⟨{ p with funcs := p.funcs ++ [l] }, v1, v2, v', i3, H1, H2, H', by omega, rfl, rfl, ha1, ha2, by rw [List.map_append]; exact ha', g4, Nat.le_trans hl1 (by omega), Nat.le_trans hl2 (by omega), by rw [List.length_append, List.length_singleton]; omega, hI⟩, ⟨rfl, rfl, rfl, trivial⟩, hsubF, hj2.trans hj⟩
                · obtain ⟨g1, g2, g3, rfl⟩ := sFunc_good T k _ _ _ (hr2.trans (congrArg some h3))
                  have g4 := g3 (by omega)
                  rw [hr2, h3, obind_ok] at hI
                  refine LLateOp.whole rfl (.inl rfl) rfl (S.lit [_] rfl (elemsOk.cons rfl rfl elemsOk.nil) rfl rfl rfl ?_)
                  refine LLate.one (i := 1) (by kernel_rfl) (LLateOp.pureH rfl rfl (Pure.loadH (c := v3) rfl (List.Mem.tail _ (List.Mem.head _)) rfl) ?_)
                  refine LLate.one (i := 5) (by kernel_rfl) (LLateOp.whole rfl (.inl rfl) rfl (S.accF permF rfl ha3 rfl (by simp; rfl) rfl (by simp; omega) fun v' H' ha' => ?_))
                  refine LLate.one (i := 6) (by kernel_rfl) (LLateOp.pureH rfl rfl (Pure.fieldH rfl) ?_)
                  refine LLate.one (i := 7) (by kernel_rfl) (LLateOp.whole rfl (.inl rfl) rfl (S.store (cs' := [v1, v2, v']) rfl (Pick.there Pick.here) (Acc.cell ha').1 rfl rfl (Acc.cell ha').2 rfl ?_))
                  refine LLate.done (by kernel_rfl) ?_
                  repeat first
                    | refine QThen.normal ?_
                    | refine QBlock.normal ?_
                  exact ⟨k, _, _, by omega, ⟨{ p with funcs := p.funcs ++ [l] }, v1, v2, v', i3, H1, H2, H', by omega, rfl, rfl, ha1, ha2, by rw [List.map_append]; exact ha', g4, Nat.le_trans hl1 (by omega), Nat.le_trans hl2 (by omega), by rw [List.length_append, List.length_singleton]; omega, hI⟩, ⟨rfl, rfl, rfl, trivial⟩, hsubF, hj2.trans hj⟩
              · rw [hr2, h3, obind_err] at hI
                repeat first
                  | refine QThen.panic ?_
                  | refine QBlock.panic ?_
                exact panP (he'.trans (hj2.trans hj)) (by cases hI; rfl) (HSub.pick Pick.here (HSub.nil _))
          · rw [if_neg (by rw [hu]; decide)] at hI
            simp only [hu, Bool.false_eq_true, if_false]
            repeat first
              | refine LCode.region ?_
              | refine LOps.pure (Pure.mv (lv := .atom _) rfl) rfl ?_
            refine LOps.step (S.callP [_, _] rfl Pick.here (fail_spec encPr sb T i2 0 3 hl (by omega)) (fun _ _ _ h => by cases h) (fun l er i' op' h e' he' => ?_)) rfl
            cases h
            repeat first
              | refine QThen.panic ?_
              | refine QBlock.panic ?_
            exact panP (he'.trans (hj2.trans hj)) (by cases hI; rfl) (HSub.pick Pick.here (HSub.nil _))
    · have hge : T.length ≤ i2 := by have := of_decide_eq_false hc; omega
      rw [if_pos hge] at hI
      refine LCode.cellSub (Pick.there Pick.here) (cs' := [.list (p.vars.map str), .list (p.arrays.map encAr), .list (p.funcs.map encFn)]) ⟨ha1.sub, ha2.sub, ha3.sub, trivial⟩ ?_
      repeat first
        | refine LOps.nil ?_
        | refine LCode.seq ?_
        | refine LCode.region ?_
        | refine LCode.ret ?_
        | refine LCode.exit ?_
        | refine QThen.normal ?_
        | refine QThen.exit ?_
        | refine QBlock.hit ?_
        | refine LOps.pure (Pure.ldHAgg (cs' := [_, _, _]) rfl (List.Mem.head _) rfl rfl) rfl ?_
        | refine LOps.step (S.store (cs' := [_, _, _]) rfl (Pick.there (Pick.there Pick.here)) rfl rfl rfl rfl rfl ?_) rfl
      exact retP (v := p) (hj2.trans hj) (AllRes.cons (ResIs.cellAgg (k := 3) rfl (List.Mem.head _) rfl (LV.Sub.refl _)) AllRes.nil) (by cases hI; rfl) rfl (HSub.pick (Pick.there (Pick.there Pick.here)) (HSub.nil _))
end
end Go.Proofs.YtfodkbchknknjaaDoor
