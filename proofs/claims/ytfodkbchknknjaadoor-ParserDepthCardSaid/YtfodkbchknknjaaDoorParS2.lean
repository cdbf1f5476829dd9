/- The parser's simple statements and statements, walked. -/
import Derived.Test.YtfodkbchknknjaaDoorParS1
set_option linter.unusedVariables false
set_option linter.unusedSimpArgs false
namespace Go.Proofs.YtfodkbchknknjaaDoor
open Go.GL Go.RowKit Go.Stele
set_option maxRecDepth 100000
set_option maxHeartbeats 4000000
attribute [local irreducible] LOps LCode LStep LCalls Go.GL.Pure QThen QBlock RetPost LQ LAny LLate LLateOp
section
variable {B0 : Nat} {w0 : World}
theorem encCall (s : List UInt8) (l : List Ex) : encS (.mk 6 [] [] [.mk nCall 0 s l] [] []) = .agg [int .i64 6, str [], .list [], .list [.agg [str nCall, int .u32 0, str s, .list (l.map encE)]], .list [], .list []] := by
  rw [encS_mk, List.map_cons, encE_mk]
  rfl
theorem simple_spec (sb : Nat) (T : List Tok) (hT : TOK T) (f : Nat) (hE : ∀ g, g ≤ f → ExprC B0 w0 sb T g) : SimpleC B0 w0 sb T (f + 1) := by
  intro i op r hi ho hr
  have hl := hT.len
  obtain ⟨gL, _, _, _, gI, gA, _⟩ := ex_good T f
  rw [sSimple] at hr
  refine LCalls.intro Tryd.func66 rfl (n := 46) rfl rfl rfl ?_
  repeat first
    | refine LCode.seq ?_
    | refine LCode.region ?_
  refine LOps.step (S.alloc fun b2 => ?_) rfl
  repeat first
    | refine LOps.nil ?_
    | refine LCode.seq ?_
    | refine LCode.region ?_
    | refine LCode.block ?_
    | refine QThen.normal ?_
    | refine LOps.pure (Pure.mv (lv := .atom _) rfl) rfl ?_
  refine LOps.step (S.fnH [_, _] rfl (Pick.there Pick.here) (take_spec sb T i op kwReturn hl (by omega)) ?_) rfl
  repeat first
    | refine LOps.nil ?_
    | refine QThen.normal ?_
    | refine LOps.pure (Pure.as (lv := .atom _) rfl) rfl ?_
  refine LCode.cond rfl (fun hc => ?_) (fun hc => ?_)
  · have hlt := isTok_lt hc
    rw [if_pos hc] at hr
    simp only [hc, if_true]
    repeat first
      | refine LCode.seq ?_
      | refine LCode.region ?_
      | refine LOps.pure (Pure.mv (lv := .atom _) rfl) rfl ?_
    obtain ⟨r1, hr1⟩ := obind_is hr
    refine LOps.step (S.callP [_] rfl Pick.here (hE f (by omega) _ _ r1 (by omega) (by omega) hr1) (fun v i1 op1 h1 => ?_) (fun l er i1 op1 h1 e9 he9 => ?_)) rfl
    rotate_left
    · rw [hr1, h1, obind_err] at hr
      repeat first | refine QThen.panic ?_ | refine QBlock.panic ?_
      exact panP (by first | exact he9.trans rfl | exact he9.trans hj | exact he9.trans (hj2.trans hj)) (by cases hr; rfl) (HSub.pick Pick.here (HSub.nil _))
    rw [hr1, h1, obind_ok] at hr
    refine LOps.step (S.lit [_] rfl (elemsOk.cons rfl rfl elemsOk.nil) rfl rfl rfl ?_) rfl
    repeat first
      | refine LOps.nil ?_
      | refine LCode.ret ?_
      | refine QThen.normal ?_
      | refine QThen.ret ?_
      | refine QBlock.ret ?_
      | refine LOps.pure (Pure.bld _ (cs := [_, _, _, _, _, _]) rfl) rfl ?_
      | refine LOps.step (S.store (cs' := [_, _, _, _, _, _]) rfl (Pick.there Pick.here) rfl rfl rfl rfl rfl ?_) rfl
    exact retP (v := .mk 5 [] [] [v] [] []) rfl (AllRes.cons (ResIs.cellAgg (k := 6) rfl (List.Mem.head _) rfl (LV.Sub.agg (bs := [_, _, .list [], _, .list [], .list []]) ⟨LV.Sub.refl _, LV.Sub.refl _, LV.Sub.nil, LV.Sub.refl _, LV.Sub.nil, LV.Sub.nil, trivial⟩)) AllRes.nil) (by cases hr; rfl) (by rw [encS_mk]; rfl) (HSub.pick (Pick.there Pick.here) (HSub.nil _))
  · rw [if_neg (by rw [hc]; decide)] at hr
    simp only [hc, Bool.false_eq_true, if_false]
    repeat first
      | refine LCode.seq ?_
      | refine LCode.region ?_
      | refine LOps.pure (Pure.mv (lv := .atom _) rfl) rfl ?_
    refine LOps.step (S.fnH [_, _] rfl Pick.here (take_spec sb T i op kwHalt hl (by omega)) ?_) rfl
    repeat first
      | refine LOps.nil ?_
      | refine QThen.normal ?_
      | refine LOps.pure (Pure.as (lv := .atom _) rfl) rfl ?_
    refine LCode.cond rfl (fun hc2 => ?_) (fun hc2 => ?_)
    · have hlt := isTok_lt hc2
      rw [if_pos hc2] at hr
      simp only [hc2, if_true]
      repeat first
        | refine LOps.nil ?_
        | refine LCode.seq ?_
        | refine LCode.region ?_
        | refine LCode.ret ?_
        | refine QThen.normal ?_
        | refine QThen.ret ?_
        | refine QBlock.ret ?_
        | refine LOps.pure (Pure.bld _ (cs := [_, _, _, _, _, _]) rfl) rfl ?_
        | refine LOps.step (S.store (cs' := [_, _, _, _, _, _]) rfl (Pick.there Pick.here) rfl rfl rfl rfl rfl ?_) rfl
      exact retP (v := .mk 7 [] [] [] [] []) rfl (AllRes.cons (ResIs.cellAgg (k := 6) rfl (List.Mem.head _) rfl (LV.Sub.agg (bs := [_, _, .list [], .list [], .list [], .list []]) ⟨LV.Sub.refl _, LV.Sub.refl _, LV.Sub.nil, LV.Sub.nil, LV.Sub.nil, LV.Sub.nil, trivial⟩)) AllRes.nil) (by cases hr; rfl) (by rw [encS_mk]; rfl) (HSub.pick (Pick.there Pick.here) (HSub.nil _))
    · rw [if_neg (by rw [hc2]; decide)] at hr
      simp only [hc2, Bool.false_eq_true, if_false]
      repeat first
        | refine LCode.seq ?_
        | refine LCode.region ?_
        | refine LCode.skip ?_
        | refine QThen.normal ?_
        | refine QBlock.normal ?_
        | refine LOps.pure (Pure.mv (lv := .atom _) rfl) rfl ?_
      refine LOps.step (S.callP [_, _] rfl Pick.here (word_spec sb T i op 2 hl (by omega)) (fun s i1 op1 h1 => ?_) (fun l er i1 op1 h1 e9 he9 => ?_)) rfl
      rotate_left
      · rw [h1, obind_err] at hr
        repeat first | refine QThen.panic ?_ | refine QBlock.panic ?_
        exact panP (by first | exact he9.trans rfl | exact he9.trans hj | exact he9.trans (hj2.trans hj)) (by cases hr; rfl) (HSub.pick Pick.here (HSub.nil _))
      rw [h1, obind_ok] at hr
      obtain ⟨rfl, rfl, t, ht, _, _⟩ := sWord_ok h1
      have := get_lt ht
      repeat first
        | refine LOps.nil ?_
        | refine LCode.seq ?_
        | refine LCode.region ?_
        | refine QThen.normal ?_
        | refine LOps.pure (Pure.mv (lv := .atom _) rfl) rfl ?_
        | refine LOps.pure (Pure.as (lv := .atom _) rfl) rfl ?_
        | refine LOps.pure (Pure.bld _ (cs := [_, _, _, _, _, _]) rfl) rfl ?_
      refine LOps.step (S.alloc fun b4 => ?_) rfl
      repeat first
        | refine LOps.nil ?_
        | refine LCode.seq ?_
        | refine LCode.region ?_
        | refine LCode.block ?_
        | refine QThen.normal ?_
        | refine LOps.pure (Pure.mv (lv := .atom _) rfl) rfl ?_
        | refine LOps.step (S.store (cs' := [_, _, _, _, _, _]) rfl Pick.here rfl rfl rfl rfl rfl ?_) rfl
      refine LOps.step (S.lit [_] rfl (elemsOk.cons rfl rfl elemsOk.nil) rfl rfl rfl ?_) rfl
      refine LOps.step (S.fnH [_, _] rfl (Pick.there Pick.here) (is_spec sb T (i + 1) op1 [[40]] hl (by omega) (by simp)) ?_) rfl
      repeat first
        | refine LOps.nil ?_
        | refine QThen.normal ?_
        | refine LOps.pure (Pure.as (lv := .atom _) rfl) rfl ?_
      refine LCode.cond rfl (fun hc3 => ?_) (fun hc3 => ?_)
      · rw [if_pos hc3] at hr
        repeat first
          | refine LCode.seq ?_
          | refine LCode.region ?_
          | refine LOps.pure (Pure.mv (lv := .atom _) rfl) rfl ?_
        obtain ⟨r1, hr1⟩ := obind_is hr
        refine LOps.step (S.callP [_] rfl Pick.here (args_spec sb T hT f (fun g hg => hE g (by omega)) (i + 1) op1 r1 (by omega) (by omega) hr1) (fun l i2 op2 h2 => ?_) (fun l er i2 op2 h2 e9 he9 => ?_)) rfl
        rotate_left
        · rw [hr1, h2, obind_err] at hr
          repeat first | refine QThen.panic ?_ | refine QBlock.panic ?_
          exact panP (by first | exact he9.trans rfl | exact he9.trans hj | exact he9.trans (hj2.trans hj)) (by cases hr; rfl) (HSub.pick Pick.here (HSub.nil _))
        rw [hr1, h2, obind_ok] at hr
        repeat first
          | refine LOps.pure (Pure.bld _ (cs := [_, _, _, _]) rfl) rfl ?_
        refine LOps.step (S.lit [_] rfl (elemsOk.cons rfl rfl elemsOk.nil) rfl rfl rfl ?_) rfl
        repeat first
          | refine LOps.nil ?_
          | refine LCode.ret ?_
          | refine QThen.normal ?_
          | refine QThen.ret ?_
          | refine QBlock.ret ?_
          | refine LOps.pure (Pure.bld _ (cs := [_, _, _, _, _, _]) rfl) rfl ?_
          | refine LOps.step (S.store (cs' := [_, _, _, _, _, _]) rfl (Pick.there (Pick.there Pick.here)) rfl rfl rfl rfl rfl ?_) rfl
        exact retP (v := .mk 6 [] [] [.mk nCall 0 s l] [] []) rfl (AllRes.cons (ResIs.cellAgg (k := 6) rfl (List.Mem.head _) rfl (LV.Sub.agg (bs := [_, _, .list [], _, .list [], .list []]) ⟨LV.Sub.refl _, LV.Sub.refl _, LV.Sub.nil, LV.Sub.refl _, LV.Sub.nil, LV.Sub.nil, trivial⟩)) AllRes.nil) (by cases hr; rfl) (by rw [encCall]; rfl) (HSub.pick (Pick.there Pick.here) (HSub.nil _))
      · rw [if_neg (by rw [hc3]; decide)] at hr
        repeat first
          | refine LCode.seq ?_
          | refine LCode.region ?_
          | refine LOps.pure (Pure.mv (lv := .atom _) rfl) rfl ?_
        refine LOps.step (S.lit [_] rfl (elemsOk.cons rfl rfl elemsOk.nil) rfl rfl rfl ?_) rfl
        refine LOps.step (S.fnH [_, _] rfl Pick.here (is_spec sb T (i + 1) op1 [[91]] hl (by omega) (by simp)) ?_) rfl
        repeat first
          | refine LOps.nil ?_
          | refine QThen.normal ?_
          | refine LOps.pure (Pure.as (lv := .atom _) rfl) rfl ?_
        refine LCode.cond rfl (fun hc4 => ?_) (fun hc4 => ?_)
        · rw [if_pos hc4] at hr
          repeat first
            | refine LCode.region ?_
            | refine LOps.pure (Pure.mv (lv := .atom _) rfl) rfl ?_
          obtain ⟨r1, hr1⟩ := obind_is hr
          refine LOps.step (S.callP [_] rfl Pick.here (index_specL sb T hT f (fun g hg => hE g (by omega)) (i + 1) op1 r1 (by omega) (by omega) hr1) (fun x i2 op2 h2 => ?_) (fun l er i2 op2 h2 e9 he9 => ?_)) rfl
          rotate_left
          · rw [hr1, h2, obind_err] at hr
            repeat first | refine QThen.panic ?_ | refine QBlock.panic ?_
            exact panP (by first | exact he9.trans rfl | exact he9.trans hj | exact he9.trans (hj2.trans hj)) (by cases hr; rfl) (HSub.pick Pick.here (HSub.nil _))
          rw [hr1, h2, obind_ok] at hr
          obtain ⟨q1, q2, q3, rfl⟩ := gI _ _ _ (hr1.trans (congrArg some h2))
          have q4 := q3 (by omega)
          refine LOps.step (S.lit [_] rfl (elemsOk.cons rfl rfl elemsOk.nil) rfl rfl rfl ?_) rfl
          repeat first
            | refine LOps.nil ?_
            | refine LCode.seq ?_
            | refine LCode.region ?_
            | refine QThen.normal ?_
            | refine QBlock.normal ?_
            | refine LOps.pure (Pure.mv (lv := .atom _) rfl) rfl ?_
            | refine LOps.pure (Pure.fieldH rfl) rfl ?_
            | refine LOps.step (S.store (cs' := [_, _, _, _, _, _]) rfl Pick.here rfl rfl rfl rfl rfl ?_) rfl
            | refine LOps.step (S.store (cs' := [_, _, _, _, _, _]) rfl (Pick.there Pick.here) rfl rfl rfl rfl rfl ?_) rfl
          refine LOps.step (S.callP [_, _] rfl (Pick.there Pick.here) (need_spec sb T i2 op2 [61] hl (by omega)) (fun u i3 op3 h3 => ?_) (fun l er i3 op3 h3 e9 he9 => ?_)) rfl
          rotate_left
          · rw [h3, obind_err] at hr
            repeat first | refine QThen.panic ?_ | refine QBlock.panic ?_
            exact panP (by first | exact he9.trans rfl | exact he9.trans hj | exact he9.trans (hj2.trans hj)) (by cases hr; rfl) (HSub.pick Pick.here (HSub.nil _))
          rw [h3, obind_ok] at hr
          have hg3 := sNeed_good T [61] i2 op2
          rw [h3] at hg3
          obtain ⟨k1, k2, k3, rfl⟩ := hg3
          have k4 := k3 q4
          repeat first
            | refine LOps.nil ?_
            | refine LCode.seq ?_
            | refine LCode.region ?_
            | refine QThen.normal ?_
            | refine LOps.pure (Pure.mv (lv := .atom _) rfl) rfl ?_
          obtain ⟨r2, hr2⟩ := obind_is hr
          refine LOps.step (S.callP [_] rfl Pick.here (hE f (by omega) _ _ r2 (by omega) (by omega) hr2) (fun v i4 op4 h4 => ?_) (fun l er i4 op4 h4 e9 he9 => ?_)) rfl
          rotate_left
          · rw [hr2, h4, obind_err] at hr
            repeat first | refine QThen.panic ?_ | refine QBlock.panic ?_
            exact panP (by first | exact he9.trans rfl | exact he9.trans hj | exact he9.trans (hj2.trans hj)) (by cases hr; rfl) (HSub.pick Pick.here (HSub.nil _))
          rw [hr2, h4, obind_ok] at hr
          refine LOps.step (S.lit [_] rfl (elemsOk.cons rfl rfl elemsOk.nil) rfl rfl rfl ?_) rfl
          repeat first
            | refine LOps.nil ?_
            | refine LCode.seq ?_
            | refine LCode.region ?_
            | refine LCode.ret ?_
            | refine QThen.normal ?_
            | refine LOps.pure (Pure.fieldH rfl) rfl ?_
            | refine LOps.pure (Pure.ldHAgg (cs' := [_, _, _, _, _, _]) rfl (List.Mem.head _) rfl rfl) rfl ?_
            | refine LOps.step (S.store (cs' := [_, _, _, _, _, _]) rfl (Pick.there Pick.here) rfl rfl rfl rfl rfl ?_) rfl
            | refine LOps.step (S.store (cs' := [_, _, _, _, _, _]) rfl (Pick.there (Pick.there Pick.here)) rfl rfl rfl rfl rfl ?_) rfl
          exact retP (v := .mk 2 s [x] [v] [] []) rfl (AllRes.cons (ResIs.cellAgg (k := 6) rfl (List.Mem.head _) rfl (LV.Sub.agg (bs := [_, _, _, _, .list [], .list []]) ⟨LV.Sub.refl _, LV.Sub.refl _, LV.Sub.refl _, LV.Sub.refl _, LV.Sub.nil, LV.Sub.nil, trivial⟩)) AllRes.nil) (by cases hr; rfl) (by rw [encS_mk]; rfl) (HSub.pick (Pick.there (Pick.there Pick.here)) (HSub.nil _))
        · rw [if_neg (by rw [hc4]; decide)] at hr
          repeat first
            | refine LCode.seq ?_
            | refine LCode.region ?_
            | refine LCode.skip ?_
            | refine QThen.normal ?_
            | refine QBlock.normal ?_
            | refine LOps.pure (Pure.mv (lv := .atom _) rfl) rfl ?_
          refine LOps.step (S.callP [_, _] rfl Pick.here (need_spec sb T (i + 1) op1 [61] hl (by omega)) (fun u i3 op3 h3 => ?_) (fun l er i3 op3 h3 e9 he9 => ?_)) rfl
          rotate_left
          · rw [h3, obind_err] at hr
            repeat first | refine QThen.panic ?_ | refine QBlock.panic ?_
            exact panP (by first | exact he9.trans rfl | exact he9.trans hj | exact he9.trans (hj2.trans hj)) (by cases hr; rfl) (HSub.pick Pick.here (HSub.nil _))
          rw [h3, obind_ok] at hr
          have hg3 := sNeed_good T [61] (i + 1) op1
          rw [h3] at hg3
          obtain ⟨k1, k2, k3, rfl⟩ := hg3
          have k4 := k3 (by omega)
          repeat first
            | refine LOps.nil ?_
            | refine LCode.seq ?_
            | refine LCode.region ?_
            | refine QThen.normal ?_
            | refine LOps.pure (Pure.mv (lv := .atom _) rfl) rfl ?_
          obtain ⟨r2, hr2⟩ := obind_is hr
          refine LOps.step (S.callP [_] rfl Pick.here (hE f (by omega) _ _ r2 (by omega) (by omega) hr2) (fun v i4 op4 h4 => ?_) (fun l er i4 op4 h4 e9 he9 => ?_)) rfl
          rotate_left
          · rw [hr2, h4, obind_err] at hr
            repeat first | refine QThen.panic ?_ | refine QBlock.panic ?_
            exact panP (by first | exact he9.trans rfl | exact he9.trans hj | exact he9.trans (hj2.trans hj)) (by cases hr; rfl) (HSub.pick Pick.here (HSub.nil _))
          rw [hr2, h4, obind_ok] at hr
          refine LOps.step (S.lit [_] rfl (elemsOk.cons rfl rfl elemsOk.nil) rfl rfl rfl ?_) rfl
          repeat first
            | refine LOps.nil ?_
            | refine LCode.seq ?_
            | refine LCode.region ?_
            | refine LCode.ret ?_
            | refine QThen.normal ?_
            | refine LOps.pure (Pure.fieldH rfl) rfl ?_
            | refine LOps.pure (Pure.ldHAgg (cs' := [_, _, _, _, _, _]) rfl (List.Mem.head _) rfl rfl) rfl ?_
            | refine LOps.step (S.store (cs' := [_, _, _, _, _, _]) rfl (Pick.there Pick.here) rfl rfl rfl rfl rfl ?_) rfl
            | refine LOps.step (S.store (cs' := [_, _, _, _, _, _]) rfl (Pick.there (Pick.there Pick.here)) rfl rfl rfl rfl rfl ?_) rfl
          exact retP (v := .mk 1 s [] [v] [] []) rfl (AllRes.cons (ResIs.cellAgg (k := 6) rfl (List.Mem.head _) rfl (LV.Sub.agg (bs := [_, _, .list [], _, .list [], .list []]) ⟨LV.Sub.refl _, LV.Sub.refl _, LV.Sub.nil, LV.Sub.refl _, LV.Sub.nil, LV.Sub.nil, trivial⟩)) AllRes.nil) (by cases hr; rfl) (by rw [encS_mk]; rfl) (HSub.pick (Pick.there (Pick.there Pick.here)) (HSub.nil _))
theorem stmt_spec (sb : Nat) (T : List Tok) (hT : TOK T) (f : Nat) (hE : ∀ g, g ≤ f → ExprC B0 w0 sb T g) (hB : BlockC B0 w0 sb T f) (hM : SimpleC B0 w0 sb T f) : StmtC B0 w0 sb T (f + 1) := by
  intro i op r hi ho hr
  have hl := hT.len
  obtain ⟨gL, _, _, _, gI, gA, _⟩ := ex_good T f
  obtain ⟨kB, kL, kS, kM⟩ := st_good T f
  rw [sStmt] at hr
  refine LCalls.intro Tryd.func55 rfl (n := 38) rfl rfl rfl ?_
  repeat first
    | refine LCode.seq ?_
    | refine LCode.region ?_
  refine LOps.step (S.alloc fun b2 => ?_) rfl
  repeat first
    | refine LOps.nil ?_
    | refine LCode.seq ?_
    | refine LCode.region ?_
    | refine LCode.block ?_
    | refine QThen.normal ?_
    | refine LOps.pure (Pure.mv (lv := .atom _) rfl) rfl ?_
  refine LOps.step (S.fnH [_, _] rfl (Pick.there Pick.here) (take_spec sb T i op kwIf hl (by omega)) ?_) rfl
  repeat first
    | refine LOps.nil ?_
    | refine QThen.normal ?_
    | refine LOps.pure (Pure.as (lv := .atom _) rfl) rfl ?_
  refine LCode.cond rfl (fun hc => ?_) (fun hc => ?_)
  · have hlt := isTok_lt hc
    rw [if_pos hc] at hr
    simp only [hc, if_true]
    repeat first
      | refine LCode.seq ?_
      | refine LCode.region ?_
      | refine LOps.pure (Pure.mv (lv := .atom _) rfl) rfl ?_
    obtain ⟨r1, hr1⟩ := obind_is hr
    refine LOps.step (S.callP [_] rfl Pick.here (hE f (by omega) _ _ r1 (by omega) (by omega) hr1) (fun v i1 op1 h1 => ?_) (fun l er i1 op1 h1 e9 he9 => ?_)) rfl
    rotate_left
    · rw [hr1, h1, obind_err] at hr
      repeat first | refine QThen.panic ?_ | refine QBlock.panic ?_
      exact panP (by first | exact he9.trans rfl | exact he9.trans hj | exact he9.trans (hj2.trans hj)) (by cases hr; rfl) (HSub.pick Pick.here (HSub.nil _))
    rw [hr1, h1, obind_ok] at hr
    obtain ⟨g1, g2, g3, rfl⟩ := gL 0 _ _ _ (hr1.trans (congrArg some h1))
    have g4 := g3 (by omega)
    refine LOps.step (S.lit [_] rfl (elemsOk.cons rfl rfl elemsOk.nil) rfl rfl rfl ?_) rfl
    repeat first
      | refine LOps.pure (Pure.bld _ (cs := [_, _, _, _, _, _]) rfl) rfl ?_
    refine LOps.step (S.alloc fun b3 => ?_) rfl
    repeat first
      | refine LOps.nil ?_
      | refine LCode.seq ?_
      | refine LCode.region ?_
      | refine QThen.normal ?_
      | refine LOps.pure (Pure.mv (lv := .atom _) rfl) rfl ?_
      | refine LOps.step (S.store (cs' := [_, _, _, _, _, _]) rfl Pick.here rfl rfl rfl rfl rfl ?_) rfl
    obtain ⟨r2, hr2⟩ := obind_is hr
    refine LOps.step (S.callP [_] rfl (Pick.there Pick.here) (hB _ _ r2 (by omega) (by omega) hr2) (fun th i2 op2 h2 => ?_) (fun l er i2 op2 h2 e9 he9 => ?_)) rfl
    rotate_left
    · rw [hr2, h2, obind_err] at hr
      repeat first | refine QThen.panic ?_ | refine QBlock.panic ?_
      exact panP (by first | exact he9.trans rfl | exact he9.trans hj | exact he9.trans (hj2.trans hj)) (by cases hr; rfl) (HSub.pick Pick.here (HSub.nil _))
    rw [hr2, h2, obind_ok] at hr
    obtain ⟨q1, q2, q3, rfl⟩ := kB _ _ _ (hr2.trans (congrArg some h2))
    have q4 := q3 (by omega)
    repeat first
      | refine LOps.nil ?_
      | refine LCode.seq ?_
      | refine LCode.region ?_
      | refine QThen.normal ?_
      | refine LOps.pure (Pure.mv (lv := .atom _) rfl) rfl ?_
      | refine LOps.pure (Pure.fieldH rfl) rfl ?_
      | refine LOps.step (S.store (cs' := [_, _, _, _, _, _]) rfl (Pick.there Pick.here) rfl rfl rfl rfl rfl ?_) rfl
    refine LOps.step (S.fnH [_, _] rfl (Pick.there Pick.here) (take_spec sb T i2 op2 kwElse hl (by omega)) ?_) rfl
    repeat first
      | refine LOps.nil ?_
      | refine QThen.normal ?_
    refine LCode.cond rfl (fun hc2 => ?_) (fun hc2 => ?_)
    · have hlt2 := isTok_lt hc2
      rw [if_pos hc2] at hr
      simp only [hc2, if_true]
      repeat first
        | refine LCode.region ?_
        | refine LOps.pure (Pure.mv (lv := .atom _) rfl) rfl ?_
      obtain ⟨r3, hr3⟩ := obind_is hr
      refine LOps.step (S.callP [_] rfl Pick.here (hB _ _ r3 (by omega) (by omega) hr3) (fun el i3 op3 h3 => ?_) (fun l er i3 op3 h3 e9 he9 => ?_)) rfl
      rotate_left
      · rw [hr3, h3, obind_err] at hr
        repeat first | refine QThen.panic ?_ | refine QBlock.panic ?_
        exact panP (by first | exact he9.trans rfl | exact he9.trans hj | exact he9.trans (hj2.trans hj)) (by cases hr; rfl) (HSub.pick Pick.here (HSub.nil _))
      rw [hr3, h3, obind_ok] at hr
      repeat first
        | refine LOps.nil ?_
        | refine LCode.seq ?_
        | refine LCode.region ?_
        | refine LCode.ret ?_
        | refine QThen.normal ?_
        | refine QThen.ret ?_
        | refine QBlock.ret ?_
        | refine LOps.pure (Pure.fieldH rfl) rfl ?_
        | refine LOps.pure (Pure.ldHAgg (cs' := [_, _, _, _, _, _]) rfl (List.Mem.head _) rfl rfl) rfl ?_
        | refine LOps.step (S.store (cs' := [_, _, _, _, _, _]) rfl (Pick.there Pick.here) rfl rfl rfl rfl rfl ?_) rfl
        | refine LOps.step (S.store (cs' := [_, _, _, _, _, _]) rfl (Pick.there (Pick.there Pick.here)) rfl rfl rfl rfl rfl ?_) rfl
      exact retP (v := .mk 3 [] [] [v] th el) rfl (AllRes.cons (ResIs.cellAgg (k := 6) rfl (List.Mem.head _) rfl (LV.Sub.agg (bs := [_, _, .list [], _, _, _]) ⟨LV.Sub.refl _, LV.Sub.refl _, LV.Sub.nil, LV.Sub.refl _, LV.Sub.refl _, LV.Sub.refl _, trivial⟩)) AllRes.nil) (by cases hr; rfl) (by rw [encS_mk]; rfl) (HSub.pick (Pick.there (Pick.there Pick.here)) (HSub.nil _))
    · rw [if_neg (by rw [hc2]; decide)] at hr
      simp only [hc2, Bool.false_eq_true, if_false]
      repeat first
        | refine LOps.nil ?_
        | refine LCode.seq ?_
        | refine LCode.region ?_
        | refine LCode.skip ?_
        | refine LCode.ret ?_
        | refine QThen.normal ?_
        | refine QThen.ret ?_
        | refine QBlock.ret ?_
        | refine LOps.pure (Pure.ldHAgg (cs' := [_, _, _, _, _, _]) rfl (List.Mem.tail _ (List.Mem.head _)) rfl rfl) rfl ?_
        | refine LOps.step (S.store (cs' := [_, _, _, _, _, _]) rfl (Pick.there (Pick.there Pick.here)) rfl rfl rfl rfl rfl ?_) rfl
      exact retP (v := .mk 3 [] [] [v] th []) rfl (AllRes.cons (ResIs.cellAgg (k := 6) rfl (List.Mem.head _) rfl (LV.Sub.agg (bs := [_, _, .list [], _, _, .list []]) ⟨LV.Sub.refl _, LV.Sub.refl _, LV.Sub.nil, LV.Sub.refl _, LV.Sub.refl _, LV.Sub.nil, trivial⟩)) AllRes.nil) (by cases hr; rfl) (by rw [encS_mk]; rfl) (HSub.pick (Pick.there Pick.here) (HSub.nil _))
  · rw [if_neg (by rw [hc]; decide)] at hr
    simp only [hc, Bool.false_eq_true, if_false]
    repeat first
      | refine LCode.seq ?_
      | refine LCode.region ?_
      | refine LOps.pure (Pure.mv (lv := .atom _) rfl) rfl ?_
    refine LOps.step (S.fnH [_, _] rfl Pick.here (take_spec sb T i op kwWhile hl (by omega)) ?_) rfl
    repeat first
      | refine LOps.nil ?_
      | refine QThen.normal ?_
      | refine LOps.pure (Pure.as (lv := .atom _) rfl) rfl ?_
    refine LCode.cond rfl (fun hc2 => ?_) (fun hc2 => ?_)
    · have hlt := isTok_lt hc2
      rw [if_pos hc2] at hr
      simp only [hc2, if_true]
      repeat first
        | refine LCode.seq ?_
        | refine LCode.region ?_
        | refine LOps.pure (Pure.mv (lv := .atom _) rfl) rfl ?_
      obtain ⟨r1, hr1⟩ := obind_is hr
      refine LOps.step (S.callP [_] rfl Pick.here (hE f (by omega) _ _ r1 (by omega) (by omega) hr1) (fun v i1 op1 h1 => ?_) (fun l er i1 op1 h1 e9 he9 => ?_)) rfl
      rotate_left
      · rw [hr1, h1, obind_err] at hr
        repeat first | refine QThen.panic ?_ | refine QBlock.panic ?_
        exact panP (by first | exact he9.trans rfl | exact he9.trans hj | exact he9.trans (hj2.trans hj)) (by cases hr; rfl) (HSub.pick Pick.here (HSub.nil _))
      rw [hr1, h1, obind_ok] at hr
      obtain ⟨g1, g2, g3, rfl⟩ := gL 0 _ _ _ (hr1.trans (congrArg some h1))
      have g4 := g3 (by omega)
      refine LOps.step (S.lit [_] rfl (elemsOk.cons rfl rfl elemsOk.nil) rfl rfl rfl ?_) rfl
      repeat first
        | refine LOps.pure (Pure.bld _ (cs := [_, _, _, _, _, _]) rfl) rfl ?_
      refine LOps.step (S.alloc fun b3 => ?_) rfl
      repeat first
        | refine LOps.nil ?_
        | refine LCode.seq ?_
        | refine LCode.region ?_
        | refine QThen.normal ?_
        | refine LOps.pure (Pure.mv (lv := .atom _) rfl) rfl ?_
        | refine LOps.step (S.store (cs' := [_, _, _, _, _, _]) rfl Pick.here rfl rfl rfl rfl rfl ?_) rfl
      obtain ⟨r2, hr2⟩ := obind_is hr
      refine LOps.step (S.callP [_] rfl (Pick.there Pick.here) (hB _ _ r2 (by omega) (by omega) hr2) (fun th i2 op2 h2 => ?_) (fun l er i2 op2 h2 e9 he9 => ?_)) rfl
      rotate_left
      · rw [hr2, h2, obind_err] at hr
        repeat first | refine QThen.panic ?_ | refine QBlock.panic ?_
        exact panP (by first | exact he9.trans rfl | exact he9.trans hj | exact he9.trans (hj2.trans hj)) (by cases hr; rfl) (HSub.pick Pick.here (HSub.nil _))
      rw [hr2, h2, obind_ok] at hr
      repeat first
        | refine LOps.nil ?_
        | refine LCode.seq ?_
        | refine LCode.region ?_
        | refine LCode.ret ?_
        | refine QThen.normal ?_
        | refine QThen.ret ?_
        | refine QBlock.ret ?_
        | refine LOps.pure (Pure.fieldH rfl) rfl ?_
        | refine LOps.pure (Pure.ldHAgg (cs' := [_, _, _, _, _, _]) rfl (List.Mem.head _) rfl rfl) rfl ?_
        | refine LOps.step (S.store (cs' := [_, _, _, _, _, _]) rfl (Pick.there Pick.here) rfl rfl rfl rfl rfl ?_) rfl
        | refine LOps.step (S.store (cs' := [_, _, _, _, _, _]) rfl (Pick.there (Pick.there Pick.here)) rfl rfl rfl rfl rfl ?_) rfl
      exact retP (v := .mk 4 [] [] [v] th []) rfl (AllRes.cons (ResIs.cellAgg (k := 6) rfl (List.Mem.head _) rfl (LV.Sub.agg (bs := [_, _, .list [], _, _, .list []]) ⟨LV.Sub.refl _, LV.Sub.refl _, LV.Sub.nil, LV.Sub.refl _, LV.Sub.refl _, LV.Sub.nil, trivial⟩)) AllRes.nil) (by cases hr; rfl) (by rw [encS_mk]; rfl) (HSub.pick (Pick.there (Pick.there Pick.here)) (HSub.nil _))
    · rw [if_neg (by rw [hc2]; decide)] at hr
      simp only [hc2, Bool.false_eq_true, if_false]
      repeat first
        | refine LCode.seq ?_
        | refine LCode.region ?_
        | refine LCode.skip ?_
        | refine QThen.normal ?_
        | refine QBlock.normal ?_
        | refine LOps.pure (Pure.mv (lv := .atom _) rfl) rfl ?_
      obtain ⟨r1, hr1⟩ := obind_is hr
      refine LOps.step (S.callP [_] rfl Pick.here (hM _ _ r1 (by omega) (by omega) hr1) (fun v i1 op1 h1 => ?_) (fun l er i1 op1 h1 e9 he9 => ?_)) rfl
      rotate_left
      · rw [hr1, h1, obind_err] at hr
        repeat first | refine QThen.panic ?_ | refine QBlock.panic ?_
        exact panP (by first | exact he9.trans rfl | exact he9.trans hj | exact he9.trans (hj2.trans hj)) (by cases hr; rfl) (HSub.pick Pick.here (HSub.nil _))
      rw [hr1, h1, obind_ok] at hr
      obtain ⟨g1, g2, g3, rfl⟩ := kM _ _ _ (hr1.trans (congrArg some h1))
      have g4 := g3 (by omega)
      refine LOps.step (S.alloc fun b5 => ?_) rfl
      repeat first
        | refine LOps.nil ?_
        | refine LCode.seq ?_
        | refine LCode.region ?_
        | refine QThen.normal ?_
        | refine LOps.pure (Pure.mv (lv := .atom _) rfl) rfl ?_
        | refine LOps.step (S.store (cs' := [_, _, _, _, _, _]) rfl Pick.here rfl rfl rfl rfl rfl ?_) rfl
      refine LOps.step (S.callP [_, _] rfl (Pick.there Pick.here) (need_spec sb T i1 op1 [59] hl (by omega)) (fun u i2 op2 h2 => ?_) (fun l er i2 op2 h2 e9 he9 => ?_)) rfl
      rotate_left
      · rw [h2, obind_err] at hr
        repeat first | refine QThen.panic ?_ | refine QBlock.panic ?_
        exact panP (by first | exact he9.trans rfl | exact he9.trans hj | exact he9.trans (hj2.trans hj)) (by cases hr; rfl) (HSub.pick Pick.here (HSub.nil _))
      rw [h2, obind_ok] at hr
      repeat first
        | refine LOps.nil ?_
        | refine LCode.seq ?_
        | refine LCode.region ?_
        | refine LCode.ret ?_
        | refine QThen.normal ?_
        | refine LOps.pure (Pure.ldHAgg (cs' := [_, _, _, _, _, _]) rfl (List.Mem.tail _ (List.Mem.head _)) rfl rfl) rfl ?_
        | refine LOps.step (S.store (cs' := [_, _, _, _, _, _]) rfl (Pick.there (Pick.there Pick.here)) rfl rfl rfl rfl rfl ?_) rfl
      exact retP (v := v) rfl (AllRes.cons (ResIs.cellAgg rfl (List.Mem.head _) rfl (LV.Sub.refl _)) AllRes.nil) (by cases hr; rfl) rfl (HSub.pick (Pick.there Pick.here) (HSub.nil _))
theorem st_all (hG : GW B0 w0) (sb : Nat) (T : List Tok) (hT : TOK T) : ∀ f : Nat, BlockC B0 w0 sb T f ∧ StmtsC B0 w0 sb T f ∧ StmtC B0 w0 sb T f ∧ SimpleC B0 w0 sb T f := by
  intro f
  induction f using Nat.strongRecOn with
  | _ f ih =>
    have hE := fun g => (all_spec (B0 := B0) (w0 := w0) hG sb T hT g).2
    cases f with
    | zero =>
      refine ⟨?_, stmts_spec sb T hT 0 (fun g hg => by omega), ?_, ?_⟩
      · intro i op r _ _ hr; rw [sBlock] at hr; cases hr
      · intro i op r _ _ hr; rw [sStmt] at hr; cases hr
      · intro i op r _ _ hr; rw [sSimple] at hr; cases hr
    | succ f =>
      have h := ih f (by omega)
      exact ⟨block_spec sb T hT f h.2.1, stmts_spec sb T hT _ (fun g hg => (ih g hg).2.2.1), stmt_spec sb T hT f (fun g _ => hE g) h.1 h.2.2.2, simple_spec sb T hT f (fun g _ => hE g)⟩
end
end Go.Proofs.YtfodkbchknknjaaDoor
