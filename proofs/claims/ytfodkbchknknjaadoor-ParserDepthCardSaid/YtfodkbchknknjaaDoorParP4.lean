/- The parser's arguments and primary, walked. -/
import Derived.Test.YtfodkbchknknjaaDoorParP3
set_option linter.unusedVariables false
set_option linter.unusedSimpArgs false
namespace Go.Proofs.YtfodkbchknknjaaDoor
open Go.GL Go.RowKit Go.Stele
set_option maxRecDepth 100000
set_option maxHeartbeats 4000000
attribute [local irreducible] LOps LCode LStep LCalls Go.GL.Pure QThen QBlock RetPost LQ LAny LLate LLateOp
def encEL (l : List Ex) : LV := .list (l.map encE)
section
variable {B0 : Nat} {w0 : World}
theorem args_spec (sb : Nat) (T : List Tok) (hT : TOK T) (f : Nat) (hE : ∀ g, g < f → ExprC B0 w0 sb T g) (i op : Nat) (r : Res (List Ex)) (hi : i ≤ T.length) (ho : op ≤ 100) (hr : eArgs T f i op = some r) :
    LCalls (KC B0 w0) 84 [ptr sb 0] [srcH sb T i op] (PostP sb T encEL r) := by
  have hl := hT.len
  obtain ⟨f, rfl⟩ : ∃ g, f = g + 1 := by
    cases f with
    | zero => rw [eArgs] at hr; cases hr
    | succ g => exact ⟨g, rfl⟩
  rw [eArgs] at hr
  refine LCalls.intro Tryd.func84 rfl (n := 23) rfl rfl rfl ?_
  repeat first
    | refine LOps.nil ?_
    | refine LCode.seq ?_
    | refine LCode.region ?_
    | refine QThen.normal ?_
    | refine LOps.pure (Pure.as (lv := .atom _) rfl) rfl ?_
    | refine LOps.pure (Pure.mv (lv := .atom _) rfl) rfl ?_
  refine LOps.step (S.callP [_, _] rfl Pick.here (begin_spec sb T i op [40] hl (by omega) (by omega)) (fun v i1 op1 h1 => ?_) (fun l er i1 op1 h1 e' he' => ?_)) rfl
  · rw [h1, obind_ok] at hr
    obtain ⟨rfl, rfl, ho1, hi1⟩ := sBegin_ok h1
    repeat first
      | refine LOps.nil ?_
      | refine LCode.seq ?_
      | refine LCode.region ?_
      | refine LCode.block ?_
      | refine QThen.normal ?_
      | refine LOps.pure (Pure.as (lv := .atom _) rfl) rfl ?_
    obtain ⟨r1, hr1⟩ := obind_is hr
    refine LCode.loopI (fun k ls H => ∃ (v : LV) (l : List Ex) (i2 : Nat) (Ha : Heap), k ≤ f ∧ ls = [(0, ptr sb 0), (3, v)] ∧ H = srcH sb T i2 (op + 1) :: Ha ∧ Acc 4 v (l.map encE) Ha [] ∧ i2 ≤ T.length ∧ l.length ≤ i2 + 1 ∧ eArgsLoop T k l i2 (op + 1) = some r1)
      ⟨f, _, srcH sb T (i + 1) (op + 1) :: [], ⟨nilSlice, [], i + 1, _, Nat.le_refl _, rfl, rfl, Acc.nil, by omega, by simp, hr1⟩, ⟨rfl, rfl, trivial⟩, HSub.refl _⟩ ?_
    rintro k ls H ⟨v, l, i2, Ha, hkf, rfl, rfl, hacc, hi2, hll, hI⟩ j hj
    obtain ⟨k, rfl⟩ : ∃ k', k = k' + 1 := by
      cases k with
      | zero => rw [eArgsLoop] at hI; cases hI
      | succ k => exact ⟨k, rfl⟩
    rw [eArgsLoop] at hI
    repeat first
      | refine LCode.seq ?_
      | refine LCode.region ?_
      | refine LOps.pure (Pure.mv (lv := .atom _) rfl) rfl ?_
    refine LOps.step (S.lit [_] rfl (elemsOk.cons rfl rfl elemsOk.nil) rfl rfl rfl ?_) rfl
    refine LOps.step (S.fnH [_, _] rfl Pick.here (is_spec sb T i2 (op + 1) [[41]] hl (by omega) (by simp)) ?_) rfl
    repeat first
      | refine LOps.nil ?_
      | refine QThen.normal ?_
      | refine LOps.pure (Pure.not rfl) rfl ?_
    refine LCode.cond rfl (fun hc => ?_) (fun hc => ?_)
    · have hc' : isTok T i2 [[41]] = false := by simpa using hc
      rw [if_neg (by rw [hc']; decide)] at hI
      repeat first
        | refine LCode.seq ?_
        | refine LCode.region ?_
        | refine LCode.skip ?_
        | refine LCode.block ?_
        | refine QThen.normal ?_
      refine LOps.pure (Pure.mv (lv := v) rfl) rfl ?_
      refine LOps.pure (Pure.llen hacc.elems) rfl ?_
      repeat first
        | refine LOps.nil ?_
        | refine QThen.normal ?_
        | refine LOps.pure (Pure.gtr rfl rfl) rfl ?_
      refine LCode.cond rfl (fun hd => ?_) (fun hd => ?_)
      · have hl0 : ¬ l = [] := by
          rintro rfl
          have := of_decide_eq_true hd
          simp at this
        rw [if_neg hl0] at hI
        repeat first
          | refine LCode.region ?_
          | refine LOps.pure (Pure.mv (lv := .atom _) rfl) rfl ?_
        refine LOps.step (S.callP [_, _] rfl Pick.here (need_spec sb T i2 (op + 1) [44] hl (by omega)) (fun u i3 op3 h3 => ?_) (fun l er i3 op3 h3 e' he' => ?_)) rfl
        · rw [h3, obind_ok] at hI
          obtain ⟨q1, q2, q3, rfl⟩ : i2 ≤ i3 ∧ (true = true → i2 < i3) ∧ (i2 ≤ T.length → i3 ≤ T.length) ∧ op3 = op + 1 := by
            have := sNeed_good T [44] i2 (op + 1)
            rw [h3] at this
            exact this
          have q4 := q3 hi2
          repeat first
            | refine LOps.nil ?_
            | refine LCode.region ?_
            | refine QThen.normal ?_
          refine LOps.pure (Pure.mv (lv := v) rfl) rfl ?_
          repeat first
            | refine LOps.pure (Pure.mv (lv := .atom _) rfl) rfl ?_
          obtain ⟨r2, hr2⟩ := obind_is hI
          refine LOps.step (S.callP [_] rfl Pick.here (hE k (by omega) _ _ r2 (by omega) (by omega) hr2) (fun e2 i4 op4 h4 => ?_) (fun l er i4 op4 h4 e' he' => ?_)) rfl
          · rw [hr2, h4, obind_ok] at hI
            obtain ⟨g1, g2, g3, rfl⟩ := (ex_good T k).1 0 _ _ _ (hr2.trans (congrArg some h4))
            have g5 := g3 (by omega)
            have g6 := g2 rfl
            refine LOps.step (S.lit [_] rfl (elemsOk.cons rfl rfl elemsOk.nil) rfl rfl rfl ?_) rfl
            refine LOps.step (S.acc1 rfl hacc rfl (by simp; rfl) rfl (by simp; omega) fun v' H' hacc' => ?_) rfl
            refine LOps.pure (Pure.as (lv := v') rfl) rfl ?_
            repeat first
              | refine LOps.nil ?_
              | refine QThen.normal ?_
              | refine QBlock.normal ?_
            exact ⟨k, _, _, by omega, ⟨v', l ++ [e2], i4, H', by omega, rfl, rfl, by rw [List.map_append]; exact hacc', by omega, by simp; omega, hI⟩, ⟨rfl, rfl, trivial⟩, HSub.refl _, hj⟩
          · rw [hr2, h4, obind_err] at hI
            rw [hr1] at hr
            cases hI
            rw [obind_err] at hr
            repeat first
              | refine QThen.panic ?_
              | refine QBlock.panic ?_
            exact panP (he'.trans hj) (by cases hr; rfl) (HSub.pick Pick.here (HSub.nil _))
        · rw [h3, obind_err] at hI
          rw [hr1] at hr
          cases hI
          rw [obind_err] at hr
          repeat first
            | refine QThen.panic ?_
            | refine QBlock.panic ?_
          exact panP (he'.trans hj) (by cases hr; rfl) (HSub.pick Pick.here (HSub.nil _))
      · have hl0 : l = [] := by
          have := of_decide_eq_false hd
          simp at this
          exact this
        rw [if_pos hl0, obind_ok] at hI
        repeat first
          | refine LCode.region ?_
          | refine LCode.skip ?_
          | refine QThen.normal ?_
        refine LOps.pure (Pure.mv (lv := v) rfl) rfl ?_
        repeat first
          | refine LOps.pure (Pure.mv (lv := .atom _) rfl) rfl ?_
        obtain ⟨r2, hr2⟩ := obind_is hI
        refine LOps.step (S.callP [_] rfl Pick.here (hE k (by omega) _ _ r2 (by omega) (by omega) hr2) (fun e2 i4 op4 h4 => ?_) (fun l er i4 op4 h4 e' he' => ?_)) rfl
        · rw [hr2, h4, obind_ok] at hI
          obtain ⟨g1, g2, g3, rfl⟩ := (ex_good T k).1 0 _ _ _ (hr2.trans (congrArg some h4))
          have g5 := g3 (by omega)
          have g6 := g2 rfl
          refine LOps.step (S.lit [_] rfl (elemsOk.cons rfl rfl elemsOk.nil) rfl rfl rfl ?_) rfl
          refine LOps.step (S.acc1 rfl hacc rfl (by simp; rfl) rfl (by simp; omega) fun v' H' hacc' => ?_) rfl
          refine LOps.pure (Pure.as (lv := v') rfl) rfl ?_
          repeat first
            | refine LOps.nil ?_
            | refine QThen.normal ?_
            | refine QBlock.normal ?_
          exact ⟨k, _, _, by omega, ⟨v', l ++ [e2], i4, H', by omega, rfl, rfl, by rw [List.map_append]; exact hacc', by omega, by simp; omega, hI⟩, ⟨rfl, rfl, trivial⟩, HSub.refl _, hj⟩
        · rw [hr2, h4, obind_err] at hI
          rw [hr1] at hr
          cases hI
          rw [obind_err] at hr
          repeat first
            | refine QThen.panic ?_
            | refine QBlock.panic ?_
          exact panP (he'.trans hj) (by cases hr; rfl) (HSub.pick Pick.here (HSub.nil _))
    · have hc' : isTok T i2 [[41]] = true := by simpa using hc
      rw [if_pos hc'] at hI
      repeat first
        | refine LCode.seq ?_
        | refine LCode.region ?_
        | refine LCode.exit ?_
        | refine QThen.normal ?_
        | refine QThen.exit ?_
        | refine QBlock.hit ?_
        | refine LOps.pure (Pure.mv (lv := .atom _) rfl) rfl ?_
      rw [hr1] at hr
      cases hI
      rw [obind_ok] at hr
      refine LOps.step (S.callP [_, _] rfl Pick.here (end_spec sb T i2 (op + 1) [41] hl (by omega) (by omega) (by omega)) (fun u i3 op3 h3 => ?_) (fun l er i3 op3 h3 e' he' => ?_)) rfl
      · rw [h3, obind_ok] at hr
        repeat first
          | refine LOps.nil ?_
          | refine LCode.seq ?_
          | refine LCode.region ?_
          | refine QThen.normal ?_
        refine LOps.pure (Pure.mv (lv := v) rfl) rfl ?_
        refine LOps.pure (Pure.as (lv := v) rfl) rfl ?_
        repeat first
          | refine LOps.nil ?_
          | refine LCode.ret ?_
          | refine QThen.normal ?_
        exact retP (v := l) hj (AllRes.cons (ResIs.tmp (v := v) rfl hacc.sub) AllRes.nil) (by cases hr; rfl) rfl (HSub.pick Pick.here (HSub.nil _))
      · rw [h3, obind_err] at hr
        repeat first
          | refine QThen.panic ?_
        exact panP (he'.trans hj) (by cases hr; rfl) (HSub.pick Pick.here (HSub.nil _))
  · rw [h1, obind_err] at hr
    repeat first
      | refine QThen.panic ?_
    exact panP (he'.trans rfl) (by cases hr; rfl) (HSub.pick Pick.here (HSub.nil _))
theorem index_specL (sb : Nat) (T : List Tok) (hT : TOK T) (f : Nat) (hE : ∀ g, g < f → ExprC B0 w0 sb T g) (i op : Nat) (r : Res Ex) (hi : i ≤ T.length) (ho : op ≤ 100) (hr : eIndex T f i op = some r) :
    LCalls (KC B0 w0) 85 [ptr sb 0] [srcH sb T i op] (PostP sb T encE r) := by
  cases f with
  | zero => rw [eIndex] at hr; cases hr
  | succ f => exact index_spec sb T hT f (hE f (by omega)) i op r hi ho hr
theorem prim_spec (hG : GW B0 w0) (sb : Nat) (T : List Tok) (hT : TOK T) (f : Nat) (hE : ∀ g, g < f → ExprC B0 w0 sb T g) (i op : Nat) (r : Res Ex) (hi : i ≤ T.length) (ho : op ≤ 100) (hr : ePrim T f i op = some r) :
    LCalls (KC B0 w0) 93 [ptr sb 0] [srcH sb T i op] (PostP sb T encE r) := by
  have hl := hT.len
  have hml : (T.map encTok).length = T.length := List.length_map _
  obtain ⟨f, rfl⟩ : ∃ g, f = g + 1 := by
    cases f with
    | zero => rw [ePrim] at hr; cases hr
    | succ g => exact ⟨g, rfl⟩
  rw [ePrim] at hr
  refine LCalls.intro Tryd.func93 rfl (n := 63) rfl rfl rfl ?_
  repeat first
    | refine LCode.seq ?_
    | refine LCode.region ?_
  refine LOps.step (S.alloc fun b => ?_) rfl
  repeat first
    | refine LOps.nil ?_
    | refine LCode.seq ?_
    | refine LCode.region ?_
    | refine QThen.normal ?_
    | refine LOps.pure (Pure.mv (lv := .atom _) rfl) rfl ?_
  refine LOps.step (S.lit [_] rfl (elemsOk.cons rfl rfl elemsOk.nil) rfl rfl rfl ?_) rfl
  refine LOps.step (S.fnH [_, _] rfl (Pick.there Pick.here) (is_spec sb T i op [[40]] hl (by omega) (by simp)) ?_) rfl
  repeat first
    | refine LOps.nil ?_
    | refine QThen.normal ?_
  refine LCode.cond rfl (fun hp => ?_) (fun hp => ?_)
  · rw [if_pos hp] at hr
    repeat first
      | refine LCode.seq ?_
      | refine LCode.region ?_
      | refine LOps.pure (Pure.mv (lv := .atom _) rfl) rfl ?_
    refine LOps.step (S.callP [_, _] rfl Pick.here (begin_spec sb T i op [40] hl (by omega) (by omega)) (fun v i1 op1 h1 => ?_) (fun l er i1 op1 h1 e' he' => ?_)) rfl
    · rw [h1, obind_ok] at hr
      obtain ⟨rfl, rfl, ho1, hi1⟩ := sBegin_ok h1
      repeat first
        | refine LOps.nil ?_
        | refine LCode.seq ?_
        | refine LCode.region ?_
        | refine QThen.normal ?_
        | refine LOps.pure (Pure.mv (lv := .atom _) rfl) rfl ?_
      obtain ⟨r1, hr1⟩ := obind_is hr
      refine LOps.step (S.callP [_] rfl Pick.here (hE f (by omega) _ _ r1 (by omega) (by omega) hr1) (fun v i2 op2 h2 => ?_) (fun l er i2 op2 h2 e' he' => ?_)) rfl
      · rw [hr1, h2, obind_ok] at hr
        obtain ⟨g1, _, g3, rfl⟩ := (ex_good T f).1 0 _ _ _ (hr1.trans (congrArg some h2))
        have g4 := g3 (by omega)
        refine LOps.step (S.alloc fun b2 => ?_) rfl
        repeat first
          | refine LOps.nil ?_
          | refine LCode.seq ?_
          | refine LCode.region ?_
          | refine QThen.normal ?_
          | refine LOps.pure (Pure.mv (lv := .atom _) rfl) rfl ?_
          | refine LOps.step (S.store (cs' := [_, _, _, _]) rfl Pick.here rfl rfl rfl rfl rfl ?_) rfl
        refine LOps.step (S.callP [_, _] rfl (Pick.there Pick.here) (end_spec sb T i2 (op + 1) [41] hl (by omega) (by omega) (by omega)) (fun u i3 op3 h3 => ?_) (fun l er i3 op3 h3 e' he' => ?_)) rfl
        · rw [h3, obind_ok] at hr
          repeat first
            | refine LOps.nil ?_
            | refine LCode.seq ?_
            | refine LCode.region ?_
            | refine LCode.ret ?_
            | refine QThen.normal ?_
            | refine QThen.ret ?_
            | refine LOps.pure (Pure.ldHAgg (cs' := [_, _, _, _]) rfl (List.Mem.tail _ (List.Mem.head _)) rfl rfl) rfl ?_
            | refine LOps.step (S.store (cs' := [_, _, _, _]) rfl (Pick.there (Pick.there Pick.here)) rfl rfl rfl rfl rfl ?_) rfl
          exact retP rfl (AllRes.cons (ResIs.cellAgg rfl (List.Mem.head _) rfl (LV.Sub.refl _)) AllRes.nil) (by cases hr; rfl) rfl (HSub.drop (HSub.pick Pick.here (HSub.nil _)))
        · rw [h3, obind_err] at hr
          repeat first
            | refine QThen.panic ?_
          exact panP (he'.trans rfl) (by cases hr; rfl) (HSub.pick Pick.here (HSub.nil _))
      · rw [hr1, h2, obind_err] at hr
        repeat first
          | refine QThen.panic ?_
        exact panP (he'.trans rfl) (by cases hr; rfl) (HSub.pick Pick.here (HSub.nil _))
    · rw [h1, obind_err] at hr
      repeat first
        | refine QThen.panic ?_
      exact panP (he'.trans rfl) (by cases hr; rfl) (HSub.pick Pick.here (HSub.nil _))
  · have hp' : isTok T i [[40]] = false := hp
    rw [if_neg (by rw [hp']; decide)] at hr
    repeat first
      | refine LCode.seq ?_
      | refine LCode.skip ?_
      | refine QThen.normal ?_
    refine LCode.cut [(0, ptr sb 0), (2, ptr b 0), (38, bool (decide (kindAt T i = 1)))] ?_ (fun j hj => ?_)
    · refine LCode.quiet (by kernel_rfl) ?_
      repeat first
        | refine LQ.pure (Pure.mv (lv := .atom _) rfl) rfl ?_
        | refine LQ.pure (Pure.nilCheckH rfl) rfl ?_
        | refine LQ.pure (Pure.fieldH rfl) rfl ?_
        | refine LQ.pure (Pure.loadH (c := .atom _) rfl (List.Mem.head _) rfl) rfl ?_
        | refine LQ.pure (Pure.loadH (c := .list _) rfl (List.Mem.head _) rfl) rfl ?_
        | refine LQ.pure (Pure.llen rfl) rfl ?_
        | refine LQ.pure (Pure.lss rfl rfl) rfl ?_
      refine LQ.bcase 25 rfl (fun h => ?_) (fun h => ?_)
      · have hlt : i < T.length := by have := of_decide_eq_true h; omega
        repeat first
          | refine LQ.pure (Pure.mv (lv := .atom _) rfl) rfl ?_
          | refine LQ.pure (Pure.nilCheckH rfl) rfl ?_
          | refine LQ.pure (Pure.fieldH rfl) rfl ?_
          | refine LQ.pure (Pure.loadH (c := .atom _) rfl (List.Mem.head _) rfl) rfl ?_
          | refine LQ.pure (Pure.loadH (c := .list _) rfl (List.Mem.head _) rfl) rfl ?_
          | refine LQ.want rfl rfl ?_
        refine LQ.pure (Pure.ixRef (el' := encTok T[i]) (cs := [_, _, _]) rfl rfl (by omega) (map_get _ _ _ hlt) rfl rfl) rfl ?_
        repeat first
          | refine LQ.pure (Pure.field1 rfl rfl) rfl ?_
          | refine LQ.pure (Pure.loadRef (c := .atom _) rfl rfl) rfl ?_
          | refine LQ.pure (Pure.eql rfl rfl) rfl ?_
          | refine LQ.pure (Pure.pickT (lv := .atom _) rfl rfl) rfl ?_
          | refine LQ.want rfl rfl ?_
          | refine LQ.nil ?_
          | refine QThen.normal ?_
        exact ⟨⟨rfl, rfl, bool_eq (by rw [kindAt, List.getElem?_eq_getElem hlt]), trivial⟩, rfl, rfl⟩
      · have hge : T.length ≤ i := by have := of_decide_eq_false h; omega
        repeat first
          | refine LQ.pure (Pure.pickF (lv := .atom _) rfl rfl) rfl ?_
          | refine LQ.skip rfl rfl rfl rfl ?_
          | refine LQ.nil ?_
          | refine QThen.normal ?_
        exact ⟨⟨rfl, rfl, bool_eq (by rw [kindAt, List.getElem?_eq_none hge]; rfl), trivial⟩, rfl, rfl⟩
    · skip
      refine LCode.cond rfl (fun hk => ?_) (fun hk => ?_)
      · rw [if_pos (of_decide_eq_true hk)] at hr
        repeat first
          | refine LCode.seq ?_
          | refine LCode.region ?_
          | refine LOps.pure (Pure.mv (lv := .atom _) rfl) rfl ?_
        refine LOps.step (S.callP [_] rfl Pick.here (number_specP hG sb T hT i op (by omega)) (fun n i1 op1 h1 => ?_) (fun l er i1 op1 h1 e' he' => ?_)) rfl
        · rw [h1, obind_ok] at hr
          repeat first
            | refine LOps.nil ?_
            | refine LCode.ret ?_
            | refine QThen.normal ?_
            | refine QThen.ret ?_
            | refine LOps.pure (Pure.bld _ (cs := [_, _, _, _]) rfl) rfl ?_
            | refine LOps.step (S.store (cs' := [_, _, _, _]) rfl (Pick.there Pick.here) rfl rfl rfl rfl rfl ?_) rfl
          exact retP (v := .mk nNum n [] []) hj (AllRes.cons (ResIs.cellAgg (k := 4) rfl (List.Mem.head _) rfl (LV.Sub.agg (bs := [_, _, _, .list []]) ⟨LV.Sub.refl _, LV.Sub.refl _, LV.Sub.refl _, LV.Sub.nil, trivial⟩)) AllRes.nil) (by cases hr; rfl) (by rw [encE_mk]; rfl) (HSub.pick (Pick.there Pick.here) (HSub.nil _))
        · rw [h1, obind_err] at hr
          repeat first
            | refine QThen.panic ?_
          exact panP (he'.trans hj) (by cases hr; rfl) (HSub.pick Pick.here (HSub.nil _))
      · rw [if_neg (of_decide_eq_false hk)] at hr
        repeat first
          | refine LCode.seq ?_
          | refine LCode.region ?_
          | refine LCode.skip ?_
          | refine QThen.normal ?_
          | refine LOps.pure (Pure.mv (lv := .atom _) rfl) rfl ?_
        refine LOps.step (S.callP [_, _] rfl Pick.here (word_spec sb T i op 2 hl (by omega)) (fun s i1 op1 h1 => ?_) (fun l er i1 op1 h1 e' he' => ?_)) rfl
        · rw [h1, obind_ok] at hr
          obtain ⟨rfl, rfl, t, ht, _, _⟩ := sWord_ok h1
          have := get_lt ht
          repeat first
            | refine LOps.nil ?_
            | refine LCode.seq ?_
            | refine LCode.region ?_
            | refine LCode.block ?_
            | refine QThen.normal ?_
            | refine LOps.pure (Pure.mv (lv := .atom _) rfl) rfl ?_
            | refine LOps.pure (Pure.as (lv := .atom _) rfl) rfl ?_
          refine LOps.step (S.lit [_] rfl (elemsOk.cons rfl rfl elemsOk.nil) rfl rfl rfl ?_) rfl
          refine LOps.step (S.fnH [_, _] rfl Pick.here (is_spec sb T (i + 1) op1 [[91]] hl (by omega) (by simp)) ?_) rfl
          repeat first
            | refine LOps.nil ?_
            | refine QThen.normal ?_
            | refine LOps.pure (Pure.as (lv := .atom _) rfl) rfl ?_
          refine LCode.cond rfl (fun hx => ?_) (fun hx => ?_)
          · rw [if_pos hx] at hr
            obtain ⟨r1, hr1⟩ := obind_is hr
            repeat first
              | refine LCode.seq ?_
              | refine LCode.region ?_
              | refine LOps.pure (Pure.mv (lv := .atom _) rfl) rfl ?_
            refine LOps.step (S.callP [_] rfl Pick.here (index_specL sb T hT f (fun g hg => hE g (by omega)) (i + 1) op1 r1 (by omega) (by omega) hr1) (fun e2 i2 op2 h2 => ?_) (fun l er i2 op2 h2 e' he' => ?_)) rfl
            · rw [hr1, h2, obind_ok] at hr
              refine LOps.step (S.lit [_] rfl (elemsOk.cons rfl rfl elemsOk.nil) rfl rfl rfl ?_) rfl
              repeat first
                | refine LOps.nil ?_
                | refine LCode.ret ?_
                | refine QThen.normal ?_
                | refine QThen.ret ?_
                | refine QBlock.ret ?_
                | refine LOps.pure (Pure.bld _ (cs := [_, _, _, _]) rfl) rfl ?_
                | refine LOps.step (S.store (cs' := [_, _, _, _]) rfl (Pick.there Pick.here) rfl rfl rfl rfl rfl ?_) rfl
              exact retP (v := .mk nElem 0 s [e2]) hj (AllRes.cons (ResIs.cellAgg rfl (List.Mem.head _) rfl (LV.Sub.refl _)) AllRes.nil) (by cases hr; rfl) (by rw [encE_mk]; rfl) (HSub.pick (Pick.there Pick.here) (HSub.nil _))
            · rw [hr1, h2, obind_err] at hr
              repeat first
                | refine QThen.panic ?_
                | refine QBlock.panic ?_
              exact panP (he'.trans hj) (by cases hr; rfl) (HSub.pick Pick.here (HSub.nil _))
          · have hx' : isTok T (i + 1) [[91]] = false := hx
            rw [if_neg (by rw [hx']; decide)] at hr
            repeat first
              | refine LCode.seq ?_
              | refine LCode.region ?_
              | refine LOps.pure (Pure.mv (lv := .atom _) rfl) rfl ?_
            refine LOps.step (S.lit [_] rfl (elemsOk.cons rfl rfl elemsOk.nil) rfl rfl rfl ?_) rfl
            refine LOps.step (S.fnH [_, _] rfl Pick.here (is_spec sb T (i + 1) op1 [[40]] hl (by omega) (by simp)) ?_) rfl
            repeat first
              | refine LOps.nil ?_
              | refine QThen.normal ?_
              | refine LOps.pure (Pure.as (lv := .atom _) rfl) rfl ?_
            refine LCode.cond rfl (fun hy => ?_) (fun hy => ?_)
            · rw [if_pos hy] at hr
              obtain ⟨r1, hr1⟩ := obind_is hr
              repeat first
                | refine LCode.seq ?_
                | refine LCode.region ?_
                | refine LOps.pure (Pure.mv (lv := .atom _) rfl) rfl ?_
              refine LOps.step (S.callP [_] rfl Pick.here (args_spec sb T hT f (fun g hg => hE g (by omega)) (i + 1) op1 r1 (by omega) (by omega) hr1) (fun e2 i2 op2 h2 => ?_) (fun l er i2 op2 h2 e' he' => ?_)) rfl
              · rw [hr1, h2, obind_ok] at hr
                repeat first
                  | refine LOps.nil ?_
                  | refine LCode.ret ?_
                  | refine QThen.normal ?_
                  | refine QThen.ret ?_
                  | refine QBlock.ret ?_
                  | refine LOps.pure (Pure.bld _ (cs := [_, _, _, _]) rfl) rfl ?_
                  | refine LOps.step (S.store (cs' := [_, _, _, _]) rfl (Pick.there Pick.here) rfl rfl rfl rfl rfl ?_) rfl
                exact retP (v := .mk nCall 0 s e2) hj (AllRes.cons (ResIs.cellAgg rfl (List.Mem.head _) rfl (LV.Sub.refl _)) AllRes.nil) (by cases hr; rfl) (by rw [encE_mk]; rfl) (HSub.pick (Pick.there Pick.here) (HSub.nil _))
              · rw [hr1, h2, obind_err] at hr
                repeat first
                  | refine QThen.panic ?_
                  | refine QBlock.panic ?_
                exact panP (he'.trans hj) (by cases hr; rfl) (HSub.pick Pick.here (HSub.nil _))
            · have hy' : isTok T (i + 1) [[40]] = false := hy
              rw [if_neg (by rw [hy']; decide)] at hr
              repeat first
                | refine LOps.nil ?_
                | refine LCode.seq ?_
                | refine LCode.region ?_
                | refine LCode.skip ?_
                | refine LCode.ret ?_
                | refine QThen.normal ?_
                | refine QBlock.normal ?_
                | refine LOps.pure (Pure.mv (lv := .atom _) rfl) rfl ?_
                | refine LOps.pure (Pure.bld _ (cs := [_, _, _, _]) rfl) rfl ?_
                | refine LOps.step (S.store (cs' := [_, _, _, _]) rfl (Pick.there Pick.here) rfl rfl rfl rfl rfl ?_) rfl
              exact retP (v := .mk nVar 0 s []) hj (AllRes.cons (ResIs.cellAgg (k := 4) rfl (List.Mem.head _) rfl (LV.Sub.agg (bs := [_, _, _, .list []]) ⟨LV.Sub.refl _, LV.Sub.refl _, LV.Sub.refl _, LV.Sub.nil, trivial⟩)) AllRes.nil) (by cases hr; rfl) (by rw [encE_mk]; rfl) (HSub.pick (Pick.there Pick.here) (HSub.nil _))
        · rw [h1, obind_err] at hr
          repeat first
            | refine QThen.panic ?_
          exact panP (he'.trans hj) (by cases hr; rfl) (HSub.pick Pick.here (HSub.nil _))
end
end Go.Proofs.YtfodkbchknknjaaDoor
