/- The parser's variables, functions, arrays, walked. -/
import Derived.Test.YtfodkbchknknjaaDoorParS2
import Derived.Test.YtfodkbchknknjaaDoorGlPair
set_option linter.unusedVariables false
set_option linter.unusedSimpArgs false
namespace Go.Proofs.YtfodkbchknknjaaDoor
open Go.GL Go.RowKit Go.Stele
set_option maxRecDepth 100000
set_option maxHeartbeats 4000000
theorem namesLoop_len (T : List Tok) : ∀ (f : Nat) (acc : List (List UInt8)) (i op : Nat) (l : List (List UInt8)) (i' op' : Nat), sNamesLoop T f acc i op = some (.ok l i' op') → l.length + i ≤ acc.length + i'
  | 0, _, _, _, _, _, _, h => by rw [sNamesLoop] at h; cases h
  | f + 1, acc, i, op, l, i', op', h => by
    rw [sNamesLoop] at h
    split at h
    · rcases obind_some h with ⟨s, i1, op1, h1, h2⟩ | ⟨l, e, _, hh⟩
      · injection h1 with h1
        obtain ⟨rfl, rfl, _⟩ := sWord_ok h1
        have := namesLoop_len T f _ _ _ _ _ _ h2
        rw [List.length_append, List.length_singleton] at this
        omega
      · cases hh
    · cases h
      omega
theorem names_len {T : List Tok} {f i op : Nat} {l : List (List UInt8)} {i' op' : Nat} (h : sNames T f i op = some (.ok l i' op')) : l.length + i ≤ i' := by
  unfold sNames at h
  rcases obind_some h with ⟨s, i1, op1, h1, h2⟩ | ⟨l, e, _, hh⟩
  · injection h1 with h1
    obtain ⟨rfl, rfl, _⟩ := sWord_ok h1
    have := namesLoop_len T f _ _ _ _ _ _ h2
    rw [List.length_singleton] at this
    omega
  · cases hh
theorem vars_len (T : List Tok) : ∀ (f : Nat) (acc : List (List UInt8)) (i op : Nat) (l : List (List UInt8)) (i' op' : Nat), sVars T f acc i op = some (.ok l i' op') → l.length + i ≤ acc.length + i'
  | 0, _, _, _, _, _, _, h => by rw [sVars] at h; cases h
  | f + 1, acc, i, op, l, i', op', h => by
    rw [sVars] at h
    split at h
    · rcases obind_some h with ⟨s, i1, op1, h1, h2⟩ | ⟨l, e, _, hh⟩
      · have := names_len h1
        rcases obind_some h2 with ⟨u, i2, op2, h3, h4⟩ | ⟨l, e, _, hh⟩
        · injection h3 with h3
          have hg := sNeed_good T [59] i1 op1
          rw [h3] at hg
          have hv := vars_len T f _ _ _ _ _ _ h4
          have := hg.1
          rw [List.length_append] at hv
          omega
        · cases hh
      · cases hh
    · cases h
      omega
attribute [local irreducible] LOps LCode LStep LCalls Go.GL.Pure QThen QBlock RetPost LQ LAny LLate LLateOp
section
variable {B0 : Nat} {w0 : World}
theorem vars_spec (sb : Nat) (T : List Tok) (hT : TOK T) (f i op : Nat) (r : Res (List (List UInt8))) (hi : i ≤ T.length) (hr : sVars T f [] i op = some r) :
    LCalls (KC B0 w0) 20 [ptr sb 0] [srcH sb T i op] (PostP sb T encNames r) := by
  have hl := hT.len
  refine LCalls.intro Tryd.func20 rfl (n := 13) rfl rfl rfl ?_
  repeat first
    | refine LOps.nil ?_
    | refine LCode.seq ?_
    | refine LCode.region ?_
    | refine LCode.block ?_
    | refine QThen.normal ?_
    | refine LOps.pure (Pure.as (lv := .atom _) rfl) rfl ?_
  refine LCode.loopI (fun k ls H => ∃ (v : LV) (l : List (List UInt8)) (i2 : Nat) (Ha : Heap), k ≤ f ∧ ls = [(0, ptr sb 0), (3, v)] ∧ H = srcH sb T i2 op :: Ha ∧ Acc 1 v (l.map str) Ha [] ∧ i2 ≤ T.length ∧ l.length ≤ i2 ∧ sVars T k l i2 op = some r)
    ⟨f, _, srcH sb T i op :: [], ⟨nilSlice, [], i, _, Nat.le_refl _, rfl, rfl, Acc.nil, by omega, by simp, hr⟩, ⟨rfl, rfl, trivial⟩, HSub.refl _⟩ ?_
  rintro k ls H ⟨v, l, i2, Ha, hkf, rfl, rfl, hacc, hi2, hll, hI⟩ j hj
  obtain ⟨k, rfl⟩ : ∃ k', k = k' + 1 := by
    cases k with
    | zero => rw [sVars] at hI; cases hI
    | succ k => exact ⟨k, rfl⟩
  rw [sVars] at hI
  repeat first
    | refine LCode.seq ?_
    | refine LCode.region ?_
    | refine LOps.pure (Pure.mv (lv := .atom _) rfl) rfl ?_
  refine LOps.step (S.fnH [_, _] rfl Pick.here (take_spec sb T i2 op kwVar hl (by omega)) ?_) rfl
  repeat first
    | refine LOps.nil ?_
    | refine QThen.normal ?_
  refine LCode.cond rfl (fun hc => ?_) (fun hc => ?_)
  · have hlt := isTok_lt hc
    rw [if_pos hc] at hI
    simp only [hc, if_true]
    repeat first
      | refine LCode.seq ?_
      | refine LCode.region ?_
      | refine LCode.skip ?_
      | refine LCode.block ?_
      | refine QThen.normal ?_
    refine LOps.pure (Pure.mv (lv := v) rfl) rfl ?_
    repeat first
      | refine LOps.pure (Pure.mv (lv := .atom _) rfl) rfl ?_
    obtain ⟨r2, hr2⟩ := obind_is hI
    refine LOps.step (S.callP [_] rfl Pick.here (names_specP sb T hT k (i2 + 1) op r2 (by omega) hr2) (fun ns i4 op4 h4 => ?_) (fun l er i4 op4 h4 e9 he9 => ?_)) rfl
    rotate_left
    · rw [hr2, h4, obind_err] at hI
      repeat first | refine QThen.panic ?_ | refine QBlock.panic ?_
      exact panP (by first | exact he9.trans rfl | exact he9.trans hj | exact he9.trans (hj2.trans hj)) (by cases hI; rfl) (HSub.pick Pick.here (HSub.nil _))
    rw [hr2, h4, obind_ok] at hI
    obtain ⟨g1, g2, g3, rfl⟩ := sNames_good T k _ _ _ (hr2.trans (congrArg some h4))
    have g5 := g3 (by omega)
    have g6 := names_len (hr2.trans (congrArg some h4))
    refine LOps.step (S.acc1 (ms := ns.map str) rfl hacc rfl (strs_len ns) (strs_ok ns) (by simp; omega) fun v' H' hacc' => ?_) rfl
    refine LOps.pure (Pure.as (lv := v') rfl) rfl ?_
    repeat first
      | refine LOps.nil ?_
      | refine LCode.region ?_
      | refine QThen.normal ?_
      | refine LOps.pure (Pure.mv (lv := .atom _) rfl) rfl ?_
    refine LOps.step (S.callP [_, _] rfl Pick.here (need_spec sb T i4 op4 [59] hl (by omega)) (fun u i5 op5 h5 => ?_) (fun l er i5 op5 h5 e9 he9 => ?_)) rfl
    rotate_left
    · rw [h5, obind_err] at hI
      repeat first | refine QThen.panic ?_ | refine QBlock.panic ?_
      exact panP (by first | exact he9.trans rfl | exact he9.trans hj | exact he9.trans (hj2.trans hj)) (by cases hI; rfl) (HSub.pick Pick.here (HSub.nil _))
    rw [h5, obind_ok] at hI
    have hg5 := sNeed_good T [59] i4 op4
    rw [h5] at hg5
    obtain ⟨k1, k2, k3, rfl⟩ := hg5
    have k4 := k3 g5
    repeat first
      | refine LOps.nil ?_
      | refine QThen.normal ?_
      | refine QBlock.normal ?_
    exact ⟨k, _, _, by omega, ⟨v', l ++ ns, i5, H', by omega, rfl, rfl, by rw [List.map_append]; exact hacc', by omega, by rw [List.length_append]; omega, hI⟩, ⟨rfl, rfl, trivial⟩, HSub.refl _, hj⟩
  · rw [if_neg (by rw [hc]; decide)] at hI
    simp only [hc, Bool.false_eq_true, if_false]
    repeat first
      | refine LCode.seq ?_
      | refine LCode.region ?_
      | refine LCode.exit ?_
      | refine QThen.normal ?_
      | refine QThen.exit ?_
      | refine QBlock.hit ?_
    refine LOps.pure (Pure.mv (lv := v) rfl) rfl ?_
    refine LOps.pure (Pure.as (lv := v) rfl) rfl ?_
    repeat first
      | refine LOps.nil ?_
      | refine LCode.ret ?_
      | refine QThen.normal ?_
    exact retP (v := l) hj (AllRes.cons (ResIs.tmp (v := v) rfl hacc.sub) AllRes.nil) (by cases hI; rfl) rfl (HSub.pick Pick.here (HSub.nil _))
theorem array_spec (hG : GW B0 w0) (sb : Nat) (T : List Tok) (hT : TOK T) (i op : Nat) (r : Res Ar) (hi : i ≤ T.length) (ho : op ≤ 100) (hr : sArray T i op = some r) :
    LCalls (KC B0 w0) 22 [ptr sb 0] [srcH sb T i op] (PostP sb T encAr r) := by
  have hl := hT.len
  unfold sArray at hr
  refine LCalls.intro Tryd.func22 rfl (n := 18) rfl rfl rfl ?_
  repeat first
    | refine LCode.seq ?_
    | refine LCode.region ?_
  refine LOps.step (S.alloc fun b2 => ?_) rfl
  repeat first
    | refine LOps.nil ?_
    | refine LCode.seq ?_
    | refine LCode.region ?_
    | refine QThen.normal ?_
    | refine LOps.pure (Pure.mv (lv := .atom _) rfl) rfl ?_
  refine LOps.step (S.callP [_, _] rfl (Pick.there Pick.here) (word_spec sb T i op 2 hl (by omega)) (fun s i1 op1 h1 => ?_) (fun l er i1 op1 h1 e9 he9 => ?_)) rfl
  rotate_left
  · rw [h1, obind_err] at hr
    repeat first | refine QThen.panic ?_ | refine QBlock.panic ?_
    exact panP (by first | exact he9.trans rfl | exact he9.trans hj | exact he9.trans (hj2.trans hj)) (by cases hr; rfl) (HSub.pick Pick.here (HSub.nil _))
  rw [h1, obind_ok] at hr
  obtain ⟨rfl, rfl, t, ht, _, _⟩ := sWord_ok h1
  have := get_lt ht
  repeat first
    | refine LOps.pure (Pure.bld _ (cs := [_, _]) rfl) rfl ?_
  refine LOps.step (S.alloc fun b3 => ?_) rfl
  repeat first
    | refine LOps.nil ?_
    | refine LCode.seq ?_
    | refine LCode.region ?_
    | refine QThen.normal ?_
    | refine LOps.pure (Pure.mv (lv := .atom _) rfl) rfl ?_
    | refine LOps.step (S.store (cs' := [_, _]) rfl Pick.here rfl rfl rfl rfl rfl ?_) rfl
  refine LOps.step (S.callP [_, _] rfl (Pick.there Pick.here) (begin_spec sb T (i + 1) op1 [91] hl (by omega) (by omega)) (fun v i2 op2 h2 => ?_) (fun l er i2 op2 h2 e9 he9 => ?_)) rfl
  rotate_left
  · rw [h2, obind_err] at hr
    repeat first | refine QThen.panic ?_ | refine QBlock.panic ?_
    exact panP (by first | exact he9.trans rfl | exact he9.trans hj | exact he9.trans (hj2.trans hj)) (by cases hr; rfl) (HSub.pick Pick.here (HSub.nil _))
  rw [h2, obind_ok] at hr
  obtain ⟨rfl, rfl, ho1, hi1⟩ := sBegin_ok h2
  repeat first
    | refine LOps.nil ?_
    | refine LCode.seq ?_
    | refine LCode.region ?_
    | refine QThen.normal ?_
    | refine LOps.pure (Pure.mv (lv := .atom _) rfl) rfl ?_
  refine LOps.step (S.callP [_] rfl Pick.here (number_specP hG sb T hT (i + 1 + 1) (op1 + 1) (by omega)) (fun m i3 op3 h3 => ?_) (fun l er i3 op3 h3 e9 he9 => ?_)) rfl
  rotate_left
  · rw [h3, obind_err] at hr
    repeat first | refine QThen.panic ?_ | refine QBlock.panic ?_
    exact panP (by first | exact he9.trans rfl | exact he9.trans hj | exact he9.trans (hj2.trans hj)) (by cases hr; rfl) (HSub.pick Pick.here (HSub.nil _))
  rw [h3, obind_ok] at hr
  have hg3 := sNumber_good T (i + 1 + 1) (op1 + 1)
  rw [h3] at hg3
  obtain ⟨k1, k2, k3, rfl⟩ := hg3
  have k4 := k3 (by omega)
  have hm : m ≤ 4294967295 := by
    unfold sNumber at h3
    unfold Res.bind at h3
    split at h3
    · rename_i s2 i6 op6 h6
      cases h3
      obtain ⟨_, _, t6, ht6, hk6, rfl⟩ := sWord_ok h6
      obtain ⟨u, hu, hp⟩ := hT.num t6 (List.mem_of_getElem? ht6) hk6
      rw [numOf, hp]
      simp only
      omega
    · cases h3
  have hw : IntKind.i64.wrap (m : Int) = (m : Int) := wrap_i64 (by omega)
  repeat first
    | refine LOps.nil ?_
    | refine LCode.seq ?_
    | refine LCode.region ?_
    | refine QThen.normal ?_
    | refine LOps.pure (Pure.mv (lv := .atom _) rfl) rfl ?_
    | refine LOps.pure (Pure.cvt rfl) rfl ?_
    | refine LOps.pure (Pure.fieldH rfl) rfl ?_
    | refine LOps.step (S.store (cs' := [_, _]) rfl (Pick.there Pick.here) rfl rfl rfl rfl rfl ?_) rfl
  refine LOps.step (S.callP [_, _] rfl (Pick.there Pick.here) (end_spec sb T i3 (op1 + 1) [93] hl (by omega) (by omega) (by omega)) (fun u i4 op4 h4 => ?_) (fun l er i4 op4 h4 e9 he9 => ?_)) rfl
  rotate_left
  · rw [h4, obind_err] at hr
    repeat first | refine QThen.panic ?_ | refine QBlock.panic ?_
    exact panP (by first | exact he9.trans rfl | exact he9.trans hj | exact he9.trans (hj2.trans hj)) (by cases hr; rfl) (HSub.pick Pick.here (HSub.nil _))
  rw [h4, obind_ok] at hr
  obtain ⟨rfl, rfl, hi4⟩ := sEnd_ok h4
  repeat first
    | refine LOps.nil ?_
    | refine LCode.seq ?_
    | refine LCode.region ?_
    | refine QThen.normal ?_
    | refine LOps.pure (Pure.mv (lv := .atom _) rfl) rfl ?_
  refine LOps.step (S.callP [_, _] rfl Pick.here (need_spec sb T (i3 + 1) op4 [59] hl (by omega)) (fun u2 i5 op5 h5 => ?_) (fun l er i5 op5 h5 e9 he9 => ?_)) rfl
  rotate_left
  · rw [h5, obind_err] at hr
    repeat first | refine QThen.panic ?_ | refine QBlock.panic ?_
    exact panP (by first | exact he9.trans rfl | exact he9.trans hj | exact he9.trans (hj2.trans hj)) (by cases hr; rfl) (HSub.pick Pick.here (HSub.nil _))
  rw [h5, obind_ok] at hr
  repeat first
    | refine LOps.nil ?_
    | refine LCode.seq ?_
    | refine LCode.region ?_
    | refine LCode.ret ?_
    | refine QThen.normal ?_
    | refine LOps.pure (Pure.ldHAgg (cs' := [_, _]) rfl (List.Mem.tail _ (List.Mem.head _)) rfl rfl) rfl ?_
    | refine LOps.step (S.store (cs' := [_, _]) rfl (Pick.there (Pick.there Pick.here)) rfl rfl rfl rfl rfl ?_) rfl
  exact retP (v := ⟨s, m⟩) rfl (AllRes.cons (ResIs.cellAgg (k := 2) rfl (List.Mem.head _) rfl (LV.Sub.refl _)) AllRes.nil) (by cases hr; rfl) (by show LV.agg [str s, int .i64 (IntKind.i64.wrap m)] = encAr ⟨s, m⟩; rw [hw]; rfl) (HSub.pick (Pick.there Pick.here) (HSub.nil _))
theorem func_spec (hG : GW B0 w0) (sb : Nat) (T : List Tok) (hT : TOK T) (f i op : Nat) (r : Res FnD) (hi : i ≤ T.length) (ho : op ≤ 100) (hr : sFunc T f i op = some r) :
    LCalls (KC B0 w0) 23 [ptr sb 0] [srcH sb T i op] (PostP sb T encFn r) := by
  have hl := hT.len
  unfold sFunc at hr
  refine LCalls.intro Tryd.func23 rfl (n := 29) rfl rfl rfl ?_
  repeat first
    | refine LCode.seq ?_
    | refine LCode.region ?_
  refine LOps.step (S.alloc fun b2 => ?_) rfl
  repeat first
    | refine LOps.nil ?_
    | refine LCode.seq ?_
    | refine LCode.region ?_
    | refine QThen.normal ?_
    | refine LOps.pure (Pure.mv (lv := .atom _) rfl) rfl ?_
  refine LOps.step (S.callP [_, _] rfl (Pick.there Pick.here) (word_spec sb T i op 2 hl (by omega)) (fun s i1 op1 h1 => ?_) (fun l er i1 op1 h1 e9 he9 => ?_)) rfl
  rotate_left
  · rw [h1, obind_err] at hr
    repeat first | refine QThen.panic ?_ | refine QBlock.panic ?_
    exact panP (by first | exact he9.trans rfl | exact he9.trans hj | exact he9.trans (hj2.trans hj)) (by cases hr; rfl) (HSub.pick Pick.here (HSub.nil _))
  rw [h1, obind_ok] at hr
  obtain ⟨rfl, rfl, t, ht, _, _⟩ := sWord_ok h1
  have := get_lt ht
  repeat first
    | refine LOps.pure (Pure.bld _ (cs := [_, _, _, _]) rfl) rfl ?_
  refine LOps.step (S.alloc fun b3 => ?_) rfl
  repeat first
    | refine LOps.nil ?_
    | refine LCode.seq ?_
    | refine LCode.region ?_
    | refine QThen.normal ?_
    | refine LOps.pure (Pure.mv (lv := .atom _) rfl) rfl ?_
    | refine LOps.step (S.store (cs' := [_, _, _, _]) rfl Pick.here rfl rfl rfl rfl rfl ?_) rfl
  refine LOps.step (S.callP [_, _] rfl (Pick.there Pick.here) (begin_spec sb T (i + 1) op1 [40] hl (by omega) (by omega)) (fun v i2 op2 h2 => ?_) (fun l er i2 op2 h2 e9 he9 => ?_)) rfl
  rotate_left
  · rw [h2, obind_err] at hr
    repeat first | refine QThen.panic ?_ | refine QBlock.panic ?_
    exact panP (by first | exact he9.trans rfl | exact he9.trans hj | exact he9.trans (hj2.trans hj)) (by cases hr; rfl) (HSub.pick Pick.here (HSub.nil _))
  rw [h2, obind_ok] at hr
  obtain ⟨rfl, rfl, ho1, hi1⟩ := sBegin_ok h2
  repeat first
    | refine LOps.nil ?_
    | refine LCode.seq ?_
    | refine LCode.region ?_
    | refine QThen.normal ?_
    | refine LOps.pure (Pure.mv (lv := .atom _) rfl) rfl ?_
  refine LOps.step (S.lit [_] rfl (elemsOk.cons rfl rfl elemsOk.nil) rfl rfl rfl ?_) rfl
  refine LOps.step (S.fnH [_, _] rfl Pick.here (is_spec sb T (i + 1 + 1) (op1 + 1) [[41]] hl (by omega) (by simp)) ?_) rfl
  repeat first
    | refine LOps.nil ?_
    | refine QThen.normal ?_
    | refine LOps.pure (Pure.not rfl) rfl ?_
  obtain ⟨r3, hr3⟩ := obind_is hr
  refine LCode.mid (A := List (List UInt8) × Nat) (fun _ => [(0, ptr sb 0), (2, ptr b2 0), (3, ptr b3 0)]) (fun a => (b3, .cells 57 [str s, .list (a.1.map str), nilSlice, nilSlice]) :: srcH sb T a.2 (op1 + 1) :: [(b2, .cells 57 [str [], nilSlice, nilSlice, nilSlice])])
    (fun a => i + 1 + 1 ≤ a.2 ∧ a.2 ≤ T.length ∧ r3 = .ok a.1 a.2 (op1 + 1)) ?_ ?_
  · refine LCode.cond rfl (fun hc => ?_) (fun hc => ?_)
    · have hc' : isTok T (i + 1 + 1) [[41]] = false := by simpa using hc
      rw [if_neg (by rw [hc']; decide)] at hr3
      repeat first
        | refine LCode.region ?_
        | refine LOps.pure (Pure.mv (lv := .atom _) rfl) rfl ?_
      refine LOps.step (S.callP [_] rfl Pick.here (names_specP sb T hT f (i + 1 + 1) (op1 + 1) r3 (by omega) hr3) (fun ns i3 op3 h3 => ?_) (fun l er i3 op3 h3 e9 he9 => ?_)) rfl
      · obtain ⟨g1, g2, g3, rfl⟩ := sNames_good T f _ _ _ (hr3.trans (congrArg some h3))
        have g5 := g3 (by omega)
        repeat first
          | refine LOps.nil ?_
          | refine QThen.normal ?_
          | refine LOps.pure (Pure.fieldH rfl) rfl ?_
          | refine LOps.step (S.store (cs' := [_, _, _, _]) rfl (Pick.there Pick.here) rfl rfl rfl rfl rfl ?_) rfl
        exact ⟨(ns, i3), ⟨by omega, g5, h3⟩, ⟨rfl, rfl, rfl, trivial⟩, rfl, rfl⟩
      · rw [if_neg (by rw [hc']; decide), hr3, h3, obind_err] at hr
        repeat first
          | refine QThen.panic ?_
        exact panP (he9.trans rfl) (by cases hr; rfl) (HSub.pick Pick.here (HSub.nil _))
    · have hc' : isTok T (i + 1 + 1) [[41]] = true := by simpa using hc
      rw [if_pos hc'] at hr3
      cases hr3
      refine LCode.cellSub (Pick.there (Pick.here)) (cs' := [str s, .list [], nilSlice, nilSlice]) ⟨LV.Sub.refl _, LV.Sub.nil, LV.Sub.refl _, LV.Sub.refl _, trivial⟩ ?_
      repeat first
        | refine LCode.skip ?_
        | refine QThen.normal ?_
      exact ⟨([], i + 1 + 1), ⟨Nat.le_refl _, by omega, rfl⟩, ⟨rfl, rfl, rfl, trivial⟩, rfl, rfl⟩
  · rintro ⟨ps, i3⟩ ⟨hi3, hi3T, rfl⟩ j hj
    rw [hr3, obind_ok] at hr
    repeat first
      | refine LCode.seq ?_
      | refine LCode.region ?_
      | refine LOps.pure (Pure.mv (lv := .atom _) rfl) rfl ?_
    refine LOps.step (S.callP [_, _] rfl (Pick.there Pick.here) (end_spec sb T i3 (op1 + 1) [41] hl (by omega) (by omega) (by omega)) (fun u i4 op4 h4 => ?_) (fun l er i4 op4 h4 e9 he9 => ?_)) rfl
    rotate_left
    · rw [h4, obind_err] at hr
      repeat first | refine QThen.panic ?_ | refine QBlock.panic ?_
      exact panP (by first | exact he9.trans rfl | exact he9.trans hj | exact he9.trans (hj2.trans hj)) (by cases hr; rfl) (HSub.pick Pick.here (HSub.nil _))
    rw [h4, obind_ok] at hr
    obtain ⟨rfl, rfl, hi4⟩ := sEnd_ok h4
    repeat first
      | refine LOps.nil ?_
      | refine LCode.seq ?_
      | refine LCode.region ?_
      | refine QThen.normal ?_
      | refine LOps.pure (Pure.mv (lv := .atom _) rfl) rfl ?_
    refine LOps.step (S.callP [_, _] rfl Pick.here (begin_spec sb T (i3 + 1) op4 [123] hl (by omega) (by omega)) (fun u2 i5 op5 h5 => ?_) (fun l er i5 op5 h5 e9 he9 => ?_)) rfl
    rotate_left
    · rw [h5, obind_err] at hr
      repeat first | refine QThen.panic ?_ | refine QBlock.panic ?_
      exact panP (by first | exact he9.trans rfl | exact he9.trans hj | exact he9.trans (hj2.trans hj)) (by cases hr; rfl) (HSub.pick Pick.here (HSub.nil _))
    rw [h5, obind_ok] at hr
    obtain ⟨rfl, rfl, ho5, hi5⟩ := sBegin_ok h5
    repeat first
      | refine LOps.nil ?_
      | refine LCode.seq ?_
      | refine LCode.region ?_
      | refine QThen.normal ?_
      | refine LOps.pure (Pure.mv (lv := .atom _) rfl) rfl ?_
    obtain ⟨r6, hr6⟩ := obind_is hr
    refine LOps.step (S.callP [_] rfl Pick.here (vars_spec sb T hT f (i3 + 1 + 1) (op4 + 1) r6 (by omega) hr6) (fun vs i6 op6 h6 => ?_) (fun l er i6 op6 h6 e9 he9 => ?_)) rfl
    rotate_left
    · rw [hr6, h6, obind_err] at hr
      repeat first | refine QThen.panic ?_ | refine QBlock.panic ?_
      exact panP (by first | exact he9.trans rfl | exact he9.trans hj | exact he9.trans (hj2.trans hj)) (by cases hr; rfl) (HSub.pick Pick.here (HSub.nil _))
    rw [hr6, h6, obind_ok] at hr
    obtain ⟨g1, g2, g3, rfl⟩ := sVars_good T f _ _ _ _ (hr6.trans (congrArg some h6))
    have g4 := g3 (by omega)
    repeat first
      | refine LOps.nil ?_
      | refine LCode.seq ?_
      | refine LCode.region ?_
      | refine QThen.normal ?_
      | refine LOps.pure (Pure.mv (lv := .atom _) rfl) rfl ?_
      | refine LOps.pure (Pure.fieldH rfl) rfl ?_
      | refine LOps.step (S.store (cs' := [_, _, _, _]) rfl (Pick.there Pick.here) rfl rfl rfl rfl rfl ?_) rfl
    obtain ⟨r7, hr7⟩ := obind_is hr
    refine LOps.step (S.callP [_] rfl (Pick.there Pick.here) ((st_all hG sb T hT f).2.1 i6 (op4 + 1) r7 (by omega) (by omega) hr7) (fun ss i7 op7 h7 => ?_) (fun l er i7 op7 h7 e9 he9 => ?_)) rfl
    rotate_left
    · rw [hr7, h7, obind_err] at hr
      repeat first | refine QThen.panic ?_ | refine QBlock.panic ?_
      exact panP (by first | exact he9.trans rfl | exact he9.trans hj | exact he9.trans (hj2.trans hj)) (by cases hr; rfl) (HSub.pick Pick.here (HSub.nil _))
    rw [hr7, h7, obind_ok] at hr
    obtain ⟨q1, q2, q3, rfl⟩ := (st_good T f).2.1 _ _ _ _ (hr7.trans (congrArg some h7))
    have q4 := q3 (by omega)
    repeat first
      | refine LOps.nil ?_
      | refine LCode.seq ?_
      | refine LCode.region ?_
      | refine QThen.normal ?_
      | refine LOps.pure (Pure.mv (lv := .atom _) rfl) rfl ?_
      | refine LOps.pure (Pure.fieldH rfl) rfl ?_
      | refine LOps.step (S.store (cs' := [_, _, _, _]) rfl (Pick.there Pick.here) rfl rfl rfl rfl rfl ?_) rfl
    refine LOps.step (S.callP [_, _] rfl (Pick.there Pick.here) (end_spec sb T i7 (op4 + 1) [125] hl (by omega) (by omega) (by omega)) (fun u3 i8 op8 h8 => ?_) (fun l er i8 op8 h8 e9 he9 => ?_)) rfl
    rotate_left
    · rw [h8, obind_err] at hr
      repeat first | refine QThen.panic ?_ | refine QBlock.panic ?_
      exact panP (by first | exact he9.trans rfl | exact he9.trans hj | exact he9.trans (hj2.trans hj)) (by cases hr; rfl) (HSub.pick Pick.here (HSub.nil _))
    rw [h8, obind_ok] at hr
    repeat first
      | refine LOps.nil ?_
      | refine LCode.seq ?_
      | refine LCode.region ?_
      | refine LCode.ret ?_
      | refine QThen.normal ?_
      | refine LOps.pure (Pure.ldHAgg (cs' := [_, _, _, _]) rfl (List.Mem.tail _ (List.Mem.head _)) rfl rfl) rfl ?_
      | refine LOps.step (S.store (cs' := [_, _, _, _]) rfl (Pick.there (Pick.there Pick.here)) rfl rfl rfl rfl rfl ?_) rfl
    exact retP (v := ⟨s, ps, vs, ss⟩) hj (AllRes.cons (ResIs.cellAgg (k := 4) rfl (List.Mem.head _) rfl (LV.Sub.refl _)) AllRes.nil) (by cases hr; rfl) rfl (HSub.pick (Pick.there Pick.here) (HSub.nil _))
end
end Go.Proofs.YtfodkbchknknjaaDoor
