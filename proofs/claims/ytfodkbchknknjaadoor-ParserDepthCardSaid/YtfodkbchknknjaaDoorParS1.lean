/- The parser's statements, walked. -/
import Derived.Test.YtfodkbchknknjaaDoorParP8
import Derived.Test.YtfodkbchknknjaaDoorParFuel
set_option linter.unusedVariables false
set_option linter.unusedSimpArgs false
namespace Go.Proofs.YtfodkbchknknjaaDoor
open Go.GL Go.RowKit Go.Stele
set_option maxRecDepth 100000
set_option maxHeartbeats 4000000
attribute [local irreducible] LOps LCode LStep LCalls Go.GL.Pure QThen QBlock RetPost LQ LAny LLate LLateOp
def encSL (l : List Sm) : LV := .list (l.map encS)
section
variable {B0 : Nat} {w0 : World}
def BlockC (B0 : Nat) (w0 : World) (sb : Nat) (T : List Tok) (f : Nat) : Prop :=
  ∀ i op r, i ≤ T.length → op ≤ 100 → sBlock T f i op = some r → LCalls (KC B0 w0) 65 [ptr sb 0] [srcH sb T i op] (PostP sb T encSL r)
def StmtsC (B0 : Nat) (w0 : World) (sb : Nat) (T : List Tok) (f : Nat) : Prop :=
  ∀ i op r, i ≤ T.length → op ≤ 100 → sStmts T f [] i op = some r → LCalls (KC B0 w0) 46 [ptr sb 0] [srcH sb T i op] (PostP sb T encSL r)
def StmtC (B0 : Nat) (w0 : World) (sb : Nat) (T : List Tok) (f : Nat) : Prop :=
  ∀ i op r, i ≤ T.length → op ≤ 100 → sStmt T f i op = some r → LCalls (KC B0 w0) 55 [ptr sb 0] [srcH sb T i op] (PostP sb T encS r)
def SimpleC (B0 : Nat) (w0 : World) (sb : Nat) (T : List Tok) (f : Nat) : Prop :=
  ∀ i op r, i ≤ T.length → op ≤ 100 → sSimple T f i op = some r → LCalls (KC B0 w0) 66 [ptr sb 0] [srcH sb T i op] (PostP sb T encS r)
theorem block_spec (sb : Nat) (T : List Tok) (hT : TOK T) (f : Nat) (hS : StmtsC B0 w0 sb T f) : BlockC B0 w0 sb T (f + 1) := by
  intro i op r hi ho hr
  have hl := hT.len
  rw [sBlock] at hr
  refine LCalls.intro Tryd.func65 rfl (n := 11) rfl rfl rfl ?_
  repeat first
    | refine LOps.nil ?_
    | refine LCode.seq ?_
    | refine LCode.region ?_
    | refine QThen.normal ?_
    | refine LOps.pure (Pure.as (lv := .atom _) rfl) rfl ?_
    | refine LOps.pure (Pure.mv (lv := .atom _) rfl) rfl ?_
  refine LOps.step (S.callP [_, _] rfl Pick.here (begin_spec sb T i op [123] hl (by omega) (by omega)) (fun v i1 op1 h1 => ?_) (fun l er i1 op1 h1 e9 he9 => ?_)) rfl
  rotate_left
  · rw [h1, obind_err] at hr
    repeat first | refine QThen.panic ?_ | refine QBlock.panic ?_
    exact panP (by first | exact he9.trans rfl | exact he9.trans hj | exact he9.trans (hj2.trans hj)) (by cases hr; rfl) (HSub.pick Pick.here (HSub.nil _))
  rw [h1, obind_ok] at hr
  obtain ⟨rfl, rfl, ho1, hi1⟩ := sBegin_ok h1
  repeat first
    | refine LOps.nil ?_
    | refine LCode.seq ?_
    | refine LCode.region ?_
    | refine QThen.normal ?_
    | refine LOps.pure (Pure.mv (lv := .atom _) rfl) rfl ?_
  obtain ⟨r1, hr1⟩ := obind_is hr
  refine LOps.step (S.callP [_] rfl Pick.here (hS _ _ r1 (by omega) (by omega) hr1) (fun l i2 op2 h2 => ?_) (fun l er i2 op2 h2 e9 he9 => ?_)) rfl
  rotate_left
  · rw [hr1, h2, obind_err] at hr
    repeat first | refine QThen.panic ?_ | refine QBlock.panic ?_
    exact panP (by first | exact he9.trans rfl | exact he9.trans hj | exact he9.trans (hj2.trans hj)) (by cases hr; rfl) (HSub.pick Pick.here (HSub.nil _))
  rw [hr1, h2, obind_ok] at hr
  obtain ⟨g1, _, g3, rfl⟩ := (st_good T f).2.1 _ _ _ _ (hr1.trans (congrArg some h2))
  have g4 := g3 (by omega)
  repeat first
    | refine LOps.nil ?_
    | refine LCode.seq ?_
    | refine LCode.region ?_
    | refine QThen.normal ?_
    | refine LOps.pure (Pure.as (lv := .list _) rfl) rfl ?_
    | refine LOps.pure (Pure.mv (lv := .atom _) rfl) rfl ?_
  refine LOps.step (S.callP [_, _] rfl Pick.here (end_spec sb T i2 (op + 1) [125] hl (by omega) (by omega) (by omega)) (fun u i3 op3 h3 => ?_) (fun l er i3 op3 h3 e9 he9 => ?_)) rfl
  rotate_left
  · rw [h3, obind_err] at hr
    repeat first | refine QThen.panic ?_ | refine QBlock.panic ?_
    exact panP (by first | exact he9.trans rfl | exact he9.trans hj | exact he9.trans (hj2.trans hj)) (by cases hr; rfl) (HSub.pick Pick.here (HSub.nil _))
  rw [h3, obind_ok] at hr
  repeat first
    | refine LOps.nil ?_
    | refine LCode.seq ?_
    | refine LCode.region ?_
    | refine LCode.ret ?_
    | refine QThen.normal ?_
    | refine LOps.pure (Pure.as (lv := .list _) rfl) rfl ?_
    | refine LOps.pure (Pure.mv (lv := .list _) rfl) rfl ?_
  exact retP (v := l) rfl (AllRes.cons (ResIs.tmp (v := .list _) rfl (LV.Sub.refl _)) AllRes.nil) (by cases hr; rfl) rfl (HSub.refl _)
theorem stmts_spec (sb : Nat) (T : List Tok) (hT : TOK T) (f : Nat) (hS : ∀ g, g < f → StmtC B0 w0 sb T g) : StmtsC B0 w0 sb T f := by
  intro i op r hi ho hr
  have hl := hT.len
  refine LCalls.intro Tryd.func46 rfl (n := 14) rfl rfl rfl ?_
  repeat first
    | refine LOps.nil ?_
    | refine LCode.seq ?_
    | refine LCode.region ?_
    | refine LCode.block ?_
    | refine QThen.normal ?_
    | refine LOps.pure (Pure.as (lv := .atom _) rfl) rfl ?_
  refine LCode.loopI (fun k ls H => ∃ (v : LV) (l : List Sm) (i2 : Nat) (Ha : Heap), k ≤ f ∧ ls = [(0, ptr sb 0), (3, v)] ∧ H = srcH sb T i2 op :: Ha ∧ Acc 6 v (l.map encS) Ha [] ∧ i2 ≤ T.length ∧ l.length ≤ i2 + 1 ∧ sStmts T k l i2 op = some r)
    ⟨f, _, srcH sb T i op :: [], ⟨nilSlice, [], i, _, Nat.le_refl _, rfl, rfl, Acc.nil, by omega, by simp, hr⟩, ⟨rfl, rfl, trivial⟩, HSub.refl _⟩ ?_
  rintro k ls H ⟨v, l, i2, Ha, hkf, rfl, rfl, hacc, hi2, hll, hI⟩ j hj
  obtain ⟨k, rfl⟩ : ∃ k', k = k' + 1 := by
    cases k with
    | zero => rw [sStmts] at hI; cases hI
    | succ k => exact ⟨k, rfl⟩
  rw [sStmts] at hI
  repeat first
    | refine LCode.seq ?_
    | refine LCode.region ?_
    | refine LOps.pure (Pure.mv (lv := .atom _) rfl) rfl ?_
  refine LOps.step (S.lit [_] rfl (elemsOk.cons rfl rfl elemsOk.nil) rfl rfl rfl ?_) rfl
  refine LOps.step (S.fnH [_, _] rfl Pick.here (is_spec sb T i2 op [[125]] hl (by omega) (by simp)) ?_) rfl
  repeat first
    | refine LOps.nil ?_
    | refine QThen.normal ?_
    | refine LOps.pure (Pure.not rfl) rfl ?_
  refine LCode.cond rfl (fun hc => ?_) (fun hc => ?_)
  · have hc' : isTok T i2 [[125]] = false := by simpa using hc
    rw [if_neg (by rw [hc']; decide)] at hI
    repeat first
      | refine LCode.region ?_
      | refine LCode.skip ?_
      | refine LCode.block ?_
      | refine QThen.normal ?_
    refine LOps.pure (Pure.mv (lv := v) rfl) rfl ?_
    repeat first
      | refine LOps.pure (Pure.mv (lv := .atom _) rfl) rfl ?_
    obtain ⟨r2, hr2⟩ := obind_is hI
    refine LOps.step (S.callP [_] rfl Pick.here (hS k (by omega) _ _ r2 (by omega) (by omega) hr2) (fun e2 i4 op4 h4 => ?_) (fun l er i4 op4 h4 e9 he9 => ?_)) rfl
    rotate_left
    · rw [hr2, h4, obind_err] at hI
      repeat first | refine QThen.panic ?_ | refine QBlock.panic ?_
      exact panP (by first | exact he9.trans rfl | exact he9.trans hj | exact he9.trans (hj2.trans hj)) (by cases hI; rfl) (HSub.pick Pick.here (HSub.nil _))
    rw [hr2, h4, obind_ok] at hI
    obtain ⟨g1, g2, g3, rfl⟩ := (st_good T k).2.2.1 _ _ _ (hr2.trans (congrArg some h4))
    have g5 := g3 (by omega)
    have g6 := g2 rfl
    refine LOps.step (S.lit [_] rfl (elemsOk.cons rfl rfl elemsOk.nil) rfl rfl rfl ?_) rfl
    refine LOps.step (S.acc1 rfl hacc rfl (by simp; rfl) rfl (by simp; omega) fun v' H' hacc' => ?_) rfl
    refine LOps.pure (Pure.as (lv := v') rfl) rfl ?_
    repeat first
      | refine LOps.nil ?_
      | refine QThen.normal ?_
      | refine QBlock.normal ?_
    exact ⟨k, _, _, by omega, ⟨v', l ++ [e2], i4, H', by omega, rfl, rfl, by rw [List.map_append]; exact hacc', by omega, by simp; omega, hI⟩, ⟨rfl, rfl, trivial⟩, HSub.refl _, hj⟩
  · have hc' : isTok T i2 [[125]] = true := by simpa using hc
    rw [if_pos hc'] at hI
    repeat first
      | refine LCode.seq ?_
      | refine LCode.region ?_
      | refine LCode.exit ?_
      | refine QThen.normal ?_
      | refine QThen.exit ?_
      | refine QBlock.hit ?_
    refine LOps.pure (Pure.mv (lv := v) rfl) rfl ?_
    refine LOps.pure (Pure.as (lv := v) rfl) rfl ?_
    repeat first
      | refine LOps.nil ?_
      | refine LCode.ret ?_
      | refine QThen.normal ?_
    exact retP (v := l) hj (AllRes.cons (ResIs.tmp (v := v) rfl hacc.sub) AllRes.nil) (by cases hI; rfl) rfl (HSub.pick Pick.here (HSub.nil _))
end
end Go.Proofs.YtfodkbchknknjaaDoor
