/- Texts joined: ParP8, ParS1, ParS2, ParS3, ParS4, GlDefer, ParS5, InpW9, GlGrow. -/
import Derived.Recover
import Derived.Test.YtcbpcianefpniaaGreatDoorBRowIS1
import Derived.Test.YtcbpcianefpniaaGreatDoorBRowIS2
import Derived.Test.YtcbpcianefpniaaGreatDoorBRowIS3
import Derived.Test.YtcbpcianefpniaaGreatDoorBRowIS4
import Derived.Test.YtcbpcianefpniaaGreatDoorBRowIS5
set_option linter.unusedVariables false
set_option linter.unusedSimpArgs false
namespace Go.Proofs.YtcbpcianefpniaaGreatDoor
open Go.GL Go.RowKit Go.Stele
set_option maxRecDepth 100000
set_option maxHeartbeats 4000000
attribute [local irreducible] LOps LCode LStep LCalls Go.GL.Pure QThen QBlock RetPost LQ LAny LLate LLateOp LCodeR LOpsW RetPostM LIter LYield
def lvs : List (List (List UInt8)) := [lvOps 0, lvOps 1, lvOps 2, lvOps 3, lvOps 4, lvOps 5]
theorem lvs_at (q : Nat) (h : q < 6) : backArgs lvs q = [int .i64 (((5 - q : Nat) : Int)), .list ((lvOps (5 - q)).map str)] := by
 have : q = 0 ∨ q = 1 ∨ q = 2 ∨ q = 3 ∨ q = 4 ∨ q = 5 := by omega
 rcases this with rfl | rfl | rfl | rfl | rfl | rfl <;> rfl
theorem RetPostM.mkRet {C : Ctx} {n : Nat} {e : Env} {H H' : Heap} {R : LRes → Heap → Prop} {rs : List ResultVar} {vs : List LV} {D : Nat} (hd : e.ds = [{ target := .collected D, args := #[] }]) (F : Heap) (hp : H.Perm ((D, .obj (.deferred (some []))) :: F)) (h : AllRes C n e F rs vs) (hH : HSub H' F) (hR : R (.ret (resLV vs)) H') :
  RetPostM C n rs R .ret e H := by
 unfold RetPostM
 exact ⟨D, F, hd, hp, vs, H', h, hH, hR⟩
theorem RetPostM.mkPanic {C : Ctx} {n : Nat} {e : Env} {H H' : Heap} {R : LRes → Heap → Prop} {rs : List ResultVar} {ch : List PanicEntry} {D : Nat} (hd : e.ds = [{ target := .collected D, args := #[] }]) (F : Heap) (hp : H.Perm ((D, .obj (.deferred (some []))) :: F)) (hH : HSub H' F) (hR : R (.panic ch) H') :
  RetPostM C n rs R (.panic ch) e H := by
 unfold RetPostM
 exact .inr ⟨D, F, hd, hp, H', hH, hR⟩
section
variable {B0 : Nat} {w0 : World}
theorem expr_spec (sb : Nat) (T : List Tok) (f : Nat) (hC : CloC B0 w0 sb T f) : ExprC B0 w0 sb T f := by
 intro i op r hi ho hr
 refine LCalls.introM Tryz.func194 rfl (n := 20) rfl rfl rfl ?_
 repeat first | refine LCode.seq ?_ | refine LCode.region ?_
 refine LOps.step (S.box rfl fun b1 => ?_) rfl
 refine LOps.step (S.alloc fun b2 => ?_) rfl
 repeat first | refine LOps.nil ?_ | refine LCode.seq ?_ | refine LCode.region ?_ | refine QThen.normal ?_ | refine LOps.pure (Pure.loadH (c := .atom _) rfl (List.Mem.tail _ (List.Mem.head _)) rfl) rfl ?_ | refine LOps.pure (Pure.makeFunc rfl rfl) rfl ?_
 refine LOps.step (S.alloc fun b3 => ?_) rfl
 repeat first | refine LOps.nil ?_ | refine LCode.seq ?_ | refine LCode.region ?_ | refine QThen.normal ?_ | refine LOps.step (S.store (cs' := [_]) rfl Pick.here rfl rfl rfl rfl rfl ?_) rfl
 refine LOps.step (S.fn [] rfl levels_spec ?_) rfl
 refine LOps.step (S.call0 [_] rfl (backward_spec levelsLV) (fun v H' h => ?_) (fun ch H' h => ?_)) rfl
 ·obtain ⟨bB, h, rfl⟩ := h
  cases h
  repeat first | refine LOps.nil ?_ | refine LCode.block ?_ | refine QThen.normal ?_
  have hexit : ∀ (first caps : Array Value) (fn : FuncId) (Hclo F : Heap), Clo sb 0 fn first caps Hclo → TEnter Tryz.prog fn := fun _ _ _ _ _ h => h.enter
  refine LCode.rangeFunc (g := .tmp 9) (ps := [10, 11]) (caps := #[.pointer (some ⟨bB, 0, none⟩)]) (by rfl) lvs.length (backArgs lvs)
   [(b3, .cells 229 [.atom (.func (.func 211) #[.pointer (some ⟨sb, 0, none⟩)] #[])]), (b2, .cells 170 [str [], int .u32 0, str [], nilSlice]), (b1, .cells 93 [ptr sb 0]), srcH sb T i op] [(bB, .cells 176 [.list levelsLV])]
   (List.perm_append_singleton _ _).symm (iter_spec bB lvs (by decide)) (fun k hk => by rw [lvs_at k hk]; rfl) (by rfl)
   (fun q Hq => ∃ (fn : FuncId) (first caps : Array Value) (Hclo : Heap), Clo sb (6 - q) fn first caps Hclo ∧ Hq = (b3, .cells 229 [.atom (.func (.func fn) first caps)]) :: (b2, .cells 170 [str [], int .u32 0, str [], nilSlice]) :: (b1, .cells 93 [ptr sb 0]) :: srcH sb T i op :: Hclo)
   ⟨_, _, _, [], .un, rfl⟩ ?_ ?_
  ·rintro q Hq hq ⟨fn, first, caps, Hclo, hclo, rfl⟩ j hjd hja l D o oD
   have hq6 : q < 6 := hq
   have hj1 : j.s 1 = ptr b1 0 := hja 1 _ rfl
   have hj3 : j.s 3 = ptr b3 0 := hja 3 _ rfl
   rw [lvs_at q hq6, ← Env.slots_self (e := j) (l := [(1, ptr b1 0), (3, ptr b3 0)]) (by
    intro p hp
    simp only [List.mem_cons, List.not_mem_nil, or_false] at hp
    rcases hp with rfl | rfl
    ·exact hj1
    ·exact hj3)]
   refine LCodeR.seq ?_
   refine LCodeR.region rfl ?_
   repeat first | refine LOps.nil ?_ | refine QThen.normal ?_ | refine LOps.pure (Pure.as (lv := .atom _) rfl) rfl ?_
   refine LCodeR.region rfl ?_
   repeat first | refine LOps.nil ?_ | refine QThen.normal ?_ | refine LOps.pure (Pure.as (lv := .list _) rfl) rfl ?_
   refine ⟨hjd, _, rfl, fun o' => ?_⟩
   refine LCodeR.block ?_
   refine LCodeR.region rfl ?_
   repeat first | refine LOps.pure (Pure.loadH (c := .atom _) rfl (List.Mem.tail _ (List.Mem.tail _ (List.Mem.head _))) rfl) rfl ?_ | refine LOps.pure (Pure.loadH (c := .atom _) rfl (List.Mem.tail _ (List.Mem.tail _ (List.Mem.tail _ (List.Mem.tail _ (List.Mem.head _))))) rfl) rfl ?_ | refine LOps.pure (Pure.mv (lv := .list _) rfl) rfl ?_ | refine LOps.pure (Pure.mv (lv := .atom _) rfl) rfl ?_ | refine LOps.pure (Pure.eql rfl rfl) rfl ?_
   refine LOps.step (S.call0 [_, _, _, _] rfl (binary_spec sb ((lvOps (5 - q)).map str) (decide (((5 - q : Nat) : Int) = 2)) fn first caps) (fun v H' h => ?_) (fun ch H' h => ?_)) rfl
   ·obtain ⟨bo, bs, bp, bn, h, rfl⟩ := h
    cases h
    repeat first | refine LOps.nil ?_ | refine QThen.normal ?_ | refine LOps.step (S.store (cs' := [_]) rfl (Pick.there (Pick.there (Pick.there (Pick.there (Pick.there (Pick.there Pick.here)))))) rfl rfl rfl rfl rfl ?_) rfl
    refine ⟨(b3, .cells 229 [.atom (.func (.func 225) #[] #[.pointer (some ⟨bo, 0, none⟩), .pointer (some ⟨bs, 0, none⟩), .pointer (some ⟨bp, 0, none⟩), .pointer (some ⟨bn, 0, none⟩)])]) :: (b2, .cells 170 [str [], int .u32 0, str [], nilSlice]) :: (b1, .cells 93 [ptr sb 0]) :: srcH sb T i op ::
     (bo, .cells 229 [.atom (.func (.func fn) first caps)]) :: (bs, .cells 93 [ptr sb 0]) :: (bp, .cells 29 [.list ((lvOps (5 - q)).map str)]) :: (bn, .cells 4 [bool (decide (((5 - q : Nat) : Int) = 2))]) :: Hclo, ?_, _, _, _, _, ?_, rfl⟩
    ·exact HSub.pick (Pick.there (Pick.there (Pick.there (Pick.there (Pick.there Pick.here))))) (HSub.pick (Pick.there (Pick.there (Pick.there (Pick.there (Pick.there Pick.here))))) (HSub.pick Pick.here (HSub.pick (Pick.there (Pick.there (Pick.there (Pick.there Pick.here)))) (HSub.pick (Pick.there (Pick.there (Pick.there (Pick.there Pick.here)))) (HSub.pick (Pick.there (Pick.there (Pick.there (Pick.there Pick.here)))) (HSub.refl _))))))
    ·have e1 : 6 - (q + 1) = 5 - q := by omega
     have e2 : 6 - q = 5 - q + 1 := by omega
     rw [e1]
     rw [e2] at hclo
     exact .bin hclo
   ·obtain ⟨_, _, _, _, h, _⟩ := h
    cases h
  ·rintro D H' ⟨fn, first, caps, Hclo, hclo, rfl⟩
   have hclo0 : Clo sb 0 fn first caps Hclo := hclo
   have hen := hexit _ _ _ _ [] hclo0
   repeat first | refine LCode.seq ?_ | refine QThen.normal ?_ | refine QBlock.normal ?_
   refine LCode.weak (H' := (D, .obj (.deferred (some []))) :: (b3, .cells 229 [.atom (.func (.func fn) first caps)]) :: (b2, .cells 170 [str [], int .u32 0, str [], nilSlice]) :: (b1, .cells 93 [ptr sb 0]) :: srcH sb T i op :: Hclo) ⟨[(bB, .cells 176 [.list levelsLV])], List.Perm.refl _⟩ ?_
   repeat first | refine LCode.region ?_ | refine LOps.pure (Pure.loadH (c := .atom _) rfl (List.Mem.tail _ (List.Mem.head _)) rfl) rfl ?_
   refine LOps.step (S.callClo (F := [(D, .obj (.deferred (some []))), (b3, .cells 229 [.atom (.func (.func fn) first caps)]), (b2, .cells 170 [str [], int .u32 0, str [], nilSlice]), (b1, .cells 93 [ptr sb 0])]) (Hc := Hclo) rfl (Pick.there (Pick.there (Pick.there (Pick.there Pick.here)))) (hC _ _ _ _ _ _ _ r hclo0 hi ho hr) (fun v i1 op1 h1 => ?_) (fun l er i1 op1 h1 e' he' => ?_)) rfl
   ·repeat first | refine LOps.nil ?_ | refine LCode.ret ?_ | refine QThen.normal ?_ | refine LOps.step (S.store (cs' := [_, _, _, _]) rfl (Pick.there (Pick.there (Pick.there Pick.here))) rfl rfl rfl rfl rfl ?_) rfl
    exact RetPostM.mkRet rfl _ (Pick.there (Pick.there Pick.here)) (AllRes.cons (ResIs.cellAgg rfl (List.Mem.head _) rfl (LV.Sub.refl _)) AllRes.nil) (HSub.pick (Pick.there Pick.here) (HSub.nil _)) (by rw [h1]; exact ⟨rfl, rfl⟩)
   ·repeat first | refine QThen.panic ?_
    refine RetPostM.mkPanic (he'.trans rfl) (srcH sb T i1 op1 :: (Hclo ++ [(b3, .cells 229 [.atom (.func (.func fn) first caps)]), (b2, .cells 170 [str [], int .u32 0, str [], nilSlice]), (b1, .cells 93 [ptr sb 0])])) ?_ (HSub.pick Pick.here (HSub.nil _)) (by rw [h1]; exact ⟨rfl, i1, op1, rfl⟩)
    exact (List.Perm.cons _ List.perm_middle).trans (List.Perm.swap _ _ _)
 ·obtain ⟨bB, h, _⟩ := h
  cases h
theorem all_spec (hG : GW B0 w0) (sb : Nat) (T : List Tok) (hT : TOK T) : ∀ f : Nat, CloC B0 w0 sb T f ∧ ExprC B0 w0 sb T f := by
 intro f
 induction f using Nat.strongRecOn with
 | _ f ih =>
  have hC : CloC B0 w0 sb T f := by
   intro k fn first caps Hc i op r hclo hi ho hr
   cases hclo with
   | un =>
    obtain ⟨f, rfl⟩ : ∃ g, f = g + 1 := by
     cases f with
     | zero => rw [eLev] at hr; cases hr
     | succ g => exact ⟨g, rfl⟩
    rw [eLev, if_pos rfl] at hr
    refine LCalls.mono (unary_spec hG sb T hT f (fun g hg => (ih g (by omega)).2) i op r hi ho hr) ?_
    intro r' H h
    cases r with
    | ok v i' op' => exact h
    | err l e => exact h
   | bin h => exact bin_spec hG sb T hT f (fun g hg => (ih g hg).1) _ _ _ _ _ _ _ _ _ h i op r hi ho hr
  exact ⟨hC, expr_spec sb T f hC⟩
end
end Go.Proofs.YtcbpcianefpniaaGreatDoor
namespace Go.Proofs.YtcbpcianefpniaaGreatDoor
open Go.GL Go.RowKit Go.Stele
set_option maxRecDepth 100000
set_option maxHeartbeats 4000000
attribute [local irreducible] LOps LCode LStep LCalls Go.GL.Pure QThen QBlock RetPost LQ LAny LLate LLateOp
def encSL (l : List Sm) : LV := .list (l.map encS)
section
variable {B0 : Nat} {w0 : World}
def BlockC (B0 : Nat) (w0 : World) (sb : Nat) (T : List Tok) (f : Nat) : Prop :=
 ∀ i op r, i ≤ T.length → op ≤ 100 → sBlock T f i op = some r → LCalls (KC B0 w0) 195 [ptr sb 0] [srcH sb T i op] (PostP sb T encSL r)
def StmtsC (B0 : Nat) (w0 : World) (sb : Nat) (T : List Tok) (f : Nat) : Prop :=
 ∀ i op r, i ≤ T.length → op ≤ 100 → sStmts T f [] i op = some r → LCalls (KC B0 w0) 143 [ptr sb 0] [srcH sb T i op] (PostP sb T encSL r)
def StmtC (B0 : Nat) (w0 : World) (sb : Nat) (T : List Tok) (f : Nat) : Prop :=
 ∀ i op r, i ≤ T.length → op ≤ 100 → sStmt T f i op = some r → LCalls (KC B0 w0) 178 [ptr sb 0] [srcH sb T i op] (PostP sb T encS r)
def SimpleC (B0 : Nat) (w0 : World) (sb : Nat) (T : List Tok) (f : Nat) : Prop :=
 ∀ i op r, i ≤ T.length → op ≤ 100 → sSimple T f i op = some r → LCalls (KC B0 w0) 196 [ptr sb 0] [srcH sb T i op] (PostP sb T encS r)
theorem block_spec (sb : Nat) (T : List Tok) (hT : TOK T) (f : Nat) (hS : StmtsC B0 w0 sb T f) : BlockC B0 w0 sb T (f + 1) := by
 intro i op r hi ho hr
 have hl := hT.len
 rw [sBlock] at hr
 refine LCalls.intro Tryz.func195 rfl (n := 11) rfl rfl rfl ?_
 repeat first | refine LOps.nil ?_ | refine LCode.seq ?_ | refine LCode.region ?_ | refine QThen.normal ?_ | refine LOps.pure (Pure.as (lv := .atom _) rfl) rfl ?_ | refine LOps.pure (Pure.mv (lv := .atom _) rfl) rfl ?_
 refine LOps.step (S.callP [_, _] rfl Pick.here (begin_spec sb T i op [123] hl (by omega) (by omega)) (fun v i1 op1 h1 => ?_) (fun l er i1 op1 h1 e9 he9 => ?_)) rfl
 rotate_left
 ·rw [h1, obind_err] at hr
  repeat first | refine QThen.panic ?_ | refine QBlock.panic ?_
  exact panP (by first | exact he9.trans rfl | exact he9.trans hj | exact he9.trans (hj2.trans hj)) (by cases hr; rfl) (HSub.pick Pick.here (HSub.nil _))
 rw [h1, obind_ok] at hr
 obtain ⟨rfl, rfl, ho1, hi1⟩ := sBegin_ok h1
 repeat first | refine LOps.nil ?_ | refine LCode.seq ?_ | refine LCode.region ?_ | refine QThen.normal ?_ | refine LOps.pure (Pure.mv (lv := .atom _) rfl) rfl ?_
 obtain ⟨r1, hr1⟩ := obind_is hr
 refine LOps.step (S.callP [_] rfl Pick.here (hS _ _ r1 (by omega) (by omega) hr1) (fun l i2 op2 h2 => ?_) (fun l er i2 op2 h2 e9 he9 => ?_)) rfl
 rotate_left
 ·rw [hr1, h2, obind_err] at hr
  repeat first | refine QThen.panic ?_ | refine QBlock.panic ?_
  exact panP (by first | exact he9.trans rfl | exact he9.trans hj | exact he9.trans (hj2.trans hj)) (by cases hr; rfl) (HSub.pick Pick.here (HSub.nil _))
 rw [hr1, h2, obind_ok] at hr
 obtain ⟨g1, _, g3, rfl⟩ := (st_good T f).2.1 _ _ _ _ (hr1.trans (congrArg some h2))
 have g4 := g3 (by omega)
 repeat first | refine LOps.nil ?_ | refine LCode.seq ?_ | refine LCode.region ?_ | refine QThen.normal ?_ | refine LOps.pure (Pure.as (lv := .list _) rfl) rfl ?_ | refine LOps.pure (Pure.mv (lv := .atom _) rfl) rfl ?_
 refine LOps.step (S.callP [_, _] rfl Pick.here (end_spec sb T i2 (op + 1) [125] hl (by omega) (by omega) (by omega)) (fun u i3 op3 h3 => ?_) (fun l er i3 op3 h3 e9 he9 => ?_)) rfl
 rotate_left
 ·rw [h3, obind_err] at hr
  repeat first | refine QThen.panic ?_ | refine QBlock.panic ?_
  exact panP (by first | exact he9.trans rfl | exact he9.trans hj | exact he9.trans (hj2.trans hj)) (by cases hr; rfl) (HSub.pick Pick.here (HSub.nil _))
 rw [h3, obind_ok] at hr
 repeat first | refine LOps.nil ?_ | refine LCode.seq ?_ | refine LCode.region ?_ | refine LCode.ret ?_ | refine QThen.normal ?_ | refine LOps.pure (Pure.as (lv := .list _) rfl) rfl ?_ | refine LOps.pure (Pure.mv (lv := .list _) rfl) rfl ?_
 exact retP (v := l) rfl (AllRes.cons (ResIs.tmp (v := .list _) rfl (LV.Sub.refl _)) AllRes.nil) (by cases hr; rfl) rfl (HSub.refl _)
theorem stmts_spec (sb : Nat) (T : List Tok) (hT : TOK T) (f : Nat) (hS : ∀ g, g < f → StmtC B0 w0 sb T g) : StmtsC B0 w0 sb T f := by
 intro i op r hi ho hr
 have hl := hT.len
 refine LCalls.intro Tryz.func143 rfl (n := 14) rfl rfl rfl ?_
 repeat first | refine LOps.nil ?_ | refine LCode.seq ?_ | refine LCode.region ?_ | refine LCode.block ?_ | refine QThen.normal ?_ | refine LOps.pure (Pure.as (lv := .atom _) rfl) rfl ?_
 refine LCode.loopI (fun k ls H => ∃ (v : LV) (l : List Sm) (i2 : Nat) (Ha : Heap), k ≤ f ∧ ls = [(0, ptr sb 0), (3, v)] ∧ H = srcH sb T i2 op :: Ha ∧ Acc 6 v (l.map encS) Ha [] ∧ i2 ≤ T.length ∧ l.length ≤ i2 + 1 ∧ sStmts T k l i2 op = some r)
  ⟨f, _, srcH sb T i op :: [], ⟨nilSlice, [], i, _, Nat.le_refl _, rfl, rfl, Acc.nil, by omega, by simp, hr⟩, ⟨rfl, rfl, trivial⟩, HSub.refl _⟩ ?_
 rintro k ls H ⟨v, l, i2, Ha, hkf, rfl, rfl, hacc, hi2, hll, hI⟩ j hj
 obtain ⟨k, rfl⟩ : ∃ k', k = k' + 1 := by
  cases k with
  | zero => rw [sStmts] at hI; cases hI
  | succ k => exact ⟨k, rfl⟩
 rw [sStmts] at hI
 repeat first | refine LCode.seq ?_ | refine LCode.region ?_ | refine LOps.pure (Pure.mv (lv := .atom _) rfl) rfl ?_
 refine LOps.step (S.lit [_] rfl (elemsOk.cons rfl rfl elemsOk.nil) rfl rfl rfl ?_) rfl
 refine LOps.step (S.fnH [_, _] rfl Pick.here (is_spec sb T i2 op [[125]] hl (by omega) (by simp)) ?_) rfl
 repeat first | refine LOps.nil ?_ | refine QThen.normal ?_ | refine LOps.pure (Pure.not rfl) rfl ?_
 refine LCode.cond rfl (fun hc => ?_) (fun hc => ?_)
 ·have hc' : isTok T i2 [[125]] = false := by simpa using hc
  rw [if_neg (by rw [hc']; decide)] at hI
  repeat first | refine LCode.region ?_ | refine LCode.skip ?_ | refine LCode.block ?_ | refine QThen.normal ?_
  refine LOps.pure (Pure.mv (lv := v) rfl) rfl ?_
  repeat first | refine LOps.pure (Pure.mv (lv := .atom _) rfl) rfl ?_
  obtain ⟨r2, hr2⟩ := obind_is hI
  refine LOps.step (S.callP [_] rfl Pick.here (hS k (by omega) _ _ r2 (by omega) (by omega) hr2) (fun e2 i4 op4 h4 => ?_) (fun l er i4 op4 h4 e9 he9 => ?_)) rfl
  rotate_left
  ·rw [hr2, h4, obind_err] at hI
   repeat first | refine QThen.panic ?_ | refine QBlock.panic ?_
   exact panP (by first | exact he9.trans rfl | exact he9.trans hj | exact he9.trans (hj2.trans hj)) (by cases hI; rfl) (HSub.pick Pick.here (HSub.nil _))
  rw [hr2, h4, obind_ok] at hI
  obtain ⟨g1, g2, g3, rfl⟩ := (st_good T k).2.2.1 _ _ _ (hr2.trans (congrArg some h4))
  have g5 := g3 (by omega)
  have g6 := g2 rfl
  refine LOps.step (S.lit [_] rfl (elemsOk.cons rfl rfl elemsOk.nil) rfl rfl rfl ?_) rfl
  refine LOps.step (S.acc1 rfl hacc rfl (by simp; rfl) rfl (by simp; omega) fun v' H' hacc' => ?_) rfl
  refine LOps.pure (Pure.as (lv := v') rfl) rfl ?_
  repeat first | refine LOps.nil ?_ | refine QThen.normal ?_ | refine QBlock.normal ?_
  exact ⟨k, _, _, by omega, ⟨v', l ++ [e2], i4, H', by omega, rfl, rfl, by rw [List.map_append]; exact hacc', by omega, by simp; omega, hI⟩, ⟨rfl, rfl, trivial⟩, HSub.refl _, hj⟩
 ·have hc' : isTok T i2 [[125]] = true := by simpa using hc
  rw [if_pos hc'] at hI
  repeat first | refine LCode.seq ?_ | refine LCode.region ?_ | refine LCode.exit ?_ | refine QThen.normal ?_ | refine QThen.exit ?_ | refine QBlock.hit ?_
  refine LOps.pure (Pure.mv (lv := v) rfl) rfl ?_
  refine LOps.pure (Pure.as (lv := v) rfl) rfl ?_
  repeat first | refine LOps.nil ?_ | refine LCode.ret ?_ | refine QThen.normal ?_
  exact retP (v := l) hj (AllRes.cons (ResIs.tmp (v := v) rfl hacc.sub) AllRes.nil) (by cases hI; rfl) rfl (HSub.pick Pick.here (HSub.nil _))
end
end Go.Proofs.YtcbpcianefpniaaGreatDoor
namespace Go.Proofs.YtcbpcianefpniaaGreatDoor
open Go.GL Go.RowKit Go.Stele
set_option maxRecDepth 100000
set_option maxHeartbeats 4000000
attribute [local irreducible] LOps LCode LStep LCalls Go.GL.Pure QThen QBlock RetPost LQ LAny LLate LLateOp
section
variable {B0 : Nat} {w0 : World}
theorem encCall (s : List UInt8) (l : List Ex) : encS (.mk 6 [] [] [.mk nCall 0 s l] [] []) = .agg [int .i64 6, str [], .list [], .list [.agg [str nCall, int .u32 0, str s, .list (l.map encE)]], .list [], .list []] := by
 rw [encS_mk, List.map_cons, encE_mk]
 rfl
theorem simple_spec (sb : Nat) (T : List Tok) (hT : TOK T) (f : Nat) (hE : ∀ g, g ≤ f → ExprC B0 w0 sb T g) : SimpleC B0 w0 sb T (f + 1) := by
 intro i op r hi ho hr
 have hl := hT.len
 obtain ⟨gL, _, _, _, gI, gA, _⟩ := ex_good T f
 rw [sSimple] at hr
 refine LCalls.intro Tryz.func196 rfl (n := 46) rfl rfl rfl ?_
 repeat first | refine LCode.seq ?_ | refine LCode.region ?_
 refine LOps.step (S.alloc fun b2 => ?_) rfl
 repeat first | refine LOps.nil ?_ | refine LCode.seq ?_ | refine LCode.region ?_ | refine LCode.block ?_ | refine QThen.normal ?_ | refine LOps.pure (Pure.mv (lv := .atom _) rfl) rfl ?_
 refine LOps.step (S.fnH [_, _] rfl (Pick.there Pick.here) (take_spec sb T i op kwReturn hl (by omega)) ?_) rfl
 repeat first | refine LOps.nil ?_ | refine QThen.normal ?_ | refine LOps.pure (Pure.as (lv := .atom _) rfl) rfl ?_
 refine LCode.cond rfl (fun hc => ?_) (fun hc => ?_)
 ·have hlt := isTok_lt hc
  rw [if_pos hc] at hr
  simp only [hc, if_true]
  repeat first | refine LCode.seq ?_ | refine LCode.region ?_ | refine LOps.pure (Pure.mv (lv := .atom _) rfl) rfl ?_
  obtain ⟨r1, hr1⟩ := obind_is hr
  refine LOps.step (S.callP [_] rfl Pick.here (hE f (by omega) _ _ r1 (by omega) (by omega) hr1) (fun v i1 op1 h1 => ?_) (fun l er i1 op1 h1 e9 he9 => ?_)) rfl
  rotate_left
  ·rw [hr1, h1, obind_err] at hr
   repeat first | refine QThen.panic ?_ | refine QBlock.panic ?_
   exact panP (by first | exact he9.trans rfl | exact he9.trans hj | exact he9.trans (hj2.trans hj)) (by cases hr; rfl) (HSub.pick Pick.here (HSub.nil _))
  rw [hr1, h1, obind_ok] at hr
  refine LOps.step (S.lit [_] rfl (elemsOk.cons rfl rfl elemsOk.nil) rfl rfl rfl ?_) rfl
  repeat first | refine LOps.nil ?_ | refine LCode.ret ?_ | refine QThen.normal ?_ | refine QThen.ret ?_ | refine QBlock.ret ?_ | refine LOps.pure (Pure.bld _ (cs := [_, _, _, _, _, _]) rfl) rfl ?_ | refine LOps.step (S.store (cs' := [_, _, _, _, _, _]) rfl (Pick.there Pick.here) rfl rfl rfl rfl rfl ?_) rfl
  exact retP (v := .mk 5 [] [] [v] [] []) rfl (AllRes.cons (ResIs.cellAgg (k := 6) rfl (List.Mem.head _) rfl (LV.Sub.agg (bs := [_, _, .list [], _, .list [], .list []]) ⟨LV.Sub.refl _, LV.Sub.refl _, LV.Sub.nil, LV.Sub.refl _, LV.Sub.nil, LV.Sub.nil, trivial⟩)) AllRes.nil) (by cases hr; rfl) (by rw [encS_mk]; rfl) (HSub.pick (Pick.there Pick.here) (HSub.nil _))
 ·rw [if_neg (by rw [hc]; decide)] at hr
  simp only [hc, Bool.false_eq_true, if_false]
  repeat first | refine LCode.seq ?_ | refine LCode.region ?_ | refine LOps.pure (Pure.mv (lv := .atom _) rfl) rfl ?_
  refine LOps.step (S.fnH [_, _] rfl Pick.here (take_spec sb T i op kwHalt hl (by omega)) ?_) rfl
  repeat first | refine LOps.nil ?_ | refine QThen.normal ?_ | refine LOps.pure (Pure.as (lv := .atom _) rfl) rfl ?_
  refine LCode.cond rfl (fun hc2 => ?_) (fun hc2 => ?_)
  ·have hlt := isTok_lt hc2
   rw [if_pos hc2] at hr
   simp only [hc2, if_true]
   repeat first | refine LOps.nil ?_ | refine LCode.seq ?_ | refine LCode.region ?_ | refine LCode.ret ?_ | refine QThen.normal ?_ | refine QThen.ret ?_ | refine QBlock.ret ?_ | refine LOps.pure (Pure.bld _ (cs := [_, _, _, _, _, _]) rfl) rfl ?_ | refine LOps.step (S.store (cs' := [_, _, _, _, _, _]) rfl (Pick.there Pick.here) rfl rfl rfl rfl rfl ?_) rfl
   exact retP (v := .mk 7 [] [] [] [] []) rfl (AllRes.cons (ResIs.cellAgg (k := 6) rfl (List.Mem.head _) rfl (LV.Sub.agg (bs := [_, _, .list [], .list [], .list [], .list []]) ⟨LV.Sub.refl _, LV.Sub.refl _, LV.Sub.nil, LV.Sub.nil, LV.Sub.nil, LV.Sub.nil, trivial⟩)) AllRes.nil) (by cases hr; rfl) (by rw [encS_mk]; rfl) (HSub.pick (Pick.there Pick.here) (HSub.nil _))
  ·rw [if_neg (by rw [hc2]; decide)] at hr
   simp only [hc2, Bool.false_eq_true, if_false]
   repeat first | refine LCode.seq ?_ | refine LCode.region ?_ | refine LCode.skip ?_ | refine QThen.normal ?_ | refine QBlock.normal ?_ | refine LOps.pure (Pure.mv (lv := .atom _) rfl) rfl ?_
   refine LOps.step (S.callP [_, _] rfl Pick.here (word_spec sb T i op 2 hl (by omega)) (fun s i1 op1 h1 => ?_) (fun l er i1 op1 h1 e9 he9 => ?_)) rfl
   rotate_left
   ·rw [h1, obind_err] at hr
    repeat first | refine QThen.panic ?_ | refine QBlock.panic ?_
    exact panP (by first | exact he9.trans rfl | exact he9.trans hj | exact he9.trans (hj2.trans hj)) (by cases hr; rfl) (HSub.pick Pick.here (HSub.nil _))
   rw [h1, obind_ok] at hr
   obtain ⟨rfl, rfl, t, ht, _, _⟩ := sWord_ok h1
   have := get_lt ht
   repeat first | refine LOps.nil ?_ | refine LCode.seq ?_ | refine LCode.region ?_ | refine QThen.normal ?_ | refine LOps.pure (Pure.mv (lv := .atom _) rfl) rfl ?_ | refine LOps.pure (Pure.as (lv := .atom _) rfl) rfl ?_ | refine LOps.pure (Pure.bld _ (cs := [_, _, _, _, _, _]) rfl) rfl ?_
   refine LOps.step (S.alloc fun b4 => ?_) rfl
   repeat first | refine LOps.nil ?_ | refine LCode.seq ?_ | refine LCode.region ?_ | refine LCode.block ?_ | refine QThen.normal ?_ | refine LOps.pure (Pure.mv (lv := .atom _) rfl) rfl ?_ | refine LOps.step (S.store (cs' := [_, _, _, _, _, _]) rfl Pick.here rfl rfl rfl rfl rfl ?_) rfl
   refine LOps.step (S.lit [_] rfl (elemsOk.cons rfl rfl elemsOk.nil) rfl rfl rfl ?_) rfl
   refine LOps.step (S.fnH [_, _] rfl (Pick.there Pick.here) (is_spec sb T (i + 1) op1 [[40]] hl (by omega) (by simp)) ?_) rfl
   repeat first | refine LOps.nil ?_ | refine QThen.normal ?_ | refine LOps.pure (Pure.as (lv := .atom _) rfl) rfl ?_
   refine LCode.cond rfl (fun hc3 => ?_) (fun hc3 => ?_)
   ·rw [if_pos hc3] at hr
    repeat first | refine LCode.seq ?_ | refine LCode.region ?_ | refine LOps.pure (Pure.mv (lv := .atom _) rfl) rfl ?_
    obtain ⟨r1, hr1⟩ := obind_is hr
    refine LOps.step (S.callP [_] rfl Pick.here (args_spec sb T hT f (fun g hg => hE g (by omega)) (i + 1) op1 r1 (by omega) (by omega) hr1) (fun l i2 op2 h2 => ?_) (fun l er i2 op2 h2 e9 he9 => ?_)) rfl
    rotate_left
    ·rw [hr1, h2, obind_err] at hr
     repeat first | refine QThen.panic ?_ | refine QBlock.panic ?_
     exact panP (by first | exact he9.trans rfl | exact he9.trans hj | exact he9.trans (hj2.trans hj)) (by cases hr; rfl) (HSub.pick Pick.here (HSub.nil _))
    rw [hr1, h2, obind_ok] at hr
    repeat first | refine LOps.pure (Pure.bld _ (cs := [_, _, _, _]) rfl) rfl ?_
    refine LOps.step (S.lit [_] rfl (elemsOk.cons rfl rfl elemsOk.nil) rfl rfl rfl ?_) rfl
    repeat first | refine LOps.nil ?_ | refine LCode.ret ?_ | refine QThen.normal ?_ | refine QThen.ret ?_ | refine QBlock.ret ?_ | refine LOps.pure (Pure.bld _ (cs := [_, _, _, _, _, _]) rfl) rfl ?_ | refine LOps.step (S.store (cs' := [_, _, _, _, _, _]) rfl (Pick.there (Pick.there Pick.here)) rfl rfl rfl rfl rfl ?_) rfl
    exact retP (v := .mk 6 [] [] [.mk nCall 0 s l] [] []) rfl (AllRes.cons (ResIs.cellAgg (k := 6) rfl (List.Mem.head _) rfl (LV.Sub.agg (bs := [_, _, .list [], _, .list [], .list []]) ⟨LV.Sub.refl _, LV.Sub.refl _, LV.Sub.nil, LV.Sub.refl _, LV.Sub.nil, LV.Sub.nil, trivial⟩)) AllRes.nil) (by cases hr; rfl) (by rw [encCall]; rfl) (HSub.pick (Pick.there Pick.here) (HSub.nil _))
   ·rw [if_neg (by rw [hc3]; decide)] at hr
    repeat first | refine LCode.seq ?_ | refine LCode.region ?_ | refine LOps.pure (Pure.mv (lv := .atom _) rfl) rfl ?_
    refine LOps.step (S.lit [_] rfl (elemsOk.cons rfl rfl elemsOk.nil) rfl rfl rfl ?_) rfl
    refine LOps.step (S.fnH [_, _] rfl Pick.here (is_spec sb T (i + 1) op1 [[91]] hl (by omega) (by simp)) ?_) rfl
    repeat first | refine LOps.nil ?_ | refine QThen.normal ?_ | refine LOps.pure (Pure.as (lv := .atom _) rfl) rfl ?_
    refine LCode.cond rfl (fun hc4 => ?_) (fun hc4 => ?_)
    ·rw [if_pos hc4] at hr
     repeat first | refine LCode.region ?_ | refine LOps.pure (Pure.mv (lv := .atom _) rfl) rfl ?_
     obtain ⟨r1, hr1⟩ := obind_is hr
     refine LOps.step (S.callP [_] rfl Pick.here (index_specL sb T hT f (fun g hg => hE g (by omega)) (i + 1) op1 r1 (by omega) (by omega) hr1) (fun x i2 op2 h2 => ?_) (fun l er i2 op2 h2 e9 he9 => ?_)) rfl
     rotate_left
     ·rw [hr1, h2, obind_err] at hr
      repeat first | refine QThen.panic ?_ | refine QBlock.panic ?_
      exact panP (by first | exact he9.trans rfl | exact he9.trans hj | exact he9.trans (hj2.trans hj)) (by cases hr; rfl) (HSub.pick Pick.here (HSub.nil _))
     rw [hr1, h2, obind_ok] at hr
     obtain ⟨q1, q2, q3, rfl⟩ := gI _ _ _ (hr1.trans (congrArg some h2))
     have q4 := q3 (by omega)
     refine LOps.step (S.lit [_] rfl (elemsOk.cons rfl rfl elemsOk.nil) rfl rfl rfl ?_) rfl
     repeat first | refine LOps.nil ?_ | refine LCode.seq ?_ | refine LCode.region ?_ | refine QThen.normal ?_ | refine QBlock.normal ?_ | refine LOps.pure (Pure.mv (lv := .atom _) rfl) rfl ?_ | refine LOps.pure (Pure.fieldH rfl) rfl ?_ | refine LOps.step (S.store (cs' := [_, _, _, _, _, _]) rfl Pick.here rfl rfl rfl rfl rfl ?_) rfl | refine LOps.step (S.store (cs' := [_, _, _, _, _, _]) rfl (Pick.there Pick.here) rfl rfl rfl rfl rfl ?_) rfl
     refine LOps.step (S.callP [_, _] rfl (Pick.there Pick.here) (need_spec sb T i2 op2 [61] hl (by omega)) (fun u i3 op3 h3 => ?_) (fun l er i3 op3 h3 e9 he9 => ?_)) rfl
     rotate_left
     ·rw [h3, obind_err] at hr
      repeat first | refine QThen.panic ?_ | refine QBlock.panic ?_
      exact panP (by first | exact he9.trans rfl | exact he9.trans hj | exact he9.trans (hj2.trans hj)) (by cases hr; rfl) (HSub.pick Pick.here (HSub.nil _))
     rw [h3, obind_ok] at hr
     have hg3 := sNeed_good T [61] i2 op2
     rw [h3] at hg3
     obtain ⟨k1, k2, k3, rfl⟩ := hg3
     have k4 := k3 q4
     repeat first | refine LOps.nil ?_ | refine LCode.seq ?_ | refine LCode.region ?_ | refine QThen.normal ?_ | refine LOps.pure (Pure.mv (lv := .atom _) rfl) rfl ?_
     obtain ⟨r2, hr2⟩ := obind_is hr
     refine LOps.step (S.callP [_] rfl Pick.here (hE f (by omega) _ _ r2 (by omega) (by omega) hr2) (fun v i4 op4 h4 => ?_) (fun l er i4 op4 h4 e9 he9 => ?_)) rfl
     rotate_left
     ·rw [hr2, h4, obind_err] at hr
      repeat first | refine QThen.panic ?_ | refine QBlock.panic ?_
      exact panP (by first | exact he9.trans rfl | exact he9.trans hj | exact he9.trans (hj2.trans hj)) (by cases hr; rfl) (HSub.pick Pick.here (HSub.nil _))
     rw [hr2, h4, obind_ok] at hr
     refine LOps.step (S.lit [_] rfl (elemsOk.cons rfl rfl elemsOk.nil) rfl rfl rfl ?_) rfl
     repeat first | refine LOps.nil ?_ | refine LCode.seq ?_ | refine LCode.region ?_ | refine LCode.ret ?_ | refine QThen.normal ?_ | refine LOps.pure (Pure.fieldH rfl) rfl ?_ | refine LOps.pure (Pure.ldHAgg (cs' := [_, _, _, _, _, _]) rfl (List.Mem.head _) rfl rfl) rfl ?_ | refine LOps.step (S.store (cs' := [_, _, _, _, _, _]) rfl (Pick.there Pick.here) rfl rfl rfl rfl rfl ?_) rfl | refine LOps.step (S.store (cs' := [_, _, _, _, _, _]) rfl (Pick.there (Pick.there Pick.here)) rfl rfl rfl rfl rfl ?_) rfl
     exact retP (v := .mk 2 s [x] [v] [] []) rfl (AllRes.cons (ResIs.cellAgg (k := 6) rfl (List.Mem.head _) rfl (LV.Sub.agg (bs := [_, _, _, _, .list [], .list []]) ⟨LV.Sub.refl _, LV.Sub.refl _, LV.Sub.refl _, LV.Sub.refl _, LV.Sub.nil, LV.Sub.nil, trivial⟩)) AllRes.nil) (by cases hr; rfl) (by rw [encS_mk]; rfl) (HSub.pick (Pick.there (Pick.there Pick.here)) (HSub.nil _))
    ·rw [if_neg (by rw [hc4]; decide)] at hr
     repeat first | refine LCode.seq ?_ | refine LCode.region ?_ | refine LCode.skip ?_ | refine QThen.normal ?_ | refine QBlock.normal ?_ | refine LOps.pure (Pure.mv (lv := .atom _) rfl) rfl ?_
     refine LOps.step (S.callP [_, _] rfl Pick.here (need_spec sb T (i + 1) op1 [61] hl (by omega)) (fun u i3 op3 h3 => ?_) (fun l er i3 op3 h3 e9 he9 => ?_)) rfl
     rotate_left
     ·rw [h3, obind_err] at hr
      repeat first | refine QThen.panic ?_ | refine QBlock.panic ?_
      exact panP (by first | exact he9.trans rfl | exact he9.trans hj | exact he9.trans (hj2.trans hj)) (by cases hr; rfl) (HSub.pick Pick.here (HSub.nil _))
     rw [h3, obind_ok] at hr
     have hg3 := sNeed_good T [61] (i + 1) op1
     rw [h3] at hg3
     obtain ⟨k1, k2, k3, rfl⟩ := hg3
     have k4 := k3 (by omega)
     repeat first | refine LOps.nil ?_ | refine LCode.seq ?_ | refine LCode.region ?_ | refine QThen.normal ?_ | refine LOps.pure (Pure.mv (lv := .atom _) rfl) rfl ?_
     obtain ⟨r2, hr2⟩ := obind_is hr
     refine LOps.step (S.callP [_] rfl Pick.here (hE f (by omega) _ _ r2 (by omega) (by omega) hr2) (fun v i4 op4 h4 => ?_) (fun l er i4 op4 h4 e9 he9 => ?_)) rfl
     rotate_left
     ·rw [hr2, h4, obind_err] at hr
      repeat first | refine QThen.panic ?_ | refine QBlock.panic ?_
      exact panP (by first | exact he9.trans rfl | exact he9.trans hj | exact he9.trans (hj2.trans hj)) (by cases hr; rfl) (HSub.pick Pick.here (HSub.nil _))
     rw [hr2, h4, obind_ok] at hr
     refine LOps.step (S.lit [_] rfl (elemsOk.cons rfl rfl elemsOk.nil) rfl rfl rfl ?_) rfl
     repeat first | refine LOps.nil ?_ | refine LCode.seq ?_ | refine LCode.region ?_ | refine LCode.ret ?_ | refine QThen.normal ?_ | refine LOps.pure (Pure.fieldH rfl) rfl ?_ | refine LOps.pure (Pure.ldHAgg (cs' := [_, _, _, _, _, _]) rfl (List.Mem.head _) rfl rfl) rfl ?_ | refine LOps.step (S.store (cs' := [_, _, _, _, _, _]) rfl (Pick.there Pick.here) rfl rfl rfl rfl rfl ?_) rfl | refine LOps.step (S.store (cs' := [_, _, _, _, _, _]) rfl (Pick.there (Pick.there Pick.here)) rfl rfl rfl rfl rfl ?_) rfl
     exact retP (v := .mk 1 s [] [v] [] []) rfl (AllRes.cons (ResIs.cellAgg (k := 6) rfl (List.Mem.head _) rfl (LV.Sub.agg (bs := [_, _, .list [], _, .list [], .list []]) ⟨LV.Sub.refl _, LV.Sub.refl _, LV.Sub.nil, LV.Sub.refl _, LV.Sub.nil, LV.Sub.nil, trivial⟩)) AllRes.nil) (by cases hr; rfl) (by rw [encS_mk]; rfl) (HSub.pick (Pick.there (Pick.there Pick.here)) (HSub.nil _))
theorem stmt_spec (sb : Nat) (T : List Tok) (hT : TOK T) (f : Nat) (hE : ∀ g, g ≤ f → ExprC B0 w0 sb T g) (hB : BlockC B0 w0 sb T f) (hM : SimpleC B0 w0 sb T f) : StmtC B0 w0 sb T (f + 1) := by
 intro i op r hi ho hr
 have hl := hT.len
 obtain ⟨gL, _, _, _, gI, gA, _⟩ := ex_good T f
 obtain ⟨kB, kL, kS, kM⟩ := st_good T f
 rw [sStmt] at hr
 refine LCalls.intro Tryz.func178 rfl (n := 38) rfl rfl rfl ?_
 repeat first | refine LCode.seq ?_ | refine LCode.region ?_
 refine LOps.step (S.alloc fun b2 => ?_) rfl
 repeat first | refine LOps.nil ?_ | refine LCode.seq ?_ | refine LCode.region ?_ | refine LCode.block ?_ | refine QThen.normal ?_ | refine LOps.pure (Pure.mv (lv := .atom _) rfl) rfl ?_
 refine LOps.step (S.fnH [_, _] rfl (Pick.there Pick.here) (take_spec sb T i op kwIf hl (by omega)) ?_) rfl
 repeat first | refine LOps.nil ?_ | refine QThen.normal ?_ | refine LOps.pure (Pure.as (lv := .atom _) rfl) rfl ?_
 refine LCode.cond rfl (fun hc => ?_) (fun hc => ?_)
 ·have hlt := isTok_lt hc
  rw [if_pos hc] at hr
  simp only [hc, if_true]
  repeat first | refine LCode.seq ?_ | refine LCode.region ?_ | refine LOps.pure (Pure.mv (lv := .atom _) rfl) rfl ?_
  obtain ⟨r1, hr1⟩ := obind_is hr
  refine LOps.step (S.callP [_] rfl Pick.here (hE f (by omega) _ _ r1 (by omega) (by omega) hr1) (fun v i1 op1 h1 => ?_) (fun l er i1 op1 h1 e9 he9 => ?_)) rfl
  rotate_left
  ·rw [hr1, h1, obind_err] at hr
   repeat first | refine QThen.panic ?_ | refine QBlock.panic ?_
   exact panP (by first | exact he9.trans rfl | exact he9.trans hj | exact he9.trans (hj2.trans hj)) (by cases hr; rfl) (HSub.pick Pick.here (HSub.nil _))
  rw [hr1, h1, obind_ok] at hr
  obtain ⟨g1, g2, g3, rfl⟩ := gL 0 _ _ _ (hr1.trans (congrArg some h1))
  have g4 := g3 (by omega)
  refine LOps.step (S.lit [_] rfl (elemsOk.cons rfl rfl elemsOk.nil) rfl rfl rfl ?_) rfl
  repeat first | refine LOps.pure (Pure.bld _ (cs := [_, _, _, _, _, _]) rfl) rfl ?_
  refine LOps.step (S.alloc fun b3 => ?_) rfl
  repeat first | refine LOps.nil ?_ | refine LCode.seq ?_ | refine LCode.region ?_ | refine QThen.normal ?_ | refine LOps.pure (Pure.mv (lv := .atom _) rfl) rfl ?_ | refine LOps.step (S.store (cs' := [_, _, _, _, _, _]) rfl Pick.here rfl rfl rfl rfl rfl ?_) rfl
  obtain ⟨r2, hr2⟩ := obind_is hr
  refine LOps.step (S.callP [_] rfl (Pick.there Pick.here) (hB _ _ r2 (by omega) (by omega) hr2) (fun th i2 op2 h2 => ?_) (fun l er i2 op2 h2 e9 he9 => ?_)) rfl
  rotate_left
  ·rw [hr2, h2, obind_err] at hr
   repeat first | refine QThen.panic ?_ | refine QBlock.panic ?_
   exact panP (by first | exact he9.trans rfl | exact he9.trans hj | exact he9.trans (hj2.trans hj)) (by cases hr; rfl) (HSub.pick Pick.here (HSub.nil _))
  rw [hr2, h2, obind_ok] at hr
  obtain ⟨q1, q2, q3, rfl⟩ := kB _ _ _ (hr2.trans (congrArg some h2))
  have q4 := q3 (by omega)
  repeat first | refine LOps.nil ?_ | refine LCode.seq ?_ | refine LCode.region ?_ | refine QThen.normal ?_ | refine LOps.pure (Pure.mv (lv := .atom _) rfl) rfl ?_ | refine LOps.pure (Pure.fieldH rfl) rfl ?_ | refine LOps.step (S.store (cs' := [_, _, _, _, _, _]) rfl (Pick.there Pick.here) rfl rfl rfl rfl rfl ?_) rfl
  refine LOps.step (S.fnH [_, _] rfl (Pick.there Pick.here) (take_spec sb T i2 op2 kwElse hl (by omega)) ?_) rfl
  repeat first | refine LOps.nil ?_ | refine QThen.normal ?_
  refine LCode.cond rfl (fun hc2 => ?_) (fun hc2 => ?_)
  ·have hlt2 := isTok_lt hc2
   rw [if_pos hc2] at hr
   simp only [hc2, if_true]
   repeat first | refine LCode.region ?_ | refine LOps.pure (Pure.mv (lv := .atom _) rfl) rfl ?_
   obtain ⟨r3, hr3⟩ := obind_is hr
   refine LOps.step (S.callP [_] rfl Pick.here (hB _ _ r3 (by omega) (by omega) hr3) (fun el i3 op3 h3 => ?_) (fun l er i3 op3 h3 e9 he9 => ?_)) rfl
   rotate_left
   ·rw [hr3, h3, obind_err] at hr
    repeat first | refine QThen.panic ?_ | refine QBlock.panic ?_
    exact panP (by first | exact he9.trans rfl | exact he9.trans hj | exact he9.trans (hj2.trans hj)) (by cases hr; rfl) (HSub.pick Pick.here (HSub.nil _))
   rw [hr3, h3, obind_ok] at hr
   repeat first | refine LOps.nil ?_ | refine LCode.seq ?_ | refine LCode.region ?_ | refine LCode.ret ?_ | refine QThen.normal ?_ | refine QThen.ret ?_ | refine QBlock.ret ?_ | refine LOps.pure (Pure.fieldH rfl) rfl ?_ | refine LOps.pure (Pure.ldHAgg (cs' := [_, _, _, _, _, _]) rfl (List.Mem.head _) rfl rfl) rfl ?_ | refine LOps.step (S.store (cs' := [_, _, _, _, _, _]) rfl (Pick.there Pick.here) rfl rfl rfl rfl rfl ?_) rfl | refine LOps.step (S.store (cs' := [_, _, _, _, _, _]) rfl (Pick.there (Pick.there Pick.here)) rfl rfl rfl rfl rfl ?_) rfl
   exact retP (v := .mk 3 [] [] [v] th el) rfl (AllRes.cons (ResIs.cellAgg (k := 6) rfl (List.Mem.head _) rfl (LV.Sub.agg (bs := [_, _, .list [], _, _, _]) ⟨LV.Sub.refl _, LV.Sub.refl _, LV.Sub.nil, LV.Sub.refl _, LV.Sub.refl _, LV.Sub.refl _, trivial⟩)) AllRes.nil) (by cases hr; rfl) (by rw [encS_mk]; rfl) (HSub.pick (Pick.there (Pick.there Pick.here)) (HSub.nil _))
  ·rw [if_neg (by rw [hc2]; decide)] at hr
   simp only [hc2, Bool.false_eq_true, if_false]
   repeat first | refine LOps.nil ?_ | refine LCode.seq ?_ | refine LCode.region ?_ | refine LCode.skip ?_ | refine LCode.ret ?_ | refine QThen.normal ?_ | refine QThen.ret ?_ | refine QBlock.ret ?_ | refine LOps.pure (Pure.ldHAgg (cs' := [_, _, _, _, _, _]) rfl (List.Mem.tail _ (List.Mem.head _)) rfl rfl) rfl ?_ | refine LOps.step (S.store (cs' := [_, _, _, _, _, _]) rfl (Pick.there (Pick.there Pick.here)) rfl rfl rfl rfl rfl ?_) rfl
   exact retP (v := .mk 3 [] [] [v] th []) rfl (AllRes.cons (ResIs.cellAgg (k := 6) rfl (List.Mem.head _) rfl (LV.Sub.agg (bs := [_, _, .list [], _, _, .list []]) ⟨LV.Sub.refl _, LV.Sub.refl _, LV.Sub.nil, LV.Sub.refl _, LV.Sub.refl _, LV.Sub.nil, trivial⟩)) AllRes.nil) (by cases hr; rfl) (by rw [encS_mk]; rfl) (HSub.pick (Pick.there Pick.here) (HSub.nil _))
 ·rw [if_neg (by rw [hc]; decide)] at hr
  simp only [hc, Bool.false_eq_true, if_false]
  repeat first | refine LCode.seq ?_ | refine LCode.region ?_ | refine LOps.pure (Pure.mv (lv := .atom _) rfl) rfl ?_
  refine LOps.step (S.fnH [_, _] rfl Pick.here (take_spec sb T i op kwWhile hl (by omega)) ?_) rfl
  repeat first | refine LOps.nil ?_ | refine QThen.normal ?_ | refine LOps.pure (Pure.as (lv := .atom _) rfl) rfl ?_
  refine LCode.cond rfl (fun hc2 => ?_) (fun hc2 => ?_)
  ·have hlt := isTok_lt hc2
   rw [if_pos hc2] at hr
   simp only [hc2, if_true]
   repeat first | refine LCode.seq ?_ | refine LCode.region ?_ | refine LOps.pure (Pure.mv (lv := .atom _) rfl) rfl ?_
   obtain ⟨r1, hr1⟩ := obind_is hr
   refine LOps.step (S.callP [_] rfl Pick.here (hE f (by omega) _ _ r1 (by omega) (by omega) hr1) (fun v i1 op1 h1 => ?_) (fun l er i1 op1 h1 e9 he9 => ?_)) rfl
   rotate_left
   ·rw [hr1, h1, obind_err] at hr
    repeat first | refine QThen.panic ?_ | refine QBlock.panic ?_
    exact panP (by first | exact he9.trans rfl | exact he9.trans hj | exact he9.trans (hj2.trans hj)) (by cases hr; rfl) (HSub.pick Pick.here (HSub.nil _))
   rw [hr1, h1, obind_ok] at hr
   obtain ⟨g1, g2, g3, rfl⟩ := gL 0 _ _ _ (hr1.trans (congrArg some h1))
   have g4 := g3 (by omega)
   refine LOps.step (S.lit [_] rfl (elemsOk.cons rfl rfl elemsOk.nil) rfl rfl rfl ?_) rfl
   repeat first | refine LOps.pure (Pure.bld _ (cs := [_, _, _, _, _, _]) rfl) rfl ?_
   refine LOps.step (S.alloc fun b3 => ?_) rfl
   repeat first | refine LOps.nil ?_ | refine LCode.seq ?_ | refine LCode.region ?_ | refine QThen.normal ?_ | refine LOps.pure (Pure.mv (lv := .atom _) rfl) rfl ?_ | refine LOps.step (S.store (cs' := [_, _, _, _, _, _]) rfl Pick.here rfl rfl rfl rfl rfl ?_) rfl
   obtain ⟨r2, hr2⟩ := obind_is hr
   refine LOps.step (S.callP [_] rfl (Pick.there Pick.here) (hB _ _ r2 (by omega) (by omega) hr2) (fun th i2 op2 h2 => ?_) (fun l er i2 op2 h2 e9 he9 => ?_)) rfl
   rotate_left
   ·rw [hr2, h2, obind_err] at hr
    repeat first | refine QThen.panic ?_ | refine QBlock.panic ?_
    exact panP (by first | exact he9.trans rfl | exact he9.trans hj | exact he9.trans (hj2.trans hj)) (by cases hr; rfl) (HSub.pick Pick.here (HSub.nil _))
   rw [hr2, h2, obind_ok] at hr
   repeat first | refine LOps.nil ?_ | refine LCode.seq ?_ | refine LCode.region ?_ | refine LCode.ret ?_ | refine QThen.normal ?_ | refine QThen.ret ?_ | refine QBlock.ret ?_ | refine LOps.pure (Pure.fieldH rfl) rfl ?_ | refine LOps.pure (Pure.ldHAgg (cs' := [_, _, _, _, _, _]) rfl (List.Mem.head _) rfl rfl) rfl ?_ | refine LOps.step (S.store (cs' := [_, _, _, _, _, _]) rfl (Pick.there Pick.here) rfl rfl rfl rfl rfl ?_) rfl | refine LOps.step (S.store (cs' := [_, _, _, _, _, _]) rfl (Pick.there (Pick.there Pick.here)) rfl rfl rfl rfl rfl ?_) rfl
   exact retP (v := .mk 4 [] [] [v] th []) rfl (AllRes.cons (ResIs.cellAgg (k := 6) rfl (List.Mem.head _) rfl (LV.Sub.agg (bs := [_, _, .list [], _, _, .list []]) ⟨LV.Sub.refl _, LV.Sub.refl _, LV.Sub.nil, LV.Sub.refl _, LV.Sub.refl _, LV.Sub.nil, trivial⟩)) AllRes.nil) (by cases hr; rfl) (by rw [encS_mk]; rfl) (HSub.pick (Pick.there (Pick.there Pick.here)) (HSub.nil _))
  ·rw [if_neg (by rw [hc2]; decide)] at hr
   simp only [hc2, Bool.false_eq_true, if_false]
   repeat first | refine LCode.seq ?_ | refine LCode.region ?_ | refine LCode.skip ?_ | refine QThen.normal ?_ | refine QBlock.normal ?_ | refine LOps.pure (Pure.mv (lv := .atom _) rfl) rfl ?_
   obtain ⟨r1, hr1⟩ := obind_is hr
   refine LOps.step (S.callP [_] rfl Pick.here (hM _ _ r1 (by omega) (by omega) hr1) (fun v i1 op1 h1 => ?_) (fun l er i1 op1 h1 e9 he9 => ?_)) rfl
   rotate_left
   ·rw [hr1, h1, obind_err] at hr
    repeat first | refine QThen.panic ?_ | refine QBlock.panic ?_
    exact panP (by first | exact he9.trans rfl | exact he9.trans hj | exact he9.trans (hj2.trans hj)) (by cases hr; rfl) (HSub.pick Pick.here (HSub.nil _))
   rw [hr1, h1, obind_ok] at hr
   obtain ⟨g1, g2, g3, rfl⟩ := kM _ _ _ (hr1.trans (congrArg some h1))
   have g4 := g3 (by omega)
   refine LOps.step (S.alloc fun b5 => ?_) rfl
   repeat first | refine LOps.nil ?_ | refine LCode.seq ?_ | refine LCode.region ?_ | refine QThen.normal ?_ | refine LOps.pure (Pure.mv (lv := .atom _) rfl) rfl ?_ | refine LOps.step (S.store (cs' := [_, _, _, _, _, _]) rfl Pick.here rfl rfl rfl rfl rfl ?_) rfl
   refine LOps.step (S.callP [_, _] rfl (Pick.there Pick.here) (need_spec sb T i1 op1 [59] hl (by omega)) (fun u i2 op2 h2 => ?_) (fun l er i2 op2 h2 e9 he9 => ?_)) rfl
   rotate_left
   ·rw [h2, obind_err] at hr
    repeat first | refine QThen.panic ?_ | refine QBlock.panic ?_
    exact panP (by first | exact he9.trans rfl | exact he9.trans hj | exact he9.trans (hj2.trans hj)) (by cases hr; rfl) (HSub.pick Pick.here (HSub.nil _))
   rw [h2, obind_ok] at hr
   repeat first | refine LOps.nil ?_ | refine LCode.seq ?_ | refine LCode.region ?_ | refine LCode.ret ?_ | refine QThen.normal ?_ | refine LOps.pure (Pure.ldHAgg (cs' := [_, _, _, _, _, _]) rfl (List.Mem.tail _ (List.Mem.head _)) rfl rfl) rfl ?_ | refine LOps.step (S.store (cs' := [_, _, _, _, _, _]) rfl (Pick.there (Pick.there Pick.here)) rfl rfl rfl rfl rfl ?_) rfl
   exact retP (v := v) rfl (AllRes.cons (ResIs.cellAgg rfl (List.Mem.head _) rfl (LV.Sub.refl _)) AllRes.nil) (by cases hr; rfl) rfl (HSub.pick (Pick.there Pick.here) (HSub.nil _))
theorem st_all (hG : GW B0 w0) (sb : Nat) (T : List Tok) (hT : TOK T) : ∀ f : Nat, BlockC B0 w0 sb T f ∧ StmtsC B0 w0 sb T f ∧ StmtC B0 w0 sb T f ∧ SimpleC B0 w0 sb T f := by
 intro f
 induction f using Nat.strongRecOn with
 | _ f ih =>
  have hE := fun g => (all_spec (B0 := B0) (w0 := w0) hG sb T hT g).2
  cases f with
  | zero =>
   refine ⟨?_, stmts_spec sb T hT 0 (fun g hg => by omega), ?_, ?_⟩
   ·intro i op r _ _ hr; rw [sBlock] at hr; cases hr
   ·intro i op r _ _ hr; rw [sStmt] at hr; cases hr
   ·intro i op r _ _ hr; rw [sSimple] at hr; cases hr
  | succ f =>
   have h := ih f (by omega)
   exact ⟨block_spec sb T hT f h.2.1, stmts_spec sb T hT _ (fun g hg => (ih g hg).2.2.1), stmt_spec sb T hT f (fun g _ => hE g) h.1 h.2.2.2, simple_spec sb T hT f (fun g _ => hE g)⟩
end
end Go.Proofs.YtcbpcianefpniaaGreatDoor
namespace Go.Proofs.YtcbpcianefpniaaGreatDoor
open Go.GL Go.RowKit Go.Stele
set_option maxRecDepth 100000
set_option maxHeartbeats 4000000
theorem namesLoop_len (T : List Tok) : ∀ (f : Nat) (acc : List (List UInt8)) (i op : Nat) (l : List (List UInt8)) (i' op' : Nat), sNamesLoop T f acc i op = some (.ok l i' op') → l.length + i ≤ acc.length + i'
 | 0, _, _, _, _, _, _, h => by rw [sNamesLoop] at h; cases h
 | f + 1, acc, i, op, l, i', op', h => by
  rw [sNamesLoop] at h
  split at h
  ·rcases obind_some h with ⟨s, i1, op1, h1, h2⟩ | ⟨l, e, _, hh⟩
   ·injection h1 with h1
    obtain ⟨rfl, rfl, _⟩ := sWord_ok h1
    have := namesLoop_len T f _ _ _ _ _ _ h2
    rw [List.length_append, List.length_singleton] at this
    omega
   ·cases hh
  ·cases h
   omega
theorem names_len {T : List Tok} {f i op : Nat} {l : List (List UInt8)} {i' op' : Nat} (h : sNames T f i op = some (.ok l i' op')) : l.length + i ≤ i' := by
 unfold sNames at h
 rcases obind_some h with ⟨s, i1, op1, h1, h2⟩ | ⟨l, e, _, hh⟩
 ·injection h1 with h1
  obtain ⟨rfl, rfl, _⟩ := sWord_ok h1
  have := namesLoop_len T f _ _ _ _ _ _ h2
  rw [List.length_singleton] at this
  omega
 ·cases hh
theorem vars_len (T : List Tok) : ∀ (f : Nat) (acc : List (List UInt8)) (i op : Nat) (l : List (List UInt8)) (i' op' : Nat), sVars T f acc i op = some (.ok l i' op') → l.length + i ≤ acc.length + i'
 | 0, _, _, _, _, _, _, h => by rw [sVars] at h; cases h
 | f + 1, acc, i, op, l, i', op', h => by
  rw [sVars] at h
  split at h
  ·rcases obind_some h with ⟨s, i1, op1, h1, h2⟩ | ⟨l, e, _, hh⟩
   ·have := names_len h1
    rcases obind_some h2 with ⟨u, i2, op2, h3, h4⟩ | ⟨l, e, _, hh⟩
    ·injection h3 with h3
     have hg := sNeed_good T [59] i1 op1
     rw [h3] at hg
     have hv := vars_len T f _ _ _ _ _ _ h4
     have := hg.1
     rw [List.length_append] at hv
     omega
    ·cases hh
   ·cases hh
  ·cases h
   omega
attribute [local irreducible] LOps LCode LStep LCalls Go.GL.Pure QThen QBlock RetPost LQ LAny LLate LLateOp
section
variable {B0 : Nat} {w0 : World}
theorem vars_spec (sb : Nat) (T : List Tok) (hT : TOK T) (f i op : Nat) (r : Res (List (List UInt8))) (hi : i ≤ T.length) (hr : sVars T f [] i op = some r) :
  LCalls (KC B0 w0) 88 [ptr sb 0] [srcH sb T i op] (PostP sb T encNames r) := by
 have hl := hT.len
 refine LCalls.intro Tryz.func88 rfl (n := 13) rfl rfl rfl ?_
 repeat first | refine LOps.nil ?_ | refine LCode.seq ?_ | refine LCode.region ?_ | refine LCode.block ?_ | refine QThen.normal ?_ | refine LOps.pure (Pure.as (lv := .atom _) rfl) rfl ?_
 refine LCode.loopI (fun k ls H => ∃ (v : LV) (l : List (List UInt8)) (i2 : Nat) (Ha : Heap), k ≤ f ∧ ls = [(0, ptr sb 0), (3, v)] ∧ H = srcH sb T i2 op :: Ha ∧ Acc 1 v (l.map str) Ha [] ∧ i2 ≤ T.length ∧ l.length ≤ i2 ∧ sVars T k l i2 op = some r)
  ⟨f, _, srcH sb T i op :: [], ⟨nilSlice, [], i, _, Nat.le_refl _, rfl, rfl, Acc.nil, by omega, by simp, hr⟩, ⟨rfl, rfl, trivial⟩, HSub.refl _⟩ ?_
 rintro k ls H ⟨v, l, i2, Ha, hkf, rfl, rfl, hacc, hi2, hll, hI⟩ j hj
 obtain ⟨k, rfl⟩ : ∃ k', k = k' + 1 := by
  cases k with
  | zero => rw [sVars] at hI; cases hI
  | succ k => exact ⟨k, rfl⟩
 rw [sVars] at hI
 repeat first | refine LCode.seq ?_ | refine LCode.region ?_ | refine LOps.pure (Pure.mv (lv := .atom _) rfl) rfl ?_
 refine LOps.step (S.fnH [_, _] rfl Pick.here (take_spec sb T i2 op kwVar hl (by omega)) ?_) rfl
 repeat first | refine LOps.nil ?_ | refine QThen.normal ?_
 refine LCode.cond rfl (fun hc => ?_) (fun hc => ?_)
 ·have hlt := isTok_lt hc
  rw [if_pos hc] at hI
  simp only [hc, if_true]
  repeat first | refine LCode.seq ?_ | refine LCode.region ?_ | refine LCode.skip ?_ | refine LCode.block ?_ | refine QThen.normal ?_
  refine LOps.pure (Pure.mv (lv := v) rfl) rfl ?_
  repeat first | refine LOps.pure (Pure.mv (lv := .atom _) rfl) rfl ?_
  obtain ⟨r2, hr2⟩ := obind_is hI
  refine LOps.step (S.callP [_] rfl Pick.here (names_specP sb T hT k (i2 + 1) op r2 (by omega) hr2) (fun ns i4 op4 h4 => ?_) (fun l er i4 op4 h4 e9 he9 => ?_)) rfl
  rotate_left
  ·rw [hr2, h4, obind_err] at hI
   repeat first | refine QThen.panic ?_ | refine QBlock.panic ?_
   exact panP (by first | exact he9.trans rfl | exact he9.trans hj | exact he9.trans (hj2.trans hj)) (by cases hI; rfl) (HSub.pick Pick.here (HSub.nil _))
  rw [hr2, h4, obind_ok] at hI
  obtain ⟨g1, g2, g3, rfl⟩ := sNames_good T k _ _ _ (hr2.trans (congrArg some h4))
  have g5 := g3 (by omega)
  have g6 := names_len (hr2.trans (congrArg some h4))
  refine LOps.step (S.acc1 (ms := ns.map str) rfl hacc rfl (strs_len ns) (strs_ok ns) (by simp; omega) fun v' H' hacc' => ?_) rfl
  refine LOps.pure (Pure.as (lv := v') rfl) rfl ?_
  repeat first | refine LOps.nil ?_ | refine LCode.region ?_ | refine QThen.normal ?_ | refine LOps.pure (Pure.mv (lv := .atom _) rfl) rfl ?_
  refine LOps.step (S.callP [_, _] rfl Pick.here (need_spec sb T i4 op4 [59] hl (by omega)) (fun u i5 op5 h5 => ?_) (fun l er i5 op5 h5 e9 he9 => ?_)) rfl
  rotate_left
  ·rw [h5, obind_err] at hI
   repeat first | refine QThen.panic ?_ | refine QBlock.panic ?_
   exact panP (by first | exact he9.trans rfl | exact he9.trans hj | exact he9.trans (hj2.trans hj)) (by cases hI; rfl) (HSub.pick Pick.here (HSub.nil _))
  rw [h5, obind_ok] at hI
  have hg5 := sNeed_good T [59] i4 op4
  rw [h5] at hg5
  obtain ⟨k1, k2, k3, rfl⟩ := hg5
  have k4 := k3 g5
  repeat first | refine LOps.nil ?_ | refine QThen.normal ?_ | refine QBlock.normal ?_
  exact ⟨k, _, _, by omega, ⟨v', l ++ ns, i5, H', by omega, rfl, rfl, by rw [List.map_append]; exact hacc', by omega, by rw [List.length_append]; omega, hI⟩, ⟨rfl, rfl, trivial⟩, HSub.refl _, hj⟩
 ·rw [if_neg (by rw [hc]; decide)] at hI
  simp only [hc, Bool.false_eq_true, if_false]
  repeat first | refine LCode.seq ?_ | refine LCode.region ?_ | refine LCode.exit ?_ | refine QThen.normal ?_ | refine QThen.exit ?_ | refine QBlock.hit ?_
  refine LOps.pure (Pure.mv (lv := v) rfl) rfl ?_
  refine LOps.pure (Pure.as (lv := v) rfl) rfl ?_
  repeat first | refine LOps.nil ?_ | refine LCode.ret ?_ | refine QThen.normal ?_
  exact retP (v := l) hj (AllRes.cons (ResIs.tmp (v := v) rfl hacc.sub) AllRes.nil) (by cases hI; rfl) rfl (HSub.pick Pick.here (HSub.nil _))
theorem array_spec (hG : GW B0 w0) (sb : Nat) (T : List Tok) (hT : TOK T) (i op : Nat) (r : Res Ar) (hi : i ≤ T.length) (ho : op ≤ 100) (hr : sArray T i op = some r) :
  LCalls (KC B0 w0) 90 [ptr sb 0] [srcH sb T i op] (PostP sb T encAr r) := by
 have hl := hT.len
 unfold sArray at hr
 refine LCalls.intro Tryz.func90 rfl (n := 18) rfl rfl rfl ?_
 repeat first | refine LCode.seq ?_ | refine LCode.region ?_
 refine LOps.step (S.alloc fun b2 => ?_) rfl
 repeat first | refine LOps.nil ?_ | refine LCode.seq ?_ | refine LCode.region ?_ | refine QThen.normal ?_ | refine LOps.pure (Pure.mv (lv := .atom _) rfl) rfl ?_
 refine LOps.step (S.callP [_, _] rfl (Pick.there Pick.here) (word_spec sb T i op 2 hl (by omega)) (fun s i1 op1 h1 => ?_) (fun l er i1 op1 h1 e9 he9 => ?_)) rfl
 rotate_left
 ·rw [h1, obind_err] at hr
  repeat first | refine QThen.panic ?_ | refine QBlock.panic ?_
  exact panP (by first | exact he9.trans rfl | exact he9.trans hj | exact he9.trans (hj2.trans hj)) (by cases hr; rfl) (HSub.pick Pick.here (HSub.nil _))
 rw [h1, obind_ok] at hr
 obtain ⟨rfl, rfl, t, ht, _, _⟩ := sWord_ok h1
 have := get_lt ht
 repeat first | refine LOps.pure (Pure.bld _ (cs := [_, _]) rfl) rfl ?_
 refine LOps.step (S.alloc fun b3 => ?_) rfl
 repeat first | refine LOps.nil ?_ | refine LCode.seq ?_ | refine LCode.region ?_ | refine QThen.normal ?_ | refine LOps.pure (Pure.mv (lv := .atom _) rfl) rfl ?_ | refine LOps.step (S.store (cs' := [_, _]) rfl Pick.here rfl rfl rfl rfl rfl ?_) rfl
 refine LOps.step (S.callP [_, _] rfl (Pick.there Pick.here) (begin_spec sb T (i + 1) op1 [91] hl (by omega) (by omega)) (fun v i2 op2 h2 => ?_) (fun l er i2 op2 h2 e9 he9 => ?_)) rfl
 rotate_left
 ·rw [h2, obind_err] at hr
  repeat first | refine QThen.panic ?_ | refine QBlock.panic ?_
  exact panP (by first | exact he9.trans rfl | exact he9.trans hj | exact he9.trans (hj2.trans hj)) (by cases hr; rfl) (HSub.pick Pick.here (HSub.nil _))
 rw [h2, obind_ok] at hr
 obtain ⟨rfl, rfl, ho1, hi1⟩ := sBegin_ok h2
 repeat first | refine LOps.nil ?_ | refine LCode.seq ?_ | refine LCode.region ?_ | refine QThen.normal ?_ | refine LOps.pure (Pure.mv (lv := .atom _) rfl) rfl ?_
 refine LOps.step (S.callP [_] rfl Pick.here (number_specP hG sb T hT (i + 1 + 1) (op1 + 1) (by omega)) (fun m i3 op3 h3 => ?_) (fun l er i3 op3 h3 e9 he9 => ?_)) rfl
 rotate_left
 ·rw [h3, obind_err] at hr
  repeat first | refine QThen.panic ?_ | refine QBlock.panic ?_
  exact panP (by first | exact he9.trans rfl | exact he9.trans hj | exact he9.trans (hj2.trans hj)) (by cases hr; rfl) (HSub.pick Pick.here (HSub.nil _))
 rw [h3, obind_ok] at hr
 have hg3 := sNumber_good T (i + 1 + 1) (op1 + 1)
 rw [h3] at hg3
 obtain ⟨k1, k2, k3, rfl⟩ := hg3
 have k4 := k3 (by omega)
 have hm : m ≤ 4294967295 := by
  unfold sNumber at h3
  unfold Res.bind at h3
  split at h3
  ·rename_i s2 i6 op6 h6
   cases h3
   obtain ⟨_, _, t6, ht6, hk6, rfl⟩ := sWord_ok h6
   obtain ⟨u, hu, hp⟩ := hT.num t6 (List.mem_of_getElem? ht6) hk6
   rw [numOf, hp]
   simp only
   omega
  ·cases h3
 have hw : IntKind.i64.wrap (m : Int) = (m : Int) := wrap_i64 (by omega)
 repeat first | refine LOps.nil ?_ | refine LCode.seq ?_ | refine LCode.region ?_ | refine QThen.normal ?_ | refine LOps.pure (Pure.mv (lv := .atom _) rfl) rfl ?_ | refine LOps.pure (Pure.cvt rfl) rfl ?_ | refine LOps.pure (Pure.fieldH rfl) rfl ?_ | refine LOps.step (S.store (cs' := [_, _]) rfl (Pick.there Pick.here) rfl rfl rfl rfl rfl ?_) rfl
 refine LOps.step (S.callP [_, _] rfl (Pick.there Pick.here) (end_spec sb T i3 (op1 + 1) [93] hl (by omega) (by omega) (by omega)) (fun u i4 op4 h4 => ?_) (fun l er i4 op4 h4 e9 he9 => ?_)) rfl
 rotate_left
 ·rw [h4, obind_err] at hr
  repeat first | refine QThen.panic ?_ | refine QBlock.panic ?_
  exact panP (by first | exact he9.trans rfl | exact he9.trans hj | exact he9.trans (hj2.trans hj)) (by cases hr; rfl) (HSub.pick Pick.here (HSub.nil _))
 rw [h4, obind_ok] at hr
 obtain ⟨rfl, rfl, hi4⟩ := sEnd_ok h4
 repeat first | refine LOps.nil ?_ | refine LCode.seq ?_ | refine LCode.region ?_ | refine QThen.normal ?_ | refine LOps.pure (Pure.mv (lv := .atom _) rfl) rfl ?_
 refine LOps.step (S.callP [_, _] rfl Pick.here (need_spec sb T (i3 + 1) op4 [59] hl (by omega)) (fun u2 i5 op5 h5 => ?_) (fun l er i5 op5 h5 e9 he9 => ?_)) rfl
 rotate_left
 ·rw [h5, obind_err] at hr
  repeat first | refine QThen.panic ?_ | refine QBlock.panic ?_
  exact panP (by first | exact he9.trans rfl | exact he9.trans hj | exact he9.trans (hj2.trans hj)) (by cases hr; rfl) (HSub.pick Pick.here (HSub.nil _))
 rw [h5, obind_ok] at hr
 repeat first | refine LOps.nil ?_ | refine LCode.seq ?_ | refine LCode.region ?_ | refine LCode.ret ?_ | refine QThen.normal ?_ | refine LOps.pure (Pure.ldHAgg (cs' := [_, _]) rfl (List.Mem.tail _ (List.Mem.head _)) rfl rfl) rfl ?_ | refine LOps.step (S.store (cs' := [_, _]) rfl (Pick.there (Pick.there Pick.here)) rfl rfl rfl rfl rfl ?_) rfl
 exact retP (v := ⟨s, m⟩) rfl (AllRes.cons (ResIs.cellAgg (k := 2) rfl (List.Mem.head _) rfl (LV.Sub.refl _)) AllRes.nil) (by cases hr; rfl) (by show LV.agg [str s, int .i64 (IntKind.i64.wrap m)] = encAr ⟨s, m⟩; rw [hw]; rfl) (HSub.pick (Pick.there Pick.here) (HSub.nil _))
theorem func_spec (hG : GW B0 w0) (sb : Nat) (T : List Tok) (hT : TOK T) (f i op : Nat) (r : Res FnD) (hi : i ≤ T.length) (ho : op ≤ 100) (hr : sFunc T f i op = some r) :
  LCalls (KC B0 w0) 91 [ptr sb 0] [srcH sb T i op] (PostP sb T encFn r) := by
 have hl := hT.len
 unfold sFunc at hr
 refine LCalls.intro Tryz.func91 rfl (n := 29) rfl rfl rfl ?_
 repeat first | refine LCode.seq ?_ | refine LCode.region ?_
 refine LOps.step (S.alloc fun b2 => ?_) rfl
 repeat first | refine LOps.nil ?_ | refine LCode.seq ?_ | refine LCode.region ?_ | refine QThen.normal ?_ | refine LOps.pure (Pure.mv (lv := .atom _) rfl) rfl ?_
 refine LOps.step (S.callP [_, _] rfl (Pick.there Pick.here) (word_spec sb T i op 2 hl (by omega)) (fun s i1 op1 h1 => ?_) (fun l er i1 op1 h1 e9 he9 => ?_)) rfl
 rotate_left
 ·rw [h1, obind_err] at hr
  repeat first | refine QThen.panic ?_ | refine QBlock.panic ?_
  exact panP (by first | exact he9.trans rfl | exact he9.trans hj | exact he9.trans (hj2.trans hj)) (by cases hr; rfl) (HSub.pick Pick.here (HSub.nil _))
 rw [h1, obind_ok] at hr
 obtain ⟨rfl, rfl, t, ht, _, _⟩ := sWord_ok h1
 have := get_lt ht
 repeat first | refine LOps.pure (Pure.bld _ (cs := [_, _, _, _]) rfl) rfl ?_
 refine LOps.step (S.alloc fun b3 => ?_) rfl
 repeat first | refine LOps.nil ?_ | refine LCode.seq ?_ | refine LCode.region ?_ | refine QThen.normal ?_ | refine LOps.pure (Pure.mv (lv := .atom _) rfl) rfl ?_ | refine LOps.step (S.store (cs' := [_, _, _, _]) rfl Pick.here rfl rfl rfl rfl rfl ?_) rfl
 refine LOps.step (S.callP [_, _] rfl (Pick.there Pick.here) (begin_spec sb T (i + 1) op1 [40] hl (by omega) (by omega)) (fun v i2 op2 h2 => ?_) (fun l er i2 op2 h2 e9 he9 => ?_)) rfl
 rotate_left
 ·rw [h2, obind_err] at hr
  repeat first | refine QThen.panic ?_ | refine QBlock.panic ?_
  exact panP (by first | exact he9.trans rfl | exact he9.trans hj | exact he9.trans (hj2.trans hj)) (by cases hr; rfl) (HSub.pick Pick.here (HSub.nil _))
 rw [h2, obind_ok] at hr
 obtain ⟨rfl, rfl, ho1, hi1⟩ := sBegin_ok h2
 repeat first | refine LOps.nil ?_ | refine LCode.seq ?_ | refine LCode.region ?_ | refine QThen.normal ?_ | refine LOps.pure (Pure.mv (lv := .atom _) rfl) rfl ?_
 refine LOps.step (S.lit [_] rfl (elemsOk.cons rfl rfl elemsOk.nil) rfl rfl rfl ?_) rfl
 refine LOps.step (S.fnH [_, _] rfl Pick.here (is_spec sb T (i + 1 + 1) (op1 + 1) [[41]] hl (by omega) (by simp)) ?_) rfl
 repeat first | refine LOps.nil ?_ | refine QThen.normal ?_ | refine LOps.pure (Pure.not rfl) rfl ?_
 obtain ⟨r3, hr3⟩ := obind_is hr
 refine LCode.mid (A := List (List UInt8) × Nat) (fun _ => [(0, ptr sb 0), (2, ptr b2 0), (3, ptr b3 0)]) (fun a => (b3, .cells 63 [str s, .list (a.1.map str), nilSlice, nilSlice]) :: srcH sb T a.2 (op1 + 1) :: [(b2, .cells 63 [str [], nilSlice, nilSlice, nilSlice])])
  (fun a => i + 1 + 1 ≤ a.2 ∧ a.2 ≤ T.length ∧ r3 = .ok a.1 a.2 (op1 + 1)) ?_ ?_
 ·refine LCode.cond rfl (fun hc => ?_) (fun hc => ?_)
  ·have hc' : isTok T (i + 1 + 1) [[41]] = false := by simpa using hc
   rw [if_neg (by rw [hc']; decide)] at hr3
   repeat first | refine LCode.region ?_ | refine LOps.pure (Pure.mv (lv := .atom _) rfl) rfl ?_
   refine LOps.step (S.callP [_] rfl Pick.here (names_specP sb T hT f (i + 1 + 1) (op1 + 1) r3 (by omega) hr3) (fun ns i3 op3 h3 => ?_) (fun l er i3 op3 h3 e9 he9 => ?_)) rfl
   ·obtain ⟨g1, g2, g3, rfl⟩ := sNames_good T f _ _ _ (hr3.trans (congrArg some h3))
    have g5 := g3 (by omega)
    repeat first | refine LOps.nil ?_ | refine QThen.normal ?_ | refine LOps.pure (Pure.fieldH rfl) rfl ?_ | refine LOps.step (S.store (cs' := [_, _, _, _]) rfl (Pick.there Pick.here) rfl rfl rfl rfl rfl ?_) rfl
    exact ⟨(ns, i3), ⟨by omega, g5, h3⟩, ⟨rfl, rfl, rfl, trivial⟩, rfl, rfl⟩
   ·rw [if_neg (by rw [hc']; decide), hr3, h3, obind_err] at hr
    repeat first | refine QThen.panic ?_
    exact panP (he9.trans rfl) (by cases hr; rfl) (HSub.pick Pick.here (HSub.nil _))
  ·have hc' : isTok T (i + 1 + 1) [[41]] = true := by simpa using hc
   rw [if_pos hc'] at hr3
   cases hr3
   refine LCode.cellSub (Pick.there (Pick.here)) (cs' := [str s, .list [], nilSlice, nilSlice]) ⟨LV.Sub.refl _, LV.Sub.nil, LV.Sub.refl _, LV.Sub.refl _, trivial⟩ ?_
   repeat first | refine LCode.skip ?_ | refine QThen.normal ?_
   exact ⟨([], i + 1 + 1), ⟨Nat.le_refl _, by omega, rfl⟩, ⟨rfl, rfl, rfl, trivial⟩, rfl, rfl⟩
 ·rintro ⟨ps, i3⟩ ⟨hi3, hi3T, rfl⟩ j hj
  rw [hr3, obind_ok] at hr
  repeat first | refine LCode.seq ?_ | refine LCode.region ?_ | refine LOps.pure (Pure.mv (lv := .atom _) rfl) rfl ?_
  refine LOps.step (S.callP [_, _] rfl (Pick.there Pick.here) (end_spec sb T i3 (op1 + 1) [41] hl (by omega) (by omega) (by omega)) (fun u i4 op4 h4 => ?_) (fun l er i4 op4 h4 e9 he9 => ?_)) rfl
  rotate_left
  ·rw [h4, obind_err] at hr
   repeat first | refine QThen.panic ?_ | refine QBlock.panic ?_
   exact panP (by first | exact he9.trans rfl | exact he9.trans hj | exact he9.trans (hj2.trans hj)) (by cases hr; rfl) (HSub.pick Pick.here (HSub.nil _))
  rw [h4, obind_ok] at hr
  obtain ⟨rfl, rfl, hi4⟩ := sEnd_ok h4
  repeat first | refine LOps.nil ?_ | refine LCode.seq ?_ | refine LCode.region ?_ | refine QThen.normal ?_ | refine LOps.pure (Pure.mv (lv := .atom _) rfl) rfl ?_
  refine LOps.step (S.callP [_, _] rfl Pick.here (begin_spec sb T (i3 + 1) op4 [123] hl (by omega) (by omega)) (fun u2 i5 op5 h5 => ?_) (fun l er i5 op5 h5 e9 he9 => ?_)) rfl
  rotate_left
  ·rw [h5, obind_err] at hr
   repeat first | refine QThen.panic ?_ | refine QBlock.panic ?_
   exact panP (by first | exact he9.trans rfl | exact he9.trans hj | exact he9.trans (hj2.trans hj)) (by cases hr; rfl) (HSub.pick Pick.here (HSub.nil _))
  rw [h5, obind_ok] at hr
  obtain ⟨rfl, rfl, ho5, hi5⟩ := sBegin_ok h5
  repeat first | refine LOps.nil ?_ | refine LCode.seq ?_ | refine LCode.region ?_ | refine QThen.normal ?_ | refine LOps.pure (Pure.mv (lv := .atom _) rfl) rfl ?_
  obtain ⟨r6, hr6⟩ := obind_is hr
  refine LOps.step (S.callP [_] rfl Pick.here (vars_spec sb T hT f (i3 + 1 + 1) (op4 + 1) r6 (by omega) hr6) (fun vs i6 op6 h6 => ?_) (fun l er i6 op6 h6 e9 he9 => ?_)) rfl
  rotate_left
  ·rw [hr6, h6, obind_err] at hr
   repeat first | refine QThen.panic ?_ | refine QBlock.panic ?_
   exact panP (by first | exact he9.trans rfl | exact he9.trans hj | exact he9.trans (hj2.trans hj)) (by cases hr; rfl) (HSub.pick Pick.here (HSub.nil _))
  rw [hr6, h6, obind_ok] at hr
  obtain ⟨g1, g2, g3, rfl⟩ := sVars_good T f _ _ _ _ (hr6.trans (congrArg some h6))
  have g4 := g3 (by omega)
  repeat first | refine LOps.nil ?_ | refine LCode.seq ?_ | refine LCode.region ?_ | refine QThen.normal ?_ | refine LOps.pure (Pure.mv (lv := .atom _) rfl) rfl ?_ | refine LOps.pure (Pure.fieldH rfl) rfl ?_ | refine LOps.step (S.store (cs' := [_, _, _, _]) rfl (Pick.there Pick.here) rfl rfl rfl rfl rfl ?_) rfl
  obtain ⟨r7, hr7⟩ := obind_is hr
  refine LOps.step (S.callP [_] rfl (Pick.there Pick.here) ((st_all hG sb T hT f).2.1 i6 (op4 + 1) r7 (by omega) (by omega) hr7) (fun ss i7 op7 h7 => ?_) (fun l er i7 op7 h7 e9 he9 => ?_)) rfl
  rotate_left
  ·rw [hr7, h7, obind_err] at hr
   repeat first | refine QThen.panic ?_ | refine QBlock.panic ?_
   exact panP (by first | exact he9.trans rfl | exact he9.trans hj | exact he9.trans (hj2.trans hj)) (by cases hr; rfl) (HSub.pick Pick.here (HSub.nil _))
  rw [hr7, h7, obind_ok] at hr
  obtain ⟨q1, q2, q3, rfl⟩ := (st_good T f).2.1 _ _ _ _ (hr7.trans (congrArg some h7))
  have q4 := q3 (by omega)
  repeat first | refine LOps.nil ?_ | refine LCode.seq ?_ | refine LCode.region ?_ | refine QThen.normal ?_ | refine LOps.pure (Pure.mv (lv := .atom _) rfl) rfl ?_ | refine LOps.pure (Pure.fieldH rfl) rfl ?_ | refine LOps.step (S.store (cs' := [_, _, _, _]) rfl (Pick.there Pick.here) rfl rfl rfl rfl rfl ?_) rfl
  refine LOps.step (S.callP [_, _] rfl (Pick.there Pick.here) (end_spec sb T i7 (op4 + 1) [125] hl (by omega) (by omega) (by omega)) (fun u3 i8 op8 h8 => ?_) (fun l er i8 op8 h8 e9 he9 => ?_)) rfl
  rotate_left
  ·rw [h8, obind_err] at hr
   repeat first | refine QThen.panic ?_ | refine QBlock.panic ?_
   exact panP (by first | exact he9.trans rfl | exact he9.trans hj | exact he9.trans (hj2.trans hj)) (by cases hr; rfl) (HSub.pick Pick.here (HSub.nil _))
  rw [h8, obind_ok] at hr
  repeat first | refine LOps.nil ?_ | refine LCode.seq ?_ | refine LCode.region ?_ | refine LCode.ret ?_ | refine QThen.normal ?_ | refine LOps.pure (Pure.ldHAgg (cs' := [_, _, _, _]) rfl (List.Mem.tail _ (List.Mem.head _)) rfl rfl) rfl ?_ | refine LOps.step (S.store (cs' := [_, _, _, _]) rfl (Pick.there (Pick.there Pick.here)) rfl rfl rfl rfl rfl ?_) rfl
  exact retP (v := ⟨s, ps, vs, ss⟩) hj (AllRes.cons (ResIs.cellAgg (k := 4) rfl (List.Mem.head _) rfl (LV.Sub.refl _)) AllRes.nil) (by cases hr; rfl) rfl (HSub.pick (Pick.there Pick.here) (HSub.nil _))
end
end Go.Proofs.YtcbpcianefpniaaGreatDoor
namespace Go.Proofs.YtcbpcianefpniaaGreatDoor
open Go.GL Go.RowKit Go.Stele
set_option maxRecDepth 100000
set_option maxHeartbeats 4000000
theorem permV {a b c : Nat × LObj} {X Y Z : Heap} : (a :: b :: c :: (X ++ (Y ++ Z))).Perm (X ++ (a :: b :: c :: (Y ++ Z))) := List.perm_append_comm_assoc [a, b, c] X (Y ++ Z)
theorem permA {a b c : Nat × LObj} {X Y Z : Heap} : (a :: b :: c :: (X ++ (Y ++ Z))).Perm (Y ++ (a :: b :: c :: (X ++ Z))) :=
 (((List.perm_append_comm_assoc X Y Z).cons c).cons b |>.cons a).trans (List.perm_append_comm_assoc [a, b, c] Y (X ++ Z))
theorem permF {a b c : Nat × LObj} {X Y Z : Heap} : (a :: b :: c :: (X ++ (Y ++ Z))).Perm (Z ++ (a :: b :: c :: (X ++ Y))) :=
 ((((show (X ++ (Y ++ Z)).Perm (Z ++ (X ++ Y)) from by rw [← List.append_assoc]; exact List.perm_append_comm).cons c).cons b).cons a).trans (List.perm_append_comm_assoc [a, b, c] Z (X ++ Y))
theorem hsubV {a b c : Nat × LObj} {X Y Z : Heap} : HSub (a :: b :: c :: (X ++ (Y ++ Z))) (b :: a :: c :: ((Y ++ Z) ++ X)) :=
 ⟨[], by rw [List.append_nil]; exact (List.Perm.swap _ _ _).trans ((((List.perm_append_comm).cons c).cons b).cons a)⟩
theorem hsubA {a b c : Nat × LObj} {X Y Z : Heap} : HSub (a :: b :: c :: (X ++ (Y ++ Z))) (b :: a :: c :: ((X ++ Z) ++ Y)) :=
 ⟨[], by rw [List.append_nil]; exact (List.Perm.swap _ _ _).trans ((((show ((X ++ Z) ++ Y).Perm (X ++ (Y ++ Z)) from by rw [List.append_assoc]; exact List.perm_append_comm.append_left X).cons c).cons b).cons a)⟩
theorem hsubF {a b c : Nat × LObj} {X Y Z : Heap} : HSub (a :: b :: c :: (X ++ (Y ++ Z))) (b :: a :: c :: ((X ++ Y) ++ Z)) :=
 ⟨[], by rw [List.append_nil, List.append_assoc]; exact List.Perm.swap _ _ _⟩
theorem Acc.cell {s : Nat} {v : LV} {es : List LV} {H F : Heap} (h : Acc s v es H F) : v.cells? = some [v] ∧ [v].all cellOk = true := by
 cases h <;> exact ⟨rfl, rfl⟩
attribute [local irreducible] LOps LCode LStep LCalls Go.GL.Pure QThen QBlock RetPost LQ LAny LLate LLateOp
section
variable {B0 : Nat} {w0 : World}
theorem program_spec (hG : GW B0 w0) (sb : Nat) (T : List Tok) (hT : TOK T) (f : Nat) (r : Res Pr) (hr : sProg T f ⟨[], [], []⟩ 0 0 = some r) :
  LCalls (KC B0 w0) 39 [ptr sb 0] [srcH sb T 0 0] (PostP sb T encPr r) := by
 have hl := hT.len
 have hml : (T.map encTok).length = T.length := List.length_map _
 refine LCalls.intro Tryz.func39 rfl (n := 47) rfl rfl rfl ?_
 repeat first | refine LCode.seq ?_ | refine LCode.region ?_
 refine LOps.step (S.alloc fun b2 => ?_) rfl
 repeat first | refine LOps.nil ?_ | refine LCode.seq ?_ | refine LCode.region ?_ | refine QThen.normal ?_
 refine LOps.step (S.alloc fun b3 => ?_) rfl
 repeat first | refine LOps.nil ?_ | refine LCode.seq ?_ | refine LCode.block ?_ | refine QThen.normal ?_
 refine LCode.loopI (fun k ls H => ∃ (p : Pr) (v1 v2 v3 : LV) (i2 : Nat) (H1 H2 H3 : Heap), k ≤ f ∧ ls = [(0, ptr sb 0), (2, ptr b2 0), (3, ptr b3 0)] ∧ H = srcH sb T i2 0 :: (b3, .cells 33 [v1, v2, v3]) :: (b2, .cells 33 [nilSlice, nilSlice, nilSlice]) :: (H1 ++ (H2 ++ H3)) ∧
   Acc 1 v1 (p.vars.map str) H1 [] ∧ Acc 2 v2 (p.arrays.map encAr) H2 [] ∧ Acc 4 v3 (p.funcs.map encFn) H3 [] ∧ i2 ≤ T.length ∧ p.vars.length ≤ i2 ∧ p.arrays.length ≤ i2 ∧ p.funcs.length ≤ i2 ∧ sProg T k p i2 0 = some r)
  ⟨f, _, _, ⟨⟨[], [], []⟩, nilSlice, nilSlice, nilSlice, 0, [], [], [], Nat.le_refl _, rfl, rfl, Acc.nil, Acc.nil, Acc.nil, Nat.zero_le _, Nat.zero_le _, Nat.zero_le _, Nat.zero_le _, hr⟩, ⟨rfl, rfl, rfl, trivial⟩, HSub.pick (Pick.there (Pick.there Pick.here)) (HSub.refl _)⟩ ?_
 rintro k ls H ⟨p, v1, v2, v3, i2, H1, H2, H3, hkf, rfl, rfl, ha1, ha2, ha3, hi2, hl1, hl2, hl3, hI⟩ j hj
 obtain ⟨k, rfl⟩ : ∃ k', k = k' + 1 := by
  cases k with
  | zero => rw [sProg] at hI; cases hI
  | succ k => exact ⟨k, rfl⟩
 rw [sProg] at hI
 repeat first | refine LCode.seq ?_
 refine LCode.cut [(0, ptr sb 0), (2, ptr b2 0), (3, ptr b3 0), (13, bool (decide (i2 < T.length)))] ?_ (fun j2 hj2 => ?_)
 ·refine LCode.quiet (by kernel_rfl) ?_
  repeat first | refine LQ.pure (Pure.mv (lv := .atom _) rfl) rfl ?_ | refine LQ.pure (Pure.nilCheckH rfl) rfl ?_ | refine LQ.pure (Pure.fieldH rfl) rfl ?_ | refine LQ.pure (Pure.loadH (c := .atom _) rfl (List.Mem.head _) rfl) rfl ?_ | refine LQ.pure (Pure.loadH (c := .list _) rfl (List.Mem.head _) rfl) rfl ?_ | refine LQ.pure (Pure.llen rfl) rfl ?_ | refine LQ.pure (Pure.lss rfl rfl) rfl ?_ | refine LQ.nil ?_ | refine QThen.normal ?_
  exact ⟨⟨rfl, rfl, rfl, bool_eq (by rw [decide_eq_decide]; simp), trivial⟩, rfl, rfl⟩
 ·skip
  refine LCode.cond rfl (fun hc => ?_) (fun hc => ?_)
  ·have hlt : i2 < T.length := of_decide_eq_true hc
   rw [if_neg (by omega)] at hI
   repeat first | refine LCode.seq ?_ | refine LCode.region ?_ | refine LCode.skip ?_ | refine LCode.block ?_ | refine QThen.normal ?_ | refine LOps.pure (Pure.mv (lv := .atom _) rfl) rfl ?_
   refine LOps.step (S.lit [_] rfl (elemsOk.cons rfl rfl elemsOk.nil) rfl rfl rfl ?_) rfl
   refine LOps.step (S.fnH [_, _] rfl Pick.here (is_spec sb T i2 0 [kwVar] hl (by omega) (by simp)) ?_) rfl
   repeat first | refine LOps.nil ?_ | refine QThen.normal ?_ | refine LOps.pure (Pure.as (lv := .atom _) rfl) rfl ?_
   refine LCode.cond rfl (fun hv => ?_) (fun hv => ?_)
   ·rw [if_pos hv] at hI
    obtain ⟨r2, hr2⟩ := obind_is hI
    refine LCode.draw (m := 7) rfl [] ?_
    refine LAny.tk 0 rfl rfl (Pure.fieldH rfl) ?_
    refine LAny.tk 2 rfl rfl (Pure.mv (lv := .atom _) rfl) ?_
    refine LAny.late ?_ (HSub.nil _)
    refine LLate.two (i := 1) (j := 3) (by kernel_rfl) ?_ ?_
    ·refine LLateOp.pureH rfl rfl (Pure.loadH (c := v1) rfl (List.Mem.tail _ (List.Mem.head _)) rfl) ?_
     refine LLate.o 3 (LLateOp.whole rfl (.inl rfl) rfl (S.callP [_] rfl Pick.here (vars_spec sb T hT k i2 0 r2 hi2 hr2) (fun l i3 op3 h3 => ?_) (fun l er i3 op3 h3 e' he' => ?_)))
     ·obtain ⟨g1, g2, g3, rfl⟩ := sVars_good T k _ _ _ _ (hr2.trans (congrArg some h3))
      have g4 := g3 hi2
      have g5 := g2 hv
      have g6 := vars_len T _ _ _ _ _ _ _ (hr2.trans (congrArg some h3))
      rw [hr2, h3, obind_ok] at hI
      rw [List.length_nil] at g6
      refine LLate.o 4 (LLateOp.whole rfl (.inl rfl) rfl (S.accF permV rfl ha1 rfl (strs_len l) (strs_ok l) (by simp; omega) fun v' H' ha' => ?_))
      refine LLate.o 5 (LLateOp.pureH rfl rfl (Pure.fieldH rfl) ?_)
      refine LLate.o 6 (LLateOp.whole rfl (.inl rfl) rfl (S.store (cs' := [v', v2, v3]) rfl (Pick.there Pick.here) (Acc.cell ha').1 rfl rfl (Acc.cell ha').2 rfl ?_))
      refine LLate.done (by kernel_rfl) ?_
      repeat first | refine QThen.normal ?_ | refine QBlock.normal ?_
      exact ⟨k, _, _, by omega, ⟨{ p with vars := p.vars ++ l }, v', v2, v3, i3, H', H2, H3, by omega, rfl, rfl, by rw [List.map_append]; exact ha', ha2, ha3, g4, by rw [List.length_append]; omega, Nat.le_trans hl2 (by omega), Nat.le_trans hl3 (by omega), hI⟩, ⟨rfl, rfl, rfl, trivial⟩, hsubV, hj2.trans hj⟩
     ·rw [hr2, h3, obind_err] at hI
      repeat first | refine QThen.panic ?_ | refine QBlock.panic ?_
      exact panP (he'.trans (hj2.trans hj)) (by cases hI; rfl) (HSub.pick Pick.here (HSub.nil _))
    ·refine LLateOp.whole rfl (.inl rfl) rfl (S.callP [_] rfl Pick.here (vars_spec sb T hT k i2 0 r2 hi2 hr2) (fun l i3 op3 h3 => ?_) (fun l er i3 op3 h3 e' he' => ?_))
     ·refine LLate.o 1 (LLateOp.pureH rfl rfl (Pure.loadH (c := v1) rfl (List.Mem.tail _ (List.Mem.head _)) rfl) ?_)
      obtain ⟨g1, g2, g3, rfl⟩ := sVars_good T k _ _ _ _ (hr2.trans (congrArg some h3))
      have g4 := g3 hi2
      have g5 := g2 hv
      have g6 := vars_len T _ _ _ _ _ _ _ (hr2.trans (congrArg some h3))
      rw [hr2, h3, obind_ok] at hI
      rw [List.length_nil] at g6
      refine LLate.o 4 (LLateOp.whole rfl (.inl rfl) rfl (S.accF permV rfl ha1 rfl (strs_len l) (strs_ok l) (by simp; omega) fun v' H' ha' => ?_))
      refine LLate.o 5 (LLateOp.pureH rfl rfl (Pure.fieldH rfl) ?_)
      refine LLate.o 6 (LLateOp.whole rfl (.inl rfl) rfl (S.store (cs' := [v', v2, v3]) rfl (Pick.there Pick.here) (Acc.cell ha').1 rfl rfl (Acc.cell ha').2 rfl ?_))
      refine LLate.done (by kernel_rfl) ?_
      repeat first | refine QThen.normal ?_ | refine QBlock.normal ?_
      exact ⟨k, _, _, by omega, ⟨{ p with vars := p.vars ++ l }, v', v2, v3, i3, H', H2, H3, by omega, rfl, rfl, by rw [List.map_append]; exact ha', ha2, ha3, g4, by rw [List.length_append]; omega, Nat.le_trans hl2 (by omega), Nat.le_trans hl3 (by omega), hI⟩, ⟨rfl, rfl, rfl, trivial⟩, hsubV, hj2.trans hj⟩
     ·rw [hr2, h3, obind_err] at hI
      repeat first | refine QThen.panic ?_ | refine QBlock.panic ?_
      exact panP (he'.trans (hj2.trans hj)) (by cases hI; rfl) (HSub.pick Pick.here (HSub.nil _))
   ·rw [if_neg (by rw [hv]; decide)] at hI
    repeat first | refine LCode.seq ?_ | refine LCode.region ?_ | refine LOps.pure (Pure.mv (lv := .atom _) rfl) rfl ?_
    refine LOps.step (S.fnH [_, _] rfl Pick.here (take_spec sb T i2 0 kwArray hl (by omega)) ?_) rfl
    repeat first | refine LOps.nil ?_ | refine QThen.normal ?_ | refine LOps.pure (Pure.as (lv := .atom _) rfl) rfl ?_
    refine LCode.cond rfl (fun hw => ?_) (fun hw => ?_)
    ·have hlt2 := isTok_lt hw
     rw [if_pos hw] at hI
     simp only [hw, if_true]
     obtain ⟨r2, hr2⟩ := obind_is hI
     refine LCode.draw (m := 8) rfl [] ?_
     refine LAny.tk 0 rfl rfl (Pure.fieldH rfl) ?_
     refine LAny.tk 2 rfl rfl (Pure.mv (lv := .atom _) rfl) ?_
     refine LAny.late ?_ (HSub.nil _)
     refine LLate.two (i := 1) (j := 3) (by kernel_rfl) ?_ ?_
     ·refine LLateOp.pureH rfl rfl (Pure.loadH (c := v2) rfl (List.Mem.tail _ (List.Mem.head _)) rfl) ?_
      refine LLate.o 3 (LLateOp.whole rfl (.inl rfl) rfl (S.callP [_] rfl Pick.here (array_spec hG sb T hT (i2 + 1) 0 r2 (by omega) (by omega) hr2) (fun l i3 op3 h3 => ?_) (fun l er i3 op3 h3 e' he' => ?_)))
      ·obtain ⟨g1, g2, g3, rfl⟩ := sArray_good T _ _ _ (hr2.trans (congrArg some h3))
       have g4 := g3 (by omega)
       rw [hr2, h3, obind_ok] at hI
       refine LLate.o 4 (LLateOp.whole rfl (.inl rfl) rfl (S.lit [_] rfl (elemsOk.cons rfl rfl elemsOk.nil) rfl rfl rfl ?_))
       refine LLate.o 5 (LLateOp.whole rfl (.inl rfl) rfl (S.accF permA rfl ha2 rfl (by simp; rfl) rfl (by simp; omega) fun v' H' ha' => ?_))
       refine LLate.o 6 (LLateOp.pureH rfl rfl (Pure.fieldH rfl) ?_)
       refine LLate.o 7 (LLateOp.whole rfl (.inl rfl) rfl (S.store (cs' := [v1, v', v3]) rfl (Pick.there Pick.here) (Acc.cell ha').1 rfl rfl (Acc.cell ha').2 rfl ?_))
       refine LLate.done (by kernel_rfl) ?_
       repeat first | refine QThen.normal ?_ | refine QBlock.normal ?_
       exact ⟨k, _, _, by omega, ⟨{ p with arrays := p.arrays ++ [l] }, v1, v', v3, i3, H1, H', H3, by omega, rfl, rfl, ha1, by rw [List.map_append]; exact ha', ha3, g4, Nat.le_trans hl1 (by omega), by rw [List.length_append, List.length_singleton]; omega, Nat.le_trans hl3 (by omega), hI⟩, ⟨rfl, rfl, rfl, trivial⟩, hsubA, hj2.trans hj⟩
      ·rw [hr2, h3, obind_err] at hI
       repeat first | refine QThen.panic ?_ | refine QBlock.panic ?_
       exact panP (he'.trans (hj2.trans hj)) (by cases hI; rfl) (HSub.pick Pick.here (HSub.nil _))
     ·refine LLateOp.whole rfl (.inl rfl) rfl (S.callP [_] rfl Pick.here (array_spec hG sb T hT (i2 + 1) 0 r2 (by omega) (by omega) hr2) (fun l i3 op3 h3 => ?_) (fun l er i3 op3 h3 e' he' => ?_))
      ·refine LLate.two (i := 1) (j := 4) (by kernel_rfl) ?_ ?_
       ·refine LLateOp.pureH rfl rfl (Pure.loadH (c := v2) rfl (List.Mem.tail _ (List.Mem.head _)) rfl) ?_
        obtain ⟨g1, g2, g3, rfl⟩ := sArray_good T _ _ _ (hr2.trans (congrArg some h3))
        have g4 := g3 (by omega)
        rw [hr2, h3, obind_ok] at hI
        refine LLate.o 4 (LLateOp.whole rfl (.inl rfl) rfl (S.lit [_] rfl (elemsOk.cons rfl rfl elemsOk.nil) rfl rfl rfl ?_))
        refine LLate.o 5 (LLateOp.whole rfl (.inl rfl) rfl (S.accF permA rfl ha2 rfl (by simp; rfl) rfl (by simp; omega) fun v' H' ha' => ?_))
        refine LLate.o 6 (LLateOp.pureH rfl rfl (Pure.fieldH rfl) ?_)
        refine LLate.o 7 (LLateOp.whole rfl (.inl rfl) rfl (S.store (cs' := [v1, v', v3]) rfl (Pick.there Pick.here) (Acc.cell ha').1 rfl rfl (Acc.cell ha').2 rfl ?_))
        refine LLate.done (by kernel_rfl) ?_
        repeat first | refine QThen.normal ?_ | refine QBlock.normal ?_
        exact ⟨k, _, _, by omega, ⟨{ p with arrays := p.arrays ++ [l] }, v1, v', v3, i3, H1, H', H3, by omega, rfl, rfl, ha1, by rw [List.map_append]; exact ha', ha3, g4, Nat.le_trans hl1 (by omega), by rw [List.length_append, List.length_singleton]; omega, Nat.le_trans hl3 (by omega), hI⟩, ⟨rfl, rfl, rfl, trivial⟩, hsubA, hj2.trans hj⟩
       ·obtain ⟨g1, g2, g3, rfl⟩ := sArray_good T _ _ _ (hr2.trans (congrArg some h3))
        have g4 := g3 (by omega)
        rw [hr2, h3, obind_ok] at hI
        refine LLateOp.whole rfl (.inl rfl) rfl (S.lit [_] rfl (elemsOk.cons rfl rfl elemsOk.nil) rfl rfl rfl ?_)
        refine LLate.o 1 (LLateOp.pureH rfl rfl (Pure.loadH (c := v2) rfl (List.Mem.tail _ (List.Mem.head _)) rfl) ?_)
        refine LLate.o 5 (LLateOp.whole rfl (.inl rfl) rfl (S.accF permA rfl ha2 rfl (by simp; rfl) rfl (by simp; omega) fun v' H' ha' => ?_))
        refine LLate.o 6 (LLateOp.pureH rfl rfl (Pure.fieldH rfl) ?_)
        refine LLate.o 7 (LLateOp.whole rfl (.inl rfl) rfl (S.store (cs' := [v1, v', v3]) rfl (Pick.there Pick.here) (Acc.cell ha').1 rfl rfl (Acc.cell ha').2 rfl ?_))
        refine LLate.done (by kernel_rfl) ?_
        repeat first | refine QThen.normal ?_ | refine QBlock.normal ?_
        exact ⟨k, _, _, by omega, ⟨{ p with arrays := p.arrays ++ [l] }, v1, v', v3, i3, H1, H', H3, by omega, rfl, rfl, ha1, by rw [List.map_append]; exact ha', ha3, g4, Nat.le_trans hl1 (by omega), by rw [List.length_append, List.length_singleton]; omega, Nat.le_trans hl3 (by omega), hI⟩, ⟨rfl, rfl, rfl, trivial⟩, hsubA, hj2.trans hj⟩
      ·rw [hr2, h3, obind_err] at hI
       repeat first | refine QThen.panic ?_ | refine QBlock.panic ?_
       exact panP (he'.trans (hj2.trans hj)) (by cases hI; rfl) (HSub.pick Pick.here (HSub.nil _))
    ·rw [if_neg (by rw [hw]; decide)] at hI
     simp only [hw, Bool.false_eq_true, if_false]
     repeat first | refine LCode.seq ?_ | refine LCode.region ?_ | refine LOps.pure (Pure.mv (lv := .atom _) rfl) rfl ?_
     refine LOps.step (S.fnH [_, _] rfl Pick.here (take_spec sb T i2 0 kwFunc hl (by omega)) ?_) rfl
     repeat first | refine LOps.nil ?_ | refine QThen.normal ?_ | refine LOps.pure (Pure.as (lv := .atom _) rfl) rfl ?_
     refine LCode.cond rfl (fun hu => ?_) (fun hu => ?_)
     ·have hlt2 := isTok_lt hu
      rw [if_pos hu] at hI
      simp only [hu, if_true]
      obtain ⟨r2, hr2⟩ := obind_is hI
      refine LCode.draw (m := 8) rfl [] ?_
      refine LAny.tk 0 rfl rfl (Pure.fieldH rfl) ?_
      refine LAny.tk 2 rfl rfl (Pure.mv (lv := .atom _) rfl) ?_
      refine LAny.late ?_ (HSub.nil _)
      refine LLate.two (i := 1) (j := 3) (by kernel_rfl) ?_ ?_
      ·refine LLateOp.pureH rfl rfl (Pure.loadH (c := v3) rfl (List.Mem.tail _ (List.Mem.head _)) rfl) ?_
       refine LLate.o 3 (LLateOp.whole rfl (.inl rfl) rfl (S.callP [_] rfl Pick.here (func_spec hG sb T hT k (i2 + 1) 0 r2 (by omega) (by omega) hr2) (fun l i3 op3 h3 => ?_) (fun l er i3 op3 h3 e' he' => ?_)))
       ·obtain ⟨g1, g2, g3, rfl⟩ := sFunc_good T k _ _ _ (hr2.trans (congrArg some h3))
        have g4 := g3 (by omega)
        rw [hr2, h3, obind_ok] at hI
        refine LLate.o 4 (LLateOp.whole rfl (.inl rfl) rfl (S.lit [_] rfl (elemsOk.cons rfl rfl elemsOk.nil) rfl rfl rfl ?_))
        refine LLate.o 5 (LLateOp.whole rfl (.inl rfl) rfl (S.accF permF rfl ha3 rfl (by simp; rfl) rfl (by simp; omega) fun v' H' ha' => ?_))
        refine LLate.o 6 (LLateOp.pureH rfl rfl (Pure.fieldH rfl) ?_)
        refine LLate.o 7 (LLateOp.whole rfl (.inl rfl) rfl (S.store (cs' := [v1, v2, v']) rfl (Pick.there Pick.here) (Acc.cell ha').1 rfl rfl (Acc.cell ha').2 rfl ?_))
        refine LLate.done (by kernel_rfl) ?_
        repeat first | refine QThen.normal ?_ | refine QBlock.normal ?_
        exact ⟨k, _, _, by omega, ⟨{ p with funcs := p.funcs ++ [l] }, v1, v2, v', i3, H1, H2, H', by omega, rfl, rfl, ha1, ha2, by rw [List.map_append]; exact ha', g4, Nat.le_trans hl1 (by omega), Nat.le_trans hl2 (by omega), by rw [List.length_append, List.length_singleton]; omega, hI⟩, ⟨rfl, rfl, rfl, trivial⟩, hsubF, hj2.trans hj⟩
       ·rw [hr2, h3, obind_err] at hI
        repeat first | refine QThen.panic ?_ | refine QBlock.panic ?_
        exact panP (he'.trans (hj2.trans hj)) (by cases hI; rfl) (HSub.pick Pick.here (HSub.nil _))
      ·refine LLateOp.whole rfl (.inl rfl) rfl (S.callP [_] rfl Pick.here (func_spec hG sb T hT k (i2 + 1) 0 r2 (by omega) (by omega) hr2) (fun l i3 op3 h3 => ?_) (fun l er i3 op3 h3 e' he' => ?_))
       ·refine LLate.two (i := 1) (j := 4) (by kernel_rfl) ?_ ?_
        ·refine LLateOp.pureH rfl rfl (Pure.loadH (c := v3) rfl (List.Mem.tail _ (List.Mem.head _)) rfl) ?_
         obtain ⟨g1, g2, g3, rfl⟩ := sFunc_good T k _ _ _ (hr2.trans (congrArg some h3))
         have g4 := g3 (by omega)
         rw [hr2, h3, obind_ok] at hI
         refine LLate.o 4 (LLateOp.whole rfl (.inl rfl) rfl (S.lit [_] rfl (elemsOk.cons rfl rfl elemsOk.nil) rfl rfl rfl ?_))
         refine LLate.o 5 (LLateOp.whole rfl (.inl rfl) rfl (S.accF permF rfl ha3 rfl (by simp; rfl) rfl (by simp; omega) fun v' H' ha' => ?_))
         refine LLate.o 6 (LLateOp.pureH rfl rfl (Pure.fieldH rfl) ?_)
         refine LLate.o 7 (LLateOp.whole rfl (.inl rfl) rfl (S.store (cs' := [v1, v2, v']) rfl (Pick.there Pick.here) (Acc.cell ha').1 rfl rfl (Acc.cell ha').2 rfl ?_))
         refine LLate.done (by kernel_rfl) ?_
         repeat first | refine QThen.normal ?_ | refine QBlock.normal ?_
         exact ⟨k, _, _, by omega, ⟨{ p with funcs := p.funcs ++ [l] }, v1, v2, v', i3, H1, H2, H', by omega, rfl, rfl, ha1, ha2, by rw [List.map_append]; exact ha', g4, Nat.le_trans hl1 (by omega), Nat.le_trans hl2 (by omega), by rw [List.length_append, List.length_singleton]; omega, hI⟩, ⟨rfl, rfl, rfl, trivial⟩, hsubF, hj2.trans hj⟩
        ·obtain ⟨g1, g2, g3, rfl⟩ := sFunc_good T k _ _ _ (hr2.trans (congrArg some h3))
         have g4 := g3 (by omega)
         rw [hr2, h3, obind_ok] at hI
         refine LLateOp.whole rfl (.inl rfl) rfl (S.lit [_] rfl (elemsOk.cons rfl rfl elemsOk.nil) rfl rfl rfl ?_)
         refine LLate.o 1 (LLateOp.pureH rfl rfl (Pure.loadH (c := v3) rfl (List.Mem.tail _ (List.Mem.head _)) rfl) ?_)
         refine LLate.o 5 (LLateOp.whole rfl (.inl rfl) rfl (S.accF permF rfl ha3 rfl (by simp; rfl) rfl (by simp; omega) fun v' H' ha' => ?_))
         refine LLate.o 6 (LLateOp.pureH rfl rfl (Pure.fieldH rfl) ?_)
         refine LLate.o 7 (LLateOp.whole rfl (.inl rfl) rfl (S.store (cs' := [v1, v2, v']) rfl (Pick.there Pick.here) (Acc.cell ha').1 rfl rfl (Acc.cell ha').2 rfl ?_))
         refine LLate.done (by kernel_rfl) ?_
         repeat first | refine QThen.normal ?_ | refine QBlock.normal ?_
         exact ⟨k, _, _, by omega, ⟨{ p with funcs := p.funcs ++ [l] }, v1, v2, v', i3, H1, H2, H', by omega, rfl, rfl, ha1, ha2, by rw [List.map_append]; exact ha', g4, Nat.le_trans hl1 (by omega), Nat.le_trans hl2 (by omega), by rw [List.length_append, List.length_singleton]; omega, hI⟩, ⟨rfl, rfl, rfl, trivial⟩, hsubF, hj2.trans hj⟩
       ·rw [hr2, h3, obind_err] at hI
        repeat first | refine QThen.panic ?_ | refine QBlock.panic ?_
        exact panP (he'.trans (hj2.trans hj)) (by cases hI; rfl) (HSub.pick Pick.here (HSub.nil _))
     ·rw [if_neg (by rw [hu]; decide)] at hI
      simp only [hu, Bool.false_eq_true, if_false]
      repeat first | refine LCode.region ?_ | refine LOps.pure (Pure.mv (lv := .atom _) rfl) rfl ?_
      refine LOps.step (S.callP [_, _] rfl Pick.here (fail_spec encPr sb T i2 0 3 hl (by omega)) (fun _ _ _ h => by cases h) (fun l er i' op' h e' he' => ?_)) rfl
      cases h
      repeat first | refine QThen.panic ?_ | refine QBlock.panic ?_
      exact panP (he'.trans (hj2.trans hj)) (by cases hI; rfl) (HSub.pick Pick.here (HSub.nil _))
  ·have hge : T.length ≤ i2 := by have := of_decide_eq_false hc; omega
   rw [if_pos hge] at hI
   refine LCode.cellSub (Pick.there Pick.here) (cs' := [.list (p.vars.map str), .list (p.arrays.map encAr), .list (p.funcs.map encFn)]) ⟨ha1.sub, ha2.sub, ha3.sub, trivial⟩ ?_
   repeat first | refine LOps.nil ?_ | refine LCode.seq ?_ | refine LCode.region ?_ | refine LCode.ret ?_ | refine LCode.exit ?_ | refine QThen.normal ?_ | refine QThen.exit ?_ | refine QBlock.hit ?_ | refine LOps.pure (Pure.ldHAgg (cs' := [_, _, _]) rfl (List.Mem.head _) rfl rfl) rfl ?_ | refine LOps.step (S.store (cs' := [_, _, _]) rfl (Pick.there (Pick.there Pick.here)) rfl rfl rfl rfl rfl ?_) rfl
   exact retP (v := p) (hj2.trans hj) (AllRes.cons (ResIs.cellAgg (k := 3) rfl (List.Mem.head _) rfl (LV.Sub.refl _)) AllRes.nil) (by cases hI; rfl) rfl (HSub.pick (Pick.there (Pick.there Pick.here)) (HSub.nil _))
end
end Go.Proofs.YtcbpcianefpniaaGreatDoor
namespace Go.GL
open Go.RowKit
/-- A deferred call that returns, from a mode to a mode. -/
def LCallsD (C : Ctx) (f : FuncId) (args : List LV) (u : FrameMode) (H : Heap) (R : FrameMode → Heap → Prop) : Prop :=
 ∀ (vs : List Value) w L, RepL w L args vs → RelH C w L H → CallsD C.P f vs.toArray u w fun e u' w' => (∃ v, e = .returned v) ∧ LeftX C w L H w' (R u')
/-- What is asked of the deferred calls: they are run; at the end the results are read, or the panic goes on. -/
def LeavesL (C : Ctx) (n : Nat) (rs : List ResultVar) (R : LRes → Heap → Prop) : List Deferred → FrameMode → Env → Heap → Prop
 | [], .returning, e, H => ∃ vs H', AllRes C n e H rs vs ∧ HSub H' H ∧ R (.ret (resLV vs)) H'
 | [], .panicking ch, _, H => ∃ H', HSub H' H ∧ R (.panic ch) H'
 | [], .run, _, _ => False
 | d :: ds, u, e, H => u ≠ .run ∧ ∃ f cap H1 F, d = { target := .fn (.func f) cap, args := #[] } ∧ TEnter C.P f ∧ H.Perm (H1 ++ F) ∧
   LCallsD C f (cap.toList.map .atom) u H1 fun u' H' => LeavesL C n rs R ds (settle u') e (H' ++ F)
/-- Every way out bears what the slots hold. -/
def liftP (C : Ctx) (n : Nat) (w : World) (L : Live) (K : List Nat) (Q : Post) : Exit → Act → World → Prop :=
 fun x a' w' => ∃ e' H' L', Fr K w L w' L' H' ∧ RelH C w' L' H' ∧ RelE n a' e' w' L' ∧ Q x e' H'
theorem liftP_trans {C : Ctx} {n : Nat} {w w1 : World} {L L1 : Live} {K : List Nat} {H1 : Heap} {Q : Post} (f : Fr K w L w1 L1 H1) {x : Exit} {a : Act} {w' : World}
  (k : liftP C n w1 L1 (keys H1) Q x a w') : liftP C n w L K Q x a w' :=
 let ⟨e', H', L', h1, h2, h3, h4⟩ := k
 ⟨e', H', L', f.trans h1, h2, h3, h4⟩
def LOpsP (C : Ctx) (n : Nat) (ops : Array Oper) (Q : Post) (rest : List Oper) (e : Env) (H : Heap) : Prop :=
 ∀ a w L, RelE n a e w L → RelH C w L H → wpList C.P ops (liftP C n w L (keys H) Q) rest a w
def LCodeP (C : Ctx) (n : Nat) (c : Code) (Q : Post) (e : Env) (H : Heap) : Prop :=
 ∀ a w L, RelE n a e w L → RelH C w L H → c.wp C.P (liftP C n w L (keys H) Q) a w
section P
variable {C : Ctx} {n : Nat} {ops : Array Oper} {Q : Post} {e : Env} {H : Heap}
theorem LOpsP.nil (h : Q .normal e H) : LOpsP C n ops Q [] e H := fun _ _ L hE hH => ⟨e, H, L, Fr.refl _ _ _, hH, hE, h⟩
theorem LOpsP.step {dst : Option Nat} {op : Op} {ty : TypeId} {pos : String} {aft : Array Edge} {rest : List Oper}
  (h : LStep C ⟨dst, op, ty, pos, aft, none⟩ e H (fun lv H' => LOpsP C n ops Q rest (e.put dst lv) H') (fun ch H' => Q (.panic ch) e H'))
  (hd : dstOk n dst) : LOpsP C n ops Q (⟨dst, op, ty, pos, aft, none⟩ :: rest) e H := fun a w L hE hH => by
 unfold wpList
 rw [if_pos (by simp [Region.wanted])]
 have hs := h a.eval w L hE.ev hH
 refine .inl ?_
 unfold Oper.wp
 have left : ∀ {w' v}, Left C w L H w' v (fun lv H' => LOpsP C n ops Q rest (e.put dst lv) H') → wpList C.P ops (liftP C n w L (keys H) Q) rest (a.put dst v) w' := fun h => by
  obtain ⟨lv, H', L', h1, h2, h3, h4⟩ := h
  exact wpList_mono (fun _ _ _ => liftP_trans h1) _ _ _ (h4 _ _ L' ((hE.mono h1.ext).put hd h3) h2)
 have leftX : ∀ {w' ch}, LeftX C w L H w' (fun H' => Q (.panic ch) e H') → liftP C n w L (keys H) Q (.panic ch) a w' := fun h => by
  obtain ⟨H', L', h1, h2, h3⟩ := h
  exact ⟨e, H', L', h1, h2, hE.mono h1.ext, h3⟩
 generalize (execOp a.eval ⟨dst, op, ty, pos, aft, none⟩).run C.P w = r at hs ⊢
 unfold StepOut at hs
 split at hs
 ·exact left hs
 ·exact left hs
 ·obtain ⟨rfl, hs⟩ := hs
  refine Calls.mono hs fun e w' he => ?_
  cases e with
  | returned v => exact left he
  | panicked ch => exact leftX he
  | outgrown => exact he.elim
 ·exact leftX hs
 ·exact hs.elim
theorem LOpsP.pure {dst : Option Nat} {op : Op} {ty : TypeId} {pos : String} {aft : Array Edge} {rest : List Oper} {lv : LV}
  (h : Pure C ⟨dst, op, ty, pos, aft, none⟩ e H lv) (hd : dstOk n dst) (k : LOpsP C n ops Q rest (e.put dst lv) H) : LOpsP C n ops Q (⟨dst, op, ty, pos, aft, none⟩ :: rest) e H :=
 LOpsP.step (h.step k) hd
theorem LCodeP.region {id : Nat} {l : List Oper} (h : LOpsP C n l.toArray Q l e H) : LCodeP C n (.region id l.toArray false) Q e H := fun a w L hE hH => wp_region_lit (h a w L hE hH)
theorem LCodeP.ret (h : Q .ret e H) : LCodeP C n .ret Q e H := fun _ _ L hE hH => wp_ret ⟨e, H, L, Fr.refl _ _ _, hH, hE, h⟩
theorem LCodeP.seq {x y : Code} (h : LCodeP C n x (QThen (fun e H => LCodeP C n y Q e H) Q) e H) : LCodeP C n (.seq x y) Q e H := fun a w L hE hH => by
 refine wp_seq (Go.wp_mono (h a w L hE hH) fun ex a' w' hq => ?_)
 obtain ⟨e', H', L', h1, h2, h3, h4⟩ := hq
 cases ex with
 | normal => exact Go.wp_mono (h4 a' w' L' h3 h2) fun _ _ _ => liftP_trans h1
 | exit id => exact ⟨e', H', L', h1, h2, h3, h4⟩
 | goto id => exact ⟨e', H', L', h1, h2, h3, h4⟩
 | ret => exact ⟨e', H', L', h1, h2, h3, h4⟩
 | panic ch => exact ⟨e', H', L', h1, h2, h3, h4⟩
 | outgrown => exact ⟨e', H', L', h1, h2, h3, h4⟩
/-- Code that does not panic. -/
def QNo (Q : Post) : Post
 | .panic _, _, _ => False
 | x, e, H => Q x e H
theorem LCodeP.of {c : Code} (h : LCode C n c (QNo Q) e H) : LCodeP C n c Q e H := fun a w L hE hH => by
 refine Go.wp_mono (h a w L hE hH) fun ex a' w' hq => ?_
 obtain ⟨e', H', L', h1, h2, h3, h4⟩ := hq
 cases ex with
 | panic ch => exact h4.elim
 | normal => exact ⟨e', H', L', h1, h2, h3, h4⟩
 | exit id => exact ⟨e', H', L', h1, h2, h3, h4⟩
 | goto id => exact ⟨e', H', L', h1, h2, h3, h4⟩
 | ret => exact ⟨e', H', L', h1, h2, h3, h4⟩
 | outgrown => exact ⟨e', H', L', h1, h2, h3, h4⟩
theorem QNo.normal {k : Env → Heap → Prop} (h : k e H) : QNo (QThen k Q) .normal e H := h
end P
/-- What the body must achieve. -/
def RetPostD (C : Ctx) (n : Nat) (rs : List ResultVar) (R : LRes → Heap → Prop) : Post
 | .normal, e, H | .ret, e, H => LeavesL C n rs R e.ds .returning e H
 | .panic ch, e, H => LeavesL C n rs R e.ds (.panicking ch) e H
 | _, _, _ => False
theorem leavesL {C : Ctx} {n : Nat} {fn : Func} {R : LRes → Heap → Prop} {w0 : World} {L0 : Live} {H0 : Heap} (h3 : fn.results.size ≤ 3) (tmps : Array Value) : ∀ (ds : List Deferred) (u : FrameMode) (e : Env) (H : Heap) (w : World) (L : Live), tmps.size = n → (∀ i, Rep w L (e.s i) (tmps.getD i undef)) → RelH C w L H → Fr (keys H0) w0 L0 w L H →
  LeavesL C n fn.results.toList R ds u e H → Leaves C.P fn tmps (CallPost C w0 L0 H0 (fun v => R (.ret v)) (fun ch => R (.panic ch))) ds u w
 | [], .returning, e, H, w, L, hn, hv, hH, hF, h => by
  obtain ⟨vs, H', h1, h2, h5⟩ := h
  obtain ⟨v, r1, r2⟩ := results_of (a := { tmps, defers := e.ds }) ⟨hn, rfl, hv⟩ hH h1 h3
  exact ⟨v, r1, resLV vs, H', L, hF.weak h2, hH.weak h2, r2, h5⟩
 | [], .panicking ch, e, H, w, L, hn, hv, hH, hF, h => by
  obtain ⟨H', h2, h5⟩ := h
  exact ⟨H', L, hF.weak h2, hH.weak h2, h5⟩
 | [], .run, e, H, w, L, hn, hv, hH, hF, h => h.elim
 | d :: ds, u, e, H, w, L, hn, hv, hH, hF, h => by
  obtain ⟨hu, f, cap, H1, F, rfl, hen, hp, hc⟩ := h
  refine ⟨hu, .func f, cap, f, cap, rfl, by simp [invoke, run_callFunc], ?_⟩
  have hH' := hH.perm hp
  have := hc cap.toList w L (repL_atoms _) hH'.left
  simp only [Array.toArray_toList] at this
  refine CallsD.mono this ?_
  rintro ex u' w' ⟨⟨v, rfl⟩, hx⟩
  obtain ⟨H', L', g1, g2, g3⟩ := LeftX.frame hH' hx
  exact leavesL h3 tmps ds (settle u') e H' w' L' hn (fun i => (hv i).mono g1.ext _ _) g2 (hF.trans (g1.perm hp.symm)) g3
theorem LCallsD.mono {C : Ctx} {f : FuncId} {args : List LV} {u : FrameMode} {H : Heap} {R R' : FrameMode → Heap → Prop} (h : LCallsD C f args u H R) (hr : ∀ u H, R u H → R' u H) : LCallsD C f args u H R' := fun vs w L h1 h2 =>
 CallsD.mono (h vs w L h1 h2) fun _ _ _ ⟨h3, h4⟩ => ⟨h3, h4.mono (hr _)⟩
/-- Entering a function that defers. -/
theorem LCalls.introD {C : Ctx} {f : FuncId} {fn : Func} {c : Code} {n : Nat} {args : List LV} {H : Heap} {R : LRes → Heap → Prop} (hf : C.P.funcs[f]? = some fn) (hb : fn.body = some c) (hn : fn.ntmps = n) (h3 : Nat.ble fn.results.size 3 = true)
  (hl : Nat.ble args.length n = true) (h : LCodeP C n c (RetPostD C n fn.results.toList R) (argsEnv args) H) : LCalls C f args H R := fun vs w L hv hH => by
 subst hn
 have hl' : args.length ≤ fn.ntmps := by simpa using hl
 have h3' : fn.results.size ≤ 3 := by simpa using h3
 have hlen := hv.length
 refine calls_of_wp_defers hf hb (Go.wp_mono (h _ w L ⟨?_, rfl, fun i => ?_⟩ hH) fun ex a' w' hq => ?_)
 ·simp; omega
 ·simp only [argsEnv]
  rw [Array.getD_eq_getD_getElem?]
  rcases Nat.lt_or_ge i args.length with hi | hi
  ·rw [List.getElem?_eq_getElem hi]
   obtain ⟨x, hx, hr⟩ := hv.get (List.getElem?_eq_getElem hi)
   have hxi : (vs.toArray ++ Array.replicate (fn.ntmps - vs.toArray.size) undef)[i]? = some x := by
    rw [Array.getElem?_append_left (by simp; omega)]
    simpa using hx
   rw [hxi]
   exact hr
  ·rw [List.getElem?_eq_none hi]
   have hxi : ((vs.toArray ++ Array.replicate (fn.ntmps - vs.toArray.size) undef)[i]?).getD undef = undef := by
    rw [Array.getElem?_append_right (by simp; omega)]
    rw [Array.getElem?_replicate]
    split <;> rfl
   rw [hxi]
   simp only [Option.getD_none, Rep]
 ·obtain ⟨e', H', L', g1, g2, g3, g4⟩ := hq
  have ret : ∀ u, LeavesL C fn.ntmps fn.results.toList R e'.ds u e' H' → Leaves C.P fn a'.tmps (CallPost C w L H (fun v => R (.ret v)) (fun ch => R (.panic ch))) a'.defers u w' := fun u hu => by
   rw [g3.ds]
   exact leavesL h3' a'.tmps _ u e' H' w' L' g3.size g3.vals g2 g1 hu
  cases ex with
  | normal => exact ret _ g4
  | ret => exact ret _ g4
  | panic ch => exact ret _ g4
  | exit id => exact g4.elim
  | goto id => exact g4.elim
  | outgrown => exact g4.elim
abbrev PostS := Exit → FrameMode → Env → Heap → Prop
/-- Code of a deferred call, which may turn its caller's mode. -/
def LCodeS (C : Ctx) (n : Nat) (c : Code) (Q : PostS) (u : FrameMode) (e : Env) (H : Heap) : Prop :=
 ∀ a w L (c0 : Frame) cs, c0.mode = u → RelE n a e w L → RelH C w L H →
  c.wpS C.P (fun x a' cs' w' => ∃ u' e' H' L', cs' = { c0 with mode := u' } :: cs ∧ Fr (keys H) w L w' L' H' ∧ RelH C w' L' H' ∧ RelX n x a' e' w' L' ∧ Q x u' e' H') a (c0 :: cs) w
theorem wpS_mono {P : Program} {c : Code} {Q Q' : Exit → Act → List Frame → World → Prop} {a : Act} {cs : List Frame} {w : World} (h : c.wpS P Q a cs w) (hq : ∀ x a cs w, Q x a cs w → Q' x a cs w) : c.wpS P Q' a cs w := fun b k h1 h2 =>
 let ⟨e, a', cs', w', q, r⟩ := h b k h1 h2
 ⟨e, a', cs', w', hq _ _ _ _ q, r⟩
section S
variable {C : Ctx} {n : Nat} {Q : PostS} {u : FrameMode} {e : Env} {H : Heap}
theorem LCodeS.of {c : Code} (h : LCode C n c (fun x e H => Q x u e H) e H) : LCodeS C n c Q u e H := fun a w L c0 cs hu hE hH => by
 refine wpS_of_wp (Go.wp_mono (h a w L hE hH) fun x a' w' hq => ?_)
 obtain ⟨e', H', L', h1, h2, h3, h4⟩ := hq
 exact ⟨u, e', H', L', by subst hu; rfl, h1, h2, h3, h4⟩
theorem LCodeS.seq {x y : Code} (h : LCodeS C n x (fun ex u' e' H' => match ex with | .normal => LCodeS C n y Q u' e' H' | ex => Q ex u' e' H') u e H) : LCodeS C n (.seq x y) Q u e H := fun a w L c0 cs hu hE hH => by
 refine wpS_seq (wpS_mono (h a w L c0 cs hu hE hH) fun ex a' cs' w' hq => ?_)
 obtain ⟨u', e', H', L', rfl, h1, h2, h3, h4⟩ := hq
 cases ex with
 | normal =>
  refine wpS_mono (h4 a' w' L' { c0 with mode := u' } cs rfl h3 h2) ?_
  rintro ex a2 cs2 w2 ⟨u2, e2, H2, L2, rfl, g1, g2, g3, g4⟩
  exact ⟨u2, e2, H2, L2, rfl, h1.trans g1, g2, g3, g4⟩
 | exit id => exact ⟨u', e', H', L', rfl, h1, h2, h3, h4⟩
 | goto id => exact ⟨u', e', H', L', rfl, h1, h2, h3, h4⟩
 | ret => exact ⟨u', e', H', L', rfl, h1, h2, h3, h4⟩
 | panic ch => exact ⟨u', e', H', L', rfl, h1, h2, h3, h4⟩
 | outgrown => exact ⟨u', e', H', L', rfl, h1, h2, h3, h4⟩
/-- What recover hands back, and the caller's mode behind it. -/
def recMode : FrameMode → Value × FrameMode
 | .panicking ({ v, recovered := false, goexit := false } :: older) => (v, .panicking ({ v, recovered := true } :: older))
 | u => (.nilIface, u)
theorem recover_run {P : Program} {ρ : Operand → Value} {dst : Option Nat} {ty : TypeId} {pos : String} {aft : Array Edge} {g : Option (Nat × Bool)} (w : World) :
  (execOp ρ ⟨dst, .call { callee := .builtin .recover, args := #[], argTypes := #[] }, ty, pos, aft, g⟩).run P w = .ok .recover w := by
 rfl
theorem recoverD_eq (c0 : Frame) (cs : List Frame) : recoverD (c0 :: cs) = none ∧ recMode c0.mode = (.nilIface, c0.mode) ∨ recoverD (c0 :: cs) = some ((recMode c0.mode).1, { c0 with mode := (recMode c0.mode).2 } :: cs) := by
 obtain ⟨fn, tmps, todo, defers, mode, kind, ro⟩ := c0
 cases mode with
 | run => exact .inl ⟨rfl, rfl⟩
 | returning => exact .inl ⟨rfl, rfl⟩
 | panicking ch =>
  cases ch with
  | nil => exact .inl ⟨rfl, rfl⟩
  | cons p older =>
   obtain ⟨v, r, g⟩ := p
   cases r <;> cases g <;> first | exact .inl ⟨rfl, rfl⟩ | exact .inr rfl
theorem LCodeS.recover {id t s : Nat} {ty ty' : TypeId} {pos pos' : String} {aft aft' : Array Edge} (ht : Nat.blt t n = true) (hs : Nat.blt s n = true) (h : Q .normal (recMode u).2 ((e.upd t (.atom (recMode u).1)).upd s (.atom (recMode u).1)) H) :
  LCodeS C n (.region id #[⟨some t, .call { callee := .builtin .recover, args := #[], argTypes := #[] }, ty, pos, aft, none⟩, ⟨some s, .assign (.tmp t), ty', pos', aft', none⟩] false) Q u e H := fun a w L c0 cs hu hE hH => by
 refine wpS_region ?_
 have hE1 : ∀ v, RelE n (a.put (some t) v) (e.upd t (.atom v)) w L := fun v => hE.put (dst := some t) (by simp only [dstOk, dstB]; exact ht) rep_atom
 have hev : ∀ v, (a.put (some t) v).eval (.tmp t) = v := fun v => by
  have := (hE1 v).ev (.tmp t)
  simpa [Env.ev, Env.upd, Rep] using this
 have hE2 : ∀ v, RelE n ((a.put (some t) v).put (some s) v) ((e.upd t (.atom v)).upd s (.atom v)) w L := fun v => (hE1 v).put (dst := some s) (by simp only [dstOk, dstB]; exact hs) rep_atom
 have h1 : ∀ v cs1, wpOpsS C.P #[⟨some t, .call { callee := .builtin .recover, args := #[], argTypes := #[] }, ty, pos, aft, none⟩, ⟨some s, .assign (.tmp t), ty', pos', aft', none⟩] (fun x a' cs' w' => ∃ u' e' H' L', cs' = { c0 with mode := u' } :: cs ∧ Fr (keys H) w L w' L' H' ∧ RelH C w' L' H' ∧ RelX n x a' e' w' L' ∧ Q x u' e' H') [1] (a.put (some t) v) cs1 w
   ↔ (fun x a' cs' w' => ∃ u' e' H' L', cs' = { c0 with mode := u' } :: cs ∧ Fr (keys H) w L w' L' H' ∧ RelH C w' L' H' ∧ RelX n x a' e' w' L' ∧ Q x u' e' H') Exit.normal ((a.put (some t) v).put (some s) v) cs1 w := by
  intro v cs1
  have hr : (execOp (a.put (some t) v).eval ⟨some s, .assign (.tmp t), ty', pos', aft', none⟩).run C.P w = .ok (.value ((a.put (some t) v).eval (.tmp t))) w := rfl
  simp only [wpOpsS, List.getElem?_toArray, List.getElem?_cons_succ, List.getElem?_cons_zero, Region.wanted, if_true, hr, Oper.upon, hev]
 have h0 : (execOp a.eval ⟨some t, .call { callee := .builtin .recover, args := #[], argTypes := #[] }, ty, pos, aft, none⟩).run C.P w = .ok .recover w := recover_run w
 have hl : List.range (#[(⟨some t, .call { callee := .builtin .recover, args := #[], argTypes := #[] }, ty, pos, aft, none⟩ : Oper), ⟨some s, .assign (.tmp t), ty', pos', aft', none⟩] : Array Oper).size = [0, 1] := rfl
 rw [hl, wpOpsS]
 simp only [List.getElem?_toArray, List.getElem?_cons_zero, Region.wanted, if_true, h0]
 rcases recoverD_eq c0 cs with ⟨h2, h3⟩ | h2
 ·simp only [h2]
  rw [h1]
  subst hu
  rw [h3] at h
  exact ⟨c0.mode, _, H, L, rfl, Fr.refl _ _ _, hH, hE2 _, h⟩
 ·simp only [h2]
  rw [h1]
  subst hu
  exact ⟨_, _, H, L, rfl, Fr.refl _ _ _, hH, hE2 _, h⟩
/-- Entering a deferred function that hands back nothing. -/
def RetPostS (R : FrameMode → Heap → Prop) : PostS
 | .normal, u, e, H | .ret, u, e, H => e.ds = [] ∧ ∃ H', HSub H' H ∧ R u H'
 | _, _, _, _ => False
theorem LCallsD.intro {f : FuncId} {fn : Func} {c : Code} {args : List LV} {R : FrameMode → Heap → Prop} (hf : C.P.funcs[f]? = some fn) (hb : fn.body = some c) (hn : fn.ntmps = n) (h3 : fn.results = #[])
  (hl : Nat.ble args.length n = true) (h : LCodeS C n c (RetPostS R) u (argsEnv args) H) : LCallsD C f args u H R := fun vs w L hv hH => by
 subst hn
 have hl' : args.length ≤ fn.ntmps := by simpa using hl
 have hlen := hv.length
 have hE0 : RelE fn.ntmps { tmps := vs.toArray ++ Array.replicate (fn.ntmps - vs.toArray.size) undef, defers := [] } (argsEnv args) w L := by
  refine ⟨?_, rfl, fun i => ?_⟩
  ·simp; omega
  ·simp only [argsEnv]
   rw [Array.getD_eq_getD_getElem?]
   rcases Nat.lt_or_ge i args.length with hi | hi
   ·rw [List.getElem?_eq_getElem hi]
    obtain ⟨x, hx, hr⟩ := hv.get (List.getElem?_eq_getElem hi)
    have hxi : (vs.toArray ++ Array.replicate (fn.ntmps - vs.toArray.size) undef)[i]? = some x := by
     rw [Array.getElem?_append_left (by simp; omega)]
     simpa using hx
    rw [hxi]
    exact hr
   ·rw [List.getElem?_eq_none hi]
    have hxi : ((vs.toArray ++ Array.replicate (fn.ntmps - vs.toArray.size) undef)[i]?).getD undef = undef := by
     rw [Array.getElem?_append_right (by simp; omega)]
     rw [Array.getElem?_replicate]
     split <;> rfl
    rw [hxi]
    simp only [Option.getD_none, Rep]
 refine callsD_of_wpS hf hb fun c0 cs hu => wpS_mono (h _ w L c0 cs hu hE0 hH) fun ex a' cs' w' hq => ?_
 obtain ⟨u', e', H', L', rfl, g1, g2, g3, g4⟩ := hq
 have fin : RelE fn.ntmps a' e' w' L' → (e'.ds = [] ∧ ∃ H'', HSub H'' H' ∧ R u' H'') → a'.defers = [] ∧ ∃ u'', ({ c0 with mode := u' } :: cs : List Frame) = { c0 with mode := u'' } :: cs ∧ ∃ v, (results fn a'.tmps).run C.P w' = .ok v w' ∧ (∃ v', Ending.returned v = .returned v') ∧ LeftX C w L H w' (R u'') := fun hE ⟨h1, H'', h2, h4⟩ =>
  ⟨hE.ds.trans h1, u', rfl, _, results0 h3 _ _, ⟨_, rfl⟩, H'', L', g1.weak h2, g2.weak h2, h4⟩
 cases ex with
 | normal => exact fin g3 g4
 | ret => exact fin g3 g4
 | panic ch => exact g4.elim
 | exit id => exact g4.elim
 | goto id => exact g4.elim
 | outgrown => exact g4.elim
end S
section defer
variable {C : Ctx} {n : Nat} {ops : Array Oper} {Q : Post} {e : Env} {H : Heap}
theorem LOpsP.defer {dst : Option Nat} {fo : Operand} {f : FuncId} {caps : Array Value} {ty : TypeId} {pos : String} {aft : Array Edge} {rest : List Oper} (hf : e.ev fo = .atom (.func (.func f) #[] caps)) (hd : dst = none)
  (k : LOpsP C n ops Q rest ⟨e.s, { target := .fn (.func f) caps, args := #[] } :: e.ds⟩ H) : LOpsP C n ops Q (⟨dst, .defer { callee := .value fo, args := #[], argTypes := #[] }, ty, pos, aft, none⟩ :: rest) e H := fun a w L hE hH => by
 subst hd
 have hv := hE.ev fo
 rw [hf] at hv
 simp only [Rep] at hv
 have hr : (execOp a.eval ⟨none, .defer { callee := .value fo, args := #[], argTypes := #[] }, ty, pos, aft, none⟩).run C.P w = .ok (.defer { target := .fn (.func f) caps, args := #[] }) w := by
  have h3 : execOp a.eval ⟨none, .defer { callee := .value fo, args := #[], argTypes := #[] }, ty, pos, aft, none⟩ = (do let d ← Deferred.ofValue (a.eval fo) ((#[] : Array Operand).map a.eval); Pure.pure (.defer d)) := rfl
  rw [h3, hv]
  simp only [Deferred.ofValue, List.map_toArray, List.map_nil]
  rfl
 unfold wpList
 rw [if_pos (by simp [Region.wanted])]
 refine .inl ?_
 unfold Oper.wp
 rw [hr]
 simp only [Oper.upon, Act.put]
 exact k _ w L ⟨hE.size, by show _ :: a.defers = _; rw [hE.ds], hE.vals⟩ hH
end defer
end Go.GL
namespace Go.Proofs.YtcbpcianefpniaaGreatDoor
open Go.GL Go.RowKit Go.Stele
set_option maxRecDepth 100000
set_option maxHeartbeats 4000000
theorem tok_lex {s : List UInt8} {T : List Tok} (h : lexAllP s = .ok T) : TOK T := by
 unfold lexAllP at h
 split at h
 ·cases h
 ·obtain ⟨h1, h2⟩ := lexP_ok _ _ _ _ h
  exact ⟨by omega, fun t ht => by have := (h2 t ht).1; omega, fun t ht hk => by
   obtain ⟨u, h3, h4, _⟩ := (h2 t ht).2 hk
   exact ⟨u, h3, h4⟩⟩
instance : TIface Tryz.prog 20 := .of (by kernel_rfl)
def noPr : Pr := ⟨[], [], []⟩
/-- What Parse returns. -/
def parseP (s : List UInt8) : Pr × Int × Int := match lexAllP s with
 | .error (l, e) => (noPr, l, e)
 | .ok T => match sProg T (10 * T.length + 20) noPr 0 0 with
  | some (.ok p _ _) => (p, 0, 0)
  | some (.err l e) => (noPr, l, e)
  | none => (noPr, 0, 0)
def encParse (r : Pr × Int × Int) : LV := .tuple [encPr r.1, int .i64 r.2.1, int .i64 r.2.2]
theorem RetPostD.ret1 {C : Ctx} {n : Nat} {e : Env} {H H' H1 H2 F : Heap} {R : LRes → Heap → Prop} {rs : List ResultVar} {vs : List LV} {f : FuncId} {caps : Array Value} [hen : TEnter C.P f] (hd : e.ds = [{ target := .fn (.func f) caps, args := #[] }]) (hp : H.Perm (H1 ++ F))
  (hc : LCallsD C f (caps.toList.map .atom) .returning H1 (fun u H' => u = .returning ∧ H' = H2)) (h : AllRes C n e (H2 ++ F) rs vs) (hH : HSub H' (H2 ++ F)) (hR : R (.ret (resLV vs)) H') : RetPostD C n rs R .ret e H := by
 unfold RetPostD
 simp only [hd]
 refine ⟨by simp, f, caps, H1, F, rfl, hen, hp, LCallsD.mono hc ?_⟩
 rintro u H'' ⟨rfl, rfl⟩
 exact ⟨vs, H', h, hH, hR⟩
theorem RetPostD.panic1 {C : Ctx} {n : Nat} {e : Env} {H H' H1 H2 F : Heap} {R : LRes → Heap → Prop} {rs : List ResultVar} {vs : List LV} {f : FuncId} {caps : Array Value} {ch : List PanicEntry} [hen : TEnter C.P f] (hd : e.ds = [{ target := .fn (.func f) caps, args := #[] }]) (hp : H.Perm (H1 ++ F))
  (hc : LCallsD C f (caps.toList.map .atom) (.panicking ch) H1 (fun u H' => settle u = .returning ∧ H' = H2)) (h : AllRes C n e (H2 ++ F) rs vs) (hH : HSub H' (H2 ++ F)) (hR : R (.ret (resLV vs)) H') : RetPostD C n rs R (.panic ch) e H := by
 unfold RetPostD
 simp only [hd]
 refine ⟨by simp, f, caps, H1, F, rfl, hen, hp, LCallsD.mono hc ?_⟩
 rintro u H'' ⟨hu, rfl⟩
 rw [hu]
 exact ⟨vs, H', h, hH, hR⟩
def resP : Res Pr → Pr × Int × Int
 | .ok p _ _ => (p, 0, 0)
 | .err l e => (noPr, l, e)
theorem lexP_err : ∀ (f : Nat) (s : List UInt8) (line l e : Int), lexP f s line = .error (l, e) → ¬ e = 0
 | 0, s, line, l, e, h => by
  rw [lexP] at h
  cases h
 | f + 1, s, line, l, e, h => by
  rw [lexP] at h
  split at h
  ·cases h
  ·split at h
   ·split at h
    ·rename_i he
     cases h
     exact he
    ·cases hx : lexP f (s.drop (lexToken s).2.1) (line + ((s.take (lexToken s).2.1).count 10 : Nat)) with
     | ok T => rw [hx] at h; cases h
     | error p =>
      rw [hx] at h
      cases h
      exact lexP_err f _ _ _ _ hx
   ·exact lexP_err f _ _ _ _ h
theorem lexAllP_err {s : List UInt8} {l e : Int} (h : lexAllP s = .error (l, e)) : ¬ e = 0 := by
 unfold lexAllP at h
 split at h
 ·cases h
  decide
 ·exact lexP_err _ _ _ _ _ h
theorem memA {A : Type} {p : A} {H : List A} (h : p ∈ H := by first | exact List.Mem.head _ | exact List.Mem.tail _ (List.Mem.head _) | exact List.Mem.tail _ (List.Mem.tail _ (List.Mem.head _)) | exact List.Mem.tail _ (List.Mem.tail _ (List.Mem.tail _ (List.Mem.head _))) | exact List.Mem.tail _ (List.Mem.tail _ (List.Mem.tail _ (List.Mem.tail _ (List.Mem.head _)))) | exact List.Mem.tail _ (List.Mem.tail _ (List.Mem.tail _ (List.Mem.tail _ (List.Mem.tail _ (List.Mem.head _))))) | exact List.Mem.tail _ (List.Mem.tail _ (List.Mem.tail _ (List.Mem.tail _ (List.Mem.tail _ (List.Mem.tail _ (List.Mem.head _))))))) : p ∈ H := h
attribute [local irreducible] LOps LCode LStep LCalls Go.GL.Pure QThen QBlock RetPost LQ LAny LLate LLateOp LOpsP LCodeP LCodeS LCallsD
section
variable {B0 : Nat} {w0 : World}
theorem rec_ret (b2 b3 b4 : Nat) (cs : List LV) (c d : LV) : LCallsD (KC B0 w0) 38 [ptr b2 0, ptr b3 0, ptr b4 0] .returning [(b2, .cells 33 cs), (b3, .cells 3 [c]), (b4, .cells 25 [d])]
  (fun u H => u = .returning ∧ H = [(b2, .cells 33 cs), (b3, .cells 3 [c]), (b4, .cells 25 [d])]) := by
 refine LCallsD.intro Tryz.func38 rfl (n := 22) rfl rfl rfl ?_
 refine LCodeS.seq (LCodeS.recover rfl rfl ?_)
 refine LCodeS.of ?_
 repeat first | refine LOps.nil ?_ | refine LCode.seq ?_ | refine LCode.region ?_ | refine QThen.normal ?_ | refine LOps.pure (Pure.mv (lv := .atom _) rfl) rfl ?_ | refine LOps.pure (Pure.nilNeqNil rfl) rfl ?_
 refine LCode.cond rfl (fun hc => ?_) (fun hc => ?_)
 ·cases hc
 ·repeat first | refine LCode.skip ?_
  exact ⟨rfl, _, HSub.refl _, rfl, rfl⟩
theorem rec_pan (b2 b3 b4 : Nat) (c1 c2 c3 c d : LV) (l er : Int) : LCallsD (KC B0 w0) 38 [ptr b2 0, ptr b3 0, ptr b4 0] (.panicking (pan l er)) [(b2, .cells 33 [c1, c2, c3]), (b3, .cells 3 [c]), (b4, .cells 25 [d])]
  (fun u H => settle u = .returning ∧ H = [(b2, .cells 33 [nilSlice, nilSlice, nilSlice]), (b3, .cells 3 [int .i64 l]), (b4, .cells 25 [int .i64 er])]) := by
 refine LCallsD.intro Tryz.func38 rfl (n := 22) rfl rfl rfl ?_
 refine LCodeS.seq (LCodeS.recover rfl rfl ?_)
 refine LCodeS.of ?_
 repeat first | refine LOps.nil ?_ | refine LCode.seq ?_ | refine LCode.region ?_ | refine QThen.normal ?_ | refine LOps.pure (Pure.mv (lv := .atom _) rfl) rfl ?_ | refine LOps.pure (Pure.ifaceNeqNil rfl) rfl ?_
 refine LCode.cond rfl (fun hc => ?_) (fun hc => ?_)
 ·repeat first | refine LCode.seq ?_ | refine LCode.region ?_ | refine LOps.pure (Pure.mv (lv := .atom _) rfl) rfl ?_
  refine LOps.pure (Pure.assertOk (vs := [.int .i64 l, .int .i64 er]) rfl) rfl ?_
  repeat first | refine LOps.pure (Pure.mv (lv := .tuple _) rfl) rfl ?_ | refine LOps.pure (Pure.extract (c := .agg _) rfl rfl) rfl ?_ | refine LOps.pure (Pure.extract (c := .atom _) rfl rfl) rfl ?_
  refine LOps.step (S.alloc fun b5 => ?_) rfl
  repeat first | refine LOps.nil ?_ | refine LCode.seq ?_ | refine LCode.region ?_ | refine QThen.normal ?_ | refine LOps.pure (Pure.as (lv := .atom _) rfl) rfl ?_ | refine LOps.pure (Pure.mv (lv := .atom _) rfl) rfl ?_ | refine LOps.pure (Pure.not rfl) rfl ?_ | refine LOps.step (S.store (cs' := [_, _]) rfl Pick.here rfl rfl rfl rfl rfl ?_) rfl
  refine LCode.cond rfl (fun hd => ?_) (fun hd => ?_)
  ·cases hd
  ·repeat first | refine LCode.skip ?_ | refine QThen.normal ?_
   refine LCode.draw (m := 8) rfl [(b5, .cells 91 [int .i64 l, int .i64 er])] ?_
   refine LAny.tk 0 rfl rfl (Pure.bld _ (cs := [_, _, _]) rfl) ?_
   refine LAny.tk 1 rfl rfl (Pure.fieldH rfl) ?_
   refine LAny.tk 2 rfl rfl (Pure.loadH (c := .atom _) rfl (List.Mem.head _) rfl) ?_
   refine LAny.tk 3 rfl rfl (Pure.fieldH rfl) ?_
   refine LAny.tk 4 rfl rfl (Pure.loadH (c := .atom _) rfl (List.Mem.head _) rfl) ?_
   refine LAny.late ?_ (HSub.pick Pick.here (HSub.nil _))
   refine LLate.o 5 (LLateOp.step (H1 := [(b2, .cells 33 [c1, c2, c3])]) (F := [(b5, .cells 91 [int .i64 l, int .i64 er]), (b3, .cells 3 [c]), (b4, .cells 25 [d])]) rfl (.inl rfl) rfl (Pick.there Pick.here) (HSub.pick Pick.here (HSub.nil _)) (S.store (cs' := [_, _, _]) rfl Pick.here rfl rfl rfl rfl rfl ?_))
   refine LLate.o 6 (LLateOp.step (H1 := [(b3, .cells 3 [c])]) (F := [(b2, .cells 33 [nilSlice, nilSlice, nilSlice]), (b5, .cells 91 [int .i64 l, int .i64 er]), (b4, .cells 25 [d])]) rfl (.inl rfl) rfl (Pick.there (Pick.there Pick.here)) (HSub.pick (Pick.there Pick.here) (HSub.nil _)) (S.store (cs' := [_]) rfl Pick.here rfl rfl rfl rfl rfl ?_))
   refine LLate.o 7 (LLateOp.step (H1 := [(b4, .cells 25 [d])]) (F := [(b3, .cells 3 [int .i64 l]), (b2, .cells 33 [nilSlice, nilSlice, nilSlice]), (b5, .cells 91 [int .i64 l, int .i64 er])]) rfl (.inl rfl) rfl (Pick.there (Pick.there (Pick.there Pick.here))) (HSub.pick (Pick.there (Pick.there Pick.here)) (HSub.nil _)) (S.store (cs' := [_]) rfl Pick.here rfl rfl rfl rfl rfl ?_))
   refine LLate.done (by kernel_rfl) ?_
   exact ⟨rfl, _, HSub.pick (Pick.there (Pick.there Pick.here)) (HSub.pick (Pick.there Pick.here) (HSub.pick Pick.here (HSub.nil _))), rfl, rfl⟩
 ·cases hc
theorem parse_spec (hG : GW B0 w0) (s : List UInt8) (hs : s.length ≤ 1000000000) : LCalls (KC B0 w0) 24 [str s] [] (Ret (encParse (parseP s))) := by
 refine LCalls.introD Tryz.func24 rfl (n := 24) rfl rfl rfl ?_
 refine LCodeP.seq (LCodeP.of ?_)
 repeat first | refine LCode.region ?_
 refine LOps.step (S.alloc fun b2 => ?_) rfl
 refine LOps.step (S.alloc fun b3 => ?_) rfl
 refine LOps.step (S.alloc fun b4 => ?_) rfl
 repeat first | refine LOps.nil ?_ | refine QThen.normal ?_
 refine LCodeP.seq (LCodeP.of ?_)
 repeat first | refine LCode.region ?_ | refine LOps.pure (Pure.mv (lv := .atom _) rfl) rfl ?_
 refine LOps.step (S.fn [_] rfl (Tokens_spec hG s hs) ?_) rfl
 cases hL : lexAllP s with
 | error le =>
  obtain ⟨l, er⟩ := le
  have he0 : ¬ er = 0 := lexAllP_err hL
  simp only [encLex]
  repeat first | refine LOps.nil ?_ | refine QThen.normal ?_ | refine LOps.pure (Pure.mv (lv := .tuple _) rfl) rfl ?_ | refine LOps.pure (Pure.extract (c := .list _) rfl rfl) rfl ?_ | refine LOps.pure (Pure.extract (c := .atom _) rfl rfl) rfl ?_ | refine LOps.pure (Pure.as (lv := .list _) rfl) rfl ?_ | refine LOps.step (S.store (cs' := [_]) rfl (Pick.there Pick.here) rfl rfl rfl rfl rfl ?_) rfl
  refine LCodeP.seq (LCodeP.of ?_)
  repeat first | refine LOps.nil ?_ | refine LCode.seq ?_ | refine LCode.region ?_ | refine QThen.normal ?_ | refine LOps.pure (Pure.loadH (c := .atom _) rfl (List.Mem.head _) rfl) rfl ?_ | refine LOps.pure (Pure.neq rfl rfl) rfl ?_
  refine LCode.cond rfl (fun hc => ?_) (fun hc => ?_)
  ·repeat first | refine LCode.seq ?_
   refine LCode.draw (m := 6) rfl [] ?_
   refine LAny.tk 0 rfl rfl (Pure.bld _ (cs := [_, _, _]) rfl) ?_
   refine LAny.late ?_ (HSub.nil _)
   refine LLate.three (i := 1) (j := 2) (k := 3) (by kernel_rfl) ?_ ?_ ?_
   ·refine LLateOp.pureH rfl rfl (Pure.loadH (c := .atom _) rfl (List.Mem.tail _ (List.Mem.head _)) rfl) ?_
    refine LLate.two (i := 2) (j := 3) (by kernel_rfl) ?_ ?_
    ·refine LLateOp.pureH rfl rfl (Pure.loadH (c := .atom _) rfl (List.Mem.head _) rfl) ?_
     refine LLate.one (i := 3) (by kernel_rfl) ?_
     refine LLateOp.whole rfl (.inl rfl) rfl (S.store (cs' := [_, _, _]) rfl (Pick.there (Pick.there Pick.here)) rfl rfl rfl rfl rfl ?_)
     refine LLate.one (i := 4) (by kernel_rfl) ?_
     refine LLateOp.whole rfl (.inl rfl) rfl (S.store (cs' := [_]) rfl (Pick.there (Pick.there Pick.here)) rfl rfl rfl rfl rfl ?_)
     refine LLate.one (i := 5) (by kernel_rfl) ?_
     refine LLateOp.whole rfl (.inl rfl) rfl (S.store (cs' := [_]) rfl (Pick.there (Pick.there Pick.here)) rfl rfl rfl rfl rfl ?_)
     refine LLate.done (by kernel_rfl) ?_
     repeat first | refine LCode.ret ?_ | refine QThen.normal ?_ | refine QThen.ret ?_
     have hp : parseP s = (noPr, l, er) := by rw [parseP, hL]
     rw [hp]
     exact ⟨[encPr noPr, int .i64 l, int .i64 er], [], AllRes.cons (ResIs.cellAgg (k := 3) (cs := [nilSlice, nilSlice, nilSlice]) rfl memA rfl (LV.Sub.agg (bs := [.list [], .list [], .list []]) ⟨LV.Sub.nil, LV.Sub.nil, LV.Sub.nil, trivial⟩)) (AllRes.cons (ResIs.cellOne (cs := [int .i64 l]) rfl memA rfl (LV.Sub.refl _)) (AllRes.cons (ResIs.cellOne (cs := [int .i64 er]) rfl memA rfl (LV.Sub.refl _)) AllRes.nil)), HSub.nil _, rfl, rfl⟩
    ·refine LLateOp.whole rfl (.inl rfl) rfl (S.store (cs' := [_, _, _]) rfl (Pick.there (Pick.there Pick.here)) rfl rfl rfl rfl rfl ?_)
     refine LLate.two (i := 2) (j := 4) (by kernel_rfl) ?_ ?_
     ·refine LLateOp.pureH rfl rfl (Pure.loadH (c := .atom _) rfl (List.Mem.tail _ (List.Mem.head _)) rfl) ?_
      refine LLate.one (i := 4) (by kernel_rfl) ?_
      refine LLateOp.whole rfl (.inl rfl) rfl (S.store (cs' := [_]) rfl (Pick.there (Pick.there Pick.here)) rfl rfl rfl rfl rfl ?_)
      refine LLate.one (i := 5) (by kernel_rfl) ?_
      refine LLateOp.whole rfl (.inl rfl) rfl (S.store (cs' := [_]) rfl (Pick.there (Pick.there Pick.here)) rfl rfl rfl rfl rfl ?_)
      refine LLate.done (by kernel_rfl) ?_
      repeat first | refine LCode.ret ?_ | refine QThen.normal ?_ | refine QThen.ret ?_
      have hp : parseP s = (noPr, l, er) := by rw [parseP, hL]
      rw [hp]
      exact ⟨[encPr noPr, int .i64 l, int .i64 er], [], AllRes.cons (ResIs.cellAgg (k := 3) (cs := [nilSlice, nilSlice, nilSlice]) rfl memA rfl (LV.Sub.agg (bs := [.list [], .list [], .list []]) ⟨LV.Sub.nil, LV.Sub.nil, LV.Sub.nil, trivial⟩)) (AllRes.cons (ResIs.cellOne (cs := [int .i64 l]) rfl memA rfl (LV.Sub.refl _)) (AllRes.cons (ResIs.cellOne (cs := [int .i64 er]) rfl memA rfl (LV.Sub.refl _)) AllRes.nil)), HSub.nil _, rfl, rfl⟩
     ·refine LLateOp.whole rfl (.inl rfl) rfl (S.store (cs' := [_]) rfl (Pick.there (Pick.there Pick.here)) rfl rfl rfl rfl rfl ?_)
      refine LLate.one (i := 2) (by kernel_rfl) ?_
      refine LLateOp.pureH rfl rfl (Pure.loadH (c := .atom _) rfl (List.Mem.tail _ (List.Mem.tail _ (List.Mem.head _))) rfl) ?_
      refine LLate.one (i := 5) (by kernel_rfl) ?_
      refine LLateOp.whole rfl (.inl rfl) rfl (S.store (cs' := [_]) rfl (Pick.there (Pick.there Pick.here)) rfl rfl rfl rfl rfl ?_)
      refine LLate.done (by kernel_rfl) ?_
      repeat first | refine LCode.ret ?_ | refine QThen.normal ?_ | refine QThen.ret ?_
      have hp : parseP s = (noPr, l, er) := by rw [parseP, hL]
      rw [hp]
      exact ⟨[encPr noPr, int .i64 l, int .i64 er], [], AllRes.cons (ResIs.cellAgg (k := 3) (cs := [nilSlice, nilSlice, nilSlice]) rfl memA rfl (LV.Sub.agg (bs := [.list [], .list [], .list []]) ⟨LV.Sub.nil, LV.Sub.nil, LV.Sub.nil, trivial⟩)) (AllRes.cons (ResIs.cellOne (cs := [int .i64 l]) rfl memA rfl (LV.Sub.refl _)) (AllRes.cons (ResIs.cellOne (cs := [int .i64 er]) rfl memA rfl (LV.Sub.refl _)) AllRes.nil)), HSub.nil _, rfl, rfl⟩
   ·refine LLateOp.pureH rfl rfl (Pure.loadH (c := .atom _) rfl (List.Mem.head _) rfl) ?_
    refine LLate.two (i := 1) (j := 3) (by kernel_rfl) ?_ ?_
    ·refine LLateOp.pureH rfl rfl (Pure.loadH (c := .atom _) rfl (List.Mem.tail _ (List.Mem.head _)) rfl) ?_
     refine LLate.one (i := 3) (by kernel_rfl) ?_
     refine LLateOp.whole rfl (.inl rfl) rfl (S.store (cs' := [_, _, _]) rfl (Pick.there (Pick.there Pick.here)) rfl rfl rfl rfl rfl ?_)
     refine LLate.one (i := 4) (by kernel_rfl) ?_
     refine LLateOp.whole rfl (.inl rfl) rfl (S.store (cs' := [_]) rfl (Pick.there (Pick.there Pick.here)) rfl rfl rfl rfl rfl ?_)
     refine LLate.one (i := 5) (by kernel_rfl) ?_
     refine LLateOp.whole rfl (.inl rfl) rfl (S.store (cs' := [_]) rfl (Pick.there (Pick.there Pick.here)) rfl rfl rfl rfl rfl ?_)
     refine LLate.done (by kernel_rfl) ?_
     repeat first | refine LCode.ret ?_ | refine QThen.normal ?_ | refine QThen.ret ?_
     have hp : parseP s = (noPr, l, er) := by rw [parseP, hL]
     rw [hp]
     exact ⟨[encPr noPr, int .i64 l, int .i64 er], [], AllRes.cons (ResIs.cellAgg (k := 3) (cs := [nilSlice, nilSlice, nilSlice]) rfl memA rfl (LV.Sub.agg (bs := [.list [], .list [], .list []]) ⟨LV.Sub.nil, LV.Sub.nil, LV.Sub.nil, trivial⟩)) (AllRes.cons (ResIs.cellOne (cs := [int .i64 l]) rfl memA rfl (LV.Sub.refl _)) (AllRes.cons (ResIs.cellOne (cs := [int .i64 er]) rfl memA rfl (LV.Sub.refl _)) AllRes.nil)), HSub.nil _, rfl, rfl⟩
    ·refine LLateOp.whole rfl (.inl rfl) rfl (S.store (cs' := [_, _, _]) rfl (Pick.there (Pick.there Pick.here)) rfl rfl rfl rfl rfl ?_)
     refine LLate.one (i := 1) (by kernel_rfl) ?_
     refine LLateOp.pureH rfl rfl (Pure.loadH (c := .atom _) rfl (List.Mem.tail _ (List.Mem.tail _ (List.Mem.head _))) rfl) ?_
     refine LLate.one (i := 4) (by kernel_rfl) ?_
     refine LLateOp.whole rfl (.inl rfl) rfl (S.store (cs' := [_]) rfl (Pick.there (Pick.there Pick.here)) rfl rfl rfl rfl rfl ?_)
     refine LLate.one (i := 5) (by kernel_rfl) ?_
     refine LLateOp.whole rfl (.inl rfl) rfl (S.store (cs' := [_]) rfl (Pick.there (Pick.there Pick.here)) rfl rfl rfl rfl rfl ?_)
     refine LLate.done (by kernel_rfl) ?_
     repeat first | refine LCode.ret ?_ | refine QThen.normal ?_ | refine QThen.ret ?_
     have hp : parseP s = (noPr, l, er) := by rw [parseP, hL]
     rw [hp]
     exact ⟨[encPr noPr, int .i64 l, int .i64 er], [], AllRes.cons (ResIs.cellAgg (k := 3) (cs := [nilSlice, nilSlice, nilSlice]) rfl memA rfl (LV.Sub.agg (bs := [.list [], .list [], .list []]) ⟨LV.Sub.nil, LV.Sub.nil, LV.Sub.nil, trivial⟩)) (AllRes.cons (ResIs.cellOne (cs := [int .i64 l]) rfl memA rfl (LV.Sub.refl _)) (AllRes.cons (ResIs.cellOne (cs := [int .i64 er]) rfl memA rfl (LV.Sub.refl _)) AllRes.nil)), HSub.nil _, rfl, rfl⟩
   ·refine LLateOp.whole rfl (.inl rfl) rfl (S.store (cs' := [_, _, _]) rfl (Pick.there (Pick.there Pick.here)) rfl rfl rfl rfl rfl ?_)
    refine LLate.two (i := 1) (j := 2) (by kernel_rfl) ?_ ?_
    ·refine LLateOp.pureH rfl rfl (Pure.loadH (c := .atom _) rfl (List.Mem.tail _ (List.Mem.tail _ (List.Mem.head _))) rfl) ?_
     refine LLate.two (i := 2) (j := 4) (by kernel_rfl) ?_ ?_
     ·refine LLateOp.pureH rfl rfl (Pure.loadH (c := .atom _) rfl (List.Mem.tail _ (List.Mem.head _)) rfl) ?_
      refine LLate.one (i := 4) (by kernel_rfl) ?_
      refine LLateOp.whole rfl (.inl rfl) rfl (S.store (cs' := [_]) rfl (Pick.there (Pick.there Pick.here)) rfl rfl rfl rfl rfl ?_)
      refine LLate.one (i := 5) (by kernel_rfl) ?_
      refine LLateOp.whole rfl (.inl rfl) rfl (S.store (cs' := [_]) rfl (Pick.there (Pick.there Pick.here)) rfl rfl rfl rfl rfl ?_)
      refine LLate.done (by kernel_rfl) ?_
      repeat first | refine LCode.ret ?_ | refine QThen.normal ?_ | refine QThen.ret ?_
      have hp : parseP s = (noPr, l, er) := by rw [parseP, hL]
      rw [hp]
      exact ⟨[encPr noPr, int .i64 l, int .i64 er], [], AllRes.cons (ResIs.cellAgg (k := 3) (cs := [nilSlice, nilSlice, nilSlice]) rfl memA rfl (LV.Sub.agg (bs := [.list [], .list [], .list []]) ⟨LV.Sub.nil, LV.Sub.nil, LV.Sub.nil, trivial⟩)) (AllRes.cons (ResIs.cellOne (cs := [int .i64 l]) rfl memA rfl (LV.Sub.refl _)) (AllRes.cons (ResIs.cellOne (cs := [int .i64 er]) rfl memA rfl (LV.Sub.refl _)) AllRes.nil)), HSub.nil _, rfl, rfl⟩
     ·refine LLateOp.whole rfl (.inl rfl) rfl (S.store (cs' := [_]) rfl (Pick.there (Pick.there Pick.here)) rfl rfl rfl rfl rfl ?_)
      refine LLate.one (i := 2) (by kernel_rfl) ?_
      refine LLateOp.pureH rfl rfl (Pure.loadH (c := .atom _) rfl (List.Mem.tail _ (List.Mem.tail _ (List.Mem.head _))) rfl) ?_
      refine LLate.one (i := 5) (by kernel_rfl) ?_
      refine LLateOp.whole rfl (.inl rfl) rfl (S.store (cs' := [_]) rfl (Pick.there (Pick.there Pick.here)) rfl rfl rfl rfl rfl ?_)
      refine LLate.done (by kernel_rfl) ?_
      repeat first | refine LCode.ret ?_ | refine QThen.normal ?_ | refine QThen.ret ?_
      have hp : parseP s = (noPr, l, er) := by rw [parseP, hL]
      rw [hp]
      exact ⟨[encPr noPr, int .i64 l, int .i64 er], [], AllRes.cons (ResIs.cellAgg (k := 3) (cs := [nilSlice, nilSlice, nilSlice]) rfl memA rfl (LV.Sub.agg (bs := [.list [], .list [], .list []]) ⟨LV.Sub.nil, LV.Sub.nil, LV.Sub.nil, trivial⟩)) (AllRes.cons (ResIs.cellOne (cs := [int .i64 l]) rfl memA rfl (LV.Sub.refl _)) (AllRes.cons (ResIs.cellOne (cs := [int .i64 er]) rfl memA rfl (LV.Sub.refl _)) AllRes.nil)), HSub.nil _, rfl, rfl⟩
    ·refine LLateOp.pureH rfl rfl (Pure.loadH (c := .atom _) rfl (List.Mem.tail _ (List.Mem.head _)) rfl) ?_
     refine LLate.one (i := 1) (by kernel_rfl) ?_
     refine LLateOp.pureH rfl rfl (Pure.loadH (c := .atom _) rfl (List.Mem.tail _ (List.Mem.tail _ (List.Mem.head _))) rfl) ?_
     refine LLate.one (i := 4) (by kernel_rfl) ?_
     refine LLateOp.whole rfl (.inl rfl) rfl (S.store (cs' := [_]) rfl (Pick.there (Pick.there Pick.here)) rfl rfl rfl rfl rfl ?_)
     refine LLate.one (i := 5) (by kernel_rfl) ?_
     refine LLateOp.whole rfl (.inl rfl) rfl (S.store (cs' := [_]) rfl (Pick.there (Pick.there Pick.here)) rfl rfl rfl rfl rfl ?_)
     refine LLate.done (by kernel_rfl) ?_
     repeat first | refine LCode.ret ?_ | refine QThen.normal ?_ | refine QThen.ret ?_
     have hp : parseP s = (noPr, l, er) := by rw [parseP, hL]
     rw [hp]
     exact ⟨[encPr noPr, int .i64 l, int .i64 er], [], AllRes.cons (ResIs.cellAgg (k := 3) (cs := [nilSlice, nilSlice, nilSlice]) rfl memA rfl (LV.Sub.agg (bs := [.list [], .list [], .list []]) ⟨LV.Sub.nil, LV.Sub.nil, LV.Sub.nil, trivial⟩)) (AllRes.cons (ResIs.cellOne (cs := [int .i64 l]) rfl memA rfl (LV.Sub.refl _)) (AllRes.cons (ResIs.cellOne (cs := [int .i64 er]) rfl memA rfl (LV.Sub.refl _)) AllRes.nil)), HSub.nil _, rfl, rfl⟩
  ·have : er = 0 := by simpa using hc
   exact absurd this he0
 | ok T =>
  have hT := tok_lex hL
  simp only [encLex]
  repeat first | refine LOps.nil ?_ | refine QThen.normal ?_ | refine LOps.pure (Pure.mv (lv := .tuple _) rfl) rfl ?_ | refine LOps.pure (Pure.extract (c := .list _) rfl rfl) rfl ?_ | refine LOps.pure (Pure.extract (c := .atom _) rfl rfl) rfl ?_ | refine LOps.pure (Pure.as (lv := .list _) rfl) rfl ?_ | refine LOps.step (S.store (cs' := [_]) rfl (Pick.there Pick.here) rfl rfl rfl rfl rfl ?_) rfl
  refine LCodeP.seq (LCodeP.of ?_)
  repeat first | refine LOps.nil ?_ | refine LCode.seq ?_ | refine LCode.region ?_ | refine QThen.normal ?_ | refine LOps.pure (Pure.loadH (c := .atom _) rfl (List.Mem.head _) rfl) rfl ?_ | refine LOps.pure (Pure.neq rfl rfl) rfl ?_
  refine LCode.cond rfl (fun hc => ?_) (fun hc => ?_)
  ·cases hc
  ·repeat first | refine LCode.skip ?_ | refine QThen.normal ?_
   refine LCodeP.seq (LCodeP.region ?_)
   repeat first | refine LOpsP.pure (Pure.makeFunc rfl rfl) rfl ?_
   refine LOpsP.defer rfl rfl ?_
   refine LOpsP.nil ?_
   refine QThen.normal ?_
   refine LCodeP.seq (LCodeP.of ?_)
   repeat first | refine LCode.region ?_ | refine LOps.pure (Pure.bld _ (cs := [_, _, _]) rfl) rfl ?_ | refine LOps.pure (Pure.mv (lv := .list _) rfl) rfl ?_
   refine LOps.step (S.box rfl fun sb => ?_) rfl
   repeat first | refine LOps.nil ?_ | refine QThen.normal ?_ | refine LOps.pure (Pure.as (lv := .atom _) rfl) rfl ?_
   refine LCodeP.seq (LCodeP.region ?_)
   repeat first | refine LOpsP.pure (Pure.mv (lv := .atom _) rfl) rfl ?_
   obtain ⟨r, hr⟩ := sProg_ends T (10 * T.length + 20) noPr 0 0 (Nat.zero_le _) (by omega)
   have hp : parseP s = resP r := by
    rw [parseP, hL]
    simp only [hr]
    cases r <;> rfl
   rw [hp]
   refine LOpsP.step (S.callP (T := T) (i := 0) (op := 0) [_] rfl Pick.here (program_spec hG sb T hT _ r hr) (fun v i1 op1 h1 => ?_) (fun l er i1 op1 h1 => ?_)) rfl
   ·subst h1
    refine LOpsP.step (S.store (cs' := [_, _, _]) rfl (Pick.there (Pick.there (Pick.there Pick.here))) rfl rfl rfl rfl rfl ?_) rfl
    refine LOpsP.step (S.store (cs' := [_]) rfl (Pick.there (Pick.there (Pick.there Pick.here))) rfl rfl rfl rfl rfl ?_) rfl
    refine LOpsP.step (S.store (cs' := [_]) rfl (Pick.there (Pick.there (Pick.there Pick.here))) rfl rfl rfl rfl rfl ?_) rfl
    refine LOpsP.nil ?_
    refine QThen.normal ?_
    refine LCodeP.ret ?_
    exact RetPostD.ret1 (vs := [encPr v, int .i64 0, int .i64 0]) (H2 := [(b2, .cells 33 [.list (v.vars.map str), .list (v.arrays.map encAr), .list (v.funcs.map encFn)]), (b3, .cells 3 [int .i64 0]), (b4, .cells 25 [int .i64 0])]) rfl ((Pick.there (Pick.there Pick.here)).trans (List.Perm.cons _ ((Pick.there Pick.here).trans (List.Perm.cons _ (List.Perm.refl _))))) (rec_ret b2 b3 b4 _ _ _)
     (AllRes.cons (ResIs.cellAgg (k := 3) rfl (List.Mem.head _) rfl (LV.Sub.refl _)) (AllRes.cons (ResIs.cellOne rfl (List.Mem.tail _ (List.Mem.head _)) rfl (LV.Sub.refl _)) (AllRes.cons (ResIs.cellOne rfl (List.Mem.tail _ (List.Mem.tail _ (List.Mem.head _))) rfl (LV.Sub.refl _)) AllRes.nil))) (HSub.nil _) ⟨rfl, rfl⟩
   ·subst h1
    refine QThen.panic ?_
    exact RetPostD.panic1 (vs := [encPr noPr, int .i64 l, int .i64 er]) (H2 := [(b2, .cells 33 [nilSlice, nilSlice, nilSlice]), (b3, .cells 3 [int .i64 l]), (b4, .cells 25 [int .i64 er])]) rfl ((Pick.there (Pick.there (Pick.there Pick.here))).trans (List.Perm.cons _ ((Pick.there (Pick.there Pick.here)).trans (List.Perm.cons _ ((Pick.there Pick.here).trans (List.Perm.refl _)))))) (rec_pan b2 b3 b4 _ _ _ _ _ l er)
     (AllRes.cons (ResIs.cellAgg (k := 3) rfl (List.Mem.head _) rfl (LV.Sub.agg (bs := [.list [], .list [], .list []]) ⟨LV.Sub.nil, LV.Sub.nil, LV.Sub.nil, trivial⟩)) (AllRes.cons (ResIs.cellOne rfl (List.Mem.tail _ (List.Mem.head _)) rfl (LV.Sub.refl _)) (AllRes.cons (ResIs.cellOne rfl (List.Mem.tail _ (List.Mem.tail _ (List.Mem.head _))) rfl (LV.Sub.refl _)) AllRes.nil))) (HSub.nil _) ⟨rfl, rfl⟩
end
end Go.Proofs.YtcbpcianefpniaaGreatDoor
namespace Go.Proofs.YtcbpcianefpniaaGreatDoor.Inp
open Go.GL Go.RowKit Go.Stele
set_option maxRecDepth 100000
set_option maxHeartbeats 4000000
def irErr {A : Type} : IR A → Int
 | .ok _ _ => 0
 | .stop e _ => e
attribute [local irreducible] LOps LCode LStep LCalls Go.GL.Pure QThen QBlock RetPost LQ LAny LLate LLateOp LS LOpsP LCodeP LCodeS LCallsD
section
variable {B0 : Nat} {w0 : World}
theorem mrec_ret (b2 : Nat) (d : LV) : LCallsD (KC B0 w0) 75 [ptr b2 0] .returning [(b2, .cells 25 [d])]
  (fun u H => u = .returning ∧ H = [(b2, .cells 25 [d])]) := by
 refine LCallsD.intro Tryz.func75 rfl (n := 17) rfl rfl rfl ?_
 refine LCodeS.seq (LCodeS.recover rfl rfl ?_)
 refine LCodeS.of ?_
 repeat first | refine LOps.nil ?_ | refine LCode.seq ?_ | refine LCode.region ?_ | refine QThen.normal ?_ | refine LOps.pure (Pure.mv (lv := .atom _) rfl) rfl ?_ | refine LOps.pure (Pure.nilNeqNil rfl) rfl ?_
 refine LCode.cond rfl (fun hc => ?_) (fun hc => ?_)
 ·cases hc
 ·repeat first | refine LCode.skip ?_
  exact ⟨rfl, _, HSub.refl _, rfl, rfl⟩
theorem mrec_pan (b2 : Nat) (d : LV) (er : Int) : LCallsD (KC B0 w0) 75 [ptr b2 0] (.panicking (panI er)) [(b2, .cells 25 [d])]
  (fun u H => settle u = .returning ∧ H = [(b2, .cells 25 [int .i64 er])]) := by
 refine LCallsD.intro Tryz.func75 rfl (n := 17) rfl rfl rfl ?_
 refine LCodeS.seq (LCodeS.recover rfl rfl ?_)
 refine LCodeS.of ?_
 repeat first | refine LOps.nil ?_ | refine LCode.seq ?_ | refine LCode.region ?_ | refine QThen.normal ?_ | refine LOps.pure (Pure.mv (lv := .atom _) rfl) rfl ?_ | refine LOps.pure (Pure.ifaceNeqNil rfl) rfl ?_
 refine LCode.cond rfl (fun hc => ?_) (fun hc => ?_)
 ·repeat first | refine LCode.seq ?_ | refine LCode.region ?_ | refine LOps.pure (Pure.mv (lv := .atom _) rfl) rfl ?_
  refine LOps.pure (Pure.assertOk (vs := [.int .i64 er]) rfl) rfl ?_
  repeat first | refine LOps.pure (Pure.mv (lv := .tuple _) rfl) rfl ?_ | refine LOps.pure (Pure.extract (c := .agg _) rfl rfl) rfl ?_ | refine LOps.pure (Pure.extract (c := .atom _) rfl rfl) rfl ?_
  refine LOps.step (S.alloc fun b5 => ?_) rfl
  repeat first | refine LOps.nil ?_ | refine LCode.seq ?_ | refine LCode.region ?_ | refine QThen.normal ?_ | refine LOps.pure (Pure.as (lv := .atom _) rfl) rfl ?_ | refine LOps.pure (Pure.mv (lv := .atom _) rfl) rfl ?_ | refine LOps.pure (Pure.not rfl) rfl ?_ | refine LOps.step (S.store (cs' := [_]) rfl Pick.here rfl rfl rfl rfl rfl ?_) rfl
  refine LCode.cond rfl (fun hd => ?_) (fun hd => ?_)
  ·cases hd
  ·repeat first | refine LOps.nil ?_ | refine LCode.region ?_ | refine LCode.skip ?_ | refine QThen.normal ?_ | refine LOps.pure (Pure.fieldH rfl) rfl ?_ | refine LOps.pure (Pure.loadH (c := .atom _) rfl (List.Mem.head _) rfl) rfl ?_ | refine LOps.step (S.store (cs' := [_]) rfl (Pick.there Pick.here) rfl rfl rfl rfl rfl ?_) rfl
   exact ⟨rfl, _, HSub.pick Pick.here (HSub.nil _), rfl, rfl⟩
 ·cases hc
theorem pick_last {p q : Nat × LObj} {H : Heap} : Pick p (H ++ [q, p]) (q :: H) := (List.perm_append_comm (l₂ := [q, p])).trans (List.Perm.swap p q H)
theorem last_get {A B : Type} (g : A → B) {l : List A} {a : A} (h : l.getLast? = some a) : (l.map g)[(((l.map g).length : Int) - 1).toNat]? = some (g a) := by
 rw [List.getLast?_eq_getElem?] at h
 rw [List.length_map, List.getElem?_map, show ((l.length : Int) - 1).toNat = l.length - 1 by omega, h]
 rfl
theorem last_main {p : Pr} (h : mainI p ∈ p.funcs) : p.funcs.getLast? = some (mainI p) := by
 unfold mainI
 cases hl : p.funcs.getLast? with
 | none => rw [List.getLast?_eq_none_iff.1 hl] at h; cases h
 | some a => rfl
theorem main_spec {c : Cfg} (hC : CfgOk c) {s : IS} {H : Heap} (hg : Good c c.lim s) (hs : St c s H) : LCalls (KC B0 w0) 31 [ptr c.rb 0] H
  (fun r H' => St c (blkR (stI c.p c.lim (mainI c.p)) (mainI c.p).body s).st H' ∧ r = .ret (int .i64 (irErr (blkR (stI c.p c.lim (mainI c.p)) (mainI c.p).body s)))) := by
 obtain ⟨hm1, hm2, hm3⟩ := hC.valid.main
 have hlast := last_main hm1
 obtain ⟨kn, hvb, hkn⟩ := hC.valid.bodies _ hm1
 have hsm := hC.small.each _ hm1
 have hB := block_spec (B0 := B0) (w0 := w0) hC (run_all hC c.lim).2
 have hfl : c.p.funcs.length ≤ 1000000 := hC.small.funcs
 generalize hI : blkR (stI c.p c.lim (mainI c.p)) (mainI c.p).body s = R
 have hs1 := hs
 obtain ⟨hl, hle, v, Ha, hacc, rfl⟩ := hs
 refine LCalls.introD Tryz.func31 rfl (n := 24) rfl rfl rfl ?_
 refine LCodeP.seq (LCodeP.of ?_)
 repeat first | refine LCode.region ?_
 refine LOps.step (S.alloc fun b2 => ?_) rfl
 repeat first | refine LOps.nil ?_ | refine QThen.normal ?_
 refine LCodeP.seq (LCodeP.region ?_)
 repeat first | refine LOpsP.pure (Pure.makeFunc rfl rfl) rfl ?_
 refine LOpsP.defer rfl rfl ?_
 refine LOpsP.nil ?_
 refine QThen.normal ?_
 refine LCodeP.seq (LCodeP.of ?_)
 have hfl2 : (c.p.funcs.map encFn).length ≤ 1000000 := by rw [List.length_map]; exact hfl
 have hfl3 : 1 ≤ (c.p.funcs.map encFn).length := by
  rw [List.length_map]
  exact List.length_pos_of_mem hm1
 refine LCode.draw (m := 16) rfl [(c.rb, .cells 72 (runC c s v))] ?_
 refine LAny.tk 0 rfl rfl (Pure.mv (lv := .atom _) rfl) ?_
 refine LAny.tk 1 rfl rfl (Pure.nilCheckH rfl) ?_
 refine LAny.tk 2 rfl rfl (Pure.fieldH rfl) ?_
 refine LAny.tk 3 rfl rfl (Pure.fieldH rfl) ?_
 refine LAny.tk 4 rfl rfl (Pure.loadH (c := .list _) rfl (List.Mem.head _) rfl) ?_
 refine LAny.tk 5 rfl rfl (Pure.mv (lv := .atom _) rfl) ?_
 refine LAny.tk 6 rfl rfl (Pure.nilCheckH rfl) ?_
 refine LAny.tk 7 rfl rfl (Pure.fieldH rfl) ?_
 refine LAny.tk 8 rfl rfl (Pure.fieldH rfl) ?_
 refine LAny.tk 9 rfl rfl (Pure.loadH (c := .list _) rfl (List.Mem.head _) rfl) ?_
 refine LAny.tk 10 rfl rfl (Pure.llen rfl) ?_
 refine LAny.tk 11 rfl rfl (Pure.sub rfl rfl (by omega)) ?_
 refine LAny.take (i := 12) (HSub.pick (Pick.there Pick.here) (HSub.nil _)) rfl (by kernel_rfl) (by kernel_rfl) (by kernel_rfl) rfl (Pure.ixRef (el' := encFn (mainI c.p)) (cs := [_, _, _, _]) rfl rfl (by omega) (last_get encFn hlast) rfl rfl) ?_
 refine LAny.tk 13 rfl rfl (Pure.ldRefAgg (cs' := [_, _, _, _]) rfl rfl rfl) ?_
 refine LAny.late ?_ (HSub.pick (Pick.there Pick.here) (HSub.nil _))
 refine LLate.o 14 (LLateOp.step (H1 := []) rfl (.inl rfl) rfl (List.Perm.refl _) (HSub.pick (Pick.there Pick.here) (HSub.nil _)) (LStep.alloc fun b3 => ?_))
 refine LLate.o 15 (LLateOp.step (H1 := [_]) rfl (.inl rfl) rfl (List.Perm.refl _) (HSub.pick (Pick.there Pick.here) (HSub.nil _)) (S.store (n := 4) (cs' := [_, _, _, _]) rfl Pick.here rfl rfl rfl rfl rfl ?_))
 refine LLate.done (by kernel_rfl) ?_
 refine QNo.normal ?_
 refine LCodeP.seq (LCodeP.region ?_)
 repeat first | refine LOpsP.pure (Pure.mv (lv := .atom _) rfl) rfl ?_ | refine LOpsP.pure (Pure.fieldH rfl) rfl ?_ | refine LOpsP.pure (Pure.loadH (c := .list _) rfl (List.Mem.head _) rfl) rfl ?_ | refine LOpsP.pure (Pure.ldHAgg (cs' := [_, _, _, _]) rfl (List.Mem.head _) rfl rfl) rfl ?_
 refine LOpsP.step (S.callI [_, _, _] rfl (List.perm_append_comm (l₁ := [_, _])) (hB (mainI c.p) kn (mainI c.p).body s _ hm1 hkn hvb (hC.nums _ hm1) hsm.body hsm.stmts hg hs1) (fun r s2 H2 hr hs2 => ?_) (fun er s2 H2 hr hs2 => ?_)) rfl
 ·rw [hr] at hI
  subst hI
  refine LOpsP.nil ?_
  refine QThen.normal ?_
  refine LCodeP.seq (LCodeP.region ?_)
  refine LOpsP.step (S.store (cs' := [_]) rfl pick_last rfl rfl rfl rfl rfl ?_) rfl
  refine LOpsP.nil ?_
  refine QThen.normal ?_
  refine LCodeP.ret ?_
  exact RetPostD.ret1 (vs := [int .i64 0]) (H2 := [(b2, .cells 25 [int .i64 0])]) rfl (List.Perm.refl _) (mrec_ret b2 _)
   (AllRes.cons (ResIs.cellOne rfl (List.Mem.head _) rfl (LV.Sub.refl _)) AllRes.nil) (HSub.drop (HSub.drop (HSub.refl _))) ⟨hs2, rfl⟩
 ·rw [hr] at hI
  subst hI
  refine QThen.panic ?_
  exact RetPostD.panic1 (H1 := [(b2, .cells 25 [int .i64 0])]) (F := _ :: H2) (vs := [int .i64 er]) (H2 := [(b2, .cells 25 [int .i64 er])]) rfl pick_last (mrec_pan b2 _ er)
   (AllRes.cons (ResIs.cellOne rfl (List.Mem.head _) rfl (LV.Sub.refl _)) AllRes.nil) (HSub.drop (HSub.drop (HSub.refl _))) ⟨hs2, rfl⟩
end
end Go.Proofs.YtcbpcianefpniaaGreatDoor.Inp
namespace Go.GL
open Go.RowKit
section
variable {C : Ctx} {e : Env} {H : Heap} {dst : Option Nat} {ty : TypeId} {pos : String} {aft : Array Edge} {g : Option (Nat × Bool)} {K : LV → Heap → Prop} {X : List PanicEntry → Heap → Prop} {x y : Operand}
theorem run_equal_slice {P : Program} {t el s : Nat} [h : TSlice P t el s] (a : Option Addr) (n m : Nat) (w : World) : (Op.equal t (.slice a n m) (.slice none 0 0)).run P w = .ok a.isNone w := by
 rw [equal_step, Op.equalIn]
 cases a <;> simp only [Sem.run_bind, run_underlying' h.und, Result.andThen_ok, Sem.run_pure] <;> rfl
/-- A slice held against nil: what is nil holds nothing. -/
theorem S.sliceNil {t el s yT : Nat} [ht : TSlice C.P t el s] {es : List LV} (hx : elems (e.ev x) = some es) (hk : ∀ b, (b = true → es = []) → K (bool b) H) : LStep C ⟨dst, .binOp .eql t x (.const (.slice none 0 0)) yT, ty, pos, aft, g⟩ e H K X := fun ρ w L h hH => by
 obtain ⟨a, cap, hv, hc, hr⟩ := (h x).elems hx
 have h2 := atom_of h (x := .const (.slice none 0 0)) rfl
 have he : eqGuard .eql t x (.const (.slice none 0 0)) (.slice a es.length cap) (.slice none 0 0) = Pure.pure () := by simp [eqGuard]
 have hb : binOp .eql t (.slice a es.length cap) (.slice none 0 0) = (do Pure.pure (.bool (← Op.equal t (.slice a es.length cap) (.slice none 0 0)))) := rfl
 have hrun : (execOp ρ ⟨dst, .binOp .eql t x (.const (.slice none 0 0)) yT, ty, pos, aft, g⟩).run C.P w = .ok (.value (.bool a.isNone)) w := by
  simp only [execOp, hv, h2, he, hb, Sem.run_bind, Sem.run_pure, Result.andThen_ok, run_equal_slice]
 rw [hrun]
 refine ⟨bool a.isNone, H, L, Fr.refl _ _ _, hH, rep_atom, hk _ fun hn => ?_⟩
 cases a with
 | some a => cases hn
 | none =>
  cases es with
  | nil => rfl
  | cons v es =>
   obtain ⟨b, off, k, h3, _⟩ := hr (by simp)
   cases h3
theorem Pure.rowCap {t el s : Nat} [TSlice C.P t el s] {a : Option Addr} {m cap : Nat} (hx : e.ev x = .atom (.slice a m cap)) : Pure C ⟨dst, .call { callee := .builtin .cap, args := #[x], argTypes := #[t] }, ty, pos, aft, g⟩ e H (int .i64 cap) :=
 .of_any fun ρ _ _ h => ⟨_, rep_atom, fun w' => by
  have hu := run_underlying' (P := C.P) (TSlice.und (t := t)) w'
  have h0 : ∀ (cs : Array Bool) (args : Array Value), builtin .cap #[t] ty cs args = (do Pure.pure (.value (← Builtin.cap_ #[t] ty args))) := fun _ _ => rfl
  rw [execOp_builtin', h0]
  simp [Builtin.cap_, hu, goInt, atom_of h hx]⟩
/-- A slice of a row from its beginning. -/
theorem Pure.rowSlice {t el s : Nat} [ht : TSlice C.P t el s] {a : Option Addr} {m cap n : Nat} {hi : Operand} {k : IntKind} (hx : e.ev x = .atom (.slice a m cap)) (hh : e.ev hi = int k n) (hn : n ≤ cap) :
  Pure C ⟨dst, .slice t x none (some hi) none, ty, pos, aft, g⟩ e H (.atom (.slice a n cap)) := .of_any fun ρ w L h => by
 obtain ⟨ti, hti, hsz⟩ := ht.size
 refine ⟨_, rep_atom, fun w' => ?_⟩
 have hb := run_sliceBounds (P := C.P) (w' := w') (len := m) (cap := cap) (lo := none) (hi := some hi) (i := 0) (j := n) h true rfl ⟨k, hh⟩ (by omega) (by omega) (by omega)
 have h3 : execOp ρ ⟨dst, .slice t x none (some hi) none, ty, pos, aft, g⟩ = (do Pure.pure (.value (← Instr.sliceAt t (ρ x) none (some (ρ hi)) none))) := rfl
 rw [h3, atom_of h hx]
 simp only [Option.map_none, Option.map_some] at hb
 simp only [Instr.sliceAt, Instr.slice, Sem.run_bind, run_underlying' (P := C.P) ht.und w', Result.andThen_ok, Sem.run_pure, hb, run_sizeOf' hti, hsz]
 have ha : ∀ a : Addr, a.add 0 = a := fun a => by
  obtain ⟨b, o, sp⟩ := a
  unfold Addr.add
  cases sp <;> simp
 simp [ha]
/-- Zeros are appended to nil. -/
theorem S.appZeros {sT xT el bytes : Nat} {zv : Value} [ht : TSlice C.P sT el 1] [hr : TRow C.P el 1 bytes] [hz : TZero C.P el [zv]] [hk0 : TKind C.P xT .i64] {n : Nat} (hx : e.ev x = nilSlice) (hy : e.ev y = int .i64 n) (hn : 0 < n) (hroom : n * bytes ≤ 140737488355328)
  (hk : ∀ b cap, n ≤ cap → K (.atom (.slice (some ⟨b, 0, none⟩) n cap)) ((b, .cells el (List.replicate cap (.atom zv))) :: H)) :
  LStep C ⟨dst, .call { callee := .builtin .append, args := #[x, y], argTypes := #[sT, xT] }, ty, pos, aft, g⟩ e H K X := by
 refine LStep.at0 fun ρ w L h hH => ?_
 have h0 : ∀ (cs : Array Bool) (args : Array Value), builtin .append #[sT, xT] ty cs args = (do Pure.pure (.value (← Builtin.append_ #[sT, xT] ty args))) := fun _ _ => rfl
 obtain ⟨i, z, hi, hs, hb, hb0, hzz, hzs⟩ := hr.out
 obtain ⟨i', z', hi', hz', hc', hs'⟩ := hz.out
 rw [hi] at hi'
 obtain rfl := Option.some.inj hi'
 rw [hzz] at hz'
 obtain rfl := Option.some.inj hz'
 have hmul : n ≤ n * bytes := Nat.le_mul_of_pos_right _ hb0
 have wn : IntKind.i64.wrap (n : Int) = n := wrap_i64 (by omega)
 have n1 : ¬ ((n : Int) < 0) := by omega
 have n2 : ¬ ((281474976710656 : Int) < (n : Int) * (i.bytes : Int)) := by
  rw [hb]
  have : ((n * bytes : Nat) : Int) ≤ 140737488355328 := by omega
  rw [Int.natCast_mul] at this
  omega
 have h63' : ¬ (9223372036854775807 < (n : Int)) := by omega
 have hfit := growslice_fits (bytes := bytes) (need := n) (old := 0) hn hroom
 have h48' : ¬ (281474976710656 < Builtin.nextslicecap n 0 * i.bytes) := by
  rw [hb]
  omega
 have hn0 : ¬ n = 0 := by omega
 have hz1 : ∀ m, (Builtin.zeroCells #[zv] m) = (List.replicate m zv).toArray := fun m => by
  unfold Builtin.zeroCells
  apply Array.ext
  ·simp
  ·intro j h1 h2
   simp [Nat.mod_one]
 have hcap : n ≤ grownCap w n 0 el := by simp [grownCap, Question.cut]
 have hrun : (Builtin.append_ #[sT, xT] ty #[.slice none 0 0, .int .i64 n]).run C.P w = .ok (.slice (some ⟨w.heap.size, 0, none⟩) n (grownCap w n 0 el)) (World.push w.drew (.cells (List.replicate (grownCap w n 0 el) zv).toArray el)) := by
  simp [Builtin.append_, run_underlying' ht.und, run_underlying' hk0.und, sizeOf, typeInfo, zeroValue, hi, hs, hzz, hc', asInt, asIntOf, wn, n1, n2, hn0, h63', h48', Question.forced, newRow, grownCap, Builtin.firstCells, hz1]
  show World.push w.drew _ = World.push w.drew _
  congr 2
  apply Array.ext'
  have := hcap
  unfold grownCap at this
  congr 2
  omega
 rw [execOp_builtin', h0]
 simp only [List.map_toArray, List.map_cons, List.map_nil, Sem.run_bind, atom_of h hx, atom_of h hy, hrun, Result.andThen_ok, Sem.run_pure]
 have hHd := hH.drew
 have hrep : RepL w.drew L (List.replicate (grownCap w n 0 el) (.atom zv)) (List.replicate (grownCap w n 0 el) zv) := by
  have := repL_atoms (w := w.drew) (L := L) (List.replicate (grownCap w n 0 el) zv)
  rwa [List.map_replicate] at this
 have hx' := ext_push hHd.wf (.cells (List.replicate (grownCap w n 0 el) zv).toArray el) 0
 have := fr_push hHd (.cells (List.replicate (grownCap w n 0 el) zv).toArray el) 0 [(w.heap.size, .cells el (List.replicate (grownCap w n 0 el) (.atom zv)))] (fun p hp => by
  simp only [List.mem_singleton] at hp
  subst hp
  exact ⟨rfl, by simp [Live.upd], List.replicate (grownCap w n 0 el) zv, heap_push_self, hrep.mono hx' _ _⟩) (by simp)
 exact ⟨_, _, _, this.1.of_drew, this.2, rep_atom, hk _ _ hcap⟩
end
section opened
variable {C : Ctx} {n : Nat} {Q : Post} {e : Env} {H F : Heap}
/-- A row of which nothing is kept may be appended to. -/
theorem row_open {w : World} {L : Live} {b el : Nat} {cs : List LV} (hp : Pick (b, .cells el cs) H F) (hH : RelH C w L H) (hl : ∀ k cap, cap * k ≤ cs.length → ∃ e s, w.shape? b = some (e, s) ∧ cap * k ≤ s) : RelH C w L ((b, .row 0) :: F) := by
 have hH1 := hH.perm hp
 obtain ⟨hb0, hbs, hlb, xs, hx1, hx2⟩ := hH1.objs _ List.mem_cons_self
 simp only at hb0 hbs hlb hx1 hx2
 refine ⟨hH1.base, hH1.lbase, hH1.b0, hH1.wf, hH1.nodup, fun p hp' => ?_⟩
 rcases List.mem_cons.1 hp' with rfl | hp'
 ·exact ⟨hb0, hbs, hlb, _, _, _, hx1, Nat.zero_le _, Nat.zero_le _⟩
 ·exact hH1.objs p (List.mem_cons_of_mem _ hp')
theorem shape_cells {w : World} {L : Live} {b el : Nat} {cs : List LV} (hp : Pick (b, .cells el cs) H F) (hH : RelH C w L H) : w.shape? b = some (el, cs.length) := by
 have hH1 := hH.perm hp
 obtain ⟨hb0, hbs, hlb, xs, hx1, hx2⟩ := hH1.objs _ List.mem_cons_self
 simp only at hx1
 simp only [World.shape?, hx1]
 rw [List.size_toArray, hx2.length]
theorem LOps.rowOpen {ops : Array Oper} {rest : List Oper} (d k : Nat) {b el cap : Nat} {cs : List LV} (hp : Pick (b, .cells el cs) H F) (hd : e.s d = .atom (.slice (some ⟨b, 0, none⟩) 0 cap)) (hc : cap * k ≤ cs.length) (h : LOps C n ops Q rest (e.upd d (.app b cap k [])) ((b, .row 0) :: F)) : LOps C n ops Q rest e H := fun a w L hE hH => by
 have hs := shape_cells hp hH
 have hk : ∀ x, x ∈ keys ((b, LObj.row 0) :: F) → x ∈ keys H := fun x hx => by
  have := ((hp.map (·.1)).mem_iff (a := x)).2 (by simpa using hx)
  exact this
 refine wpList_mono (fun _ _ _ => lift_weak hk) _ _ _ (h a w L ⟨hE.size, hE.ds, fun i => ?_⟩ (row_open hp hH fun k2 cap2 h2 => ⟨_, _, hs, h2⟩))
 have hv := hE.vals i
 simp only [Env.upd]
 cases hb : Nat.beq i d with
 | false => exact hv
 | true =>
  have hi := Nat.eq_of_beq_eq_true hb
  subst hi
  rw [hd] at hv
  simp only [Rep] at hv
  rw [hv]
  show Rep w L (.app b cap k []) _
  simp only [Rep]
  refine ⟨rfl, Nat.zero_le _, ?_, _, _, hs, hc⟩
  simp only [RepRows]
end opened
end Go.GL
