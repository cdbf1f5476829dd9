/- The parser's expression, walked; all levels, by induction on the fuel. -/
import Derived.Test.YtfodkbchknknjaaDoorParP7
set_option linter.unusedVariables false
set_option linter.unusedSimpArgs false
namespace Go.Proofs.YtfodkbchknknjaaDoor
open Go.GL Go.RowKit Go.Stele
set_option maxRecDepth 100000
set_option maxHeartbeats 4000000
attribute [local irreducible] LOps LCode LStep LCalls Go.GL.Pure QThen QBlock RetPost LQ LAny LLate LLateOp LCodeR LOpsW RetPostM LIter LYield
def lvs : List (List (List UInt8)) := [lvOps 0, lvOps 1, lvOps 2, lvOps 3, lvOps 4, lvOps 5]
theorem lvs_at (q : Nat) (h : q < 6) : backArgs lvs q = [int .i64 (((5 - q : Nat) : Int)), .list ((lvOps (5 - q)).map str)] := by
  have : q = 0 ∨ q = 1 ∨ q = 2 ∨ q = 3 ∨ q = 4 ∨ q = 5 := by omega
  rcases this with rfl | rfl | rfl | rfl | rfl | rfl <;> rfl
theorem RetPostM.mkRet {C : Ctx} {n : Nat} {e : Env} {H H' : Heap} {R : LRes → Heap → Prop} {rs : List ResultVar} {vs : List LV} {D : Nat} (hd : e.ds = [{ target := .collected D, args := #[] }]) (F : Heap) (hp : H.Perm ((D, .obj (.deferred (some []))) :: F)) (h : AllRes C n e F rs vs) (hH : HSub H' F) (hR : R (.ret (resLV vs)) H') :
    RetPostM C n rs R .ret e H := by
  unfold RetPostM
  exact ⟨D, F, hd, hp, vs, H', h, hH, hR⟩
theorem RetPostM.mkPanic {C : Ctx} {n : Nat} {e : Env} {H H' : Heap} {R : LRes → Heap → Prop} {rs : List ResultVar} {ch : List PanicEntry} {D : Nat} (hd : e.ds = [{ target := .collected D, args := #[] }]) (F : Heap) (hp : H.Perm ((D, .obj (.deferred (some []))) :: F)) (hH : HSub H' F) (hR : R (.panic ch) H') :
    RetPostM C n rs R (.panic ch) e H := by
  unfold RetPostM
  exact .inr ⟨D, F, hd, hp, H', hH, hR⟩
section
variable {B0 : Nat} {w0 : World}
theorem expr_spec (sb : Nat) (T : List Tok) (f : Nat) (hC : CloC B0 w0 sb T f) : ExprC B0 w0 sb T f := by
  intro i op r hi ho hr
  refine LCalls.introM Tryd.func64 rfl (n := 20) rfl rfl rfl ?_
  repeat first
    | refine LCode.seq ?_
    | refine LCode.region ?_
  refine LOps.step (S.box rfl fun b1 => ?_) rfl
  refine LOps.step (S.alloc fun b2 => ?_) rfl
  repeat first
    | refine LOps.nil ?_
    | refine LCode.seq ?_
    | refine LCode.region ?_
    | refine QThen.normal ?_
    | refine LOps.pure (Pure.loadH (c := .atom _) rfl (List.Mem.tail _ (List.Mem.head _)) rfl) rfl ?_
    | refine LOps.pure (Pure.makeFunc rfl rfl) rfl ?_
  refine LOps.step (S.alloc fun b3 => ?_) rfl
  repeat first
    | refine LOps.nil ?_
    | refine LCode.seq ?_
    | refine LCode.region ?_
    | refine QThen.normal ?_
    | refine LOps.step (S.store (cs' := [_]) rfl Pick.here rfl rfl rfl rfl rfl ?_) rfl
  refine LOps.step (S.fn [] rfl levels_spec ?_) rfl
  refine LOps.step (S.call0 [_] rfl (backward_spec levelsLV) (fun v H' h => ?_) (fun ch H' h => ?_)) rfl
  · obtain ⟨bB, h, rfl⟩ := h
    cases h
    repeat first
      | refine LOps.nil ?_
      | refine LCode.block ?_
      | refine QThen.normal ?_
    have hexit : ∀ (first caps : Array Value) (fn : FuncId) (Hclo F : Heap), Clo sb 0 fn first caps Hclo → TEnter Tryd.prog fn := fun _ _ _ _ _ h => h.enter
    refine LCode.rangeFunc (g := .tmp 9) (ps := [10, 11]) (caps := #[.pointer (some ⟨bB, 0, none⟩)]) (by rfl) lvs.length (backArgs lvs)
      [(b3, .cells 94 [.atom (.func (.func 80) #[.pointer (some ⟨sb, 0, none⟩)] #[])]), (b2, .cells 39 [str [], int .u32 0, str [], nilSlice]), (b1, .cells 49 [ptr sb 0]), srcH sb T i op] [(bB, .cells 112 [.list levelsLV])]
      (List.perm_append_singleton _ _).symm (iter_spec bB lvs (by decide)) (fun k hk => by rw [lvs_at k hk]; rfl) (by rfl)
      (fun q Hq => ∃ (fn : FuncId) (first caps : Array Value) (Hclo : Heap), Clo sb (6 - q) fn first caps Hclo ∧ Hq = (b3, .cells 94 [.atom (.func (.func fn) first caps)]) :: (b2, .cells 39 [str [], int .u32 0, str [], nilSlice]) :: (b1, .cells 49 [ptr sb 0]) :: srcH sb T i op :: Hclo)
      ⟨_, _, _, [], .un, rfl⟩ ?_ ?_
    · rintro q Hq hq ⟨fn, first, caps, Hclo, hclo, rfl⟩ j hjd hja l D o oD
      have hq6 : q < 6 := hq
      have hj1 : j.s 1 = ptr b1 0 := hja 1 _ rfl
      have hj3 : j.s 3 = ptr b3 0 := hja 3 _ rfl
      rw [lvs_at q hq6, ← Env.slots_self (e := j) (l := [(1, ptr b1 0), (3, ptr b3 0)]) (by
        intro p hp
        simp only [List.mem_cons, List.not_mem_nil, or_false] at hp
        rcases hp with rfl | rfl
        · exact hj1
        · exact hj3)]
      refine LCodeR.seq ?_
      refine LCodeR.region rfl ?_
      repeat first
        | refine LOps.nil ?_
        | refine QThen.normal ?_
        | refine LOps.pure (Pure.as (lv := .atom _) rfl) rfl ?_
      refine LCodeR.region rfl ?_
      repeat first
        | refine LOps.nil ?_
        | refine QThen.normal ?_
        | refine LOps.pure (Pure.as (lv := .list _) rfl) rfl ?_
      refine ⟨hjd, _, rfl, fun o' => ?_⟩
      refine LCodeR.block ?_
      refine LCodeR.region rfl ?_
      repeat first
        | refine LOps.pure (Pure.loadH (c := .atom _) rfl (List.Mem.tail _ (List.Mem.tail _ (List.Mem.head _))) rfl) rfl ?_
        | refine LOps.pure (Pure.loadH (c := .atom _) rfl (List.Mem.tail _ (List.Mem.tail _ (List.Mem.tail _ (List.Mem.tail _ (List.Mem.head _))))) rfl) rfl ?_
        | refine LOps.pure (Pure.mv (lv := .list _) rfl) rfl ?_
        | refine LOps.pure (Pure.mv (lv := .atom _) rfl) rfl ?_
        | refine LOps.pure (Pure.eql rfl rfl) rfl ?_
      refine LOps.step (S.call0 [_, _, _, _] rfl (binary_spec sb ((lvOps (5 - q)).map str) (decide (((5 - q : Nat) : Int) = 2)) fn first caps) (fun v H' h => ?_) (fun ch H' h => ?_)) rfl
      · obtain ⟨bo, bs, bp, bn, h, rfl⟩ := h
        cases h
        repeat first
          | refine LOps.nil ?_
          | refine QThen.normal ?_
          | refine LOps.step (S.store (cs' := [_]) rfl (Pick.there (Pick.there (Pick.there (Pick.there (Pick.there (Pick.there Pick.here)))))) rfl rfl rfl rfl rfl ?_) rfl
        refine ⟨(b3, .cells 94 [.atom (.func (.func 95) #[] #[.pointer (some ⟨bo, 0, none⟩), .pointer (some ⟨bs, 0, none⟩), .pointer (some ⟨bp, 0, none⟩), .pointer (some ⟨bn, 0, none⟩)])]) :: (b2, .cells 39 [str [], int .u32 0, str [], nilSlice]) :: (b1, .cells 49 [ptr sb 0]) :: srcH sb T i op ::
          (bo, .cells 94 [.atom (.func (.func fn) first caps)]) :: (bs, .cells 49 [ptr sb 0]) :: (bp, .cells 25 [.list ((lvOps (5 - q)).map str)]) :: (bn, .cells 4 [bool (decide (((5 - q : Nat) : Int) = 2))]) :: Hclo, ?_, _, _, _, _, ?_, rfl⟩
        · exact HSub.pick (Pick.there (Pick.there (Pick.there (Pick.there (Pick.there Pick.here))))) (HSub.pick (Pick.there (Pick.there (Pick.there (Pick.there (Pick.there Pick.here))))) (HSub.pick Pick.here (HSub.pick (Pick.there (Pick.there (Pick.there (Pick.there Pick.here)))) (HSub.pick (Pick.there (Pick.there (Pick.there (Pick.there Pick.here)))) (HSub.pick (Pick.there (Pick.there (Pick.there (Pick.there Pick.here)))) (HSub.refl _))))))
        · have e1 : 6 - (q + 1) = 5 - q := by omega
          have e2 : 6 - q = 5 - q + 1 := by omega
          rw [e1]
          rw [e2] at hclo
          exact .bin hclo
      · obtain ⟨_, _, _, _, h, _⟩ := h
        cases h
    · rintro D H' ⟨fn, first, caps, Hclo, hclo, rfl⟩
      have hclo0 : Clo sb 0 fn first caps Hclo := hclo
      have hen := hexit _ _ _ _ [] hclo0
      repeat first
        | refine LCode.seq ?_
        | refine QThen.normal ?_
        | refine QBlock.normal ?_
      refine LCode.weak (H' := (D, .obj (.deferred (some []))) :: (b3, .cells 94 [.atom (.func (.func fn) first caps)]) :: (b2, .cells 39 [str [], int .u32 0, str [], nilSlice]) :: (b1, .cells 49 [ptr sb 0]) :: srcH sb T i op :: Hclo) ⟨[(bB, .cells 112 [.list levelsLV])], List.Perm.refl _⟩ ?_
      repeat first
        | refine LCode.region ?_
        | refine LOps.pure (Pure.loadH (c := .atom _) rfl (List.Mem.tail _ (List.Mem.head _)) rfl) rfl ?_
      refine LOps.step (S.callClo (F := [(D, .obj (.deferred (some []))), (b3, .cells 94 [.atom (.func (.func fn) first caps)]), (b2, .cells 39 [str [], int .u32 0, str [], nilSlice]), (b1, .cells 49 [ptr sb 0])]) (Hc := Hclo) rfl (Pick.there (Pick.there (Pick.there (Pick.there Pick.here)))) (hC _ _ _ _ _ _ _ r hclo0 hi ho hr) (fun v i1 op1 h1 => ?_) (fun l er i1 op1 h1 e' he' => ?_)) rfl
      · repeat first
          | refine LOps.nil ?_
          | refine LCode.ret ?_
          | refine QThen.normal ?_
          | refine LOps.step (S.store (cs' := [_, _, _, _]) rfl (Pick.there (Pick.there (Pick.there Pick.here))) rfl rfl rfl rfl rfl ?_) rfl
        exact RetPostM.mkRet rfl _ (Pick.there (Pick.there Pick.here)) (AllRes.cons (ResIs.cellAgg rfl (List.Mem.head _) rfl (LV.Sub.refl _)) AllRes.nil) (HSub.pick (Pick.there Pick.here) (HSub.nil _)) (by rw [h1]; exact ⟨rfl, rfl⟩)
      · repeat first
          | refine QThen.panic ?_
        refine RetPostM.mkPanic (he'.trans rfl) (srcH sb T i1 op1 :: (Hclo ++ [(b3, .cells 94 [.atom (.func (.func fn) first caps)]), (b2, .cells 39 [str [], int .u32 0, str [], nilSlice]), (b1, .cells 49 [ptr sb 0])])) ?_ (HSub.pick Pick.here (HSub.nil _)) (by rw [h1]; exact ⟨rfl, i1, op1, rfl⟩)
        exact (List.Perm.cons _ List.perm_middle).trans (List.Perm.swap _ _ _)
  · obtain ⟨bB, h, _⟩ := h
    cases h
theorem all_spec (hG : GW B0 w0) (sb : Nat) (T : List Tok) (hT : TOK T) : ∀ f : Nat, CloC B0 w0 sb T f ∧ ExprC B0 w0 sb T f := by
  intro f
  induction f using Nat.strongRecOn with
  | _ f ih =>
    have hC : CloC B0 w0 sb T f := by
      intro k fn first caps Hc i op r hclo hi ho hr
      cases hclo with
      | un =>
        obtain ⟨f, rfl⟩ : ∃ g, f = g + 1 := by
          cases f with
          | zero => rw [eLev] at hr; cases hr
          | succ g => exact ⟨g, rfl⟩
        rw [eLev, if_pos rfl] at hr
        refine LCalls.mono (unary_spec hG sb T hT f (fun g hg => (ih g (by omega)).2) i op r hi ho hr) ?_
        intro r' H h
        cases r with
        | ok v i' op' => exact h
        | err l e => exact h
      | bin h => exact bin_spec hG sb T hT f (fun g hg => (ih g hg).1) _ _ _ _ _ _ _ _ _ h i op r hi ho hr
    exact ⟨hC, expr_spec sb T f hC⟩
end
end Go.Proofs.YtfodkbchknknjaaDoor
