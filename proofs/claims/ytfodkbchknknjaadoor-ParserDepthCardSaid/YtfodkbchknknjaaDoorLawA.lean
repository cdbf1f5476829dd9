/- The statements' own small functions, and the examples that each of them checks first. -/
import Derived.Test.YtfodkbchknknjaaDoorParS5
import Derived.Test.YtfodkbchknknjaaDoorParNodes
import Derived.Test.YtfodkbchknknjaaDoorREq3
set_option linter.unusedVariables false
set_option linter.unusedSimpArgs false
namespace Go.Proofs.YtfodkbchknknjaaDoor
open Go.GL Go.RowKit Go.Stele
set_option maxRecDepth 100000
set_option maxHeartbeats 4000000
theorem prog_end {T : List Tok} : ∀ (f : Nat) (p : Pr) (i op : Nat) (q : Pr) (i' op' : Nat), i ≤ T.length → sProg T f p i op = some (.ok q i' op') → i' ≤ T.length
  | 0, _, _, _, _, _, _, _, h => by rw [sProg] at h; cases h
  | f + 1, p, i, op, q, i', op', hi, h => by
    rw [sProg] at h
    split at h
    · cases h
      exact hi
    · split at h
      · rcases obind_some h with ⟨l, i1, op1, h1, h⟩ | ⟨l, e, _, h⟩
        · exact prog_end f _ i1 op1 q i' op' ((sVars_good T f _ _ _ _ h1).2.2.1 hi) h
        · cases h
      · split at h
        · rename_i h0
          have := isTok_lt h0
          rcases obind_some h with ⟨a, i1, op1, h1, h⟩ | ⟨l, e, _, h⟩
          · exact prog_end f _ i1 op1 q i' op' ((sArray_good T _ _ _ h1).2.2.1 (by omega)) h
          · cases h
        · split at h
          · rename_i h0
            have := isTok_lt h0
            rcases obind_some h with ⟨a, i1, op1, h1, h⟩ | ⟨l, e, _, h⟩
            · exact prog_end f _ i1 op1 q i' op' ((sFunc_good T f _ _ _ h1).2.2.1 (by omega)) h
            · cases h
          · cases h
theorem noPr_ok : PrOk noPr := ⟨by decide, by intro a ha; cases ha⟩
theorem parseP_ok (s : List UInt8) : PrOk (parseP s).1 := by
  unfold parseP
  split
  · exact noPr_ok
  · rename_i T hT
    have ht := tok_lex hT
    have hk : ∀ t ∈ T, TokOk t := by
      unfold lexAllP at hT
      split at hT
      · cases hT
      · exact (lexP_ok _ _ _ _ hT).2
    split
    · rename_i p i op hp
      obtain ⟨h1, h2⟩ := prog_nd hk _ _ _ _ _ _ _ (by intro a ha; cases ha) hp
      have h3 := prog_end _ _ _ _ _ _ _ (Nat.zero_le _) hp
      have := ht.len
      have h0 : nPr noPr = 0 := rfl
      exact ⟨by show nPr p ≤ _; omega, h2⟩
    · exact noPr_ok
    · exact noPr_ok
def bodyPre : List UInt8 := [102, 117, 110, 99, 32, 109, 97, 105, 110, 40, 41, 32, 123, 32, 120, 32, 61, 32]
def bodyPost : List UInt8 := [59, 32, 125]
def bodyOf (s : List UInt8) : List UInt8 := bodyPre ++ s ++ bodyPost
def vE (s : List UInt8) : Ex := .mk nVar 0 s []
def bE (op : List UInt8) (a b : Ex) : Ex := .mk op 0 [] [a, b]
def asP (x : Ex) : Pr := ⟨[], [], [⟨[109, 97, 105, 110], [], [], [.mk 1 [120] [] [x] [] []]⟩]⟩
theorem encE_bE (op : List UInt8) (a b : Ex) : encE (bE op a b) = .agg [str op, int .u32 0, str [], .list [encE a, encE b]] := by rw [bE, encE_mk]; rfl
theorem encE_vE (s : List UInt8) : encE (vE s) = .agg [str nVar, int .u32 0, str s, .list []] := by rw [vE, encE_mk]; rfl
theorem encPr_asP (x : Ex) : encPr (asP x) = .agg [.list [], .list [], .list [.agg [str [109, 97, 105, 110], .list [], .list [], .list [.agg [int .i64 1, str [120], .list [], .list [encE x], .list [], .list []]]]]] := by
  rw [encPr, asP]
  simp only [List.map_cons, List.map_nil, encFn, encS_mk]
def aliveS1 : List UInt8 := [97, 32, 45, 32, 98, 32, 42, 32, 50]
def aliveS2 : List UInt8 := [102, 117, 110, 99, 32, 109, 97, 105, 110, 40, 41, 32, 123, 10, 120, 32, 61, 32, 97, 32, 60, 32, 98, 10, 60, 32, 99, 59, 32, 125]
def aliveX : Ex := bE [45] (vE [97]) (bE [42] (vE [98]) (.mk nNum 2 [] []))
theorem alive1 : parseP (bodyOf aliveS1) = (asP aliveX, 0, 0) := by kernel_rfl
theorem alive2 : parseP aliveS2 = (noPr, 3, 3) := by kernel_rfl
attribute [local irreducible] LOps LCode LStep LCalls Go.GL.Pure QThen QBlock RetPost LQ LAny LLate LLateOp
section
variable {B0 : Nat} {w0 : World}
theorem body_spec (s : List UInt8) (hs : s.length ≤ 1000000) : LCalls (KC B0 w0) 6 [str s] [] (Ret (str (bodyOf s))) := by
  refine LCalls.intro Tryd.func6 rfl (n := 6) rfl rfl rfl ?_
  repeat first
    | refine LOps.nil ?_
    | refine LCode.seq ?_
    | refine LCode.region ?_
    | refine LCode.ret ?_
    | refine QThen.normal ?_
    | refine LOps.pure (Pure.as (lv := .atom _) rfl) rfl ?_
    | refine LOps.pure (Pure.mv (lv := .atom _) rfl) rfl ?_
    | refine LOps.pure (Pure.sadd rfl rfl (by simp only [List.length_append, List.length_cons, List.length_nil]; omega)) rfl ?_
  exact retRet rfl (AllRes.cons (ResIs.tmp (v := .atom _) rfl (LV.Sub.refl _)) AllRes.nil) rfl
theorem variable_spec (s : List UInt8) : LCalls (KC B0 w0) 9 [str s] [] (Ret (encE (vE s))) := by
  refine LCalls.intro Tryd.func9 rfl (n := 5) rfl rfl rfl ?_
  repeat first
    | refine LCode.seq ?_
    | refine LCode.region ?_
  refine LOps.step (S.alloc fun b2 => ?_) rfl
  repeat first
    | refine LOps.nil ?_
    | refine LCode.seq ?_
    | refine LCode.region ?_
    | refine LCode.ret ?_
    | refine QThen.normal ?_
    | refine LOps.pure (Pure.mv (lv := .atom _) rfl) rfl ?_
    | refine LOps.pure (Pure.bld _ (cs := [_, _, _, _]) rfl) rfl ?_
    | refine LOps.step (S.store (cs' := [_, _, _, _]) rfl Pick.here rfl rfl rfl rfl rfl ?_) rfl
  exact retRet rfl (AllRes.cons (ResIs.cellAgg (k := 4) rfl (List.Mem.head _) rfl (LV.Sub.agg (bs := [_, _, _, .list []]) ⟨LV.Sub.refl _, LV.Sub.refl _, LV.Sub.refl _, LV.Sub.nil, trivial⟩)) AllRes.nil) (by rw [encE_vE]; rfl)
theorem lbinary_spec (op : List UInt8) (a b : Ex) : LCalls (KC B0 w0) 8 [str op, encE a, encE b] [] (Ret (encE (bE op a b))) := by
  refine LCalls.intro Tryd.func8 rfl (n := 12) rfl rfl rfl ?_
  repeat first
    | refine LCode.seq ?_
    | refine LCode.region ?_
  refine LOps.step (S.box (cs := [str (exOp a), int .u32 (exNum a), str (exName a), .list (encArgs a)]) rfl fun b4 => ?_) rfl
  refine LOps.step (S.box (cs := [str (exOp b), int .u32 (exNum b), str (exName b), .list (encArgs b)]) rfl fun b5 => ?_) rfl
  refine LOps.step (S.alloc fun b6 => ?_) rfl
  repeat first
    | refine LOps.nil ?_
    | refine LCode.seq ?_
    | refine LCode.region ?_
    | refine QThen.normal ?_
    | refine LOps.pure (Pure.mv (lv := .atom _) rfl) rfl ?_
    | refine LOps.pure (Pure.ldHAgg (cs' := [_, _, _, _]) rfl (List.Mem.tail _ (List.Mem.head _)) rfl rfl) rfl ?_
    | refine LOps.pure (Pure.ldHAgg (cs' := [_, _, _, _]) rfl (List.Mem.tail _ (List.Mem.tail _ (List.Mem.head _))) rfl rfl) rfl ?_
  refine LOps.step (S.lit (es := [encE a, encE b]) [_, _] rfl (elemsOk.cons rfl rfl (elemsOk.cons rfl rfl elemsOk.nil)) rfl rfl rfl ?_) rfl
  repeat first
    | refine LOps.nil ?_
    | refine LCode.ret ?_
    | refine QThen.normal ?_
    | refine LOps.pure (Pure.bld _ (cs := [_, _, _, _]) rfl) rfl ?_
    | refine LOps.step (S.store (cs' := [_, _, _, _]) rfl Pick.here rfl rfl rfl rfl rfl ?_) rfl
  exact retRet rfl (AllRes.cons (ResIs.cellAgg rfl (List.Mem.head _) rfl (LV.Sub.refl _)) AllRes.nil) (by rw [encE_bE]; rfl)
theorem assigned_spec (x : Ex) : LCalls (KC B0 w0) 7 [encE x] [] (Ret (encPr (asP x))) := by
  refine LCalls.intro Tryd.func7 rfl (n := 10) rfl rfl rfl ?_
  repeat first
    | refine LCode.seq ?_
    | refine LCode.region ?_
  refine LOps.step (S.box (cs := [str (exOp x), int .u32 (exNum x), str (exName x), .list (encArgs x)]) rfl fun b1 => ?_) rfl
  refine LOps.step (S.alloc fun b2 => ?_) rfl
  repeat first
    | refine LOps.nil ?_
    | refine LCode.seq ?_
    | refine LCode.region ?_
    | refine QThen.normal ?_
    | refine LOps.pure (Pure.ldHAgg (cs' := [_, _, _, _]) rfl (List.Mem.tail _ (List.Mem.head _)) rfl rfl) rfl ?_
  refine LOps.step (S.lit (es := [encE x]) [_] rfl (elemsOk.cons rfl rfl elemsOk.nil) rfl rfl rfl ?_) rfl
  repeat first
    | refine LOps.pure (Pure.bld _ (cs := [_, _, _, _, _, _]) rfl) rfl ?_
  refine LOps.sub 5 (v' := .agg [int .i64 1, str [120], .list [], .list [encE x], .list [], .list []]) rfl (LV.Sub.agg ⟨LV.Sub.refl _, LV.Sub.refl _, LV.Sub.nil, LV.Sub.refl _, LV.Sub.nil, LV.Sub.nil, trivial⟩) ?_
  refine LOps.step (S.lit (es := [.agg [int .i64 1, str [120], .list [], .list [encE x], .list [], .list []]]) [_] rfl (elemsOk.cons rfl rfl elemsOk.nil) rfl rfl rfl ?_) rfl
  repeat first
    | refine LOps.pure (Pure.bld _ (cs := [_, _, _, _]) rfl) rfl ?_
  refine LOps.sub 7 (v' := .agg [str [109, 97, 105, 110], .list [], .list [], .list [.agg [int .i64 1, str [120], .list [], .list [encE x], .list [], .list []]]]) rfl (LV.Sub.agg ⟨LV.Sub.refl _, LV.Sub.nil, LV.Sub.nil, LV.Sub.refl _, trivial⟩) ?_
  refine LOps.step (S.lit (es := [.agg [str [109, 97, 105, 110], .list [], .list [], .list [.agg [int .i64 1, str [120], .list [], .list [encE x], .list [], .list []]]]]) [_] rfl (elemsOk.cons rfl rfl elemsOk.nil) rfl rfl rfl ?_) rfl
  repeat first
    | refine LOps.nil ?_
    | refine LCode.ret ?_
    | refine QThen.normal ?_
    | refine LOps.pure (Pure.bld _ (cs := [_, _, _]) rfl) rfl ?_
    | refine LOps.step (S.store (cs' := [_, _, _]) rfl Pick.here rfl rfl rfl rfl rfl ?_) rfl
  exact retRet rfl (AllRes.cons (ResIs.cellAgg (k := 3) rfl (List.Mem.head _) rfl (LV.Sub.agg (bs := [.list [], .list [], _]) ⟨LV.Sub.nil, LV.Sub.nil, LV.Sub.refl _, trivial⟩)) AllRes.nil) (by rw [encPr_asP]; rfl)
theorem asP_ok (x : Ex) (h : nEx x ≤ 1000) : PrOk (asP x) := ⟨by simp only [asP, nPr, nFns, nFn, nSms, nSm, nExs, List.length_nil]; omega, by intro a ha; cases ha⟩
theorem equal_true (a b : Pr) (ha : PrOk a) (hb : PrOk b) (h : eqPr a b = true) : LCalls (KC B0 w0) 10 [encPr a, encPr b] [] (Ret (bool true)) := by
  have := equal_spec (B0 := B0) (w0 := w0) a b ha hb
  rw [h] at this
  exact this
theorem alive_spec (hG : GW B0 w0) : LCalls (KC B0 w0) 4 [] [] (Ret (bool true)) := by
  have h1 := parse_spec hG (bodyOf aliveS1) (by decide)
  rw [alive1] at h1
  have h2 := parse_spec hG aliveS2 (by decide)
  rw [alive2] at h2
  refine LCalls.intro Tryd.func4 rfl (n := 44) rfl rfl rfl ?_
  repeat first
    | refine LOps.nil ?_
    | refine LCode.seq ?_
    | refine LCode.region ?_
    | refine QThen.normal ?_
    | refine LOps.pure (Pure.as (lv := .atom _) rfl) rfl ?_
  refine LOps.step (S.fn [_] rfl (body_spec aliveS1 (by decide)) ?_) rfl
  refine LOps.step (S.fn [_] rfl h1 ?_) rfl
  refine LOps.pure (Pure.mv rfl) rfl ?_
  refine LOps.pure (Pure.extract (vs := [encPr (asP aliveX), int .i64 0, int .i64 0]) rfl rfl) rfl ?_
  refine LOps.pure (Pure.extract (vs := [encPr (asP aliveX), int .i64 0, int .i64 0]) rfl rfl) rfl ?_
  refine LOps.pure (Pure.extract (vs := [encPr (asP aliveX), int .i64 0, int .i64 0]) rfl rfl) rfl ?_
  refine LOps.step (S.alloc fun b1 => ?_) rfl
  repeat first
    | refine LOps.nil ?_
    | refine LCode.seq ?_
    | refine LCode.region ?_
    | refine QThen.normal ?_
    | refine LOps.pure (Pure.as (lv := .atom _) rfl) rfl ?_
    | refine LOps.step (S.store (cs' := [_, _, _]) rfl Pick.here rfl rfl rfl rfl rfl ?_) rfl
  refine LOps.step (S.fn [_] rfl h2 ?_) rfl
  refine LOps.pure (Pure.mv rfl) rfl ?_
  refine LOps.pure (Pure.extract (vs := [encPr noPr, int .i64 3, int .i64 3]) rfl rfl) rfl ?_
  refine LOps.pure (Pure.extract (vs := [encPr noPr, int .i64 3, int .i64 3]) rfl rfl) rfl ?_
  refine LOps.pure (Pure.extract (vs := [encPr noPr, int .i64 3, int .i64 3]) rfl rfl) rfl ?_
  refine LOps.step (S.alloc fun b4 => ?_) rfl
  repeat first
    | refine LOps.nil ?_
    | refine LCode.seq ?_
    | refine LCode.region ?_
    | refine QThen.normal ?_
    | refine LOps.pure (Pure.as (lv := .atom _) rfl) rfl ?_
    | refine LOps.step (S.store (cs' := [_, _, _]) rfl Pick.here rfl rfl rfl rfl rfl ?_) rfl
  refine LOps.step (S.fn [_] rfl (variable_spec [97]) ?_) rfl
  refine LOps.step (S.fn [_] rfl (variable_spec [98]) ?_) rfl
  repeat first
    | refine LOps.pure (Pure.bld _ (cs := [_, _, _, _]) rfl) rfl ?_
  refine LOps.sub 21 (v' := encE (.mk nNum 2 [] [])) rfl (by rw [encE_mk]; exact LV.Sub.agg ⟨LV.Sub.refl _, LV.Sub.refl _, LV.Sub.refl _, LV.Sub.nil, trivial⟩) ?_
  refine LOps.step (S.fn [_, _, _] rfl (lbinary_spec [42] (vE [98]) (.mk nNum 2 [] [])) ?_) rfl
  refine LOps.step (S.fn [_, _, _] rfl (lbinary_spec [45] (vE [97]) (bE [42] (vE [98]) (.mk nNum 2 [] []))) ?_) rfl
  refine LOps.step (S.fn [_] rfl (assigned_spec aliveX) ?_) rfl
  refine LOps.step (S.alloc fun b7 => ?_) rfl
  repeat first
    | refine LOps.nil ?_
    | refine LCode.seq ?_
    | refine LCode.region ?_
    | refine QThen.normal ?_
    | refine LOps.pure (Pure.mv (lv := .atom _) rfl) rfl ?_
    | refine LOps.pure (Pure.eql rfl rfl) rfl ?_
    | refine LOps.pure (Pure.pickT (lv := .atom _) rfl rfl) rfl ?_
    | refine LOps.pure (Pure.ldHAgg (cs' := [_, _, _]) rfl (List.Mem.head _) rfl rfl) rfl ?_
    | refine LOps.pure (Pure.ldHAgg (cs' := [_, _, _]) rfl (List.Mem.tail _ (List.Mem.tail _ (List.Mem.head _))) rfl rfl) rfl ?_
    | refine LOps.want rfl rfl ?_
    | refine LOps.step (S.store (cs' := [_, _, _]) rfl Pick.here rfl rfl rfl rfl rfl ?_) rfl
  refine LOps.step (S.fn [_, _] rfl (equal_true (asP aliveX) (asP aliveX) (asP_ok _ (by decide)) (asP_ok _ (by decide)) ((eqPr_iff _ _).2 rfl)) ?_) rfl
  repeat first
    | refine LOps.nil ?_
    | refine LCode.ret ?_
    | refine QThen.normal ?_
    | refine LOps.pure (Pure.as (lv := .atom _) rfl) rfl ?_
    | refine LOps.pure (Pure.mv (lv := .atom _) rfl) rfl ?_
    | refine LOps.pure (Pure.eql rfl rfl) rfl ?_
    | refine LOps.pure (Pure.pickT (lv := .atom _) rfl rfl) rfl ?_
    | refine LOps.want rfl rfl ?_
  exact retRet rfl (AllRes.cons (ResIs.tmp (v := .atom _) rfl (LV.Sub.refl _)) AllRes.nil) rfl
end
end Go.Proofs.YtfodkbchknknjaaDoor
