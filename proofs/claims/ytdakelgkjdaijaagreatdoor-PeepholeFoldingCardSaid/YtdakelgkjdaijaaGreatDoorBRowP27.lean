/- Texts joined: PtN, PtO, PtP, GlEqS, GlEqI, GlFieldI, SiRun, SiAsm, WmStep, SiFold, Law24. -/
import Derived.Laws.StructEq
import Derived.ChangeKeysEq
import Derived.Test.YtdakelgkjdaijaaGreatDoorBRowP22
import Derived.Test.YtdakelgkjdaijaaGreatDoorBRowP23
import Derived.Test.YtdakelgkjdaijaaGreatDoorBRowP25
import Derived.Test.YtdakelgkjdaijaaGreatDoorBRowP26
set_option linter.unusedVariables false
set_option linter.unusedSimpArgs false
namespace Go.Proofs.YtdakelgkjdaijaaGreatDoor.Pp
open Go.GL Go.RowKit Go.Stele
open Go.Proofs.YtdakelgkjdaijaaGreatDoor.Asm (OptLV OptLV.mk ite_some tokLV)
set_option maxRecDepth 100000
set_option maxHeartbeats 4000000
attribute [local irreducible] LOps LCode LStep LCalls Go.GL.Pure QThen QBlock RetPost LQ LAny LLate LLateOp
section
variable {B0 : Nat} {w0 : World}
theorem joinS_spec (sep : List UInt8) (ws : List (List UInt8)) (hn : ws.length ≤ 1000000000) (hl : (Go.Lib.join ws sep).length ≤ 1000000000) : LCalls (KC B0 w0) 16 [.list (ws.map str), str sep] [] (Ret (str (Go.Lib.join ws sep))) := Asm.joinS_spec sep ws hn hl
theorem words_spec (hG : GW B0 w0) (s : List UInt8) (hs : s.length ≤ 1000000) : LCalls (KC B0 w0) 44 [str s] [] (Ret (.list ((wordsP s).map str))) := by
 have ht := Asm.tokens_spec hG.base hG.mx s (by omega)
 have hla : ((toksP s).map tokLV).length = (toksP s).length := List.length_map _
 have htl : (toksP s).length ≤ s.length + 1 := by
  have h1 := wordsP_len s
  rw [← toksP_fst, List.length_map] at h1
  exact h1
 rw [← toksP_fst]
 generalize toksP s = l at ht hla htl
 refine LCalls.intro Tryz.func44 rfl (n := 20) rfl rfl rfl ?_
 repeat first | refine LOps.nil ?_ | refine LCode.seq ?_ | refine LCode.region ?_ | refine LCode.skip ?_ | refine LCode.ret ?_ | refine LCode.exit ?_ | refine LCode.block ?_ | refine QThen.normal ?_ | refine QThen.exit ?_ | refine QThen.ret ?_ | refine QBlock.hit ?_ | refine QBlock.miss (by decide) ?_ | refine QBlock.normal ?_ | refine QBlock.ret ?_ | refine LOps.pure (Pure.as (lv := .list _) rfl) rfl ?_ | refine LOps.pure (Pure.as (lv := .app _ _ _ _) rfl) rfl ?_ | refine LOps.pure (Pure.as (lv := .atom _) rfl) rfl ?_ | refine LOps.pure (Pure.mv (lv := .atom _) rfl) rfl ?_ | refine LOps.pure (Pure.llen rfl) rfl ?_ | refine LOps.pure (Pure.lss rfl rfl) rfl ?_ | refine LOps.pure (Pure.ldRefAgg (cs' := [_, _]) rfl rfl rfl) rfl ?_ | refine LOps.pure (Pure.ldHAgg (cs' := [_, _]) rfl (List.Mem.head _) rfl rfl) rfl ?_ | refine LOps.pure (Pure.ldHAgg (cs' := [_, _]) rfl (List.Mem.tail _ (List.Mem.head _)) rfl rfl) rfl ?_ | refine LOps.pure (Pure.ldHAgg (cs' := [_, _]) rfl (List.Mem.tail _ (List.Mem.tail _ (List.Mem.head _))) rfl rfl) rfl ?_ | refine LOps.pure (Pure.ldHAgg (cs' := [_, _]) rfl (List.Mem.tail _ (List.Mem.tail _ (List.Mem.tail _ (List.Mem.head _)))) rfl rfl) rfl ?_ | refine LOps.pure (Pure.ldHAgg (cs' := [_, _]) rfl (List.Mem.tail _ (List.Mem.tail _ (List.Mem.tail _ (List.Mem.tail _ (List.Mem.head _))))) rfl rfl) rfl ?_ | refine LOps.pure (Pure.mv (lv := .list _) rfl) rfl ?_ | refine LOps.pure (Pure.mv (lv := .app _ _ _ _) rfl) rfl ?_ | refine LOps.pure (Pure.fieldH rfl) rfl ?_ | refine LOps.pure (Pure.field1 rfl rfl) rfl ?_ | refine LOps.pure (Pure.loadRef (c := .atom _) rfl rfl) rfl ?_ | refine LOps.pure (Pure.loadH (c := .atom _) rfl (List.Mem.head _) rfl) rfl ?_ | refine LOps.pure (Pure.loadH (c := .atom _) rfl (List.Mem.tail _ (List.Mem.head _)) rfl) rfl ?_ | refine LOps.pure (Pure.loadH (c := .atom _) rfl (List.Mem.tail _ (List.Mem.tail _ (List.Mem.head _))) rfl) rfl ?_ | refine LOps.pure (Pure.loadH (c := .atom _) rfl (List.Mem.tail _ (List.Mem.tail _ (List.Mem.tail _ (List.Mem.head _)))) rfl) rfl ?_ | refine LOps.pure (Pure.loadH (c := .atom _) rfl (List.Mem.tail _ (List.Mem.tail _ (List.Mem.tail _ (List.Mem.tail _ (List.Mem.head _))))) rfl) rfl ?_ | refine LOps.pure (Pure.add rfl rfl (by omega)) rfl ?_ | refine LOps.step (S.store (cs' := [_, _]) rfl Pick.here rfl rfl rfl rfl rfl ?_) rfl | refine LOps.step (S.store (cs' := [_, _]) rfl (Pick.there Pick.here) rfl rfl rfl rfl rfl ?_) rfl | refine LOps.step (S.store (cs' := [_, _]) rfl (Pick.there (Pick.there Pick.here)) rfl rfl rfl rfl rfl ?_) rfl | refine LOps.step (S.store (cs' := [_, _]) rfl (Pick.there (Pick.there (Pick.there Pick.here))) rfl rfl rfl rfl rfl ?_) rfl | refine LOps.step (S.store (cs' := [_, _]) rfl (Pick.there (Pick.there (Pick.there (Pick.there Pick.here)))) rfl rfl rfl rfl rfl ?_) rfl
 refine LOps.step (S.fn [_] rfl ht ?_) rfl
 repeat first | refine LOps.nil ?_ | refine LCode.seq ?_ | refine LCode.region ?_ | refine LCode.skip ?_ | refine LCode.ret ?_ | refine LCode.exit ?_ | refine LCode.block ?_ | refine QThen.normal ?_ | refine QThen.exit ?_ | refine QThen.ret ?_ | refine QBlock.hit ?_ | refine QBlock.miss (by decide) ?_ | refine QBlock.normal ?_ | refine QBlock.ret ?_ | refine LOps.pure (Pure.as (lv := .list _) rfl) rfl ?_ | refine LOps.pure (Pure.as (lv := .app _ _ _ _) rfl) rfl ?_ | refine LOps.pure (Pure.as (lv := .atom _) rfl) rfl ?_ | refine LOps.pure (Pure.mv (lv := .atom _) rfl) rfl ?_ | refine LOps.pure (Pure.llen rfl) rfl ?_ | refine LOps.pure (Pure.lss rfl rfl) rfl ?_ | refine LOps.pure (Pure.ldRefAgg (cs' := [_, _]) rfl rfl rfl) rfl ?_ | refine LOps.pure (Pure.ldHAgg (cs' := [_, _]) rfl (List.Mem.head _) rfl rfl) rfl ?_ | refine LOps.pure (Pure.ldHAgg (cs' := [_, _]) rfl (List.Mem.tail _ (List.Mem.head _)) rfl rfl) rfl ?_ | refine LOps.pure (Pure.ldHAgg (cs' := [_, _]) rfl (List.Mem.tail _ (List.Mem.tail _ (List.Mem.head _))) rfl rfl) rfl ?_ | refine LOps.pure (Pure.ldHAgg (cs' := [_, _]) rfl (List.Mem.tail _ (List.Mem.tail _ (List.Mem.tail _ (List.Mem.head _)))) rfl rfl) rfl ?_ | refine LOps.pure (Pure.ldHAgg (cs' := [_, _]) rfl (List.Mem.tail _ (List.Mem.tail _ (List.Mem.tail _ (List.Mem.tail _ (List.Mem.head _))))) rfl rfl) rfl ?_ | refine LOps.pure (Pure.mv (lv := .list _) rfl) rfl ?_ | refine LOps.pure (Pure.mv (lv := .app _ _ _ _) rfl) rfl ?_ | refine LOps.pure (Pure.fieldH rfl) rfl ?_ | refine LOps.pure (Pure.field1 rfl rfl) rfl ?_ | refine LOps.pure (Pure.loadRef (c := .atom _) rfl rfl) rfl ?_ | refine LOps.pure (Pure.loadH (c := .atom _) rfl (List.Mem.head _) rfl) rfl ?_ | refine LOps.pure (Pure.loadH (c := .atom _) rfl (List.Mem.tail _ (List.Mem.head _)) rfl) rfl ?_ | refine LOps.pure (Pure.loadH (c := .atom _) rfl (List.Mem.tail _ (List.Mem.tail _ (List.Mem.head _))) rfl) rfl ?_ | refine LOps.pure (Pure.loadH (c := .atom _) rfl (List.Mem.tail _ (List.Mem.tail _ (List.Mem.tail _ (List.Mem.head _)))) rfl) rfl ?_ | refine LOps.pure (Pure.loadH (c := .atom _) rfl (List.Mem.tail _ (List.Mem.tail _ (List.Mem.tail _ (List.Mem.tail _ (List.Mem.head _))))) rfl) rfl ?_ | refine LOps.pure (Pure.add rfl rfl (by omega)) rfl ?_ | refine LOps.step (S.store (cs' := [_, _]) rfl Pick.here rfl rfl rfl rfl rfl ?_) rfl | refine LOps.step (S.store (cs' := [_, _]) rfl (Pick.there Pick.here) rfl rfl rfl rfl rfl ?_) rfl | refine LOps.step (S.store (cs' := [_, _]) rfl (Pick.there (Pick.there Pick.here)) rfl rfl rfl rfl rfl ?_) rfl | refine LOps.step (S.store (cs' := [_, _]) rfl (Pick.there (Pick.there (Pick.there Pick.here))) rfl rfl rfl rfl rfl ?_) rfl | refine LOps.step (S.store (cs' := [_, _]) rfl (Pick.there (Pick.there (Pick.there (Pick.there Pick.here)))) rfl rfl rfl rfl rfl ?_) rfl
 refine LCode.loopI (fun k ls H => ∃ (v : LV) (i : Nat), i ≤ l.length ∧ k = l.length - i ∧ ls = [(3, v), (7, .list (l.map tokLV)), (8, int .i64 l.length), (9, int .i64 (i : Nat))] ∧ Acc 1 v (((l.take i).map (·.1)).map str) H [])
  ⟨_, _, _, ⟨nilSlice, 0, Nat.zero_le _, rfl, rfl, by simpa using Acc.nil⟩, ⟨rfl, rfl, int_eq (by omega), rfl, trivial⟩, HSub.refl _⟩ ?_
 rintro k ls H ⟨v, i, hi, rfl, rfl, hacc⟩ j hj
 repeat first | refine LOps.nil ?_ | refine LCode.seq ?_ | refine LCode.region ?_ | refine LCode.skip ?_ | refine LCode.ret ?_ | refine LCode.exit ?_ | refine LCode.block ?_ | refine QThen.normal ?_ | refine QThen.exit ?_ | refine QThen.ret ?_ | refine QBlock.hit ?_ | refine QBlock.miss (by decide) ?_ | refine QBlock.normal ?_ | refine QBlock.ret ?_ | refine LOps.pure (Pure.as (lv := .list _) rfl) rfl ?_ | refine LOps.pure (Pure.as (lv := .app _ _ _ _) rfl) rfl ?_ | refine LOps.pure (Pure.as (lv := .atom _) rfl) rfl ?_ | refine LOps.pure (Pure.mv (lv := .atom _) rfl) rfl ?_ | refine LOps.pure (Pure.llen rfl) rfl ?_ | refine LOps.pure (Pure.lss rfl rfl) rfl ?_ | refine LOps.pure (Pure.ldRefAgg (cs' := [_, _]) rfl rfl rfl) rfl ?_ | refine LOps.pure (Pure.ldHAgg (cs' := [_, _]) rfl (List.Mem.head _) rfl rfl) rfl ?_ | refine LOps.pure (Pure.ldHAgg (cs' := [_, _]) rfl (List.Mem.tail _ (List.Mem.head _)) rfl rfl) rfl ?_ | refine LOps.pure (Pure.ldHAgg (cs' := [_, _]) rfl (List.Mem.tail _ (List.Mem.tail _ (List.Mem.head _))) rfl rfl) rfl ?_ | refine LOps.pure (Pure.ldHAgg (cs' := [_, _]) rfl (List.Mem.tail _ (List.Mem.tail _ (List.Mem.tail _ (List.Mem.head _)))) rfl rfl) rfl ?_ | refine LOps.pure (Pure.ldHAgg (cs' := [_, _]) rfl (List.Mem.tail _ (List.Mem.tail _ (List.Mem.tail _ (List.Mem.tail _ (List.Mem.head _))))) rfl rfl) rfl ?_ | refine LOps.pure (Pure.mv (lv := .list _) rfl) rfl ?_ | refine LOps.pure (Pure.mv (lv := .app _ _ _ _) rfl) rfl ?_ | refine LOps.pure (Pure.fieldH rfl) rfl ?_ | refine LOps.pure (Pure.field1 rfl rfl) rfl ?_ | refine LOps.pure (Pure.loadRef (c := .atom _) rfl rfl) rfl ?_ | refine LOps.pure (Pure.loadH (c := .atom _) rfl (List.Mem.head _) rfl) rfl ?_ | refine LOps.pure (Pure.loadH (c := .atom _) rfl (List.Mem.tail _ (List.Mem.head _)) rfl) rfl ?_ | refine LOps.pure (Pure.loadH (c := .atom _) rfl (List.Mem.tail _ (List.Mem.tail _ (List.Mem.head _))) rfl) rfl ?_ | refine LOps.pure (Pure.loadH (c := .atom _) rfl (List.Mem.tail _ (List.Mem.tail _ (List.Mem.tail _ (List.Mem.head _)))) rfl) rfl ?_ | refine LOps.pure (Pure.loadH (c := .atom _) rfl (List.Mem.tail _ (List.Mem.tail _ (List.Mem.tail _ (List.Mem.tail _ (List.Mem.head _))))) rfl) rfl ?_ | refine LOps.pure (Pure.add rfl rfl (by omega)) rfl ?_ | refine LOps.step (S.store (cs' := [_, _]) rfl Pick.here rfl rfl rfl rfl rfl ?_) rfl | refine LOps.step (S.store (cs' := [_, _]) rfl (Pick.there Pick.here) rfl rfl rfl rfl rfl ?_) rfl | refine LOps.step (S.store (cs' := [_, _]) rfl (Pick.there (Pick.there Pick.here)) rfl rfl rfl rfl rfl ?_) rfl | refine LOps.step (S.store (cs' := [_, _]) rfl (Pick.there (Pick.there (Pick.there Pick.here))) rfl rfl rfl rfl rfl ?_) rfl | refine LOps.step (S.store (cs' := [_, _]) rfl (Pick.there (Pick.there (Pick.there (Pick.there Pick.here)))) rfl rfl rfl rfl rfl ?_) rfl
 refine LCode.cond rfl (fun hc => ?_) (fun hc => ?_)
 ·have hlt : i < l.length := by have := of_decide_eq_true hc; omega
  repeat first | refine LOps.nil ?_ | refine LCode.seq ?_ | refine LCode.region ?_ | refine LCode.skip ?_ | refine LCode.ret ?_ | refine LCode.exit ?_ | refine LCode.block ?_ | refine QThen.normal ?_ | refine QThen.exit ?_ | refine QThen.ret ?_ | refine QBlock.hit ?_ | refine QBlock.miss (by decide) ?_ | refine QBlock.normal ?_ | refine QBlock.ret ?_ | refine LOps.pure (Pure.as (lv := .list _) rfl) rfl ?_ | refine LOps.pure (Pure.as (lv := .app _ _ _ _) rfl) rfl ?_ | refine LOps.pure (Pure.as (lv := .atom _) rfl) rfl ?_ | refine LOps.pure (Pure.mv (lv := .atom _) rfl) rfl ?_ | refine LOps.pure (Pure.llen rfl) rfl ?_ | refine LOps.pure (Pure.lss rfl rfl) rfl ?_ | refine LOps.pure (Pure.ldRefAgg (cs' := [_, _]) rfl rfl rfl) rfl ?_ | refine LOps.pure (Pure.ldHAgg (cs' := [_, _]) rfl (List.Mem.head _) rfl rfl) rfl ?_ | refine LOps.pure (Pure.ldHAgg (cs' := [_, _]) rfl (List.Mem.tail _ (List.Mem.head _)) rfl rfl) rfl ?_ | refine LOps.pure (Pure.ldHAgg (cs' := [_, _]) rfl (List.Mem.tail _ (List.Mem.tail _ (List.Mem.head _))) rfl rfl) rfl ?_ | refine LOps.pure (Pure.ldHAgg (cs' := [_, _]) rfl (List.Mem.tail _ (List.Mem.tail _ (List.Mem.tail _ (List.Mem.head _)))) rfl rfl) rfl ?_ | refine LOps.pure (Pure.ldHAgg (cs' := [_, _]) rfl (List.Mem.tail _ (List.Mem.tail _ (List.Mem.tail _ (List.Mem.tail _ (List.Mem.head _))))) rfl rfl) rfl ?_ | refine LOps.pure (Pure.mv (lv := .list _) rfl) rfl ?_ | refine LOps.pure (Pure.mv (lv := .app _ _ _ _) rfl) rfl ?_ | refine LOps.pure (Pure.fieldH rfl) rfl ?_ | refine LOps.pure (Pure.field1 rfl rfl) rfl ?_ | refine LOps.pure (Pure.loadRef (c := .atom _) rfl rfl) rfl ?_ | refine LOps.pure (Pure.loadH (c := .atom _) rfl (List.Mem.head _) rfl) rfl ?_ | refine LOps.pure (Pure.loadH (c := .atom _) rfl (List.Mem.tail _ (List.Mem.head _)) rfl) rfl ?_ | refine LOps.pure (Pure.loadH (c := .atom _) rfl (List.Mem.tail _ (List.Mem.tail _ (List.Mem.head _))) rfl) rfl ?_ | refine LOps.pure (Pure.loadH (c := .atom _) rfl (List.Mem.tail _ (List.Mem.tail _ (List.Mem.tail _ (List.Mem.head _)))) rfl) rfl ?_ | refine LOps.pure (Pure.loadH (c := .atom _) rfl (List.Mem.tail _ (List.Mem.tail _ (List.Mem.tail _ (List.Mem.tail _ (List.Mem.head _))))) rfl) rfl ?_ | refine LOps.pure (Pure.add rfl rfl (by omega)) rfl ?_ | refine LOps.step (S.store (cs' := [_, _]) rfl Pick.here rfl rfl rfl rfl rfl ?_) rfl | refine LOps.step (S.store (cs' := [_, _]) rfl (Pick.there Pick.here) rfl rfl rfl rfl rfl ?_) rfl | refine LOps.step (S.store (cs' := [_, _]) rfl (Pick.there (Pick.there Pick.here)) rfl rfl rfl rfl rfl ?_) rfl | refine LOps.step (S.store (cs' := [_, _]) rfl (Pick.there (Pick.there (Pick.there Pick.here))) rfl rfl rfl rfl rfl ?_) rfl | refine LOps.step (S.store (cs' := [_, _]) rfl (Pick.there (Pick.there (Pick.there (Pick.there Pick.here)))) rfl rfl rfl rfl rfl ?_) rfl
  refine LOps.pure (Pure.ixRef (el' := tokLV l[i]) (cs := [_, _]) rfl rfl (by omega) (map_get _ _ _ hlt) rfl rfl) rfl ?_
  repeat first | refine LOps.nil ?_ | refine LCode.seq ?_ | refine LCode.region ?_ | refine LCode.skip ?_ | refine LCode.ret ?_ | refine LCode.exit ?_ | refine LCode.block ?_ | refine QThen.normal ?_ | refine QThen.exit ?_ | refine QThen.ret ?_ | refine QBlock.hit ?_ | refine QBlock.miss (by decide) ?_ | refine QBlock.normal ?_ | refine QBlock.ret ?_ | refine LOps.pure (Pure.as (lv := .list _) rfl) rfl ?_ | refine LOps.pure (Pure.as (lv := .app _ _ _ _) rfl) rfl ?_ | refine LOps.pure (Pure.as (lv := .atom _) rfl) rfl ?_ | refine LOps.pure (Pure.mv (lv := .atom _) rfl) rfl ?_ | refine LOps.pure (Pure.llen rfl) rfl ?_ | refine LOps.pure (Pure.lss rfl rfl) rfl ?_ | refine LOps.pure (Pure.ldRefAgg (cs' := [_, _]) rfl rfl rfl) rfl ?_ | refine LOps.pure (Pure.ldHAgg (cs' := [_, _]) rfl (List.Mem.head _) rfl rfl) rfl ?_ | refine LOps.pure (Pure.ldHAgg (cs' := [_, _]) rfl (List.Mem.tail _ (List.Mem.head _)) rfl rfl) rfl ?_ | refine LOps.pure (Pure.ldHAgg (cs' := [_, _]) rfl (List.Mem.tail _ (List.Mem.tail _ (List.Mem.head _))) rfl rfl) rfl ?_ | refine LOps.pure (Pure.ldHAgg (cs' := [_, _]) rfl (List.Mem.tail _ (List.Mem.tail _ (List.Mem.tail _ (List.Mem.head _)))) rfl rfl) rfl ?_ | refine LOps.pure (Pure.ldHAgg (cs' := [_, _]) rfl (List.Mem.tail _ (List.Mem.tail _ (List.Mem.tail _ (List.Mem.tail _ (List.Mem.head _))))) rfl rfl) rfl ?_ | refine LOps.pure (Pure.mv (lv := .list _) rfl) rfl ?_ | refine LOps.pure (Pure.mv (lv := .app _ _ _ _) rfl) rfl ?_ | refine LOps.pure (Pure.fieldH rfl) rfl ?_ | refine LOps.pure (Pure.field1 rfl rfl) rfl ?_ | refine LOps.pure (Pure.loadRef (c := .atom _) rfl rfl) rfl ?_ | refine LOps.pure (Pure.loadH (c := .atom _) rfl (List.Mem.head _) rfl) rfl ?_ | refine LOps.pure (Pure.loadH (c := .atom _) rfl (List.Mem.tail _ (List.Mem.head _)) rfl) rfl ?_ | refine LOps.pure (Pure.loadH (c := .atom _) rfl (List.Mem.tail _ (List.Mem.tail _ (List.Mem.head _))) rfl) rfl ?_ | refine LOps.pure (Pure.loadH (c := .atom _) rfl (List.Mem.tail _ (List.Mem.tail _ (List.Mem.tail _ (List.Mem.head _)))) rfl) rfl ?_ | refine LOps.pure (Pure.loadH (c := .atom _) rfl (List.Mem.tail _ (List.Mem.tail _ (List.Mem.tail _ (List.Mem.tail _ (List.Mem.head _))))) rfl) rfl ?_ | refine LOps.pure (Pure.add rfl rfl (by omega)) rfl ?_ | refine LOps.step (S.store (cs' := [_, _]) rfl Pick.here rfl rfl rfl rfl rfl ?_) rfl | refine LOps.step (S.store (cs' := [_, _]) rfl (Pick.there Pick.here) rfl rfl rfl rfl rfl ?_) rfl | refine LOps.step (S.store (cs' := [_, _]) rfl (Pick.there (Pick.there Pick.here)) rfl rfl rfl rfl rfl ?_) rfl | refine LOps.step (S.store (cs' := [_, _]) rfl (Pick.there (Pick.there (Pick.there Pick.here))) rfl rfl rfl rfl rfl ?_) rfl | refine LOps.step (S.store (cs' := [_, _]) rfl (Pick.there (Pick.there (Pick.there (Pick.there Pick.here)))) rfl rfl rfl rfl rfl ?_) rfl
  refine LOps.step (S.alloc fun b5 => ?_) rfl
  repeat first | refine LOps.nil ?_ | refine LCode.seq ?_ | refine LCode.region ?_ | refine LCode.skip ?_ | refine LCode.ret ?_ | refine LCode.exit ?_ | refine LCode.block ?_ | refine QThen.normal ?_ | refine QThen.exit ?_ | refine QThen.ret ?_ | refine QBlock.hit ?_ | refine QBlock.miss (by decide) ?_ | refine QBlock.normal ?_ | refine QBlock.ret ?_ | refine LOps.pure (Pure.as (lv := .list _) rfl) rfl ?_ | refine LOps.pure (Pure.as (lv := .app _ _ _ _) rfl) rfl ?_ | refine LOps.pure (Pure.as (lv := .atom _) rfl) rfl ?_ | refine LOps.pure (Pure.mv (lv := .atom _) rfl) rfl ?_ | refine LOps.pure (Pure.llen rfl) rfl ?_ | refine LOps.pure (Pure.lss rfl rfl) rfl ?_ | refine LOps.pure (Pure.ldRefAgg (cs' := [_, _]) rfl rfl rfl) rfl ?_ | refine LOps.pure (Pure.ldHAgg (cs' := [_, _]) rfl (List.Mem.head _) rfl rfl) rfl ?_ | refine LOps.pure (Pure.ldHAgg (cs' := [_, _]) rfl (List.Mem.tail _ (List.Mem.head _)) rfl rfl) rfl ?_ | refine LOps.pure (Pure.ldHAgg (cs' := [_, _]) rfl (List.Mem.tail _ (List.Mem.tail _ (List.Mem.head _))) rfl rfl) rfl ?_ | refine LOps.pure (Pure.ldHAgg (cs' := [_, _]) rfl (List.Mem.tail _ (List.Mem.tail _ (List.Mem.tail _ (List.Mem.head _)))) rfl rfl) rfl ?_ | refine LOps.pure (Pure.ldHAgg (cs' := [_, _]) rfl (List.Mem.tail _ (List.Mem.tail _ (List.Mem.tail _ (List.Mem.tail _ (List.Mem.head _))))) rfl rfl) rfl ?_ | refine LOps.pure (Pure.mv (lv := .list _) rfl) rfl ?_ | refine LOps.pure (Pure.mv (lv := .app _ _ _ _) rfl) rfl ?_ | refine LOps.pure (Pure.fieldH rfl) rfl ?_ | refine LOps.pure (Pure.field1 rfl rfl) rfl ?_ | refine LOps.pure (Pure.loadRef (c := .atom _) rfl rfl) rfl ?_ | refine LOps.pure (Pure.loadH (c := .atom _) rfl (List.Mem.head _) rfl) rfl ?_ | refine LOps.pure (Pure.loadH (c := .atom _) rfl (List.Mem.tail _ (List.Mem.head _)) rfl) rfl ?_ | refine LOps.pure (Pure.loadH (c := .atom _) rfl (List.Mem.tail _ (List.Mem.tail _ (List.Mem.head _))) rfl) rfl ?_ | refine LOps.pure (Pure.loadH (c := .atom _) rfl (List.Mem.tail _ (List.Mem.tail _ (List.Mem.tail _ (List.Mem.head _)))) rfl) rfl ?_ | refine LOps.pure (Pure.loadH (c := .atom _) rfl (List.Mem.tail _ (List.Mem.tail _ (List.Mem.tail _ (List.Mem.tail _ (List.Mem.head _))))) rfl) rfl ?_ | refine LOps.pure (Pure.add rfl rfl (by omega)) rfl ?_ | refine LOps.step (S.store (cs' := [_, _]) rfl Pick.here rfl rfl rfl rfl rfl ?_) rfl | refine LOps.step (S.store (cs' := [_, _]) rfl (Pick.there Pick.here) rfl rfl rfl rfl rfl ?_) rfl | refine LOps.step (S.store (cs' := [_, _]) rfl (Pick.there (Pick.there Pick.here)) rfl rfl rfl rfl rfl ?_) rfl | refine LOps.step (S.store (cs' := [_, _]) rfl (Pick.there (Pick.there (Pick.there Pick.here))) rfl rfl rfl rfl rfl ?_) rfl | refine LOps.step (S.store (cs' := [_, _]) rfl (Pick.there (Pick.there (Pick.there (Pick.there Pick.here)))) rfl rfl rfl rfl rfl ?_) rfl
  refine LOps.pure (Pure.mv (lv := v) rfl) rfl ?_
  repeat first | refine LOps.nil ?_ | refine LCode.seq ?_ | refine LCode.region ?_ | refine LCode.skip ?_ | refine LCode.ret ?_ | refine LCode.exit ?_ | refine LCode.block ?_ | refine QThen.normal ?_ | refine QThen.exit ?_ | refine QThen.ret ?_ | refine QBlock.hit ?_ | refine QBlock.miss (by decide) ?_ | refine QBlock.normal ?_ | refine QBlock.ret ?_ | refine LOps.pure (Pure.as (lv := .list _) rfl) rfl ?_ | refine LOps.pure (Pure.as (lv := .app _ _ _ _) rfl) rfl ?_ | refine LOps.pure (Pure.as (lv := .atom _) rfl) rfl ?_ | refine LOps.pure (Pure.mv (lv := .atom _) rfl) rfl ?_ | refine LOps.pure (Pure.llen rfl) rfl ?_ | refine LOps.pure (Pure.lss rfl rfl) rfl ?_ | refine LOps.pure (Pure.ldRefAgg (cs' := [_, _]) rfl rfl rfl) rfl ?_ | refine LOps.pure (Pure.ldHAgg (cs' := [_, _]) rfl (List.Mem.head _) rfl rfl) rfl ?_ | refine LOps.pure (Pure.ldHAgg (cs' := [_, _]) rfl (List.Mem.tail _ (List.Mem.head _)) rfl rfl) rfl ?_ | refine LOps.pure (Pure.ldHAgg (cs' := [_, _]) rfl (List.Mem.tail _ (List.Mem.tail _ (List.Mem.head _))) rfl rfl) rfl ?_ | refine LOps.pure (Pure.ldHAgg (cs' := [_, _]) rfl (List.Mem.tail _ (List.Mem.tail _ (List.Mem.tail _ (List.Mem.head _)))) rfl rfl) rfl ?_ | refine LOps.pure (Pure.ldHAgg (cs' := [_, _]) rfl (List.Mem.tail _ (List.Mem.tail _ (List.Mem.tail _ (List.Mem.tail _ (List.Mem.head _))))) rfl rfl) rfl ?_ | refine LOps.pure (Pure.mv (lv := .list _) rfl) rfl ?_ | refine LOps.pure (Pure.mv (lv := .app _ _ _ _) rfl) rfl ?_ | refine LOps.pure (Pure.fieldH rfl) rfl ?_ | refine LOps.pure (Pure.field1 rfl rfl) rfl ?_ | refine LOps.pure (Pure.loadRef (c := .atom _) rfl rfl) rfl ?_ | refine LOps.pure (Pure.loadH (c := .atom _) rfl (List.Mem.head _) rfl) rfl ?_ | refine LOps.pure (Pure.loadH (c := .atom _) rfl (List.Mem.tail _ (List.Mem.head _)) rfl) rfl ?_ | refine LOps.pure (Pure.loadH (c := .atom _) rfl (List.Mem.tail _ (List.Mem.tail _ (List.Mem.head _))) rfl) rfl ?_ | refine LOps.pure (Pure.loadH (c := .atom _) rfl (List.Mem.tail _ (List.Mem.tail _ (List.Mem.tail _ (List.Mem.head _)))) rfl) rfl ?_ | refine LOps.pure (Pure.loadH (c := .atom _) rfl (List.Mem.tail _ (List.Mem.tail _ (List.Mem.tail _ (List.Mem.tail _ (List.Mem.head _))))) rfl) rfl ?_ | refine LOps.pure (Pure.add rfl rfl (by omega)) rfl ?_ | refine LOps.step (S.store (cs' := [_, _]) rfl Pick.here rfl rfl rfl rfl rfl ?_) rfl | refine LOps.step (S.store (cs' := [_, _]) rfl (Pick.there Pick.here) rfl rfl rfl rfl rfl ?_) rfl | refine LOps.step (S.store (cs' := [_, _]) rfl (Pick.there (Pick.there Pick.here)) rfl rfl rfl rfl rfl ?_) rfl | refine LOps.step (S.store (cs' := [_, _]) rfl (Pick.there (Pick.there (Pick.there Pick.here))) rfl rfl rfl rfl rfl ?_) rfl | refine LOps.step (S.store (cs' := [_, _]) rfl (Pick.there (Pick.there (Pick.there (Pick.there Pick.here)))) rfl rfl rfl rfl rfl ?_) rfl
  refine LOps.step (S.lit [_] rfl (elemsOk.cons rfl rfl elemsOk.nil) rfl rfl rfl ?_) rfl
  refine LOps.step (S.acc1 rfl hacc rfl (by simp; rfl) rfl (by simp; omega) fun v' H' hacc' => ?_) rfl
  refine LOps.pure (Pure.as (lv := v') rfl) rfl ?_
  repeat first | refine LOps.nil ?_ | refine LCode.seq ?_ | refine LCode.region ?_ | refine LCode.skip ?_ | refine LCode.ret ?_ | refine LCode.exit ?_ | refine LCode.block ?_ | refine QThen.normal ?_ | refine QThen.exit ?_ | refine QThen.ret ?_ | refine QBlock.hit ?_ | refine QBlock.miss (by decide) ?_ | refine QBlock.normal ?_ | refine QBlock.ret ?_ | refine LOps.pure (Pure.as (lv := .list _) rfl) rfl ?_ | refine LOps.pure (Pure.as (lv := .app _ _ _ _) rfl) rfl ?_ | refine LOps.pure (Pure.as (lv := .atom _) rfl) rfl ?_ | refine LOps.pure (Pure.mv (lv := .atom _) rfl) rfl ?_ | refine LOps.pure (Pure.llen rfl) rfl ?_ | refine LOps.pure (Pure.lss rfl rfl) rfl ?_ | refine LOps.pure (Pure.ldRefAgg (cs' := [_, _]) rfl rfl rfl) rfl ?_ | refine LOps.pure (Pure.ldHAgg (cs' := [_, _]) rfl (List.Mem.head _) rfl rfl) rfl ?_ | refine LOps.pure (Pure.ldHAgg (cs' := [_, _]) rfl (List.Mem.tail _ (List.Mem.head _)) rfl rfl) rfl ?_ | refine LOps.pure (Pure.ldHAgg (cs' := [_, _]) rfl (List.Mem.tail _ (List.Mem.tail _ (List.Mem.head _))) rfl rfl) rfl ?_ | refine LOps.pure (Pure.ldHAgg (cs' := [_, _]) rfl (List.Mem.tail _ (List.Mem.tail _ (List.Mem.tail _ (List.Mem.head _)))) rfl rfl) rfl ?_ | refine LOps.pure (Pure.ldHAgg (cs' := [_, _]) rfl (List.Mem.tail _ (List.Mem.tail _ (List.Mem.tail _ (List.Mem.tail _ (List.Mem.head _))))) rfl rfl) rfl ?_ | refine LOps.pure (Pure.mv (lv := .list _) rfl) rfl ?_ | refine LOps.pure (Pure.mv (lv := .app _ _ _ _) rfl) rfl ?_ | refine LOps.pure (Pure.fieldH rfl) rfl ?_ | refine LOps.pure (Pure.field1 rfl rfl) rfl ?_ | refine LOps.pure (Pure.loadRef (c := .atom _) rfl rfl) rfl ?_ | refine LOps.pure (Pure.loadH (c := .atom _) rfl (List.Mem.head _) rfl) rfl ?_ | refine LOps.pure (Pure.loadH (c := .atom _) rfl (List.Mem.tail _ (List.Mem.head _)) rfl) rfl ?_ | refine LOps.pure (Pure.loadH (c := .atom _) rfl (List.Mem.tail _ (List.Mem.tail _ (List.Mem.head _))) rfl) rfl ?_ | refine LOps.pure (Pure.loadH (c := .atom _) rfl (List.Mem.tail _ (List.Mem.tail _ (List.Mem.tail _ (List.Mem.head _)))) rfl) rfl ?_ | refine LOps.pure (Pure.loadH (c := .atom _) rfl (List.Mem.tail _ (List.Mem.tail _ (List.Mem.tail _ (List.Mem.tail _ (List.Mem.head _))))) rfl) rfl ?_ | refine LOps.pure (Pure.add rfl rfl (by omega)) rfl ?_ | refine LOps.step (S.store (cs' := [_, _]) rfl Pick.here rfl rfl rfl rfl rfl ?_) rfl | refine LOps.step (S.store (cs' := [_, _]) rfl (Pick.there Pick.here) rfl rfl rfl rfl rfl ?_) rfl | refine LOps.step (S.store (cs' := [_, _]) rfl (Pick.there (Pick.there Pick.here)) rfl rfl rfl rfl rfl ?_) rfl | refine LOps.step (S.store (cs' := [_, _]) rfl (Pick.there (Pick.there (Pick.there Pick.here))) rfl rfl rfl rfl rfl ?_) rfl | refine LOps.step (S.store (cs' := [_, _]) rfl (Pick.there (Pick.there (Pick.there (Pick.there Pick.here)))) rfl rfl rfl rfl rfl ?_) rfl
  exact ⟨_, _, _, by omega, ⟨v', i + 1, by omega, rfl, rfl, by
   rw [List.take_succ_eq_append_getElem hlt, List.map_append, List.map_append]
   exact hacc'⟩, ⟨rfl, rfl, rfl, int_eq (by omega), trivial⟩, HSub.drop (HSub.refl _), hj⟩
 ·have hi' : i = l.length := by have := of_decide_eq_false hc; omega
  subst hi'
  rw [List.take_length] at hacc
  refine LCode.sub (d := 3) (v := v) rfl hacc.sub ?_
  refine LCode.weak (HSub.nil _) ?_
  repeat first | refine LOps.nil ?_ | refine LCode.seq ?_ | refine LCode.region ?_ | refine LCode.skip ?_ | refine LCode.ret ?_ | refine LCode.exit ?_ | refine LCode.block ?_ | refine QThen.normal ?_ | refine QThen.exit ?_ | refine QThen.ret ?_ | refine QBlock.hit ?_ | refine QBlock.miss (by decide) ?_ | refine QBlock.normal ?_ | refine QBlock.ret ?_ | refine LOps.pure (Pure.as (lv := .list _) rfl) rfl ?_ | refine LOps.pure (Pure.as (lv := .app _ _ _ _) rfl) rfl ?_ | refine LOps.pure (Pure.as (lv := .atom _) rfl) rfl ?_ | refine LOps.pure (Pure.mv (lv := .atom _) rfl) rfl ?_ | refine LOps.pure (Pure.llen rfl) rfl ?_ | refine LOps.pure (Pure.lss rfl rfl) rfl ?_ | refine LOps.pure (Pure.ldRefAgg (cs' := [_, _]) rfl rfl rfl) rfl ?_ | refine LOps.pure (Pure.ldHAgg (cs' := [_, _]) rfl (List.Mem.head _) rfl rfl) rfl ?_ | refine LOps.pure (Pure.ldHAgg (cs' := [_, _]) rfl (List.Mem.tail _ (List.Mem.head _)) rfl rfl) rfl ?_ | refine LOps.pure (Pure.ldHAgg (cs' := [_, _]) rfl (List.Mem.tail _ (List.Mem.tail _ (List.Mem.head _))) rfl rfl) rfl ?_ | refine LOps.pure (Pure.ldHAgg (cs' := [_, _]) rfl (List.Mem.tail _ (List.Mem.tail _ (List.Mem.tail _ (List.Mem.head _)))) rfl rfl) rfl ?_ | refine LOps.pure (Pure.ldHAgg (cs' := [_, _]) rfl (List.Mem.tail _ (List.Mem.tail _ (List.Mem.tail _ (List.Mem.tail _ (List.Mem.head _))))) rfl rfl) rfl ?_ | refine LOps.pure (Pure.mv (lv := .list _) rfl) rfl ?_ | refine LOps.pure (Pure.mv (lv := .app _ _ _ _) rfl) rfl ?_ | refine LOps.pure (Pure.fieldH rfl) rfl ?_ | refine LOps.pure (Pure.field1 rfl rfl) rfl ?_ | refine LOps.pure (Pure.loadRef (c := .atom _) rfl rfl) rfl ?_ | refine LOps.pure (Pure.loadH (c := .atom _) rfl (List.Mem.head _) rfl) rfl ?_ | refine LOps.pure (Pure.loadH (c := .atom _) rfl (List.Mem.tail _ (List.Mem.head _)) rfl) rfl ?_ | refine LOps.pure (Pure.loadH (c := .atom _) rfl (List.Mem.tail _ (List.Mem.tail _ (List.Mem.head _))) rfl) rfl ?_ | refine LOps.pure (Pure.loadH (c := .atom _) rfl (List.Mem.tail _ (List.Mem.tail _ (List.Mem.tail _ (List.Mem.head _)))) rfl) rfl ?_ | refine LOps.pure (Pure.loadH (c := .atom _) rfl (List.Mem.tail _ (List.Mem.tail _ (List.Mem.tail _ (List.Mem.tail _ (List.Mem.head _))))) rfl) rfl ?_ | refine LOps.pure (Pure.add rfl rfl (by omega)) rfl ?_ | refine LOps.step (S.store (cs' := [_, _]) rfl Pick.here rfl rfl rfl rfl rfl ?_) rfl | refine LOps.step (S.store (cs' := [_, _]) rfl (Pick.there Pick.here) rfl rfl rfl rfl rfl ?_) rfl | refine LOps.step (S.store (cs' := [_, _]) rfl (Pick.there (Pick.there Pick.here)) rfl rfl rfl rfl rfl ?_) rfl | refine LOps.step (S.store (cs' := [_, _]) rfl (Pick.there (Pick.there (Pick.there Pick.here))) rfl rfl rfl rfl rfl ?_) rfl | refine LOps.step (S.store (cs' := [_, _]) rfl (Pick.there (Pick.there (Pick.there (Pick.there Pick.here)))) rfl rfl rfl rfl rfl ?_) rfl
  exact retRet hj (AllRes.cons (ResIs.tmp (v := .list _) rfl (LV.Sub.refl _)) AllRes.nil) rfl
end
end Go.Proofs.YtdakelgkjdaijaaGreatDoor.Pp
namespace Go.Proofs.YtdakelgkjdaijaaGreatDoor.Pp
open Go.GL Go.RowKit Go.Stele
open Go.Proofs.YtdakelgkjdaijaaGreatDoor.Asm (OptLV OptLV.mk ite_some)
set_option maxRecDepth 100000
set_option maxHeartbeats 4000000
theorem small_tot {l : List Wd} (h : tot l ≤ 1000000) : Small l := ⟨by have := tot_len l; omega, fun w hw => by have := tot_mem hw; omega⟩
attribute [local irreducible] LOps LCode LStep LCalls Go.GL.Pure QThen QBlock RetPost LQ LAny LLate LLateOp
section
variable {B0 : Nat} {w0 : World}
theorem optimize_spec (hG : GW B0 w0) (s : List UInt8) (hs : s.length ≤ 1000000) : LCalls (KC B0 w0) 18 [str s] [] (Ret (.tuple [str (optimizeP s).1, int .i64 (optimizeP s).2])) := by
 refine LCalls.intro Tryz.func18 rfl (n := 21) rfl rfl rfl ?_
 repeat first | refine LOps.nil ?_ | refine LCode.seq ?_ | refine LCode.region ?_ | refine QThen.normal ?_ | refine LOps.pure (Pure.as (lv := .atom _) rfl) rfl ?_ | refine LOps.pure (Pure.mv (lv := .atom _) rfl) rfl ?_ | refine LOps.pure (Pure.slen rfl) rfl ?_ | refine LOps.pure (Pure.gtr rfl rfl) rfl ?_
 refine LCode.cond rfl (fun h1 => ?_) (fun h1 => ?_)
 ·have hlt : 400000 < s.length := by have := of_decide_eq_true h1; omega
  have hO : optimizeP s = ([], 6) := by unfold optimizeP; rw [if_pos hlt]
  repeat first | refine LOps.nil ?_ | refine LCode.seq ?_ | refine LCode.region ?_ | refine LCode.ret ?_ | refine QThen.normal ?_ | refine QThen.ret ?_ | refine LOps.pure (Pure.as (lv := .atom _) rfl) rfl ?_
  exact retRet rfl (AllRes.cons (ResIs.tmp (v := .atom _) rfl (LV.Sub.refl _)) (AllRes.cons (ResIs.tmp (v := .atom _) rfl (LV.Sub.refl _)) AllRes.nil)) (by rw [hO]; rfl)
 have hlt : ¬ 400000 < s.length := by have := of_decide_eq_false h1; omega
 have hO : optimizeP s = (Go.Lib.join (optP (wordsP s)) [32], 0) := by unfold optimizeP; rw [if_neg hlt]
 have ht := words_tot s
 have hc := wordsP_clean s
 repeat first | refine LCode.seq ?_ | refine LCode.region ?_ | refine LCode.skip ?_ | refine QThen.normal ?_ | refine LOps.pure (Pure.mv (lv := .atom _) rfl) rfl ?_
 refine LOps.step (S.fn [_] rfl (words_spec hG s hs) ?_) rfl
 repeat first | refine LOps.nil ?_ | refine LCode.block ?_ | refine QThen.normal ?_ | refine LOps.pure (Pure.as (lv := .list _) rfl) rfl ?_
 refine LCode.loopI (fun k ls H => ∃ l : List Wd, k = l.length ∧ ls = [(4, .list (l.map str))] ∧ H = [] ∧ tot l ≤ 400001 ∧ (∀ w ∈ l, CleanW w) ∧ optP (wordsP s) = optP l)
  ⟨_, _, _, ⟨_, rfl, rfl, rfl, by omega, hc, rfl⟩, ⟨rfl, trivial⟩, HSub.refl _⟩ ?_
 rintro k ls H ⟨l, rfl, rfl, rfl, htl, hcl, hE⟩ j hj
 have h1 := once_spec hG l (small_tot (by omega))
 have h2 := onceP_tot l
 have hcl2 := once_clean hcl
 have hjt := join_tot l
 have hjt2 := join_tot (onceP l)
 have hln := tot_len l
 have hln2 := tot_len (onceP l)
 have hor := onceP_or l
 have j1 := joinS_spec (B0 := B0) (w0 := w0) [32] l (by omega) (by omega)
 have j2 := joinS_spec (B0 := B0) (w0 := w0) [32] (onceP l) (by omega) (by omega)
 repeat first | refine LCode.seq ?_ | refine LCode.region ?_ | refine LCode.block ?_ | refine LOps.pure (Pure.mv (lv := .list _) rfl) rfl ?_
 refine LOps.step (S.fn [_] rfl h1 ?_) rfl
 repeat first | refine LOps.nil ?_ | refine LCode.seq ?_ | refine LCode.region ?_ | refine QThen.normal ?_ | refine LOps.pure (Pure.as (lv := .list _) rfl) rfl ?_ | refine LOps.pure (Pure.mv (lv := .list _) rfl) rfl ?_
 refine LOps.step (S.fn [_, _] rfl j2 ?_) rfl
 repeat first | refine LOps.pure (Pure.mv (lv := .list _) rfl) rfl ?_
 refine LOps.step (S.fn [_, _] rfl j1 ?_) rfl
 repeat first | refine LOps.nil ?_ | refine QThen.normal ?_ | refine LOps.pure (Pure.seq rfl rfl) rfl ?_
 refine LCode.cond rfl (fun h3 => ?_) (fun h3 => ?_)
 ·have he := join_inj hcl2 hcl (of_decide_eq_true h3)
  rw [optP_eq he] at hE
  rw [hE] at hO
  repeat first | refine LCode.seq ?_ | refine LCode.region ?_ | refine LOps.pure (Pure.mv (lv := .list _) rfl) rfl ?_
  refine LOps.step (S.fn [_, _] rfl j1 ?_) rfl
  repeat first | refine LOps.nil ?_ | refine LCode.ret ?_ | refine QThen.normal ?_ | refine QThen.ret ?_ | refine QBlock.ret ?_ | refine LOps.pure (Pure.as (lv := .atom _) rfl) rfl ?_
  exact retRet hj (AllRes.cons (ResIs.tmp (v := .atom _) rfl (LV.Sub.refl _)) (AllRes.cons (ResIs.tmp (v := .atom _) rfl (LV.Sub.refl _)) AllRes.nil)) (by rw [hO]; rfl)
 ·have hne : ¬ onceP l = l := fun h => of_decide_eq_false h3 (by rw [h])
  rw [optP_step hne] at hE
  repeat first | refine LOps.nil ?_ | refine LCode.region ?_ | refine LCode.skip ?_ | refine QThen.normal ?_ | refine QBlock.normal ?_ | refine LOps.pure (Pure.as (lv := .list _) rfl) rfl ?_ | refine LOps.pure (Pure.mv (lv := .list _) rfl) rfl ?_
  exact ⟨_, _, _, by rcases hor with h | h; exact absurd h hne; exact h, ⟨onceP l, rfl, rfl, rfl, by omega, hcl2, hE⟩, ⟨rfl, trivial⟩, HSub.refl _, hj⟩
end
end Go.Proofs.YtdakelgkjdaijaaGreatDoor.Pp
namespace Go.Proofs.YtdakelgkjdaijaaGreatDoor.Pp
open Go.GL Go.RowKit Go.Stele
open Go.Proofs.YtdakelgkjdaijaaGreatDoor.Asm (OptLV OptLV.mk ite_some)
set_option maxRecDepth 100000
set_option maxHeartbeats 4000000
def aliveA : List UInt8 := [50, 32, 51, 32, 43, 32, 48, 32, 94, 32, 46, 32, 36, 32, 55, 32, 46]
def aliveB : List UInt8 := [38, 102, 32, 58, 32, 49, 32, 36, 32, 102, 58, 32, 48, 32, 38, 106, 32, 63, 32, 57, 32, 106, 58, 32, 59]
theorem aliveA_is : optimizeP aliveA = ([53, 32, 46, 32, 36], 0) := by kernel_rfl
theorem aliveB_is : optimizeP aliveB = ([38, 102, 32, 58, 32, 49, 32, 36, 32, 102, 58, 32, 59], 0) := by kernel_rfl
attribute [local irreducible] LOps LCode LStep LCalls Go.GL.Pure QThen QBlock RetPost LQ LAny LLate LLateOp
section
variable {B0 : Nat} {w0 : World}
theorem alive_spec (hG : GW B0 w0) : LCalls (KC B0 w0) 12 [] [] (Ret (bool true)) := by
 have h1 := optimize_spec hG aliveA (by decide)
 rw [aliveA_is] at h1
 have h2 := optimize_spec hG aliveB (by decide)
 rw [aliveB_is] at h2
 refine LCalls.intro Tryz.func12 rfl (n := 27) rfl rfl rfl ?_
 repeat first | refine LOps.nil ?_ | refine LCode.seq ?_ | refine LCode.region ?_ | refine QThen.normal ?_ | refine LOps.pure (Pure.as (lv := .atom _) rfl) rfl ?_
 refine LOps.step (S.fn [_] rfl h1 ?_) rfl
 repeat first | refine LOps.nil ?_ | refine LCode.seq ?_ | refine LCode.region ?_ | refine QThen.normal ?_ | refine LOps.pure (Pure.as (lv := .atom _) rfl) rfl ?_ | refine LOps.pure (Pure.mv (lv := .tuple _) rfl) rfl ?_ | refine LOps.pure (Pure.extract (c := .atom _) rfl rfl) rfl ?_
 refine LOps.step (S.fn [_] rfl h2 ?_) rfl
 repeat first | refine LOps.nil ?_ | refine LCode.seq ?_ | refine LCode.region ?_ | refine LCode.ret ?_ | refine QThen.normal ?_ | refine LOps.pure (Pure.as (lv := .atom _) rfl) rfl ?_ | refine LOps.pure (Pure.mv (lv := .tuple _) rfl) rfl ?_ | refine LOps.pure (Pure.extract (c := .atom _) rfl rfl) rfl ?_ | refine LOps.pure (Pure.mv (lv := .atom _) rfl) rfl ?_ | refine LOps.pure (Pure.seq rfl rfl) rfl ?_ | refine LOps.pure (Pure.eql rfl rfl) rfl ?_ | refine LOps.pure (Pure.pickT (lv := .atom _) rfl rfl) rfl ?_ | refine LOps.want rfl rfl ?_
 exact retRet rfl (AllRes.cons (ResIs.tmp (v := .atom _) rfl (LV.Sub.refl _)) AllRes.nil) rfl
end
end Go.Proofs.YtdakelgkjdaijaaGreatDoor.Pp
namespace Go.GL
open Go.RowKit
def chkStrF (P : Program) (f : Field) (o : Nat) : Bool := f.name != "_" && f.offset == o && (match P.underlying f.type with | some .string => true | _ => false)
def chkI64 (P : Program) (f : Field) (o : Nat) : Bool := f.name != "_" && f.offset == o && (match P.underlying f.type with | some (.int .i64) => true | _ => false)
theorem chkI64_of {P : Program} {f : Field} {o : Nat} (h : chkI64 P f o = true) : f.name ≠ "_" ∧ f.offset = o ∧ P.underlying f.type = some (.int .i64) := by
 unfold chkI64 at h
 simp only [Bool.and_eq_true, bne_iff_ne, beq_iff_eq] at h
 obtain ⟨⟨h1, h2⟩, h3⟩ := h
 refine ⟨h1, h2, ?_⟩
 split at h3
 ·assumption
 ·cases h3
section
variable {C : Ctx} {e : Env} {H : Heap} {dst : Option Nat} {ty : TypeId} {pos : String} {aft : Array Edge} {g : Option (Nat × Bool)} {x y : Operand}
end
theorem LCalls.argsSub {C : Ctx} {f : FuncId} {us bs : List LV} {H : Heap} {R : LRes → Heap → Prop} (hs : SubL us bs) (h : LCalls C f bs H R) : LCalls C f us H R := fun vs w L hr hH => h vs w L (hs.repL hr) hH
end Go.GL
namespace Go.GL
open Go.RowKit
/-- A struct type of three integers. -/
class TInt3 (P : Program) (t : TypeId) : Prop where
 und : P.underlying t = some (.struct (P.fieldsOf t))
 apart : P.stoodInHeld t = false
 guard : P.eqGuardType P.depth t = false
 fields : ∃ f0 f1 f2 : Field, (P.fieldsOf t).toList = [f0, f1, f2] ∧ (f0.name ≠ "_" ∧ f0.offset = 0 ∧ P.underlying f0.type = some (.int .i64)) ∧ (f1.name ≠ "_" ∧ f1.offset = 1 ∧ P.underlying f1.type = some (.int .i64)) ∧ (f2.name ≠ "_" ∧ f2.offset = 2 ∧ P.underlying f2.type = some (.int .i64))
def chkInt3 (P : Program) (t : TypeId) : Bool := (match P.underlying t with | some (.struct _) => true | _ => false) && !P.stoodInHeld t && !P.eqGuardType P.depth t && (match (P.fieldsOf t).toList with | [f0, f1, f2] => chkI64 P f0 0 && chkI64 P f1 1 && chkI64 P f2 2 | _ => false)
theorem TInt3.of {P : Program} {t : TypeId} (h : chkInt3 P t = true) : TInt3 P t := by
 unfold chkInt3 at h
 simp only [Bool.and_eq_true, Bool.not_eq_true'] at h
 obtain ⟨⟨⟨h1, h2⟩, h3⟩, h4⟩ := h
 refine ⟨?_, h2, h3, ?_⟩
 ·split at h1
  ·rename_i fs hu
   rw [hu]
   simp [Program.fieldsOf, hu]
  ·cases h1
 ·split at h4
  ·rename_i f0 f1 f2 hf
   simp only [Bool.and_eq_true] at h4
   exact ⟨f0, f1, f2, hf, chkI64_of h4.1.1, chkI64_of h4.1.2, chkI64_of h4.2⟩
  ·cases h4
section
variable {C : Ctx} {e : Env} {H : Heap} {dst : Option Nat} {ty : TypeId} {pos : String} {aft : Array Edge} {g : Option (Nat × Bool)} {x y : Operand}
theorem agg_int3 {ρ : Operand → Value} {w : World} {L : Live} (h : ∀ x, Rep w L (e.ev x) (ρ x)) {x : Operand} {a i j : Int} (hx : e.ev x = .agg [int .i64 a, int .i64 i, int .i64 j]) : ρ x = .agg #[.int .i64 a, .int .i64 i, .int .i64 j] := by
 have hv := h x
 rw [hx] at hv
 simp only [Rep, RepL, int] at hv
 obtain ⟨vs, h1, v0, r0, e0, rfl, v1, r1, e1, rfl, v2, r2, e2, rfl, e3⟩ := hv
 rw [h1, e0, e1, e2, e3]
end
end Go.GL
namespace Go.GL
open Go.RowKit
section
variable {C : Ctx} {e : Env} {H : Heap} {dst : Option Nat} {ty : TypeId} {pos : String} {aft : Array Edge} {g : Option (Nat × Bool)} {x : Operand}
theorem Pure.field0 {t : TypeId} [h : TInt3 C.P t] {a i j : Int} (hx : e.ev x = .agg [int .i64 a, int .i64 i, int .i64 j]) :
  Pure C ⟨dst, .field t x 0, ty, pos, aft, g⟩ e H (int .i64 a) :=
 .of_any fun ρ _ _ hr => ⟨_, rep_atom, fun w' => by
  have h1 := agg_int3 hr hx
  obtain ⟨f0, f1, f2, hf, ⟨n0, o0, u0⟩, _, _⟩ := h.fields
  have h3 : execOp ρ ⟨dst, .field t x 0, ty, pos, aft, g⟩ = (do Pure.pure (.value (← Instr.field t (ρ x) 0))) := rfl
  have hg : (C.P.fieldsOf t)[0]? = some f0 := by
   rw [← Array.getElem?_toList, hf]
   rfl
  have hp : (part f0.type #[.int .i64 a, .int .i64 i, .int .i64 j] f0.offset).run C.P w' = .ok (.int .i64 a) w' := by
   rw [o0]
   simp [part, isAgg, run_underlying' u0]
  rw [h3, h1]
  simp only [Instr.field, Sem.run_bind, run_underlying' h.und, Result.andThen_ok, hg, asAgg, Sem.run_pure, hp]⟩
end
end Go.GL
namespace Go.Stele
open Go.Lib (decDigits)
/-- As PW.digs, with the exact number of steps. -/
theorem PW.digsX {C : PW} {s : MS} {i : Nat} {w : Wd} (hk : C.Ok s.mem) (h : C.At s i) (hw : C.W[i]? = some w) (hd : defW w = none) (hne : pieceW C.known w ≠ []) (hg : ∀ c ∈ pieceW C.known w, isDigit c = true) (hv : valD 0 (pieceW C.known w) < 4294967296) (hroom : s.data.length < 256) :
  (C.plc i ≤ C.plc (i + 1) ∧ Stp (C.plc (i + 1) - C.plc i) s { s with pc := C.plc (i + 1), data := valD 0 (pieceW C.known w) :: s.data, digit := true }) ∧ lastD (C.pre (i + 1)) = true := by
 obtain ⟨h1, h2, h3⟩ := C.piece hk hw hd
 have hf : firstD (pieceW C.known w) = true := by
  cases hp : pieceW C.known w with
  | nil => exact absurd hp hne
  | cons c r => exact hg c (by rw [hp]; simp)
 have hl : lastD (C.pre (i + 1)) = true := by
  rw [h1, lastD_app hne]
  unfold lastD
  rw [List.getLast?_eq_some_getLast hne]
  exact hg _ (List.getLast_mem hne)
 refine ⟨?_, hl⟩
 obtain ⟨hpc, hdg⟩ := h
 have hplc : C.plc (i + 1) = C.plc i + (if lastD (C.pre i) && firstD (pieceW C.known w) then [32] else [] : Wd).length + (pieceW C.known w).length := by
  unfold PW.plc
  rw [h1, List.length_append, List.length_append]
  omega
 rw [hf, Bool.and_true] at h2 hplc
 refine ⟨by omega, ?_⟩
 by_cases hsp : lastD (C.pre i) = true
 ·rw [if_pos hsp] at h2 hplc
  obtain ⟨m1, m2⟩ := h2.app
  have m0 := m1 0 (by simp)
  simp only [Nat.add_zero, List.getElem_cons_zero] at m0
  simp only [List.length_cons, List.length_nil] at hplc m2
  have hst : stepM s = .run { s with pc := s.pc + 1, digit := false } := by
   unfold stepM
   rw [if_pos (by rw [hpc]; omega), hpc, m0]
   unfold exeM
   rw [if_neg (by decide), if_pos (by decide)]
   rfl
  have hd1 := digs_all (s := { s with pc := s.pc + 1, digit := false }) hne hg rfl hroom (by simp only; rw [hpc]; exact m2) (by simp only; rw [hpc]; omega) hv
  have := (Stp.one hst).trans hd1
  simp only at this
  rw [show C.plc (i + 1) - C.plc i = 1 + (pieceW C.known w).length by omega, hplc, ← hpc]
  exact this
 ·rw [if_neg hsp] at h2 hplc
  rw [List.nil_append] at h2
  have hdf : s.digit = false := by
   cases hx : s.digit with
   | false => rfl
   | true => exact absurd (hdg hx) hsp
  have hd1 := digs_all (s := s) hne hg hdf hroom (by rw [hpc]; exact h2) (by rw [hpc]; simp only [List.length_nil] at hplc; omega) hv
  simp only [List.length_nil, Nat.add_zero] at hplc
  rw [show C.plc (i + 1) - C.plc i = (pieceW C.known w).length by omega, hplc, ← hpc]
  exact hd1
theorem PW.sign_plc {C : PW} {mem : Nat → Nat} {i : Nat} {c : UInt8} (hk : C.Ok mem) (hw : C.W[i]? = some [c]) (hd : defW [c] = none) (hr : refW [c] = none) (hc : isDigit c = false) : C.plc (i + 1) = C.plc i + 1 := by
 obtain ⟨h1, h2, h3⟩ := C.piece hk hw hd
 have hp : pieceW C.known [c] = [c] := by unfold pieceW; rw [hr]
 have hf : firstD [c] = false := hc
 rw [hp, hf, Bool.and_false, if_neg (by decide), List.append_nil] at h1
 unfold PW.plc
 rw [h1, List.length_append]
 rfl
/-- A number: exact steps. -/
theorem PW.numX {C : PW} {s : MS} {i : Nat} (hk : C.Ok s.mem) (h : C.At s i) {n : Nat} (hw : C.W[i]? = some (decDigits n)) (hn : n < 4294967296) (hroom : s.data.length < 256) :
  C.plc i ≤ C.plc (i + 1) ∧ Stp (C.plc (i + 1) - C.plc i) s { s with pc := C.plc (i + 1), data := n :: s.data, digit := true } ∧ C.At { s with pc := C.plc (i + 1), data := n :: s.data, digit := true } (i + 1) := by
 obtain ⟨a1, a2, a3, a4, a5, a6⟩ := dec_num n
 have hp : pieceW C.known (decDigits n) = decDigits n := by unfold pieceW; rw [a2]
 have h1 := C.digsX hk h hw a1 (by rw [hp]; exact decDigits_ne n) (by rw [hp]; exact dec_digits n) (by rw [hp, valD_dec]; exact hn) hroom
 rw [hp, valD_dec] at h1
 exact ⟨h1.1.1, h1.1.2, rfl, fun _ => h1.2⟩
/-- The instructions of a straight program. -/
inductive SI where
 | num (n : Nat)
 | op (c : UInt8)
 | wr
 | ld
 | st
def SI.word : SI → Wd
 | .num n => decDigits n
 | .op c => [c]
 | .wr => [46]
 | .ld => [64]
 | .st => [33]
def SI.ok : SI → Prop
 | .num n => n < 4294967296
 | .op c => isOp c
 | _ => True
/-- Data, memory, output. -/
structure ST where
 data : List Nat
 mem : Nat → Nat
 out : Wd
/-- What an instruction does: none where it must not stand; else the next state, or the output at a division by zero. -/
def SI.exe : SI → ST → Option (ST ⊕ Wd)
 | .num n, t => if t.data.length < 250 then some (.inl { t with data := n :: t.data }) else none
 | .op c, t => match t.data with
  | b :: a :: r => match binM c.toNat a b with
   | some v => some (.inl { t with data := v :: r })
   | none => some (.inr t.out)
  | _ => none
 | .wr, t => match t.data with
  | v :: r => some (.inl { t with data := r, out := t.out ++ [UInt8.ofNat v] })
  | _ => none
 | .ld, t => match t.data with
  | a :: r => if 200000 ≤ a ∧ a < 262144 then some (.inl { t with data := t.mem a :: r }) else none
  | _ => none
 | .st, t => match t.data with
  | a :: v :: r => if 200000 ≤ a ∧ a < 262144 then some (.inl { data := r, mem := fun i => if i = a then v else t.mem i, out := t.out }) else none
  | _ => none
/-- A whole straight program, $ behind it: the error, the output, and how many words were passed. -/
def siR : List SI → ST → Nat → Option (Nat × Wd × Nat)
 | [], t, j => some (0, t.out, j)
 | x :: l, t, j => match x.exe t with
  | some (.inl t') => siR l t' (j + 1)
  | some (.inr o) => some (12, o, j)
  | none => none
def ST.of (s : MS) : ST := ⟨s.data, s.mem, s.out⟩
theorem ok_store {C : PW} {m : Nat → Nat} (hk : C.Ok m) (hlow : C.og + (textA C.known C.W).length ≤ 200000) {a v : Nat} (ha : 200000 ≤ a) : C.Ok fun i => if i = a then v else m i := by
 refine ⟨fun k h => ?_, hk.fits⟩
 have := hk.here k h
 rw [if_neg (by omega)]
 exact this
theorem si_one {C : PW} {s : MS} {i : Nat} (hk : C.Ok s.mem) (h : C.At s i) (hlow : C.og + (textA C.known C.W).length ≤ 200000) {x : SI} (hx : x.ok) (hw : C.W[i]? = some x.word) (hroom : s.data.length ≤ 250) :
  match x.exe (ST.of s) with
  | some (.inl t) => ∃ s', C.plc i ≤ C.plc (i + 1) ∧ Stp (C.plc (i + 1) - C.plc i) s s' ∧ C.At s' (i + 1) ∧ ST.of s' = t ∧ C.Ok s'.mem ∧ s'.data.length ≤ 250
  | some (.inr o) => stepM s = .stop 12 o
  | none => True := by
 have fromX : ∀ {c : UInt8} {s' : MS}, defW [c] = none ∧ refW [c] = none ∧ isDigit c = false → C.W[i]? = some [c] → Stx 1 s s' → s ≠ s' → C.plc i ≤ C.plc (i + 1) ∧ Stp (C.plc (i + 1) - C.plc i) s s' := by
  intro c s' hc hw hS hne
  have hp := PW.sign_plc hk hw hc.1 hc.2.1 hc.2.2
  obtain ⟨k, hk1, hk2⟩ := hS
  rw [hp, Nat.add_sub_cancel_left]
  refine ⟨by omega, ?_⟩
  rcases Nat.lt_or_ge k 1 with h0 | h0
  ·obtain rfl : k = 0 := by omega
   cases hk2
   exact absurd rfl hne
  ·obtain rfl : k = 1 := by omega
   exact hk2
 have hpcne : ∀ {c : UInt8} {s' : MS}, defW [c] = none ∧ refW [c] = none ∧ isDigit c = false → C.W[i]? = some [c] → s'.pc = C.plc (i + 1) → s ≠ s' := by
  intro c s' hc hw hp he
  have hp1 := PW.sign_plc hk hw hc.1 hc.2.1 hc.2.2
  have := h.1
  rw [he, hp] at this
  omega
 cases x with
 | num n =>
  unfold SI.exe ST.of
  simp only
  by_cases hl : s.data.length < 250
  ·rw [if_pos hl]
   simp only
   obtain ⟨a1, a2, a3⟩ := C.numX hk h hw hx (by omega)
   exact ⟨_, a1, a2, a3, rfl, hk, by show (n :: s.data).length ≤ 250; rw [List.length_cons]; omega⟩
  ·rw [if_neg hl]
   trivial
 | op c =>
  have hop : isOp c := hx
  have hw' : C.W[i]? = some [c] := hw
  unfold SI.exe ST.of
  simp only
  match hd : s.data with
  | [] => trivial
  | [_] => trivial
  | b :: a :: r =>
   simp only
   have hr : r.length < 256 := by rw [hd] at hroom; simp only [List.length_cons] at hroom; omega
   cases hv : binM c.toNat a b with
   | none => exact C.opTrap hk h hop hw' hd hv
   | some v =>
    simp only
    have h1 := C.op hk h hop hw' hd hv hr
    obtain ⟨b1, b2⟩ := fromX (op_words hop) hw' h1 (hpcne (op_words hop) hw' rfl)
    exact ⟨_, b1, b2, C.put_at s (i + 1) _, rfl, hk, by show (v :: r).length ≤ 250; rw [hd] at hroom; simp only [List.length_cons] at hroom ⊢; omega⟩
 | wr =>
  have hsw := sign_words (c := 46) (by decide)
  have hw' : C.W[i]? = some [46] := hw
  unfold SI.exe ST.of
  simp only
  match hd : s.data with
  | [] => trivial
  | v :: r =>
   simp only
   have h1 := C.write hk h hw' hd
   obtain ⟨b1, b2⟩ := fromX hsw hw' h1 (hpcne hsw hw' rfl)
   exact ⟨_, b1, b2, ⟨rfl, fun h => by cases h⟩, rfl, hk, by show r.length ≤ 250; rw [hd] at hroom; simp only [List.length_cons] at hroom; omega⟩
 | ld =>
  have hsw := sign_words (c := 64) (by decide)
  have hw' : C.W[i]? = some [64] := hw
  unfold SI.exe ST.of
  simp only
  match hd : s.data with
  | [] => trivial
  | a :: r =>
   simp only
   by_cases ha : 200000 ≤ a ∧ a < 262144
   ·rw [if_pos ha]
    simp only
    have hr : r.length < 256 := by rw [hd] at hroom; simp only [List.length_cons] at hroom; omega
    have h1 := C.load hk h hw' hd ha.2 hr
    obtain ⟨b1, b2⟩ := fromX hsw hw' h1 (hpcne hsw hw' rfl)
    exact ⟨_, b1, b2, C.put_at s (i + 1) _, rfl, hk, by show (s.mem a :: r).length ≤ 250; rw [hd] at hroom; simp only [List.length_cons] at hroom ⊢; omega⟩
   ·rw [if_neg ha]
    trivial
 | st =>
  have hsw := sign_words (c := 33) (by decide)
  have hw' : C.W[i]? = some [33] := hw
  unfold SI.exe ST.of
  simp only
  match hd : s.data with
  | [] => trivial
  | [_] => trivial
  | a :: v :: r =>
   simp only
   by_cases ha : 200000 ≤ a ∧ a < 262144
   ·rw [if_pos ha]
    simp only
    have h1 := C.store hk h hw' hd ha.2
    obtain ⟨b1, b2⟩ := fromX hsw hw' h1 (hpcne hsw hw' rfl)
    exact ⟨_, b1, b2, ⟨rfl, fun h => by cases h⟩, rfl, ok_store hk hlow ha.1, by show r.length ≤ 250; rw [hd] at hroom; simp only [List.length_cons] at hroom; omega⟩
   ·rw [if_neg ha]
    trivial
/-- A straight program on the machine. -/
theorem si_run {C : PW} (hlow : C.og + (textA C.known C.W).length ≤ 200000) : ∀ (l : List SI) {s : MS} {i : Nat} (j : Nat), C.Ok s.mem → C.At s i → (∀ k (h : k < l.length), C.W[i + k]? = some l[k].word) → C.W[i + l.length]? = some [36] → (∀ x ∈ l, x.ok) → s.data.length ≤ 250 →
  match siR l (ST.of s) j with
  | some (e, o, j') => ∃ k s', j' = j + k ∧ C.plc i ≤ C.plc (i + k) ∧ Stp (C.plc (i + k) - C.plc i) s s' ∧ stepM s' = .stop e o
  | none => True
 | [], s, i, j, hk, h, hW, hE, hx, hr => ⟨0, s, rfl, Nat.le_refl _, by rw [Nat.add_zero, Nat.sub_self]; exact .zero s, C.halt hk h hE⟩
 | x :: l, s, i, j, hk, h, hW, hE, hx, hr => by
  simp only [List.length_cons] at hE
  have hw0 := hW 0 (by simp)
  rw [Nat.add_zero, List.getElem_cons_zero] at hw0
  have h1 := si_one hk h hlow (hx x (List.mem_cons_self ..)) hw0 hr
  rw [siR]
  cases he : x.exe (ST.of s) with
  | none => trivial
  | some y =>
   rw [he] at h1
   cases y with
   | inr o =>
    simp only at h1 ⊢
    exact ⟨0, s, rfl, Nat.le_refl _, by rw [Nat.add_zero, Nat.sub_self]; exact .zero s, h1⟩
   | inl t =>
    simp only at h1 ⊢
    obtain ⟨s', a1, a2, a3, rfl, a5, a6⟩ := h1
    have ih := si_run hlow l (j + 1) a5 a3 (fun k hk' => by
     have := hW (k + 1) (by simp only [List.length_cons]; omega)
     rw [List.getElem_cons_succ] at this
     rw [show i + 1 + k = i + (k + 1) by omega]
     exact this) (by rw [show i + 1 + l.length = i + (l.length + 1) by omega]; exact hE) (fun y hy => hx y (List.mem_cons_of_mem _ hy)) a6
    cases hR : siR l (ST.of s') (j + 1) with
    | none => trivial
    | some z =>
     obtain ⟨e, o, j'⟩ := z
     rw [hR] at ih
     simp only at ih ⊢
     obtain ⟨k, s2, b1, b2, b3, b4⟩ := ih
     refine ⟨k + 1, s2, by omega, ?_, ?_, b4⟩
     ·rw [show i + (k + 1) = i + 1 + k by omega]
      omega
     ·rw [show i + (k + 1) = i + 1 + k by omega, show C.plc (i + 1 + k) - C.plc i = (C.plc (i + 1) - C.plc i) + (C.plc (i + 1 + k) - C.plc (i + 1)) by omega]
      exact a2.trans b3
end Go.Stele
namespace Go.Stele
open Go.Lib (decDigits join)
/-- A word that is neither a label nor a reference. -/
structure FlatW (w : Wd) : Prop where
 d : defW w = none
 r : refW w = none
 c : codeW w = true
 p : CleanW w
theorem flat_num (n : Nat) : FlatW (decDigits n) := ⟨(dec_num n).d, (dec_num n).r, (dec_num n).c, dec_clean n⟩
theorem flat_sign {c : UInt8} (h : c ∈ ([43, 45, 42, 47, 37, 94, 60, 64, 33, 63, 58, 59, 44, 46, 36] : Wd)) : FlatW [c] := by
 obtain ⟨a, b, _⟩ := sign_words h
 refine ⟨a, b, ?_, ?_⟩
 ·revert c
  decide
 ·refine ⟨by simp, fun x hx => ?_⟩
  have hall : ∀ y ∈ ([43, 45, 42, 47, 37, 94, 60, 64, 33, 63, 58, 59, 44, 46, 36] : Wd), y ≠ 10 ∧ y ≠ 32 ∧ y ≠ 35 := by decide
  rw [List.mem_singleton.1 hx]
  exact hall c h
theorem errT_flat (all : List Wd) : ∀ (ts : List (Wd × Nat)) (met : List Wd), (∀ p ∈ ts, FlatW p.1) → errT all met ts = (0, 0)
 | [], _, _ => rfl
 | (w, ln) :: r, met, h => by
  have h1 := h (w, ln) (List.mem_cons_self ..)
  rw [errT, h1.d]
  simp only
  rw [h1.r]
  simp only
  rw [if_pos h1.c]
  exact errT_flat all r met fun p hp => h p (List.mem_cons_of_mem _ hp)
theorem lenW_le : ∀ (l : List Wd) (d : Bool), (∀ w ∈ l, FlatW w) → lenW d l ≤ tot l
 | [], _, _ => by simp [lenW, tot]
 | w :: r, d, h => by
  have h1 := h w (List.mem_cons_self ..)
  rw [lenW, h1.d]
  simp only
  rw [h1.r]
  simp only
  rw [tot_cons]
  have := lenW_le r (lastD w) fun x hx => h x (List.mem_cons_of_mem _ hx)
  have h2 : one (d && firstD w) ≤ 1 := by unfold one; split <;> decide
  omega
theorem asm_flat {W : List Wd} (h : ∀ w ∈ W, FlatW w) (hl : tot W ≤ 40000) {og : Nat} (ho : og < 262144) : ∃ (known : Wd → Nat) (labs : List (Wd × Nat)), asmP (join W [32]) og = .ok (textA known W, labs) ∧ (textA known W).length ≤ 40000 := by
 have hw : wordsP (join W [32]) = W := words_join fun w hw => (h w hw).p
 have he : errT (defs W) [] (toksP (join W [32])) = (0, 0) := errT_flat _ _ _ fun p hp => h _ (by
  have := List.mem_map_of_mem (f := (·.1)) hp
  rw [toksP_fst, hw] at this
  exact this)
 have hlen := textA_len (findL (labsA (fun _ => 0) og W)) W fun w hw => (h w hw).p.1
 have hle := lenW_le W false h
 refine ⟨findL (labsA (fun _ => 0) og W), labsA (fun _ => 0) og W, ?_, by omega⟩
 unfold asmP
 rw [if_neg (by omega), hw, he, Int.toNat_natCast, if_neg (by decide), if_neg (by omega)]
theorem si_flat {x : SI} (h : x.ok) : FlatW x.word := by
 cases x with
 | num n => exact flat_num n
 | op c =>
  have hc : isOp c := h
  exact flat_sign (by unfold isOp at hc; rcases hc with rfl | rfl | rfl | rfl | rfl | rfl | rfl <;> decide)
 | wr => exact flat_sign (by decide)
 | ld => exact flat_sign (by decide)
 | st => exact flat_sign (by decide)
theorem si_len {x : SI} (h : x.ok) : x.word.length ≤ 11 := by
 cases x with
 | num n =>
  have hn : n < 4294967296 := h
  exact dec_lenM 10 n (Nat.lt_of_lt_of_le hn (by decide))
 | op c => exact (by decide : (1 : Nat) ≤ 11)
 | wr => exact (by decide : (1 : Nat) ≤ 11)
 | ld => exact (by decide : (1 : Nat) ≤ 11)
 | st => exact (by decide : (1 : Nat) ≤ 11)
theorem si_tot : ∀ (l : List SI), (∀ x ∈ l, x.ok) → tot (l.map SI.word) ≤ 12 * l.length
 | [], _ => by simp [tot]
 | x :: l, h => by
  rw [List.map_cons, tot_cons, List.length_cons]
  have := si_len (h x (List.mem_cons_self ..))
  have := si_tot l fun y hy => h y (List.mem_cons_of_mem _ hy)
  omega
/-- The words of a straight program, with its end. -/
def siW (l : List SI) : List Wd := l.map SI.word ++ [[36]]
theorem siW_flat {l : List SI} (h : ∀ x ∈ l, x.ok) : ∀ w ∈ siW l, FlatW w := fun w hw => by
 rcases List.mem_append.1 hw with h1 | h1
 ·obtain ⟨x, hx, rfl⟩ := List.mem_map.1 h1
  exact si_flat (h x hx)
 ·rw [List.mem_singleton.1 h1]
  exact flat_sign (by decide)
/-- A straight program, assembled and run: its error, its output, and its steps. -/
theorem si_prog {l : List SI} (h : ∀ x ∈ l, x.ok) (hl : l.length ≤ 3000) : ∃ (known : Wd → Nat) (labs : List (Wd × Nat)), asmP (join (siW l) [32]) 10000 = .ok (textA known (siW l), labs) ∧ (textA known (siW l)).length ≤ 40000 ∧
  ∀ (N : Nat) (inp : List Nat), 40001 ≤ N → ∀ (e : Nat) (o : Wd) (j : Nat), siR l ⟨[], loadM (textA known (siW l)) 10000, []⟩ 0 = some (e, o, j) → runM N (startM (textA known (siW l)) 10000 inp) = (e, o, (textA known ((siW l).take j)).length + 1) := by
 have ht := si_tot l h
 have htt : tot (siW l) ≤ 40000 := by
  unfold siW
  rw [tot_app, tot_cons, tot_nil]
  simp only [List.length_cons, List.length_nil]
  omega
 obtain ⟨known, labs, h1, h2⟩ := asm_flat (siW_flat h) htt (og := 10000) (by decide)
 refine ⟨known, labs, h1, h2, fun N inp hN e o j hR => ?_⟩
 have hrun := si_run (C := ⟨siW l, 10000, known⟩) (by show 10000 + (textA known (siW l)).length ≤ 200000; omega) l (s := startM (textA known (siW l)) 10000 inp) (i := 0) 0 ⟨load_in _ _, by show 10000 + (textA known (siW l)).length ≤ 262144; omega⟩ ⟨rfl, fun h => by cases h⟩ (fun k hk => by
  show (siW l)[0 + k]? = _
  unfold siW
  rw [Nat.zero_add, List.getElem?_append_left (by rw [List.length_map]; exact hk), List.getElem?_map, List.getElem?_eq_getElem hk]
  rfl) (by
  show (siW l)[0 + l.length]? = _
  unfold siW
  rw [Nat.zero_add, List.getElem?_append_right (by rw [List.length_map]; exact Nat.le_refl _), List.length_map, Nat.sub_self]
  rfl) h (by show 0 ≤ 250; decide)
 have e0 : ST.of (startM (textA known (siW l)) 10000 inp) = ⟨[], loadM (textA known (siW l)) 10000, []⟩ := rfl
 rw [e0, hR] at hrun
 simp only at hrun
 obtain ⟨k, s', rfl, h3, h4, h5⟩ := hrun
 rw [Nat.zero_add] at h3 h4 ⊢
 have hp : PW.plc ⟨siW l, 10000, known⟩ k - PW.plc ⟨siW l, 10000, known⟩ 0 = (textA known ((siW l).take k)).length := by
  show 10000 + (textA known ((siW l).take k)).length - (10000 + (textA known ((siW l).take 0)).length) = _
  rw [List.take_zero]
  show 10000 + (textA known ((siW l).take k)).length - (10000 + 0) = _
  omega
 rw [hp] at h4
 have hb := PW.pre_le ⟨siW l, 10000, known⟩ k
 have hb2 : 10000 + (textA known ((siW l).take k)).length ≤ 10000 + (textA known (siW l)).length := hb
 have h6 := run_stp h4 (N - (textA known ((siW l).take k)).length)
 rw [show (textA known ((siW l).take k)).length + (N - (textA known ((siW l).take k)).length) = N by omega] at h6
 rw [h6]
 obtain ⟨m, hm⟩ : ∃ m, N - (textA known ((siW l).take k)).length = m + 1 := ⟨N - (textA known ((siW l).take k)).length - 1, by omega⟩
 rw [hm, runM, h5]
 simp only
 rw [Nat.add_comm 1]
end Go.Stele
namespace Go.Stele
open Go.Lib
section
variable {W : List Wd} {ok : Nat → Bool} {w x : Wd} {r : List Wd}
end
/-- What the optimizer computes is what the machine computes. -/
theorem comp_bin {a b n : Nat} {op : Wd} (h : compW a op b = some n) : ∃ c : UInt8, op = [c] ∧ isOp c ∧ binM c.toNat a b = some n := by
 unfold compW at h
 unfold isOp
 split at h
 ·rename_i e; exact ⟨43, e, by decide, h⟩
 split at h
 ·rename_i e; exact ⟨45, e, by decide, h⟩
 split at h
 ·rename_i e; exact ⟨42, e, by decide, h⟩
 split at h
 ·rename_i e; exact ⟨94, e, by decide, h⟩
 split at h
 ·rename_i e; refine ⟨60, e, by decide, ?_⟩; rw [← h]; unfold binM; simp
 split at h
 ·rename_i e; exact ⟨47, e, by decide, h⟩
 split at h
 ·rename_i e; exact ⟨37, e, by decide, h⟩
 ·cases h
end Go.Stele
namespace Go.Stele
open Go.Lib (decDigits join)
theorem dec_len2 {n : Nat} (h : 10 ≤ n) : 2 ≤ (decDigits n).length := by
 rw [decDigits, dif_neg (by omega), List.length_append]
 have := List.length_pos_iff.2 (decDigits_ne (n / 10))
 simp only [List.length_cons, List.length_nil]
 omega
theorem fold_val {a b : Nat} {c : UInt8} (ha : a < 256) (hb : b < 256) (hc : c ∈ ([43, 42, 94, 60, 47, 37] : Wd)) (h0 : ¬ (b = 0 ∧ (c = 47 ∨ c = 37))) :
  ∃ v, compW a [c] b = some v ∧ v < 65536 ∧ (decDigits v).length ≤ (decDigits a).length + (decDigits b).length + 1 := by
 have la := List.length_pos_iff.2 (decDigits_ne a)
 have lb := List.length_pos_iff.2 (decDigits_ne b)
 have key : ∀ v, v < 65536 → (a < 10 → b < 10 → v < 1000) → (a < 10 ∨ b < 10 → v < 10000) → (decDigits v).length ≤ (decDigits a).length + (decDigits b).length + 1 := by
  intro v h1 h2 h3
  by_cases xa : a < 10
  ·by_cases xb : b < 10
   ·have := dec_lenM 2 v (h2 xa xb)
    omega
   ·have := dec_lenM 3 v (h3 (.inl xa))
    have := dec_len2 (Nat.le_of_not_lt xb)
    omega
  ·have l2 := dec_len2 (Nat.le_of_not_lt xa)
   by_cases xb : b < 10
   ·have := dec_lenM 3 v (h3 (.inr xb))
    omega
   ·have := dec_lenM 4 v (Nat.lt_trans h1 (by decide))
    have := dec_len2 (Nat.le_of_not_lt xb)
    omega
 have hm : a * b ≤ 65025 := Nat.le_trans (Nat.mul_le_mul (show a ≤ 255 by omega) (show b ≤ 255 by omega)) (by decide)
 have hx : a ^^^ b < 256 := Nat.xor_lt_two_pow (n := 8) ha hb
 simp only [List.mem_cons, List.not_mem_nil, or_false] at hc
 unfold compW
 rcases hc with rfl | rfl | rfl | rfl | rfl | rfl
 ·rw [if_pos rfl]
  exact ⟨_, rfl, by omega, key _ (by omega) (fun _ _ => by omega) (fun _ => by omega)⟩
 ·rw [if_neg (by decide), if_neg (by decide), if_pos rfl, Nat.mod_eq_of_lt (by omega)]
  refine ⟨_, rfl, by omega, key _ (by omega) (fun x y => ?_) (fun h => ?_)⟩
  ·have := Nat.mul_le_mul (show a ≤ 9 by omega) (show b ≤ 9 by omega)
   omega
  ·rcases h with h | h
   ·have := Nat.mul_le_mul (show a ≤ 9 by omega) (show b ≤ 255 by omega)
    omega
   ·have := Nat.mul_le_mul (show a ≤ 255 by omega) (show b ≤ 9 by omega)
    omega
 ·rw [if_neg (by decide), if_neg (by decide), if_neg (by decide), if_pos rfl]
  exact ⟨_, rfl, by omega, key _ (by omega) (fun _ _ => by omega) (fun _ => by omega)⟩
 ·rw [if_neg (by decide), if_neg (by decide), if_neg (by decide), if_neg (by decide), if_pos rfl]
  refine ⟨_, rfl, ?_, key _ ?_ (fun _ _ => ?_) (fun _ => ?_)⟩ <;> (split <;> decide)
 ·have hb0 : b ≠ 0 := fun e => h0 ⟨e, .inl rfl⟩
  rw [if_neg (by decide), if_neg (by decide), if_neg (by decide), if_neg (by decide), if_neg (by decide), if_pos rfl, if_neg hb0]
  have := Nat.div_le_self a b
  exact ⟨_, rfl, by omega, key _ (by omega) (fun _ _ => by omega) (fun _ => by omega)⟩
 ·have hb0 : b ≠ 0 := fun e => h0 ⟨e, .inr rfl⟩
  rw [if_neg (by decide), if_neg (by decide), if_neg (by decide), if_neg (by decide), if_neg (by decide), if_neg (by decide), if_pos rfl, if_neg hb0]
  have := Nat.mod_le a b
  exact ⟨_, rfl, by omega, key _ (by omega) (fun _ _ => by omega) (fun _ => by omega)⟩
/-- Once folds an operation on two constants. -/
theorem once_fold {a b v : Nat} {c : UInt8} (ha : a < 256) (hb : b < 256) (hv : compW a [c] b = some v) (hl : (decDigits v).length ≤ (decDigits a).length + (decDigits b).length + 1) : onceP [decDigits a, decDigits b, [c]] = [decDigits v] := by
 have h1 : rFold [decDigits a, decDigits b, [c]] = (3, [decDigits v]) := by
  unfold rFold joinedW
  show (match (match numW (decDigits a), numW (decDigits b) with
   | some a', some b' => (match compW a' [c] b' with
    | some x => if (decDigits x).length ≤ (decDigits a).length + (decDigits b).length + 1 then some (decDigits x) else none
    | none => none)
   | _, _ => none) with
   | some s => ((3, [s]) : RuleW)
   | none => (0, [])) = _
  rw [numW_dec (show a < 4294967296 by omega), numW_dec (show b < 4294967296 by omega)]
  simp only
  rw [hv]
  simp only
  rw [if_pos hl]
 have h2 : ∀ u, ruleW u [decDigits a, decDigits b, [c]] = (3, [decDigits v]) := fun u => by
  unfold ruleW
  rw [h1, if_pos (show (3 : Nat) ≠ 0 by decide)]
 unfold onceP
 show onceF _ (2 + 1) _ = _
 rw [onceF, h2, if_neg (show ¬ (3 : Nat) = 0 by decide)]
 rfl
/-- The program that computes, and the program of the constant. -/
def foldC (a b : Nat) (c : UInt8) : List SI := [.num a, .num b, .op c, .num 256, .op 47, .wr, .num a, .num b, .op c, .wr]
def foldD (v : Nat) : List SI := [.num v, .num 256, .op 47, .wr, .num v, .wr]
theorem foldC_run {a b v : Nat} {c : UInt8} (hv : binM c.toNat a b = some v) (m : Nat → Nat) : siR (foldC a b c) ⟨[], m, []⟩ 0 = some (0, [UInt8.ofNat (v / 256), UInt8.ofNat v], 10) := by
 have h47 : binM (47 : UInt8).toNat v 256 = some (v / 256) := rfl
 simp only [foldC, siR, SI.exe, hv, h47, List.nil_append, List.cons_append, Nat.zero_add, Nat.reduceAdd, List.length_cons, List.length_nil, Nat.reduceLT, if_true]
theorem foldD_run (v : Nat) (m : Nat → Nat) : siR (foldD v) ⟨[], m, []⟩ 0 = some (0, [UInt8.ofNat (v / 256), UInt8.ofNat v], 6) := by
 have h47 : binM (47 : UInt8).toNat v 256 = some (v / 256) := rfl
 simp only [foldD, siR, SI.exe, h47, List.nil_append, List.cons_append, Nat.zero_add, Nat.reduceAdd, List.length_cons, List.length_nil, Nat.reduceLT, if_true]
theorem fold_law {a b : Nat} {c : UInt8} (ha : a < 256) (hb : b < 256) (hc : c ∈ ([43, 42, 94, 60, 47, 37] : Wd)) (h0 : ¬ (b = 0 ∧ (c = 47 ∨ c = 37))) :
  ∃ v o, v < 65536 ∧ o = [UInt8.ofNat (v / 256), UInt8.ofNat v] ∧ onceP [decDigits a, decDigits b, [c]] = [decDigits v] ∧
   (∃ x labs k, asmP (join (siW (foldC a b c)) [32]) 10000 = .ok (x, labs) ∧ x.length ≤ 40000 ∧ runM 5000000 (startM x 10000 []) = (0, o, k)) ∧
   (∃ x labs k, asmP (join (siW (foldD v)) [32]) 10000 = .ok (x, labs) ∧ x.length ≤ 40000 ∧ runM 5000000 (startM x 10000 []) = (0, o, k)) := by
 obtain ⟨v, h1, h2, h3⟩ := fold_val ha hb hc h0
 obtain ⟨c', e1, e2, e3⟩ := comp_bin h1
 have : c = c' := by injection e1
 subst this
 refine ⟨v, _, h2, rfl, once_fold ha hb h1 h3, ?_, ?_⟩
 ·obtain ⟨kn, labs, a1, a2, a3⟩ := si_prog (l := foldC a b c) (fun x hx => by
   simp only [foldC, List.mem_cons, List.not_mem_nil, or_false] at hx
   rcases hx with rfl | rfl | rfl | rfl | rfl | rfl | rfl | rfl | rfl | rfl
   ·show a < 4294967296; omega
   ·show b < 4294967296; omega
   ·exact e2
   ·show 256 < 4294967296; decide
   ·exact .inr (.inr (.inr (.inl rfl)))
   ·trivial
   ·show a < 4294967296; omega
   ·show b < 4294967296; omega
   ·exact e2
   ·trivial) (by show 10 ≤ 3000; decide)
  exact ⟨_, labs, _, a1, a2, a3 5000000 [] (by decide) 0 _ 10 (foldC_run e3 _)⟩
 ·obtain ⟨kn, labs, a1, a2, a3⟩ := si_prog (l := foldD v) (fun x hx => by
   simp only [foldD, List.mem_cons, List.not_mem_nil, or_false] at hx
   rcases hx with rfl | rfl | rfl | rfl | rfl | rfl
   ·show v < 4294967296; omega
   ·show 256 < 4294967296; decide
   ·exact .inr (.inr (.inr (.inl rfl)))
   ·trivial
   ·show v < 4294967296; omega
   ·trivial) (by show 6 ≤ 3000; decide)
  exact ⟨_, labs, _, a1, a2, a3 5000000 [] (by decide) 0 _ 6 (foldD_run v _)⟩
end Go.Stele
namespace Go.Proofs.YtdakelgkjdaijaaGreatDoor.Pp
open Go.GL Go.RowKit Go.Stele
open Go.Proofs.YtdakelgkjdaijaaGreatDoor.Inp (u32)
open Go.Proofs.YtdakelgkjdaijaaGreatDoor.Mch (mchLV mrun_spec txtLV us)
open Go.Proofs.YtdakelgkjdaijaaGreatDoor.Asm (asmLV)
open Go.Proofs.YtdakelgkjdaijaaGreatDoor.Cmp (defO orgLV defaults_spec)
open Go.Lib (decDigits join)
set_option maxRecDepth 100000
set_option maxHeartbeats 4000000
instance : TInt3 Tryz.prog 36 := .of (by kernel_rfl)
theorem dec256 : decDigits 256 = [50, 53, 54] := by
 rw [decDigits, dif_neg (by decide), decDigits, dif_neg (by decide), decDigits, dif_pos (by decide)]
 rfl
attribute [local irreducible] LOps LCode LStep LCalls Go.GL.Pure QThen QBlock RetPost LQ LAny LLate LLateOp LS
section
variable {B0 : Nat} {w0 : World}
theorem run24_spec (hG : GW B0 w0) {src x : Wd} {labs : List (Wd × Nat)} {inp : List Nat} (hs : src.length ≤ 300000000) (hx : asmP src 10000 = .ok (x, labs)) (hl : x.length ≤ 40000) (hin : ∀ v ∈ inp, v < 4294967296) :
  LCalls (KC B0 w0) 15 [str src, .list (us inp)] [] (Ret (mchLV (runM 5000000 (startM x 10000 inp)))) := by
 have hrun := mrun_spec (B0 := B0) (w0 := w0) (code := x) (og := 10000) (by omega) (by decide) hin (steps := 5000000) (by decide) (by decide)
 have has := Asm.assemble_spec (B0 := B0) (w0 := w0) hG.base hG.mx src 10000 hs
 rw [hx] at has
 have hd := defaults_spec (B0 := B0) (w0 := w0)
 have eD : orgLV defO = .agg [int .i64 10000, int .i64 0, int .i64 100000] := rfl
 rw [eD] at hd
 generalize runM 5000000 (startM x 10000 inp) = R at hrun ⊢
 unfold mchLV at hrun ⊢
 unfold txtLV at hrun
 unfold asmLV at has
 simp only at has
 refine LCalls.intro Tryz.func15 rfl (n := 30) rfl rfl rfl ?_
 repeat first | refine LOps.nil ?_ | refine LCode.seq ?_ | refine LCode.region ?_ | refine LCode.skip ?_ | refine LCode.ret ?_ | refine LCode.exit ?_ | refine LCode.block ?_ | refine QThen.normal ?_ | refine QThen.exit ?_ | refine QThen.ret ?_ | refine QBlock.hit ?_ | refine QBlock.miss (by decide) ?_ | refine QBlock.normal ?_ | refine QBlock.ret ?_ | refine LOps.pure (Pure.as (lv := .atom _) rfl) rfl ?_ | refine LOps.pure (Pure.mv (lv := .atom _) rfl) rfl ?_ | refine LOps.pure (Pure.mv (lv := .tuple _) rfl) rfl ?_ | refine LOps.pure (Pure.extract (c := .atom _) rfl rfl) rfl ?_ | refine LOps.pure (Pure.extract (c := .list _) rfl rfl) rfl ?_ | refine LOps.pure (Pure.extract (c := .app _ _ _ _) rfl rfl) rfl ?_ | refine LOps.pure (Pure.as (lv := .list _) rfl) rfl ?_ | refine LOps.pure (Pure.as (lv := .app _ _ _ _) rfl) rfl ?_ | refine LOps.pure (Pure.neq rfl rfl) rfl ?_ | refine LOps.pure (Pure.bld _ (cs := [_, _, _]) rfl) rfl ?_ | refine LOps.pure (Pure.bld _ (cs := [_, _]) rfl) rfl ?_ | refine LOps.pure (Pure.mv (lv := .list _) rfl) rfl ?_ | refine LOps.pure (Pure.mv (lv := .app _ _ _ _) rfl) rfl ?_ | refine LOps.step (S.store (cs' := [_, _, _]) rfl Pick.here rfl rfl rfl rfl rfl ?_) rfl | refine LOps.step (S.store (cs' := [_, _, _]) rfl (Pick.there Pick.here) rfl rfl rfl rfl rfl ?_) rfl | refine LOps.step (S.store (cs' := [_, _, _]) rfl (Pick.there (Pick.there Pick.here)) rfl rfl rfl rfl rfl ?_) rfl
 refine LOps.step (S.alloc fun b4 => ?_) rfl
 repeat first | refine LOps.nil ?_ | refine LCode.seq ?_ | refine LCode.region ?_ | refine LCode.skip ?_ | refine LCode.ret ?_ | refine LCode.exit ?_ | refine LCode.block ?_ | refine QThen.normal ?_ | refine QThen.exit ?_ | refine QThen.ret ?_ | refine QBlock.hit ?_ | refine QBlock.miss (by decide) ?_ | refine QBlock.normal ?_ | refine QBlock.ret ?_ | refine LOps.pure (Pure.as (lv := .atom _) rfl) rfl ?_ | refine LOps.pure (Pure.mv (lv := .atom _) rfl) rfl ?_ | refine LOps.pure (Pure.mv (lv := .tuple _) rfl) rfl ?_ | refine LOps.pure (Pure.extract (c := .atom _) rfl rfl) rfl ?_ | refine LOps.pure (Pure.extract (c := .list _) rfl rfl) rfl ?_ | refine LOps.pure (Pure.extract (c := .app _ _ _ _) rfl rfl) rfl ?_ | refine LOps.pure (Pure.as (lv := .list _) rfl) rfl ?_ | refine LOps.pure (Pure.as (lv := .app _ _ _ _) rfl) rfl ?_ | refine LOps.pure (Pure.neq rfl rfl) rfl ?_ | refine LOps.pure (Pure.bld _ (cs := [_, _, _]) rfl) rfl ?_ | refine LOps.pure (Pure.bld _ (cs := [_, _]) rfl) rfl ?_ | refine LOps.pure (Pure.mv (lv := .list _) rfl) rfl ?_ | refine LOps.pure (Pure.mv (lv := .app _ _ _ _) rfl) rfl ?_ | refine LOps.step (S.store (cs' := [_, _, _]) rfl Pick.here rfl rfl rfl rfl rfl ?_) rfl | refine LOps.step (S.store (cs' := [_, _, _]) rfl (Pick.there Pick.here) rfl rfl rfl rfl rfl ?_) rfl | refine LOps.step (S.store (cs' := [_, _, _]) rfl (Pick.there (Pick.there Pick.here)) rfl rfl rfl rfl rfl ?_) rfl
 refine LOps.step (S.fn [] rfl hd ?_) rfl
 refine LOps.pure (Pure.field0 rfl) rfl ?_
 repeat first | refine LOps.nil ?_ | refine LCode.seq ?_ | refine LCode.region ?_ | refine LCode.skip ?_ | refine LCode.ret ?_ | refine LCode.exit ?_ | refine LCode.block ?_ | refine QThen.normal ?_ | refine QThen.exit ?_ | refine QThen.ret ?_ | refine QBlock.hit ?_ | refine QBlock.miss (by decide) ?_ | refine QBlock.normal ?_ | refine QBlock.ret ?_ | refine LOps.pure (Pure.as (lv := .atom _) rfl) rfl ?_ | refine LOps.pure (Pure.mv (lv := .atom _) rfl) rfl ?_ | refine LOps.pure (Pure.mv (lv := .tuple _) rfl) rfl ?_ | refine LOps.pure (Pure.extract (c := .atom _) rfl rfl) rfl ?_ | refine LOps.pure (Pure.extract (c := .list _) rfl rfl) rfl ?_ | refine LOps.pure (Pure.extract (c := .app _ _ _ _) rfl rfl) rfl ?_ | refine LOps.pure (Pure.as (lv := .list _) rfl) rfl ?_ | refine LOps.pure (Pure.as (lv := .app _ _ _ _) rfl) rfl ?_ | refine LOps.pure (Pure.neq rfl rfl) rfl ?_ | refine LOps.pure (Pure.bld _ (cs := [_, _, _]) rfl) rfl ?_ | refine LOps.pure (Pure.bld _ (cs := [_, _]) rfl) rfl ?_ | refine LOps.pure (Pure.mv (lv := .list _) rfl) rfl ?_ | refine LOps.pure (Pure.mv (lv := .app _ _ _ _) rfl) rfl ?_ | refine LOps.step (S.store (cs' := [_, _, _]) rfl Pick.here rfl rfl rfl rfl rfl ?_) rfl | refine LOps.step (S.store (cs' := [_, _, _]) rfl (Pick.there Pick.here) rfl rfl rfl rfl rfl ?_) rfl | refine LOps.step (S.store (cs' := [_, _, _]) rfl (Pick.there (Pick.there Pick.here)) rfl rfl rfl rfl rfl ?_) rfl
 refine LOps.step (S.fn [_, _] rfl has ?_) rfl
 repeat first | refine LOps.nil ?_ | refine LCode.seq ?_ | refine LCode.region ?_ | refine LCode.skip ?_ | refine LCode.ret ?_ | refine LCode.exit ?_ | refine LCode.block ?_ | refine QThen.normal ?_ | refine QThen.exit ?_ | refine QThen.ret ?_ | refine QBlock.hit ?_ | refine QBlock.miss (by decide) ?_ | refine QBlock.normal ?_ | refine QBlock.ret ?_ | refine LOps.pure (Pure.as (lv := .atom _) rfl) rfl ?_ | refine LOps.pure (Pure.mv (lv := .atom _) rfl) rfl ?_ | refine LOps.pure (Pure.mv (lv := .tuple _) rfl) rfl ?_ | refine LOps.pure (Pure.extract (c := .atom _) rfl rfl) rfl ?_ | refine LOps.pure (Pure.extract (c := .list _) rfl rfl) rfl ?_ | refine LOps.pure (Pure.extract (c := .app _ _ _ _) rfl rfl) rfl ?_ | refine LOps.pure (Pure.as (lv := .list _) rfl) rfl ?_ | refine LOps.pure (Pure.as (lv := .app _ _ _ _) rfl) rfl ?_ | refine LOps.pure (Pure.neq rfl rfl) rfl ?_ | refine LOps.pure (Pure.bld _ (cs := [_, _, _]) rfl) rfl ?_ | refine LOps.pure (Pure.bld _ (cs := [_, _]) rfl) rfl ?_ | refine LOps.pure (Pure.mv (lv := .list _) rfl) rfl ?_ | refine LOps.pure (Pure.mv (lv := .app _ _ _ _) rfl) rfl ?_ | refine LOps.step (S.store (cs' := [_, _, _]) rfl Pick.here rfl rfl rfl rfl rfl ?_) rfl | refine LOps.step (S.store (cs' := [_, _, _]) rfl (Pick.there Pick.here) rfl rfl rfl rfl rfl ?_) rfl | refine LOps.step (S.store (cs' := [_, _, _]) rfl (Pick.there (Pick.there Pick.here)) rfl rfl rfl rfl rfl ?_) rfl
 refine LCode.cond rfl (fun hc => by cases hc) (fun _ => ?_)
 repeat first | refine LOps.nil ?_ | refine LCode.seq ?_ | refine LCode.region ?_ | refine LCode.skip ?_ | refine LCode.ret ?_ | refine LCode.exit ?_ | refine LCode.block ?_ | refine QThen.normal ?_ | refine QThen.exit ?_ | refine QThen.ret ?_ | refine QBlock.hit ?_ | refine QBlock.miss (by decide) ?_ | refine QBlock.normal ?_ | refine QBlock.ret ?_ | refine LOps.pure (Pure.as (lv := .atom _) rfl) rfl ?_ | refine LOps.pure (Pure.mv (lv := .atom _) rfl) rfl ?_ | refine LOps.pure (Pure.mv (lv := .tuple _) rfl) rfl ?_ | refine LOps.pure (Pure.extract (c := .atom _) rfl rfl) rfl ?_ | refine LOps.pure (Pure.extract (c := .list _) rfl rfl) rfl ?_ | refine LOps.pure (Pure.extract (c := .app _ _ _ _) rfl rfl) rfl ?_ | refine LOps.pure (Pure.as (lv := .list _) rfl) rfl ?_ | refine LOps.pure (Pure.as (lv := .app _ _ _ _) rfl) rfl ?_ | refine LOps.pure (Pure.neq rfl rfl) rfl ?_ | refine LOps.pure (Pure.bld _ (cs := [_, _, _]) rfl) rfl ?_ | refine LOps.pure (Pure.bld _ (cs := [_, _]) rfl) rfl ?_ | refine LOps.pure (Pure.mv (lv := .list _) rfl) rfl ?_ | refine LOps.pure (Pure.mv (lv := .app _ _ _ _) rfl) rfl ?_ | refine LOps.step (S.store (cs' := [_, _, _]) rfl Pick.here rfl rfl rfl rfl rfl ?_) rfl | refine LOps.step (S.store (cs' := [_, _, _]) rfl (Pick.there Pick.here) rfl rfl rfl rfl rfl ?_) rfl | refine LOps.step (S.store (cs' := [_, _, _]) rfl (Pick.there (Pick.there Pick.here)) rfl rfl rfl rfl rfl ?_) rfl
 refine LOps.step (S.lit [_] rfl (elemsOk.cons rfl rfl elemsOk.nil) rfl rfl rfl ?_) rfl
 repeat first | refine LOps.nil ?_ | refine LCode.seq ?_ | refine LCode.region ?_ | refine LCode.skip ?_ | refine LCode.ret ?_ | refine LCode.exit ?_ | refine LCode.block ?_ | refine QThen.normal ?_ | refine QThen.exit ?_ | refine QThen.ret ?_ | refine QBlock.hit ?_ | refine QBlock.miss (by decide) ?_ | refine QBlock.normal ?_ | refine QBlock.ret ?_ | refine LOps.pure (Pure.as (lv := .atom _) rfl) rfl ?_ | refine LOps.pure (Pure.mv (lv := .atom _) rfl) rfl ?_ | refine LOps.pure (Pure.mv (lv := .tuple _) rfl) rfl ?_ | refine LOps.pure (Pure.extract (c := .atom _) rfl rfl) rfl ?_ | refine LOps.pure (Pure.extract (c := .list _) rfl rfl) rfl ?_ | refine LOps.pure (Pure.extract (c := .app _ _ _ _) rfl rfl) rfl ?_ | refine LOps.pure (Pure.as (lv := .list _) rfl) rfl ?_ | refine LOps.pure (Pure.as (lv := .app _ _ _ _) rfl) rfl ?_ | refine LOps.pure (Pure.neq rfl rfl) rfl ?_ | refine LOps.pure (Pure.bld _ (cs := [_, _, _]) rfl) rfl ?_ | refine LOps.pure (Pure.bld _ (cs := [_, _]) rfl) rfl ?_ | refine LOps.pure (Pure.mv (lv := .list _) rfl) rfl ?_ | refine LOps.pure (Pure.mv (lv := .app _ _ _ _) rfl) rfl ?_ | refine LOps.step (S.store (cs' := [_, _, _]) rfl Pick.here rfl rfl rfl rfl rfl ?_) rfl | refine LOps.step (S.store (cs' := [_, _, _]) rfl (Pick.there Pick.here) rfl rfl rfl rfl rfl ?_) rfl | refine LOps.step (S.store (cs' := [_, _, _]) rfl (Pick.there (Pick.there Pick.here)) rfl rfl rfl rfl rfl ?_) rfl
 refine LOps.step (S.fn [_, _, _, _] rfl hrun ?_) rfl
 repeat first | refine LOps.nil ?_ | refine LCode.seq ?_ | refine LCode.region ?_ | refine LCode.skip ?_ | refine LCode.ret ?_ | refine LCode.exit ?_ | refine LCode.block ?_ | refine QThen.normal ?_ | refine QThen.exit ?_ | refine QThen.ret ?_ | refine QBlock.hit ?_ | refine QBlock.miss (by decide) ?_ | refine QBlock.normal ?_ | refine QBlock.ret ?_ | refine LOps.pure (Pure.as (lv := .atom _) rfl) rfl ?_ | refine LOps.pure (Pure.mv (lv := .atom _) rfl) rfl ?_ | refine LOps.pure (Pure.mv (lv := .tuple _) rfl) rfl ?_ | refine LOps.pure (Pure.extract (c := .atom _) rfl rfl) rfl ?_ | refine LOps.pure (Pure.extract (c := .list _) rfl rfl) rfl ?_ | refine LOps.pure (Pure.extract (c := .app _ _ _ _) rfl rfl) rfl ?_ | refine LOps.pure (Pure.as (lv := .list _) rfl) rfl ?_ | refine LOps.pure (Pure.as (lv := .app _ _ _ _) rfl) rfl ?_ | refine LOps.pure (Pure.neq rfl rfl) rfl ?_ | refine LOps.pure (Pure.bld _ (cs := [_, _, _]) rfl) rfl ?_ | refine LOps.pure (Pure.bld _ (cs := [_, _]) rfl) rfl ?_ | refine LOps.pure (Pure.mv (lv := .list _) rfl) rfl ?_ | refine LOps.pure (Pure.mv (lv := .app _ _ _ _) rfl) rfl ?_ | refine LOps.step (S.store (cs' := [_, _, _]) rfl Pick.here rfl rfl rfl rfl rfl ?_) rfl | refine LOps.step (S.store (cs' := [_, _, _]) rfl (Pick.there Pick.here) rfl rfl rfl rfl rfl ?_) rfl | refine LOps.step (S.store (cs' := [_, _, _]) rfl (Pick.there (Pick.there Pick.here)) rfl rfl rfl rfl rfl ?_) rfl
 exact retRet rfl (AllRes.cons (ResIs.cellAgg rfl (List.Mem.head _) rfl (LV.Sub.refl _)) AllRes.nil) rfl
/-- The same without input. -/
theorem run24_nil (hG : GW B0 w0) {src x : Wd} {labs : List (Wd × Nat)} (hs : src.length ≤ 300000000) (hx : asmP src 10000 = .ok (x, labs)) (hl : x.length ≤ 40000) :
  LCalls (KC B0 w0) 15 [str src, nilSlice] [] (Ret (mchLV (runM 5000000 (startM x 10000 [])))) :=
 LCalls.argsSub (us := [str src, nilSlice]) (bs := [str src, .list (Go.Proofs.YtdakelgkjdaijaaGreatDoor.Mch.us [])]) ⟨LV.Sub.refl _, LV.Sub.nil, trivial⟩ (run24_spec hG (inp := []) hs hx hl (fun v hv => by cases hv))
/-- The operations that are drawn. -/
def foldOps' : List Wd := [[43], [42], [94], [60], [47], [37]]
def foldOps : Wd := [43, 42, 94, 60, 47, 37]
theorem folding_walk (hG : GW B0 w0) {a b op : Nat} (ha : a < 256) (hb : b < 256) (hop : op < 256) : LCalls (KC B0 w0) 4 [int .u8 a, int .u8 b, int .u8 op] [] (Ret (bool true)) := by
 have hal := alive_spec hG
 have hi1 := itoa_spec hG.base a (by omega)
 have hi2 := itoa_spec hG.base b (by omega)
 have hlt : op % 6 < foldOps.length := by show op % 6 < 6; omega
 have hmem : foldOps[op % 6] ∈ foldOps := List.getElem_mem hlt
 have hget : ([str [43], str [42], str [94], str [60], str [47], str [37]] : List LV)[((op : Int) % 6).toNat]? = some (str [foldOps[op % 6]]) := by
  have e : ((op : Int) % 6).toNat = op % 6 := by omega
  rw [e]
  have := map_get (fun c => str [c]) foldOps (op % 6) hlt
  rw [Int.toNat_natCast] at this
  exact this
 generalize foldOps[op % 6] = c at hmem hget
 refine LCalls.intro Tryz.func4 rfl (n := 90) rfl rfl rfl ?_
 repeat first | refine LOps.nil ?_ | refine LCode.seq ?_ | refine LCode.region ?_ | refine LCode.skip ?_ | refine LCode.ret ?_ | refine LCode.exit ?_ | refine LCode.block ?_ | refine QThen.normal ?_ | refine QThen.exit ?_ | refine QThen.ret ?_ | refine QBlock.hit ?_ | refine QBlock.miss (by decide) ?_ | refine QBlock.normal ?_ | refine QBlock.ret ?_ | refine LOps.pure (Pure.as (lv := .atom _) rfl) rfl ?_ | refine LOps.pure (Pure.not rfl) rfl ?_ | refine LOps.pure (Pure.mv (lv := .atom _) rfl) rfl ?_ | refine LOps.pure (Pure.cvt rfl) rfl ?_ | refine LOps.pure (Pure.loadRef (c := .atom _) rfl rfl) rfl ?_ | refine LOps.pure (Pure.loadH (c := .atom _) rfl (List.Mem.head _) rfl) rfl ?_ | refine LOps.pure (Pure.loadH (c := .atom _) rfl (List.Mem.tail _ (List.Mem.head _)) rfl) rfl ?_ | refine LOps.pure (Pure.loadH (c := .atom _) rfl (List.Mem.tail _ (List.Mem.tail _ (List.Mem.head _))) rfl) rfl ?_ | refine LOps.pure (Pure.eql rfl rfl) rfl ?_ | refine LOps.pure (Pure.seq rfl rfl) rfl ?_ | refine LOps.pure (Pure.pickT (lv := .atom _) rfl rfl) rfl ?_ | refine LOps.pure (Pure.pickF (lv := .atom _) rfl rfl) rfl ?_ | refine LOps.pure (Pure.pickB rfl rfl rfl) rfl ?_ | refine LOps.pure (Pure.as (lv := .list _) rfl) rfl ?_ | refine LOps.pure (Pure.as (lv := .app _ _ _ _) rfl) rfl ?_ | refine LOps.pure (Pure.mv (lv := .list _) rfl) rfl ?_ | refine LOps.pure (Pure.mv (lv := .app _ _ _ _) rfl) rfl ?_ | refine LOps.pure (Pure.llen rfl) rfl ?_ | refine LOps.pure (Pure.neq rfl rfl) rfl ?_ | refine LOps.pure (Pure.fieldH rfl) rfl ?_ | refine LOps.pure (Pure.field1 rfl rfl) rfl ?_ | refine LOps.pure (Pure.slen rfl) rfl ?_ | refine LOps.want rfl rfl ?_ | refine LOps.skip rfl rfl rfl rfl ?_ | refine LOps.skipU rfl rfl rfl ?_ | refine LOps.step (S.store (cs' := [_, _, _]) rfl Pick.here rfl rfl rfl rfl rfl ?_) rfl | refine LOps.step (S.store (cs' := [_, _, _]) rfl (Pick.there Pick.here) rfl rfl rfl rfl rfl ?_) rfl | refine LOps.step (S.store (cs' := [_, _, _]) rfl (Pick.there (Pick.there Pick.here)) rfl rfl rfl rfl rfl ?_) rfl
 refine LOps.step (S.fn [] rfl hal ?_) rfl
 repeat first | refine LOps.nil ?_ | refine LCode.seq ?_ | refine LCode.region ?_ | refine LCode.skip ?_ | refine LCode.ret ?_ | refine LCode.exit ?_ | refine LCode.block ?_ | refine QThen.normal ?_ | refine QThen.exit ?_ | refine QThen.ret ?_ | refine QBlock.hit ?_ | refine QBlock.miss (by decide) ?_ | refine QBlock.normal ?_ | refine QBlock.ret ?_ | refine LOps.pure (Pure.as (lv := .atom _) rfl) rfl ?_ | refine LOps.pure (Pure.not rfl) rfl ?_ | refine LOps.pure (Pure.mv (lv := .atom _) rfl) rfl ?_ | refine LOps.pure (Pure.cvt rfl) rfl ?_ | refine LOps.pure (Pure.loadRef (c := .atom _) rfl rfl) rfl ?_ | refine LOps.pure (Pure.loadH (c := .atom _) rfl (List.Mem.head _) rfl) rfl ?_ | refine LOps.pure (Pure.loadH (c := .atom _) rfl (List.Mem.tail _ (List.Mem.head _)) rfl) rfl ?_ | refine LOps.pure (Pure.loadH (c := .atom _) rfl (List.Mem.tail _ (List.Mem.tail _ (List.Mem.head _))) rfl) rfl ?_ | refine LOps.pure (Pure.eql rfl rfl) rfl ?_ | refine LOps.pure (Pure.seq rfl rfl) rfl ?_ | refine LOps.pure (Pure.pickT (lv := .atom _) rfl rfl) rfl ?_ | refine LOps.pure (Pure.pickF (lv := .atom _) rfl rfl) rfl ?_ | refine LOps.pure (Pure.pickB rfl rfl rfl) rfl ?_ | refine LOps.pure (Pure.as (lv := .list _) rfl) rfl ?_ | refine LOps.pure (Pure.as (lv := .app _ _ _ _) rfl) rfl ?_ | refine LOps.pure (Pure.mv (lv := .list _) rfl) rfl ?_ | refine LOps.pure (Pure.mv (lv := .app _ _ _ _) rfl) rfl ?_ | refine LOps.pure (Pure.llen rfl) rfl ?_ | refine LOps.pure (Pure.neq rfl rfl) rfl ?_ | refine LOps.pure (Pure.fieldH rfl) rfl ?_ | refine LOps.pure (Pure.field1 rfl rfl) rfl ?_ | refine LOps.pure (Pure.slen rfl) rfl ?_ | refine LOps.want rfl rfl ?_ | refine LOps.skip rfl rfl rfl rfl ?_ | refine LOps.skipU rfl rfl rfl ?_ | refine LOps.step (S.store (cs' := [_, _, _]) rfl Pick.here rfl rfl rfl rfl rfl ?_) rfl | refine LOps.step (S.store (cs' := [_, _, _]) rfl (Pick.there Pick.here) rfl rfl rfl rfl rfl ?_) rfl | refine LOps.step (S.store (cs' := [_, _, _]) rfl (Pick.there (Pick.there Pick.here)) rfl rfl rfl rfl rfl ?_) rfl
 refine LCode.cond rfl (fun hc => by cases hc) (fun _ => ?_)
 repeat first | refine LOps.nil ?_ | refine LCode.seq ?_ | refine LCode.region ?_ | refine LCode.skip ?_ | refine LCode.ret ?_ | refine LCode.exit ?_ | refine LCode.block ?_ | refine QThen.normal ?_ | refine QThen.exit ?_ | refine QThen.ret ?_ | refine QBlock.hit ?_ | refine QBlock.miss (by decide) ?_ | refine QBlock.normal ?_ | refine QBlock.ret ?_ | refine LOps.pure (Pure.as (lv := .atom _) rfl) rfl ?_ | refine LOps.pure (Pure.not rfl) rfl ?_ | refine LOps.pure (Pure.mv (lv := .atom _) rfl) rfl ?_ | refine LOps.pure (Pure.cvt rfl) rfl ?_ | refine LOps.pure (Pure.loadRef (c := .atom _) rfl rfl) rfl ?_ | refine LOps.pure (Pure.loadH (c := .atom _) rfl (List.Mem.head _) rfl) rfl ?_ | refine LOps.pure (Pure.loadH (c := .atom _) rfl (List.Mem.tail _ (List.Mem.head _)) rfl) rfl ?_ | refine LOps.pure (Pure.loadH (c := .atom _) rfl (List.Mem.tail _ (List.Mem.tail _ (List.Mem.head _))) rfl) rfl ?_ | refine LOps.pure (Pure.eql rfl rfl) rfl ?_ | refine LOps.pure (Pure.seq rfl rfl) rfl ?_ | refine LOps.pure (Pure.pickT (lv := .atom _) rfl rfl) rfl ?_ | refine LOps.pure (Pure.pickF (lv := .atom _) rfl rfl) rfl ?_ | refine LOps.pure (Pure.pickB rfl rfl rfl) rfl ?_ | refine LOps.pure (Pure.as (lv := .list _) rfl) rfl ?_ | refine LOps.pure (Pure.as (lv := .app _ _ _ _) rfl) rfl ?_ | refine LOps.pure (Pure.mv (lv := .list _) rfl) rfl ?_ | refine LOps.pure (Pure.mv (lv := .app _ _ _ _) rfl) rfl ?_ | refine LOps.pure (Pure.llen rfl) rfl ?_ | refine LOps.pure (Pure.neq rfl rfl) rfl ?_ | refine LOps.pure (Pure.fieldH rfl) rfl ?_ | refine LOps.pure (Pure.field1 rfl rfl) rfl ?_ | refine LOps.pure (Pure.slen rfl) rfl ?_ | refine LOps.want rfl rfl ?_ | refine LOps.skip rfl rfl rfl rfl ?_ | refine LOps.skipU rfl rfl rfl ?_ | refine LOps.step (S.store (cs' := [_, _, _]) rfl Pick.here rfl rfl rfl rfl rfl ?_) rfl | refine LOps.step (S.store (cs' := [_, _, _]) rfl (Pick.there Pick.here) rfl rfl rfl rfl rfl ?_) rfl | refine LOps.step (S.store (cs' := [_, _, _]) rfl (Pick.there (Pick.there Pick.here)) rfl rfl rfl rfl rfl ?_) rfl
 refine LOps.step (S.fn [_] (by show [int .i64 (IntKind.i64.wrap (a : Int))] = [int .i64 (a : Nat)]; rw [wrap_i64 (by omega)]) hi1 ?_) rfl
 repeat first | refine LOps.nil ?_ | refine LCode.seq ?_ | refine LCode.region ?_ | refine LCode.skip ?_ | refine LCode.ret ?_ | refine LCode.exit ?_ | refine LCode.block ?_ | refine QThen.normal ?_ | refine QThen.exit ?_ | refine QThen.ret ?_ | refine QBlock.hit ?_ | refine QBlock.miss (by decide) ?_ | refine QBlock.normal ?_ | refine QBlock.ret ?_ | refine LOps.pure (Pure.as (lv := .atom _) rfl) rfl ?_ | refine LOps.pure (Pure.not rfl) rfl ?_ | refine LOps.pure (Pure.mv (lv := .atom _) rfl) rfl ?_ | refine LOps.pure (Pure.cvt rfl) rfl ?_ | refine LOps.pure (Pure.loadRef (c := .atom _) rfl rfl) rfl ?_ | refine LOps.pure (Pure.loadH (c := .atom _) rfl (List.Mem.head _) rfl) rfl ?_ | refine LOps.pure (Pure.loadH (c := .atom _) rfl (List.Mem.tail _ (List.Mem.head _)) rfl) rfl ?_ | refine LOps.pure (Pure.loadH (c := .atom _) rfl (List.Mem.tail _ (List.Mem.tail _ (List.Mem.head _))) rfl) rfl ?_ | refine LOps.pure (Pure.eql rfl rfl) rfl ?_ | refine LOps.pure (Pure.seq rfl rfl) rfl ?_ | refine LOps.pure (Pure.pickT (lv := .atom _) rfl rfl) rfl ?_ | refine LOps.pure (Pure.pickF (lv := .atom _) rfl rfl) rfl ?_ | refine LOps.pure (Pure.pickB rfl rfl rfl) rfl ?_ | refine LOps.pure (Pure.as (lv := .list _) rfl) rfl ?_ | refine LOps.pure (Pure.as (lv := .app _ _ _ _) rfl) rfl ?_ | refine LOps.pure (Pure.mv (lv := .list _) rfl) rfl ?_ | refine LOps.pure (Pure.mv (lv := .app _ _ _ _) rfl) rfl ?_ | refine LOps.pure (Pure.llen rfl) rfl ?_ | refine LOps.pure (Pure.neq rfl rfl) rfl ?_ | refine LOps.pure (Pure.fieldH rfl) rfl ?_ | refine LOps.pure (Pure.field1 rfl rfl) rfl ?_ | refine LOps.pure (Pure.slen rfl) rfl ?_ | refine LOps.want rfl rfl ?_ | refine LOps.skip rfl rfl rfl rfl ?_ | refine LOps.skipU rfl rfl rfl ?_ | refine LOps.step (S.store (cs' := [_, _, _]) rfl Pick.here rfl rfl rfl rfl rfl ?_) rfl | refine LOps.step (S.store (cs' := [_, _, _]) rfl (Pick.there Pick.here) rfl rfl rfl rfl rfl ?_) rfl | refine LOps.step (S.store (cs' := [_, _, _]) rfl (Pick.there (Pick.there Pick.here)) rfl rfl rfl rfl rfl ?_) rfl
 refine LOps.step (S.fn [_] (by show [int .i64 (IntKind.i64.wrap (b : Int))] = [int .i64 (b : Nat)]; rw [wrap_i64 (by omega)]) hi2 ?_) rfl
 repeat first | refine LOps.nil ?_ | refine LCode.seq ?_ | refine LCode.region ?_ | refine LCode.skip ?_ | refine LCode.ret ?_ | refine LCode.exit ?_ | refine LCode.block ?_ | refine QThen.normal ?_ | refine QThen.exit ?_ | refine QThen.ret ?_ | refine QBlock.hit ?_ | refine QBlock.miss (by decide) ?_ | refine QBlock.normal ?_ | refine QBlock.ret ?_ | refine LOps.pure (Pure.as (lv := .atom _) rfl) rfl ?_ | refine LOps.pure (Pure.not rfl) rfl ?_ | refine LOps.pure (Pure.mv (lv := .atom _) rfl) rfl ?_ | refine LOps.pure (Pure.cvt rfl) rfl ?_ | refine LOps.pure (Pure.loadRef (c := .atom _) rfl rfl) rfl ?_ | refine LOps.pure (Pure.loadH (c := .atom _) rfl (List.Mem.head _) rfl) rfl ?_ | refine LOps.pure (Pure.loadH (c := .atom _) rfl (List.Mem.tail _ (List.Mem.head _)) rfl) rfl ?_ | refine LOps.pure (Pure.loadH (c := .atom _) rfl (List.Mem.tail _ (List.Mem.tail _ (List.Mem.head _))) rfl) rfl ?_ | refine LOps.pure (Pure.eql rfl rfl) rfl ?_ | refine LOps.pure (Pure.seq rfl rfl) rfl ?_ | refine LOps.pure (Pure.pickT (lv := .atom _) rfl rfl) rfl ?_ | refine LOps.pure (Pure.pickF (lv := .atom _) rfl rfl) rfl ?_ | refine LOps.pure (Pure.pickB rfl rfl rfl) rfl ?_ | refine LOps.pure (Pure.as (lv := .list _) rfl) rfl ?_ | refine LOps.pure (Pure.as (lv := .app _ _ _ _) rfl) rfl ?_ | refine LOps.pure (Pure.mv (lv := .list _) rfl) rfl ?_ | refine LOps.pure (Pure.mv (lv := .app _ _ _ _) rfl) rfl ?_ | refine LOps.pure (Pure.llen rfl) rfl ?_ | refine LOps.pure (Pure.neq rfl rfl) rfl ?_ | refine LOps.pure (Pure.fieldH rfl) rfl ?_ | refine LOps.pure (Pure.field1 rfl rfl) rfl ?_ | refine LOps.pure (Pure.slen rfl) rfl ?_ | refine LOps.want rfl rfl ?_ | refine LOps.skip rfl rfl rfl rfl ?_ | refine LOps.skipU rfl rfl rfl ?_ | refine LOps.step (S.store (cs' := [_, _, _]) rfl Pick.here rfl rfl rfl rfl rfl ?_) rfl | refine LOps.step (S.store (cs' := [_, _, _]) rfl (Pick.there Pick.here) rfl rfl rfl rfl rfl ?_) rfl | refine LOps.step (S.store (cs' := [_, _, _]) rfl (Pick.there (Pick.there Pick.here)) rfl rfl rfl rfl rfl ?_) rfl
 refine LOps.step (S.lit (es := [str [43], str [42], str [94], str [60], str [47], str [37]]) [_, _, _, _, _, _] rfl (elemsOk_strs foldOps') rfl rfl rfl ?_) rfl
 repeat first | refine LOps.nil ?_ | refine LCode.seq ?_ | refine LCode.region ?_ | refine LCode.skip ?_ | refine LCode.ret ?_ | refine LCode.exit ?_ | refine LCode.block ?_ | refine QThen.normal ?_ | refine QThen.exit ?_ | refine QThen.ret ?_ | refine QBlock.hit ?_ | refine QBlock.miss (by decide) ?_ | refine QBlock.normal ?_ | refine QBlock.ret ?_ | refine LOps.pure (Pure.as (lv := .atom _) rfl) rfl ?_ | refine LOps.pure (Pure.not rfl) rfl ?_ | refine LOps.pure (Pure.mv (lv := .atom _) rfl) rfl ?_ | refine LOps.pure (Pure.cvt rfl) rfl ?_ | refine LOps.pure (Pure.loadRef (c := .atom _) rfl rfl) rfl ?_ | refine LOps.pure (Pure.loadH (c := .atom _) rfl (List.Mem.head _) rfl) rfl ?_ | refine LOps.pure (Pure.loadH (c := .atom _) rfl (List.Mem.tail _ (List.Mem.head _)) rfl) rfl ?_ | refine LOps.pure (Pure.loadH (c := .atom _) rfl (List.Mem.tail _ (List.Mem.tail _ (List.Mem.head _))) rfl) rfl ?_ | refine LOps.pure (Pure.eql rfl rfl) rfl ?_ | refine LOps.pure (Pure.seq rfl rfl) rfl ?_ | refine LOps.pure (Pure.pickT (lv := .atom _) rfl rfl) rfl ?_ | refine LOps.pure (Pure.pickF (lv := .atom _) rfl rfl) rfl ?_ | refine LOps.pure (Pure.pickB rfl rfl rfl) rfl ?_ | refine LOps.pure (Pure.as (lv := .list _) rfl) rfl ?_ | refine LOps.pure (Pure.as (lv := .app _ _ _ _) rfl) rfl ?_ | refine LOps.pure (Pure.mv (lv := .list _) rfl) rfl ?_ | refine LOps.pure (Pure.mv (lv := .app _ _ _ _) rfl) rfl ?_ | refine LOps.pure (Pure.llen rfl) rfl ?_ | refine LOps.pure (Pure.neq rfl rfl) rfl ?_ | refine LOps.pure (Pure.fieldH rfl) rfl ?_ | refine LOps.pure (Pure.field1 rfl rfl) rfl ?_ | refine LOps.pure (Pure.slen rfl) rfl ?_ | refine LOps.want rfl rfl ?_ | refine LOps.skip rfl rfl rfl rfl ?_ | refine LOps.skipU rfl rfl rfl ?_ | refine LOps.step (S.store (cs' := [_, _, _]) rfl Pick.here rfl rfl rfl rfl rfl ?_) rfl | refine LOps.step (S.store (cs' := [_, _, _]) rfl (Pick.there Pick.here) rfl rfl rfl rfl rfl ?_) rfl | refine LOps.step (S.store (cs' := [_, _, _]) rfl (Pick.there (Pick.there Pick.here)) rfl rfl rfl rfl rfl ?_) rfl
 refine LOps.pure (Pure.rem (a := (op : Int)) (b := 6) (by show int .i64 (IntKind.i64.wrap (op : Int)) = int .i64 (op : Int); rw [wrap_i64 (by omega)]) rfl (by decide) (by omega)) rfl ?_
 refine LOps.pure (Pure.ixRef (el' := str [c]) (cs := [str [c]]) rfl rfl (by omega) hget rfl rfl) rfl ?_
 refine LOps.pure (Pure.loadRef (c := str [c]) rfl rfl) rfl ?_
 refine LOps.pure (Pure.as (lv := .atom _) rfl) rfl ?_
 repeat (first | refine LOps.nil ?_ | refine QThen.normal ?_ | refine LCode.skip ?_)
 refine LCode.seq ?_
 refine LCode.seq ?_
 refine LCode.cut [(0, int .u8 a), (1, int .u8 b), (2, int .u8 op), (6, bool false), (7, str (decDigits a)), (8, str (decDigits b)), (9, str [c]), (36, bool (decide ((b : Int) = 0) && (decide ([c] = ([47] : Wd)) || decide ([c] = ([37] : Wd)))))] ?_ (fun j hj => ?_)
 ·repeat first | refine LOps.nil ?_ | refine LCode.seq ?_ | refine LCode.region ?_ | refine LCode.skip ?_ | refine LCode.ret ?_ | refine LCode.exit ?_ | refine LCode.block ?_ | refine QThen.normal ?_ | refine QThen.exit ?_ | refine QThen.ret ?_ | refine QBlock.hit ?_ | refine QBlock.miss (by decide) ?_ | refine QBlock.normal ?_ | refine QBlock.ret ?_ | refine LOps.pure (Pure.as (lv := .atom _) rfl) rfl ?_ | refine LOps.pure (Pure.not rfl) rfl ?_ | refine LOps.pure (Pure.mv (lv := .atom _) rfl) rfl ?_ | refine LOps.pure (Pure.cvt rfl) rfl ?_ | refine LOps.pure (Pure.loadRef (c := .atom _) rfl rfl) rfl ?_ | refine LOps.pure (Pure.loadH (c := .atom _) rfl (List.Mem.head _) rfl) rfl ?_ | refine LOps.pure (Pure.loadH (c := .atom _) rfl (List.Mem.tail _ (List.Mem.head _)) rfl) rfl ?_ | refine LOps.pure (Pure.loadH (c := .atom _) rfl (List.Mem.tail _ (List.Mem.tail _ (List.Mem.head _))) rfl) rfl ?_ | refine LOps.pure (Pure.eql rfl rfl) rfl ?_ | refine LOps.pure (Pure.seq rfl rfl) rfl ?_ | refine LOps.pure (Pure.pickT (lv := .atom _) rfl rfl) rfl ?_ | refine LOps.pure (Pure.pickF (lv := .atom _) rfl rfl) rfl ?_ | refine LOps.pure (Pure.pickB rfl rfl rfl) rfl ?_ | refine LOps.pure (Pure.as (lv := .list _) rfl) rfl ?_ | refine LOps.pure (Pure.as (lv := .app _ _ _ _) rfl) rfl ?_ | refine LOps.pure (Pure.mv (lv := .list _) rfl) rfl ?_ | refine LOps.pure (Pure.mv (lv := .app _ _ _ _) rfl) rfl ?_ | refine LOps.pure (Pure.llen rfl) rfl ?_ | refine LOps.pure (Pure.neq rfl rfl) rfl ?_ | refine LOps.pure (Pure.fieldH rfl) rfl ?_ | refine LOps.pure (Pure.field1 rfl rfl) rfl ?_ | refine LOps.pure (Pure.slen rfl) rfl ?_ | refine LOps.want rfl rfl ?_ | refine LOps.skip rfl rfl rfl rfl ?_ | refine LOps.skipU rfl rfl rfl ?_ | refine LOps.step (S.store (cs' := [_, _, _]) rfl Pick.here rfl rfl rfl rfl rfl ?_) rfl | refine LOps.step (S.store (cs' := [_, _, _]) rfl (Pick.there Pick.here) rfl rfl rfl rfl rfl ?_) rfl | refine LOps.step (S.store (cs' := [_, _, _]) rfl (Pick.there (Pick.there Pick.here)) rfl rfl rfl rfl rfl ?_) rfl
  refine LOps.bcase 29 rfl (fun h1 => ?_) (fun h1 => ?_)
  ·repeat first | refine LOps.nil ?_ | refine LCode.seq ?_ | refine LCode.region ?_ | refine LCode.skip ?_ | refine LCode.ret ?_ | refine LCode.exit ?_ | refine LCode.block ?_ | refine QThen.normal ?_ | refine QThen.exit ?_ | refine QThen.ret ?_ | refine QBlock.hit ?_ | refine QBlock.miss (by decide) ?_ | refine QBlock.normal ?_ | refine QBlock.ret ?_ | refine LOps.pure (Pure.as (lv := .atom _) rfl) rfl ?_ | refine LOps.pure (Pure.not rfl) rfl ?_ | refine LOps.pure (Pure.mv (lv := .atom _) rfl) rfl ?_ | refine LOps.pure (Pure.cvt rfl) rfl ?_ | refine LOps.pure (Pure.loadRef (c := .atom _) rfl rfl) rfl ?_ | refine LOps.pure (Pure.loadH (c := .atom _) rfl (List.Mem.head _) rfl) rfl ?_ | refine LOps.pure (Pure.loadH (c := .atom _) rfl (List.Mem.tail _ (List.Mem.head _)) rfl) rfl ?_ | refine LOps.pure (Pure.loadH (c := .atom _) rfl (List.Mem.tail _ (List.Mem.tail _ (List.Mem.head _))) rfl) rfl ?_ | refine LOps.pure (Pure.eql rfl rfl) rfl ?_ | refine LOps.pure (Pure.seq rfl rfl) rfl ?_ | refine LOps.pure (Pure.pickT (lv := .atom _) rfl rfl) rfl ?_ | refine LOps.pure (Pure.pickF (lv := .atom _) rfl rfl) rfl ?_ | refine LOps.pure (Pure.pickB rfl rfl rfl) rfl ?_ | refine LOps.pure (Pure.as (lv := .list _) rfl) rfl ?_ | refine LOps.pure (Pure.as (lv := .app _ _ _ _) rfl) rfl ?_ | refine LOps.pure (Pure.mv (lv := .list _) rfl) rfl ?_ | refine LOps.pure (Pure.mv (lv := .app _ _ _ _) rfl) rfl ?_ | refine LOps.pure (Pure.llen rfl) rfl ?_ | refine LOps.pure (Pure.neq rfl rfl) rfl ?_ | refine LOps.pure (Pure.fieldH rfl) rfl ?_ | refine LOps.pure (Pure.field1 rfl rfl) rfl ?_ | refine LOps.pure (Pure.slen rfl) rfl ?_ | refine LOps.want rfl rfl ?_ | refine LOps.skip rfl rfl rfl rfl ?_ | refine LOps.skipU rfl rfl rfl ?_ | refine LOps.step (S.store (cs' := [_, _, _]) rfl Pick.here rfl rfl rfl rfl rfl ?_) rfl | refine LOps.step (S.store (cs' := [_, _, _]) rfl (Pick.there Pick.here) rfl rfl rfl rfl rfl ?_) rfl | refine LOps.step (S.store (cs' := [_, _, _]) rfl (Pick.there (Pick.there Pick.here)) rfl rfl rfl rfl rfl ?_) rfl
   refine LOps.bcase 32 rfl (fun h2 => ?_) (fun h2 => ?_)
   ·repeat first | refine LOps.nil ?_ | refine LCode.seq ?_ | refine LCode.region ?_ | refine LCode.skip ?_ | refine LCode.ret ?_ | refine LCode.exit ?_ | refine LCode.block ?_ | refine QThen.normal ?_ | refine QThen.exit ?_ | refine QThen.ret ?_ | refine QBlock.hit ?_ | refine QBlock.miss (by decide) ?_ | refine QBlock.normal ?_ | refine QBlock.ret ?_ | refine LOps.pure (Pure.as (lv := .atom _) rfl) rfl ?_ | refine LOps.pure (Pure.not rfl) rfl ?_ | refine LOps.pure (Pure.mv (lv := .atom _) rfl) rfl ?_ | refine LOps.pure (Pure.cvt rfl) rfl ?_ | refine LOps.pure (Pure.loadRef (c := .atom _) rfl rfl) rfl ?_ | refine LOps.pure (Pure.loadH (c := .atom _) rfl (List.Mem.head _) rfl) rfl ?_ | refine LOps.pure (Pure.loadH (c := .atom _) rfl (List.Mem.tail _ (List.Mem.head _)) rfl) rfl ?_ | refine LOps.pure (Pure.loadH (c := .atom _) rfl (List.Mem.tail _ (List.Mem.tail _ (List.Mem.head _))) rfl) rfl ?_ | refine LOps.pure (Pure.eql rfl rfl) rfl ?_ | refine LOps.pure (Pure.seq rfl rfl) rfl ?_ | refine LOps.pure (Pure.pickT (lv := .atom _) rfl rfl) rfl ?_ | refine LOps.pure (Pure.pickF (lv := .atom _) rfl rfl) rfl ?_ | refine LOps.pure (Pure.pickB rfl rfl rfl) rfl ?_ | refine LOps.pure (Pure.as (lv := .list _) rfl) rfl ?_ | refine LOps.pure (Pure.as (lv := .app _ _ _ _) rfl) rfl ?_ | refine LOps.pure (Pure.mv (lv := .list _) rfl) rfl ?_ | refine LOps.pure (Pure.mv (lv := .app _ _ _ _) rfl) rfl ?_ | refine LOps.pure (Pure.llen rfl) rfl ?_ | refine LOps.pure (Pure.neq rfl rfl) rfl ?_ | refine LOps.pure (Pure.fieldH rfl) rfl ?_ | refine LOps.pure (Pure.field1 rfl rfl) rfl ?_ | refine LOps.pure (Pure.slen rfl) rfl ?_ | refine LOps.want rfl rfl ?_ | refine LOps.skip rfl rfl rfl rfl ?_ | refine LOps.skipU rfl rfl rfl ?_ | refine LOps.step (S.store (cs' := [_, _, _]) rfl Pick.here rfl rfl rfl rfl rfl ?_) rfl | refine LOps.step (S.store (cs' := [_, _, _]) rfl (Pick.there Pick.here) rfl rfl rfl rfl rfl ?_) rfl | refine LOps.step (S.store (cs' := [_, _, _]) rfl (Pick.there (Pick.there Pick.here)) rfl rfl rfl rfl rfl ?_) rfl
    exact ⟨⟨rfl, rfl, rfl, rfl, rfl, rfl, rfl, bool_eq (by rw [h1, h2]; rfl), trivial⟩, rfl, rfl⟩
   ·repeat first | refine LOps.nil ?_ | refine LCode.seq ?_ | refine LCode.region ?_ | refine LCode.skip ?_ | refine LCode.ret ?_ | refine LCode.exit ?_ | refine LCode.block ?_ | refine QThen.normal ?_ | refine QThen.exit ?_ | refine QThen.ret ?_ | refine QBlock.hit ?_ | refine QBlock.miss (by decide) ?_ | refine QBlock.normal ?_ | refine QBlock.ret ?_ | refine LOps.pure (Pure.as (lv := .atom _) rfl) rfl ?_ | refine LOps.pure (Pure.not rfl) rfl ?_ | refine LOps.pure (Pure.mv (lv := .atom _) rfl) rfl ?_ | refine LOps.pure (Pure.cvt rfl) rfl ?_ | refine LOps.pure (Pure.loadRef (c := .atom _) rfl rfl) rfl ?_ | refine LOps.pure (Pure.loadH (c := .atom _) rfl (List.Mem.head _) rfl) rfl ?_ | refine LOps.pure (Pure.loadH (c := .atom _) rfl (List.Mem.tail _ (List.Mem.head _)) rfl) rfl ?_ | refine LOps.pure (Pure.loadH (c := .atom _) rfl (List.Mem.tail _ (List.Mem.tail _ (List.Mem.head _))) rfl) rfl ?_ | refine LOps.pure (Pure.eql rfl rfl) rfl ?_ | refine LOps.pure (Pure.seq rfl rfl) rfl ?_ | refine LOps.pure (Pure.pickT (lv := .atom _) rfl rfl) rfl ?_ | refine LOps.pure (Pure.pickF (lv := .atom _) rfl rfl) rfl ?_ | refine LOps.pure (Pure.pickB rfl rfl rfl) rfl ?_ | refine LOps.pure (Pure.as (lv := .list _) rfl) rfl ?_ | refine LOps.pure (Pure.as (lv := .app _ _ _ _) rfl) rfl ?_ | refine LOps.pure (Pure.mv (lv := .list _) rfl) rfl ?_ | refine LOps.pure (Pure.mv (lv := .app _ _ _ _) rfl) rfl ?_ | refine LOps.pure (Pure.llen rfl) rfl ?_ | refine LOps.pure (Pure.neq rfl rfl) rfl ?_ | refine LOps.pure (Pure.fieldH rfl) rfl ?_ | refine LOps.pure (Pure.field1 rfl rfl) rfl ?_ | refine LOps.pure (Pure.slen rfl) rfl ?_ | refine LOps.want rfl rfl ?_ | refine LOps.skip rfl rfl rfl rfl ?_ | refine LOps.skipU rfl rfl rfl ?_ | refine LOps.step (S.store (cs' := [_, _, _]) rfl Pick.here rfl rfl rfl rfl rfl ?_) rfl | refine LOps.step (S.store (cs' := [_, _, _]) rfl (Pick.there Pick.here) rfl rfl rfl rfl rfl ?_) rfl | refine LOps.step (S.store (cs' := [_, _, _]) rfl (Pick.there (Pick.there Pick.here)) rfl rfl rfl rfl rfl ?_) rfl
    exact ⟨⟨rfl, rfl, rfl, rfl, rfl, rfl, rfl, bool_eq (by rw [h1, h2]; rfl), trivial⟩, rfl, rfl⟩
  ·repeat first | refine LOps.nil ?_ | refine LCode.seq ?_ | refine LCode.region ?_ | refine LCode.skip ?_ | refine LCode.ret ?_ | refine LCode.exit ?_ | refine LCode.block ?_ | refine QThen.normal ?_ | refine QThen.exit ?_ | refine QThen.ret ?_ | refine QBlock.hit ?_ | refine QBlock.miss (by decide) ?_ | refine QBlock.normal ?_ | refine QBlock.ret ?_ | refine LOps.pure (Pure.as (lv := .atom _) rfl) rfl ?_ | refine LOps.pure (Pure.not rfl) rfl ?_ | refine LOps.pure (Pure.mv (lv := .atom _) rfl) rfl ?_ | refine LOps.pure (Pure.cvt rfl) rfl ?_ | refine LOps.pure (Pure.loadRef (c := .atom _) rfl rfl) rfl ?_ | refine LOps.pure (Pure.loadH (c := .atom _) rfl (List.Mem.head _) rfl) rfl ?_ | refine LOps.pure (Pure.loadH (c := .atom _) rfl (List.Mem.tail _ (List.Mem.head _)) rfl) rfl ?_ | refine LOps.pure (Pure.loadH (c := .atom _) rfl (List.Mem.tail _ (List.Mem.tail _ (List.Mem.head _))) rfl) rfl ?_ | refine LOps.pure (Pure.eql rfl rfl) rfl ?_ | refine LOps.pure (Pure.seq rfl rfl) rfl ?_ | refine LOps.pure (Pure.pickT (lv := .atom _) rfl rfl) rfl ?_ | refine LOps.pure (Pure.pickF (lv := .atom _) rfl rfl) rfl ?_ | refine LOps.pure (Pure.pickB rfl rfl rfl) rfl ?_ | refine LOps.pure (Pure.as (lv := .list _) rfl) rfl ?_ | refine LOps.pure (Pure.as (lv := .app _ _ _ _) rfl) rfl ?_ | refine LOps.pure (Pure.mv (lv := .list _) rfl) rfl ?_ | refine LOps.pure (Pure.mv (lv := .app _ _ _ _) rfl) rfl ?_ | refine LOps.pure (Pure.llen rfl) rfl ?_ | refine LOps.pure (Pure.neq rfl rfl) rfl ?_ | refine LOps.pure (Pure.fieldH rfl) rfl ?_ | refine LOps.pure (Pure.field1 rfl rfl) rfl ?_ | refine LOps.pure (Pure.slen rfl) rfl ?_ | refine LOps.want rfl rfl ?_ | refine LOps.skip rfl rfl rfl rfl ?_ | refine LOps.skipU rfl rfl rfl ?_ | refine LOps.step (S.store (cs' := [_, _, _]) rfl Pick.here rfl rfl rfl rfl rfl ?_) rfl | refine LOps.step (S.store (cs' := [_, _, _]) rfl (Pick.there Pick.here) rfl rfl rfl rfl rfl ?_) rfl | refine LOps.step (S.store (cs' := [_, _, _]) rfl (Pick.there (Pick.there Pick.here)) rfl rfl rfl rfl rfl ?_) rfl
   exact ⟨⟨rfl, rfl, rfl, rfl, rfl, rfl, rfl, bool_eq (by rw [h1]; rfl), trivial⟩, rfl, rfl⟩
 repeat first | refine LOps.nil ?_ | refine LCode.seq ?_ | refine LCode.region ?_ | refine LCode.skip ?_ | refine LCode.ret ?_ | refine LCode.exit ?_ | refine LCode.block ?_ | refine QThen.normal ?_ | refine QThen.exit ?_ | refine QThen.ret ?_ | refine QBlock.hit ?_ | refine QBlock.miss (by decide) ?_ | refine QBlock.normal ?_ | refine QBlock.ret ?_ | refine LOps.pure (Pure.as (lv := .atom _) rfl) rfl ?_ | refine LOps.pure (Pure.not rfl) rfl ?_ | refine LOps.pure (Pure.mv (lv := .atom _) rfl) rfl ?_ | refine LOps.pure (Pure.cvt rfl) rfl ?_ | refine LOps.pure (Pure.loadRef (c := .atom _) rfl rfl) rfl ?_ | refine LOps.pure (Pure.loadH (c := .atom _) rfl (List.Mem.head _) rfl) rfl ?_ | refine LOps.pure (Pure.loadH (c := .atom _) rfl (List.Mem.tail _ (List.Mem.head _)) rfl) rfl ?_ | refine LOps.pure (Pure.loadH (c := .atom _) rfl (List.Mem.tail _ (List.Mem.tail _ (List.Mem.head _))) rfl) rfl ?_ | refine LOps.pure (Pure.eql rfl rfl) rfl ?_ | refine LOps.pure (Pure.seq rfl rfl) rfl ?_ | refine LOps.pure (Pure.pickT (lv := .atom _) rfl rfl) rfl ?_ | refine LOps.pure (Pure.pickF (lv := .atom _) rfl rfl) rfl ?_ | refine LOps.pure (Pure.pickB rfl rfl rfl) rfl ?_ | refine LOps.pure (Pure.as (lv := .list _) rfl) rfl ?_ | refine LOps.pure (Pure.as (lv := .app _ _ _ _) rfl) rfl ?_ | refine LOps.pure (Pure.mv (lv := .list _) rfl) rfl ?_ | refine LOps.pure (Pure.mv (lv := .app _ _ _ _) rfl) rfl ?_ | refine LOps.pure (Pure.llen rfl) rfl ?_ | refine LOps.pure (Pure.neq rfl rfl) rfl ?_ | refine LOps.pure (Pure.fieldH rfl) rfl ?_ | refine LOps.pure (Pure.field1 rfl rfl) rfl ?_ | refine LOps.pure (Pure.slen rfl) rfl ?_ | refine LOps.want rfl rfl ?_ | refine LOps.skip rfl rfl rfl rfl ?_ | refine LOps.skipU rfl rfl rfl ?_ | refine LOps.step (S.store (cs' := [_, _, _]) rfl Pick.here rfl rfl rfl rfl rfl ?_) rfl | refine LOps.step (S.store (cs' := [_, _, _]) rfl (Pick.there Pick.here) rfl rfl rfl rfl rfl ?_) rfl | refine LOps.step (S.store (cs' := [_, _, _]) rfl (Pick.there (Pick.there Pick.here)) rfl rfl rfl rfl rfl ?_) rfl
 refine LCode.cond rfl (fun hc => ?_) (fun hc => ?_)
 ·repeat first | refine LOps.nil ?_ | refine LCode.seq ?_ | refine LCode.region ?_ | refine LCode.skip ?_ | refine LCode.ret ?_ | refine LCode.exit ?_ | refine LCode.block ?_ | refine QThen.normal ?_ | refine QThen.exit ?_ | refine QThen.ret ?_ | refine QBlock.hit ?_ | refine QBlock.miss (by decide) ?_ | refine QBlock.normal ?_ | refine QBlock.ret ?_ | refine LOps.pure (Pure.as (lv := .atom _) rfl) rfl ?_ | refine LOps.pure (Pure.not rfl) rfl ?_ | refine LOps.pure (Pure.mv (lv := .atom _) rfl) rfl ?_ | refine LOps.pure (Pure.cvt rfl) rfl ?_ | refine LOps.pure (Pure.loadRef (c := .atom _) rfl rfl) rfl ?_ | refine LOps.pure (Pure.loadH (c := .atom _) rfl (List.Mem.head _) rfl) rfl ?_ | refine LOps.pure (Pure.loadH (c := .atom _) rfl (List.Mem.tail _ (List.Mem.head _)) rfl) rfl ?_ | refine LOps.pure (Pure.loadH (c := .atom _) rfl (List.Mem.tail _ (List.Mem.tail _ (List.Mem.head _))) rfl) rfl ?_ | refine LOps.pure (Pure.eql rfl rfl) rfl ?_ | refine LOps.pure (Pure.seq rfl rfl) rfl ?_ | refine LOps.pure (Pure.pickT (lv := .atom _) rfl rfl) rfl ?_ | refine LOps.pure (Pure.pickF (lv := .atom _) rfl rfl) rfl ?_ | refine LOps.pure (Pure.pickB rfl rfl rfl) rfl ?_ | refine LOps.pure (Pure.as (lv := .list _) rfl) rfl ?_ | refine LOps.pure (Pure.as (lv := .app _ _ _ _) rfl) rfl ?_ | refine LOps.pure (Pure.mv (lv := .list _) rfl) rfl ?_ | refine LOps.pure (Pure.mv (lv := .app _ _ _ _) rfl) rfl ?_ | refine LOps.pure (Pure.llen rfl) rfl ?_ | refine LOps.pure (Pure.neq rfl rfl) rfl ?_ | refine LOps.pure (Pure.fieldH rfl) rfl ?_ | refine LOps.pure (Pure.field1 rfl rfl) rfl ?_ | refine LOps.pure (Pure.slen rfl) rfl ?_ | refine LOps.want rfl rfl ?_ | refine LOps.skip rfl rfl rfl rfl ?_ | refine LOps.skipU rfl rfl rfl ?_ | refine LOps.step (S.store (cs' := [_, _, _]) rfl Pick.here rfl rfl rfl rfl rfl ?_) rfl | refine LOps.step (S.store (cs' := [_, _, _]) rfl (Pick.there Pick.here) rfl rfl rfl rfl rfl ?_) rfl | refine LOps.step (S.store (cs' := [_, _, _]) rfl (Pick.there (Pick.there Pick.here)) rfl rfl rfl rfl rfl ?_) rfl
  exact retRet hj (AllRes.cons (ResIs.tmp (v := .atom _) rfl (LV.Sub.refl _)) AllRes.nil) rfl
 have h0 : ¬ (b = 0 ∧ (c = 47 ∨ c = 37)) := by
  rintro ⟨e1, e2⟩
  rw [Bool.and_eq_false_iff, decide_eq_false_iff_not, Bool.or_eq_false_iff, decide_eq_false_iff_not, decide_eq_false_iff_not] at hc
  rcases hc with hc | ⟨h1, h2⟩
  ·omega
  ·rcases e2 with rfl | rfl
   ·exact h1 rfl
   ·exact h2 rfl
 obtain ⟨v, o, hv, ho, hon, ⟨x1, l1, k1, p1, p2, p3⟩, ⟨x2, l2, k2, q1, q2, q3⟩⟩ := fold_law ha hb hmem h0
 subst ho
 have da := dec_lenM 2 a (by omega)
 have db := dec_lenM 2 b (by omega)
 have dv := dec_lenM 4 v (by omega)
 have hon1 := once_spec hG [decDigits a, decDigits b, [c]] ⟨by show 3 ≤ 1000000; decide, fun w hw => by
  simp only [List.mem_cons, List.not_mem_nil, or_false] at hw
  rcases hw with rfl | rfl | rfl
  ·omega
  ·omega
  ·show 1 ≤ 1000000; decide⟩
 rw [hon] at hon1
 have hon2 := once_spec hG [[48], [43], [49], [42], [48], [94], [49], [47], [48], [45]] ⟨by decide, by decide⟩
 have eo : onceP [[48], [43], [49], [42], [48], [94], [49], [47], [48], [45]] = [] := by kernel_rfl
 rw [eo] at hon2
 have e1 : siW (foldC a b c) = [decDigits a, decDigits b, [c], [50, 53, 54], [47], [46], decDigits a, decDigits b, [c], [46], [36]] := by
  rw [← dec256]; rfl
 have e2 : siW (foldD v) = [decDigits v, [50, 53, 54], [47], [46], decDigits v, [46], [36]] := by
  rw [← dec256]; rfl
 rw [e1] at p1
 rw [e2] at q1
 have s1 := join_size (m := 10) [decDigits a, decDigits b, [c], [50, 53, 54], [47], [46], decDigits a, decDigits b, [c], [46], [36]] (fun w hw => by
  simp only [List.mem_cons, List.not_mem_nil, or_false] at hw
  rcases hw with rfl | rfl | rfl | rfl | rfl | rfl | rfl | rfl | rfl | rfl | rfl <;> first | omega | (simp only [List.length_cons, List.length_nil]; omega))
 have s2 := join_size (m := 10) [decDigits v, [50, 53, 54], [47], [46], decDigits v, [46], [36]] (fun w hw => by
  simp only [List.mem_cons, List.not_mem_nil, or_false] at hw
  rcases hw with rfl | rfl | rfl | rfl | rfl | rfl | rfl <;> first | omega | (simp only [List.length_cons, List.length_nil]; omega))
 simp only [List.length_cons, List.length_nil] at s1 s2
 have j1 := joinS_spec (B0 := B0) (w0 := w0) [32] [decDigits a, decDigits b, [c], [50, 53, 54], [47], [46], decDigits a, decDigits b, [c], [46], [36]] (by show 11 ≤ 1000000000; decide) (by omega)
 have j2 := joinS_spec (B0 := B0) (w0 := w0) [32] [decDigits v, [50, 53, 54], [47], [46], decDigits v, [46], [36]] (by show 7 ≤ 1000000000; decide) (by omega)
 have r1 := run24_nil hG (by omega) p1 p2
 have r2 := run24_nil hG (by omega) q1 q2
 rw [p3] at r1
 rw [q3] at r2
 unfold mchLV at r1 r2
 generalize join [decDigits a, decDigits b, [c], [50, 53, 54], [47], [46], decDigits a, decDigits b, [c], [46], [36]] [32] = t1 at j1 r1
 generalize join [decDigits v, [50, 53, 54], [47], [46], decDigits v, [46], [36]] [32] = t2 at j2 r2
 clear p1 q1 s1 s2 hon eo e1 e2 p3 q3 hc h0
 repeat first | refine LOps.nil ?_ | refine LCode.seq ?_ | refine LCode.region ?_ | refine LCode.skip ?_ | refine LCode.ret ?_ | refine LCode.exit ?_ | refine LCode.block ?_ | refine QThen.normal ?_ | refine QThen.exit ?_ | refine QThen.ret ?_ | refine QBlock.hit ?_ | refine QBlock.miss (by decide) ?_ | refine QBlock.normal ?_ | refine QBlock.ret ?_ | refine LOps.pure (Pure.as (lv := .atom _) rfl) rfl ?_ | refine LOps.pure (Pure.not rfl) rfl ?_ | refine LOps.pure (Pure.mv (lv := .atom _) rfl) rfl ?_ | refine LOps.pure (Pure.cvt rfl) rfl ?_ | refine LOps.pure (Pure.loadRef (c := .atom _) rfl rfl) rfl ?_ | refine LOps.pure (Pure.loadH (c := .atom _) rfl (List.Mem.head _) rfl) rfl ?_ | refine LOps.pure (Pure.loadH (c := .atom _) rfl (List.Mem.tail _ (List.Mem.head _)) rfl) rfl ?_ | refine LOps.pure (Pure.loadH (c := .atom _) rfl (List.Mem.tail _ (List.Mem.tail _ (List.Mem.head _))) rfl) rfl ?_ | refine LOps.pure (Pure.eql rfl rfl) rfl ?_ | refine LOps.pure (Pure.seq rfl rfl) rfl ?_ | refine LOps.pure (Pure.pickT (lv := .atom _) rfl rfl) rfl ?_ | refine LOps.pure (Pure.pickF (lv := .atom _) rfl rfl) rfl ?_ | refine LOps.pure (Pure.pickB rfl rfl rfl) rfl ?_ | refine LOps.pure (Pure.as (lv := .list _) rfl) rfl ?_ | refine LOps.pure (Pure.as (lv := .app _ _ _ _) rfl) rfl ?_ | refine LOps.pure (Pure.mv (lv := .list _) rfl) rfl ?_ | refine LOps.pure (Pure.mv (lv := .app _ _ _ _) rfl) rfl ?_ | refine LOps.pure (Pure.llen rfl) rfl ?_ | refine LOps.pure (Pure.neq rfl rfl) rfl ?_ | refine LOps.pure (Pure.fieldH rfl) rfl ?_ | refine LOps.pure (Pure.field1 rfl rfl) rfl ?_ | refine LOps.pure (Pure.slen rfl) rfl ?_ | refine LOps.want rfl rfl ?_ | refine LOps.skip rfl rfl rfl rfl ?_ | refine LOps.skipU rfl rfl rfl ?_ | refine LOps.step (S.store (cs' := [_, _, _]) rfl Pick.here rfl rfl rfl rfl rfl ?_) rfl | refine LOps.step (S.store (cs' := [_, _, _]) rfl (Pick.there Pick.here) rfl rfl rfl rfl rfl ?_) rfl | refine LOps.step (S.store (cs' := [_, _, _]) rfl (Pick.there (Pick.there Pick.here)) rfl rfl rfl rfl rfl ?_) rfl
 refine LOps.step (S.lit (es := [str (decDigits a), str (decDigits b), str [c]]) [_, _, _] rfl (elemsOk_strs [decDigits a, decDigits b, [c]]) rfl rfl rfl ?_) rfl
 refine LOps.step (S.fn [_] rfl hon1 ?_) rfl
 repeat first | refine LOps.nil ?_ | refine LCode.seq ?_ | refine LCode.region ?_ | refine LCode.skip ?_ | refine LCode.ret ?_ | refine LCode.exit ?_ | refine LCode.block ?_ | refine QThen.normal ?_ | refine QThen.exit ?_ | refine QThen.ret ?_ | refine QBlock.hit ?_ | refine QBlock.miss (by decide) ?_ | refine QBlock.normal ?_ | refine QBlock.ret ?_ | refine LOps.pure (Pure.as (lv := .atom _) rfl) rfl ?_ | refine LOps.pure (Pure.not rfl) rfl ?_ | refine LOps.pure (Pure.mv (lv := .atom _) rfl) rfl ?_ | refine LOps.pure (Pure.cvt rfl) rfl ?_ | refine LOps.pure (Pure.loadRef (c := .atom _) rfl rfl) rfl ?_ | refine LOps.pure (Pure.loadH (c := .atom _) rfl (List.Mem.head _) rfl) rfl ?_ | refine LOps.pure (Pure.loadH (c := .atom _) rfl (List.Mem.tail _ (List.Mem.head _)) rfl) rfl ?_ | refine LOps.pure (Pure.loadH (c := .atom _) rfl (List.Mem.tail _ (List.Mem.tail _ (List.Mem.head _))) rfl) rfl ?_ | refine LOps.pure (Pure.eql rfl rfl) rfl ?_ | refine LOps.pure (Pure.seq rfl rfl) rfl ?_ | refine LOps.pure (Pure.pickT (lv := .atom _) rfl rfl) rfl ?_ | refine LOps.pure (Pure.pickF (lv := .atom _) rfl rfl) rfl ?_ | refine LOps.pure (Pure.pickB rfl rfl rfl) rfl ?_ | refine LOps.pure (Pure.as (lv := .list _) rfl) rfl ?_ | refine LOps.pure (Pure.as (lv := .app _ _ _ _) rfl) rfl ?_ | refine LOps.pure (Pure.mv (lv := .list _) rfl) rfl ?_ | refine LOps.pure (Pure.mv (lv := .app _ _ _ _) rfl) rfl ?_ | refine LOps.pure (Pure.llen rfl) rfl ?_ | refine LOps.pure (Pure.neq rfl rfl) rfl ?_ | refine LOps.pure (Pure.fieldH rfl) rfl ?_ | refine LOps.pure (Pure.field1 rfl rfl) rfl ?_ | refine LOps.pure (Pure.slen rfl) rfl ?_ | refine LOps.want rfl rfl ?_ | refine LOps.skip rfl rfl rfl rfl ?_ | refine LOps.skipU rfl rfl rfl ?_ | refine LOps.step (S.store (cs' := [_, _, _]) rfl Pick.here rfl rfl rfl rfl rfl ?_) rfl | refine LOps.step (S.store (cs' := [_, _, _]) rfl (Pick.there Pick.here) rfl rfl rfl rfl rfl ?_) rfl | refine LOps.step (S.store (cs' := [_, _, _]) rfl (Pick.there (Pick.there Pick.here)) rfl rfl rfl rfl rfl ?_) rfl
 refine LCode.cond rfl (fun hc => by cases hc) (fun _ => ?_)
 repeat first | refine LOps.nil ?_ | refine LCode.seq ?_ | refine LCode.region ?_ | refine LCode.skip ?_ | refine LCode.ret ?_ | refine LCode.exit ?_ | refine LCode.block ?_ | refine QThen.normal ?_ | refine QThen.exit ?_ | refine QThen.ret ?_ | refine QBlock.hit ?_ | refine QBlock.miss (by decide) ?_ | refine QBlock.normal ?_ | refine QBlock.ret ?_ | refine LOps.pure (Pure.as (lv := .atom _) rfl) rfl ?_ | refine LOps.pure (Pure.not rfl) rfl ?_ | refine LOps.pure (Pure.mv (lv := .atom _) rfl) rfl ?_ | refine LOps.pure (Pure.cvt rfl) rfl ?_ | refine LOps.pure (Pure.loadRef (c := .atom _) rfl rfl) rfl ?_ | refine LOps.pure (Pure.loadH (c := .atom _) rfl (List.Mem.head _) rfl) rfl ?_ | refine LOps.pure (Pure.loadH (c := .atom _) rfl (List.Mem.tail _ (List.Mem.head _)) rfl) rfl ?_ | refine LOps.pure (Pure.loadH (c := .atom _) rfl (List.Mem.tail _ (List.Mem.tail _ (List.Mem.head _))) rfl) rfl ?_ | refine LOps.pure (Pure.eql rfl rfl) rfl ?_ | refine LOps.pure (Pure.seq rfl rfl) rfl ?_ | refine LOps.pure (Pure.pickT (lv := .atom _) rfl rfl) rfl ?_ | refine LOps.pure (Pure.pickF (lv := .atom _) rfl rfl) rfl ?_ | refine LOps.pure (Pure.pickB rfl rfl rfl) rfl ?_ | refine LOps.pure (Pure.as (lv := .list _) rfl) rfl ?_ | refine LOps.pure (Pure.as (lv := .app _ _ _ _) rfl) rfl ?_ | refine LOps.pure (Pure.mv (lv := .list _) rfl) rfl ?_ | refine LOps.pure (Pure.mv (lv := .app _ _ _ _) rfl) rfl ?_ | refine LOps.pure (Pure.llen rfl) rfl ?_ | refine LOps.pure (Pure.neq rfl rfl) rfl ?_ | refine LOps.pure (Pure.fieldH rfl) rfl ?_ | refine LOps.pure (Pure.field1 rfl rfl) rfl ?_ | refine LOps.pure (Pure.slen rfl) rfl ?_ | refine LOps.want rfl rfl ?_ | refine LOps.skip rfl rfl rfl rfl ?_ | refine LOps.skipU rfl rfl rfl ?_ | refine LOps.step (S.store (cs' := [_, _, _]) rfl Pick.here rfl rfl rfl rfl rfl ?_) rfl | refine LOps.step (S.store (cs' := [_, _, _]) rfl (Pick.there Pick.here) rfl rfl rfl rfl rfl ?_) rfl | refine LOps.step (S.store (cs' := [_, _, _]) rfl (Pick.there (Pick.there Pick.here)) rfl rfl rfl rfl rfl ?_) rfl
 refine LOps.step (S.lit (es := [str (decDigits a), str (decDigits b), str [c], str [50, 53, 54], str [47], str [46], str (decDigits a), str (decDigits b), str [c], str [46], str [36]]) [_, _, _, _, _, _, _, _, _, _, _] rfl (elemsOk_strs [decDigits a, decDigits b, [c], [50, 53, 54], [47], [46], decDigits a, decDigits b, [c], [46], [36]]) rfl rfl rfl ?_) rfl
 refine LOps.step (S.fn [_, _] rfl j1 ?_) rfl
 refine LOps.step (S.fn [_, _] rfl r1 ?_) rfl
 refine LOps.step (S.alloc fun b11 => ?_) rfl
 repeat first | refine LOps.nil ?_ | refine LCode.seq ?_ | refine LCode.region ?_ | refine LCode.skip ?_ | refine LCode.ret ?_ | refine LCode.exit ?_ | refine LCode.block ?_ | refine QThen.normal ?_ | refine QThen.exit ?_ | refine QThen.ret ?_ | refine QBlock.hit ?_ | refine QBlock.miss (by decide) ?_ | refine QBlock.normal ?_ | refine QBlock.ret ?_ | refine LOps.pure (Pure.as (lv := .atom _) rfl) rfl ?_ | refine LOps.pure (Pure.not rfl) rfl ?_ | refine LOps.pure (Pure.mv (lv := .atom _) rfl) rfl ?_ | refine LOps.pure (Pure.cvt rfl) rfl ?_ | refine LOps.pure (Pure.loadRef (c := .atom _) rfl rfl) rfl ?_ | refine LOps.pure (Pure.loadH (c := .atom _) rfl (List.Mem.head _) rfl) rfl ?_ | refine LOps.pure (Pure.loadH (c := .atom _) rfl (List.Mem.tail _ (List.Mem.head _)) rfl) rfl ?_ | refine LOps.pure (Pure.loadH (c := .atom _) rfl (List.Mem.tail _ (List.Mem.tail _ (List.Mem.head _))) rfl) rfl ?_ | refine LOps.pure (Pure.eql rfl rfl) rfl ?_ | refine LOps.pure (Pure.seq rfl rfl) rfl ?_ | refine LOps.pure (Pure.pickT (lv := .atom _) rfl rfl) rfl ?_ | refine LOps.pure (Pure.pickF (lv := .atom _) rfl rfl) rfl ?_ | refine LOps.pure (Pure.pickB rfl rfl rfl) rfl ?_ | refine LOps.pure (Pure.as (lv := .list _) rfl) rfl ?_ | refine LOps.pure (Pure.as (lv := .app _ _ _ _) rfl) rfl ?_ | refine LOps.pure (Pure.mv (lv := .list _) rfl) rfl ?_ | refine LOps.pure (Pure.mv (lv := .app _ _ _ _) rfl) rfl ?_ | refine LOps.pure (Pure.llen rfl) rfl ?_ | refine LOps.pure (Pure.neq rfl rfl) rfl ?_ | refine LOps.pure (Pure.fieldH rfl) rfl ?_ | refine LOps.pure (Pure.field1 rfl rfl) rfl ?_ | refine LOps.pure (Pure.slen rfl) rfl ?_ | refine LOps.want rfl rfl ?_ | refine LOps.skip rfl rfl rfl rfl ?_ | refine LOps.skipU rfl rfl rfl ?_ | refine LOps.step (S.store (cs' := [_, _, _]) rfl Pick.here rfl rfl rfl rfl rfl ?_) rfl | refine LOps.step (S.store (cs' := [_, _, _]) rfl (Pick.there Pick.here) rfl rfl rfl rfl rfl ?_) rfl | refine LOps.step (S.store (cs' := [_, _, _]) rfl (Pick.there (Pick.there Pick.here)) rfl rfl rfl rfl rfl ?_) rfl
 refine LCode.midC (A := Nat) (fun b12 => [(6, bool false), (11, ptr b11 0), (12, ptr b12 0)]) (fun b12 => [(b12, .cells 39 [str [UInt8.ofNat (v / 256), UInt8.ofNat v], int .i64 0, int .i64 (k2 : Nat)]), (b11, .cells 39 [str [UInt8.ofNat (v / 256), UInt8.ofNat v], int .i64 0, int .i64 (k1 : Nat)])]) (fun _ => True) ?_ ?_
 ·refine LCode.draw (m := 11) rfl [(b11, .cells 39 [str [UInt8.ofNat (v / 256), UInt8.ofNat v], int .i64 0, int .i64 (k1 : Nat)])] ?_
  first | refine LAny.tk 0 rfl rfl (Pure.mv (lv := .list _) rfl) ?_ | refine LAny.tk 0 rfl rfl (Pure.mv (lv := .app _ _ _ _) rfl) ?_ | refine LAny.tk 0 rfl rfl (Pure.mv (lv := .atom _) rfl) ?_
  refine LAny.take (i := 1) (HSub.refl _) rfl (by kernel_rfl) (by kernel_rfl) (by kernel_rfl) rfl (Pure.ixRef (el' := str (decDigits v)) (cs := [str (decDigits v)]) rfl rfl (by decide) rfl rfl rfl) ?_
  first | refine LAny.tk 2 rfl rfl (Pure.loadRef (c := .atom _) rfl rfl) ?_ | refine LAny.tk 2 rfl rfl (Pure.loadH (c := .atom _) rfl (List.Mem.head _) rfl) ?_ | refine LAny.tk 2 rfl rfl (Pure.loadH (c := .atom _) rfl (List.Mem.tail _ (List.Mem.head _)) rfl) ?_ | refine LAny.tk 2 rfl rfl (Pure.loadH (c := .atom _) rfl (List.Mem.tail _ (List.Mem.tail _ (List.Mem.head _))) rfl) ?_
  first | refine LAny.tk 3 rfl rfl (Pure.mv (lv := .list _) rfl) ?_ | refine LAny.tk 3 rfl rfl (Pure.mv (lv := .app _ _ _ _) rfl) ?_ | refine LAny.tk 3 rfl rfl (Pure.mv (lv := .atom _) rfl) ?_
  refine LAny.take (i := 4) (HSub.refl _) rfl (by kernel_rfl) (by kernel_rfl) (by kernel_rfl) rfl (Pure.ixRef (el' := str (decDigits v)) (cs := [str (decDigits v)]) rfl rfl (by decide) rfl rfl rfl) ?_
  first | refine LAny.tk 5 rfl rfl (Pure.loadRef (c := .atom _) rfl rfl) ?_ | refine LAny.tk 5 rfl rfl (Pure.loadH (c := .atom _) rfl (List.Mem.head _) rfl) ?_ | refine LAny.tk 5 rfl rfl (Pure.loadH (c := .atom _) rfl (List.Mem.tail _ (List.Mem.head _)) rfl) ?_ | refine LAny.tk 5 rfl rfl (Pure.loadH (c := .atom _) rfl (List.Mem.tail _ (List.Mem.tail _ (List.Mem.head _))) rfl) ?_
  refine LAny.late ?_ (HSub.refl _)
  refine LLate.two (i := 6) (j := 9) (by kernel_rfl) ?_ ?_
  ·refine LLateOp.step (H1 := []) rfl (.inl rfl) rfl (List.Perm.refl _) (by first | exact HSub.refl _ | exact HSub.drop (HSub.refl _)) (S.lit (es := [str (decDigits v), str [50, 53, 54], str [47], str [46], str (decDigits v), str [46], str [36]]) [_, _, _, _, _, _, _] rfl (elemsOk_strs [decDigits v, [50, 53, 54], [47], [46], decDigits v, [46], [36]]) rfl rfl rfl ?_)
   refine LLate.two (i := 7) (j := 9) (by kernel_rfl) ?_ ?_
   ·refine LLateOp.step (H1 := []) rfl (.inl rfl) rfl (List.Perm.refl _) (by first | exact HSub.refl _ | exact HSub.drop (HSub.refl _)) (S.fn [_, _] rfl j2 ?_)
    refine LLate.two (i := 8) (j := 9) (by kernel_rfl) ?_ ?_
    ·refine LLateOp.step (H1 := []) rfl (.inl rfl) rfl (List.Perm.refl _) (by first | exact HSub.refl _ | exact HSub.drop (HSub.refl _)) (S.fn [_, _] rfl r2 ?_)
     refine LLate.one (i := 9) (by kernel_rfl) ?_
     refine LLateOp.step (H1 := []) rfl (.inl rfl) rfl (List.Perm.refl _) (HSub.refl _) (S.alloc fun b12 => ?_)
     refine LLate.one (i := 10) (by kernel_rfl) ?_
     refine LLateOp.step (H1 := [_]) rfl (.inl rfl) rfl (List.Perm.refl _) (by first | exact HSub.refl _ | exact HSub.drop (HSub.refl _)) (S.store (n := 3) (cs' := [_, _, _]) rfl Pick.here rfl rfl rfl rfl rfl ?_)
     refine LLate.done (by kernel_rfl) ?_
     refine QThen.normal ?_
     exact ⟨b12, trivial, ⟨rfl, rfl, rfl, trivial⟩, HSub.refl _, rfl⟩
    ·refine LLateOp.step (H1 := []) rfl (.inl rfl) rfl (List.Perm.refl _) (HSub.refl _) (S.alloc fun b12 => ?_)
     refine LLate.one (i := 8) (by kernel_rfl) ?_
     refine LLateOp.step (H1 := []) rfl (.inl rfl) rfl (List.Perm.refl _) (by first | exact HSub.refl _ | exact HSub.drop (HSub.refl _)) (S.fn [_, _] rfl r2 ?_)
     refine LLate.one (i := 10) (by kernel_rfl) ?_
     refine LLateOp.step (H1 := [_]) rfl (.inl rfl) rfl (List.Perm.refl _) (by first | exact HSub.refl _ | exact HSub.drop (HSub.refl _)) (S.store (n := 3) (cs' := [_, _, _]) rfl Pick.here rfl rfl rfl rfl rfl ?_)
     refine LLate.done (by kernel_rfl) ?_
     refine QThen.normal ?_
     exact ⟨b12, trivial, ⟨rfl, rfl, rfl, trivial⟩, HSub.refl _, rfl⟩
   ·refine LLateOp.step (H1 := []) rfl (.inl rfl) rfl (List.Perm.refl _) (HSub.refl _) (S.alloc fun b12 => ?_)
    refine LLate.one (i := 7) (by kernel_rfl) ?_
    refine LLateOp.step (H1 := []) rfl (.inl rfl) rfl (List.Perm.refl _) (by first | exact HSub.refl _ | exact HSub.drop (HSub.refl _)) (S.fn [_, _] rfl j2 ?_)
    refine LLate.one (i := 8) (by kernel_rfl) ?_
    refine LLateOp.step (H1 := []) rfl (.inl rfl) rfl (List.Perm.refl _) (by first | exact HSub.refl _ | exact HSub.drop (HSub.refl _)) (S.fn [_, _] rfl r2 ?_)
    refine LLate.one (i := 10) (by kernel_rfl) ?_
    refine LLateOp.step (H1 := [_]) rfl (.inl rfl) rfl (List.Perm.refl _) (by first | exact HSub.refl _ | exact HSub.drop (HSub.refl _)) (S.store (n := 3) (cs' := [_, _, _]) rfl Pick.here rfl rfl rfl rfl rfl ?_)
    refine LLate.done (by kernel_rfl) ?_
    refine QThen.normal ?_
    exact ⟨b12, trivial, ⟨rfl, rfl, rfl, trivial⟩, HSub.refl _, rfl⟩
  ·refine LLateOp.step (H1 := []) rfl (.inl rfl) rfl (List.Perm.refl _) (HSub.refl _) (S.alloc fun b12 => ?_)
   refine LLate.one (i := 6) (by kernel_rfl) ?_
   refine LLateOp.step (H1 := []) rfl (.inl rfl) rfl (List.Perm.refl _) (by first | exact HSub.refl _ | exact HSub.drop (HSub.refl _)) (S.lit (es := [str (decDigits v), str [50, 53, 54], str [47], str [46], str (decDigits v), str [46], str [36]]) [_, _, _, _, _, _, _] rfl (elemsOk_strs [decDigits v, [50, 53, 54], [47], [46], decDigits v, [46], [36]]) rfl rfl rfl ?_)
   refine LLate.one (i := 7) (by kernel_rfl) ?_
   refine LLateOp.step (H1 := []) rfl (.inl rfl) rfl (List.Perm.refl _) (by first | exact HSub.refl _ | exact HSub.drop (HSub.refl _)) (S.fn [_, _] rfl j2 ?_)
   refine LLate.one (i := 8) (by kernel_rfl) ?_
   refine LLateOp.step (H1 := []) rfl (.inl rfl) rfl (List.Perm.refl _) (by first | exact HSub.refl _ | exact HSub.drop (HSub.refl _)) (S.fn [_, _] rfl r2 ?_)
   refine LLate.one (i := 10) (by kernel_rfl) ?_
   refine LLateOp.step (H1 := [_]) rfl (.inl rfl) rfl (List.Perm.refl _) (by first | exact HSub.refl _ | exact HSub.drop (HSub.refl _)) (S.store (n := 3) (cs' := [_, _, _]) rfl Pick.here rfl rfl rfl rfl rfl ?_)
   refine LLate.done (by kernel_rfl) ?_
   refine QThen.normal ?_
   exact ⟨b12, trivial, ⟨rfl, rfl, rfl, trivial⟩, HSub.refl _, rfl⟩
 rintro b12 _ j3 hj3
 repeat first | refine LOps.nil ?_ | refine LCode.seq ?_ | refine LCode.region ?_ | refine LCode.skip ?_ | refine LCode.ret ?_ | refine LCode.exit ?_ | refine LCode.block ?_ | refine QThen.normal ?_ | refine QThen.exit ?_ | refine QThen.ret ?_ | refine QBlock.hit ?_ | refine QBlock.miss (by decide) ?_ | refine QBlock.normal ?_ | refine QBlock.ret ?_ | refine LOps.pure (Pure.as (lv := .atom _) rfl) rfl ?_ | refine LOps.pure (Pure.not rfl) rfl ?_ | refine LOps.pure (Pure.mv (lv := .atom _) rfl) rfl ?_ | refine LOps.pure (Pure.cvt rfl) rfl ?_ | refine LOps.pure (Pure.loadRef (c := .atom _) rfl rfl) rfl ?_ | refine LOps.pure (Pure.loadH (c := .atom _) rfl (List.Mem.head _) rfl) rfl ?_ | refine LOps.pure (Pure.loadH (c := .atom _) rfl (List.Mem.tail _ (List.Mem.head _)) rfl) rfl ?_ | refine LOps.pure (Pure.loadH (c := .atom _) rfl (List.Mem.tail _ (List.Mem.tail _ (List.Mem.head _))) rfl) rfl ?_ | refine LOps.pure (Pure.eql rfl rfl) rfl ?_ | refine LOps.pure (Pure.seq rfl rfl) rfl ?_ | refine LOps.pure (Pure.pickT (lv := .atom _) rfl rfl) rfl ?_ | refine LOps.pure (Pure.pickF (lv := .atom _) rfl rfl) rfl ?_ | refine LOps.pure (Pure.pickB rfl rfl rfl) rfl ?_ | refine LOps.pure (Pure.as (lv := .list _) rfl) rfl ?_ | refine LOps.pure (Pure.as (lv := .app _ _ _ _) rfl) rfl ?_ | refine LOps.pure (Pure.mv (lv := .list _) rfl) rfl ?_ | refine LOps.pure (Pure.mv (lv := .app _ _ _ _) rfl) rfl ?_ | refine LOps.pure (Pure.llen rfl) rfl ?_ | refine LOps.pure (Pure.neq rfl rfl) rfl ?_ | refine LOps.pure (Pure.fieldH rfl) rfl ?_ | refine LOps.pure (Pure.field1 rfl rfl) rfl ?_ | refine LOps.pure (Pure.slen rfl) rfl ?_ | refine LOps.want rfl rfl ?_ | refine LOps.skip rfl rfl rfl rfl ?_ | refine LOps.skipU rfl rfl rfl ?_ | refine LOps.step (S.store (cs' := [_, _, _]) rfl Pick.here rfl rfl rfl rfl rfl ?_) rfl | refine LOps.step (S.store (cs' := [_, _, _]) rfl (Pick.there Pick.here) rfl rfl rfl rfl rfl ?_) rfl | refine LOps.step (S.store (cs' := [_, _, _]) rfl (Pick.there (Pick.there Pick.here)) rfl rfl rfl rfl rfl ?_) rfl
 refine LOps.bcase 79 rfl (fun _ => ?_) (fun h => absurd rfl (of_decide_eq_false h))
 repeat first | refine LOps.nil ?_ | refine LCode.seq ?_ | refine LCode.region ?_ | refine LCode.skip ?_ | refine LCode.ret ?_ | refine LCode.exit ?_ | refine LCode.block ?_ | refine QThen.normal ?_ | refine QThen.exit ?_ | refine QThen.ret ?_ | refine QBlock.hit ?_ | refine QBlock.miss (by decide) ?_ | refine QBlock.normal ?_ | refine QBlock.ret ?_ | refine LOps.pure (Pure.as (lv := .atom _) rfl) rfl ?_ | refine LOps.pure (Pure.not rfl) rfl ?_ | refine LOps.pure (Pure.mv (lv := .atom _) rfl) rfl ?_ | refine LOps.pure (Pure.cvt rfl) rfl ?_ | refine LOps.pure (Pure.loadRef (c := .atom _) rfl rfl) rfl ?_ | refine LOps.pure (Pure.loadH (c := .atom _) rfl (List.Mem.head _) rfl) rfl ?_ | refine LOps.pure (Pure.loadH (c := .atom _) rfl (List.Mem.tail _ (List.Mem.head _)) rfl) rfl ?_ | refine LOps.pure (Pure.loadH (c := .atom _) rfl (List.Mem.tail _ (List.Mem.tail _ (List.Mem.head _))) rfl) rfl ?_ | refine LOps.pure (Pure.eql rfl rfl) rfl ?_ | refine LOps.pure (Pure.seq rfl rfl) rfl ?_ | refine LOps.pure (Pure.pickT (lv := .atom _) rfl rfl) rfl ?_ | refine LOps.pure (Pure.pickF (lv := .atom _) rfl rfl) rfl ?_ | refine LOps.pure (Pure.pickB rfl rfl rfl) rfl ?_ | refine LOps.pure (Pure.as (lv := .list _) rfl) rfl ?_ | refine LOps.pure (Pure.as (lv := .app _ _ _ _) rfl) rfl ?_ | refine LOps.pure (Pure.mv (lv := .list _) rfl) rfl ?_ | refine LOps.pure (Pure.mv (lv := .app _ _ _ _) rfl) rfl ?_ | refine LOps.pure (Pure.llen rfl) rfl ?_ | refine LOps.pure (Pure.neq rfl rfl) rfl ?_ | refine LOps.pure (Pure.fieldH rfl) rfl ?_ | refine LOps.pure (Pure.field1 rfl rfl) rfl ?_ | refine LOps.pure (Pure.slen rfl) rfl ?_ | refine LOps.want rfl rfl ?_ | refine LOps.skip rfl rfl rfl rfl ?_ | refine LOps.skipU rfl rfl rfl ?_ | refine LOps.step (S.store (cs' := [_, _, _]) rfl Pick.here rfl rfl rfl rfl rfl ?_) rfl | refine LOps.step (S.store (cs' := [_, _, _]) rfl (Pick.there Pick.here) rfl rfl rfl rfl rfl ?_) rfl | refine LOps.step (S.store (cs' := [_, _, _]) rfl (Pick.there (Pick.there Pick.here)) rfl rfl rfl rfl rfl ?_) rfl
 refine LOps.step (S.lit (es := [str [48], str [43], str [49], str [42], str [48], str [94], str [49], str [47], str [48], str [45]]) [_, _, _, _, _, _, _, _, _, _] rfl (elemsOk_strs [[48], [43], [49], [42], [48], [94], [49], [47], [48], [45]]) rfl rfl rfl ?_) rfl
 repeat first | refine LOps.nil ?_ | refine LCode.seq ?_ | refine LCode.region ?_ | refine LCode.skip ?_ | refine LCode.ret ?_ | refine LCode.exit ?_ | refine LCode.block ?_ | refine QThen.normal ?_ | refine QThen.exit ?_ | refine QThen.ret ?_ | refine QBlock.hit ?_ | refine QBlock.miss (by decide) ?_ | refine QBlock.normal ?_ | refine QBlock.ret ?_ | refine LOps.pure (Pure.as (lv := .atom _) rfl) rfl ?_ | refine LOps.pure (Pure.not rfl) rfl ?_ | refine LOps.pure (Pure.mv (lv := .atom _) rfl) rfl ?_ | refine LOps.pure (Pure.cvt rfl) rfl ?_ | refine LOps.pure (Pure.loadRef (c := .atom _) rfl rfl) rfl ?_ | refine LOps.pure (Pure.loadH (c := .atom _) rfl (List.Mem.head _) rfl) rfl ?_ | refine LOps.pure (Pure.loadH (c := .atom _) rfl (List.Mem.tail _ (List.Mem.head _)) rfl) rfl ?_ | refine LOps.pure (Pure.loadH (c := .atom _) rfl (List.Mem.tail _ (List.Mem.tail _ (List.Mem.head _))) rfl) rfl ?_ | refine LOps.pure (Pure.eql rfl rfl) rfl ?_ | refine LOps.pure (Pure.seq rfl rfl) rfl ?_ | refine LOps.pure (Pure.pickT (lv := .atom _) rfl rfl) rfl ?_ | refine LOps.pure (Pure.pickF (lv := .atom _) rfl rfl) rfl ?_ | refine LOps.pure (Pure.pickB rfl rfl rfl) rfl ?_ | refine LOps.pure (Pure.as (lv := .list _) rfl) rfl ?_ | refine LOps.pure (Pure.as (lv := .app _ _ _ _) rfl) rfl ?_ | refine LOps.pure (Pure.mv (lv := .list _) rfl) rfl ?_ | refine LOps.pure (Pure.mv (lv := .app _ _ _ _) rfl) rfl ?_ | refine LOps.pure (Pure.llen rfl) rfl ?_ | refine LOps.pure (Pure.neq rfl rfl) rfl ?_ | refine LOps.pure (Pure.fieldH rfl) rfl ?_ | refine LOps.pure (Pure.field1 rfl rfl) rfl ?_ | refine LOps.pure (Pure.slen rfl) rfl ?_ | refine LOps.want rfl rfl ?_ | refine LOps.skip rfl rfl rfl rfl ?_ | refine LOps.skipU rfl rfl rfl ?_ | refine LOps.step (S.store (cs' := [_, _, _]) rfl Pick.here rfl rfl rfl rfl rfl ?_) rfl | refine LOps.step (S.store (cs' := [_, _, _]) rfl (Pick.there Pick.here) rfl rfl rfl rfl rfl ?_) rfl | refine LOps.step (S.store (cs' := [_, _, _]) rfl (Pick.there (Pick.there Pick.here)) rfl rfl rfl rfl rfl ?_) rfl
 refine LOps.step (S.fn [_] rfl hon2 ?_) rfl
 repeat first | refine LOps.nil ?_ | refine LCode.seq ?_ | refine LCode.region ?_ | refine LCode.skip ?_ | refine LCode.ret ?_ | refine LCode.exit ?_ | refine LCode.block ?_ | refine QThen.normal ?_ | refine QThen.exit ?_ | refine QThen.ret ?_ | refine QBlock.hit ?_ | refine QBlock.miss (by decide) ?_ | refine QBlock.normal ?_ | refine QBlock.ret ?_ | refine LOps.pure (Pure.as (lv := .atom _) rfl) rfl ?_ | refine LOps.pure (Pure.not rfl) rfl ?_ | refine LOps.pure (Pure.mv (lv := .atom _) rfl) rfl ?_ | refine LOps.pure (Pure.cvt rfl) rfl ?_ | refine LOps.pure (Pure.loadRef (c := .atom _) rfl rfl) rfl ?_ | refine LOps.pure (Pure.loadH (c := .atom _) rfl (List.Mem.head _) rfl) rfl ?_ | refine LOps.pure (Pure.loadH (c := .atom _) rfl (List.Mem.tail _ (List.Mem.head _)) rfl) rfl ?_ | refine LOps.pure (Pure.loadH (c := .atom _) rfl (List.Mem.tail _ (List.Mem.tail _ (List.Mem.head _))) rfl) rfl ?_ | refine LOps.pure (Pure.eql rfl rfl) rfl ?_ | refine LOps.pure (Pure.seq rfl rfl) rfl ?_ | refine LOps.pure (Pure.pickT (lv := .atom _) rfl rfl) rfl ?_ | refine LOps.pure (Pure.pickF (lv := .atom _) rfl rfl) rfl ?_ | refine LOps.pure (Pure.pickB rfl rfl rfl) rfl ?_ | refine LOps.pure (Pure.as (lv := .list _) rfl) rfl ?_ | refine LOps.pure (Pure.as (lv := .app _ _ _ _) rfl) rfl ?_ | refine LOps.pure (Pure.mv (lv := .list _) rfl) rfl ?_ | refine LOps.pure (Pure.mv (lv := .app _ _ _ _) rfl) rfl ?_ | refine LOps.pure (Pure.llen rfl) rfl ?_ | refine LOps.pure (Pure.neq rfl rfl) rfl ?_ | refine LOps.pure (Pure.fieldH rfl) rfl ?_ | refine LOps.pure (Pure.field1 rfl rfl) rfl ?_ | refine LOps.pure (Pure.slen rfl) rfl ?_ | refine LOps.want rfl rfl ?_ | refine LOps.skip rfl rfl rfl rfl ?_ | refine LOps.skipU rfl rfl rfl ?_ | refine LOps.step (S.store (cs' := [_, _, _]) rfl Pick.here rfl rfl rfl rfl rfl ?_) rfl | refine LOps.step (S.store (cs' := [_, _, _]) rfl (Pick.there Pick.here) rfl rfl rfl rfl rfl ?_) rfl | refine LOps.step (S.store (cs' := [_, _, _]) rfl (Pick.there (Pick.there Pick.here)) rfl rfl rfl rfl rfl ?_) rfl
 exact retRet (hj3.trans hj) (AllRes.cons (ResIs.tmp (v := .atom _) rfl (LV.Sub.refl _)) AllRes.nil) rfl
end
end Go.Proofs.YtdakelgkjdaijaaGreatDoor.Pp
