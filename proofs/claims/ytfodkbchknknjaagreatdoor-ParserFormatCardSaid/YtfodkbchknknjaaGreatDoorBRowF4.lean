/- Texts joined: Fmt2, GlStr, Fmt3, Fmt4, REq2, REq3, PEq, GlArith. -/
import Derived.Lib.Builder
import Derived.Lib.AppendStr
import Derived.StillTail
import Derived.Test.YtfodkbchknknjaaGreatDoorBRowF1
import Derived.Test.YtfodkbchknknjaaGreatDoorBRowF2
import Derived.Test.YtfodkbchknknjaaGreatDoorBRowF3
set_option linter.unusedVariables false
set_option linter.unusedSimpArgs false
namespace Go.Proofs.YtfodkbchknknjaaGreatDoor
open Go.GL Go.RowKit Go.Stele
set_option maxRecDepth 100000
set_option maxHeartbeats 4000000
attribute [local irreducible] LOps LCode LStep LCalls Go.GL.Pure QThen QBlock RetPost LQ LAny LLate LLateOp
theorem wrap_u64 {n : Int} (h : 0 ≤ n ∧ n ≤ 4294967295) : IntKind.u64.wrap n = n := by
 simp only [IntKind.wrap, IntKind.bits, IntKind.signed, Bool.false_and]
 simp
 omega
theorem opnd_len (x : OpT) (least : Nat) : x.2.length ≤ (opnd x least).length := by
 unfold opnd
 split
 ·simp
  omega
 ·exact Nat.le_refl _
theorem join_mem (sep : List UInt8) : ∀ {ws : List (List UInt8)} {x : List UInt8}, x ∈ ws → x.length ≤ (Go.Lib.join ws sep).length
 | [a], x, h => by
  obtain rfl := List.mem_singleton.mp h
  simp [Go.Lib.join]
 | a :: b :: r, x, h => by
  have e : Go.Lib.join (a :: b :: r) sep = a ++ sep ++ Go.Lib.join (b :: r) sep := by simp [Go.Lib.join]
  rw [e]
  rcases List.mem_cons.mp h with h | h
  ·subst h
   simp only [List.length_append]
   omega
  ·have := join_mem sep h
   simp only [List.length_append]
   omega
section
variable {B0 : Nat} {w0 : World}
theorem operand_spec (e : Ex) (least : Nat) (hl : (fE e).length ≤ 1000000000) (he : LCalls (KC B0 w0) 118 [encE e] [] (Ret (str (fE e)))) :
  LCalls (KC B0 w0) 142 [encE e, int .i64 least] [] (Ret (str (opnd (exOp e, fE e) least))) := by
 obtain ⟨op, num, name, args⟩ := e
 simp only [exOp]
 rw [encE_mk] at he ⊢
 refine LCalls.intro Tryz.func142 rfl (n := 17) rfl rfl rfl ?_
 repeat first | refine LCode.seq ?_ | refine LCode.region ?_
 refine LOps.step (S.box (cs := [str op, int .u32 num, str name, .list (args.map encE)]) rfl fun b1 => ?_) rfl
 repeat first | refine LOps.nil ?_ | refine LCode.seq ?_ | refine LCode.region ?_ | refine QThen.normal ?_ | refine LOps.pure (Pure.as (lv := .atom _) rfl) rfl ?_ | refine LOps.pure (Pure.ldHAgg (cs' := [_, _, _, _]) rfl (List.Mem.head _) rfl rfl) rfl ?_
 refine LOps.step (S.fn [_] rfl he ?_) rfl
 repeat first | refine LOps.nil ?_ | refine LCode.seq ?_ | refine LCode.region ?_ | refine QThen.normal ?_ | refine LOps.pure (Pure.as (lv := .atom _) rfl) rfl ?_ | refine LOps.pure (Pure.fieldH rfl) rfl ?_ | refine LOps.pure (Pure.loadH (c := .atom _) rfl (List.Mem.head _) rfl) rfl ?_
 refine LOps.step (S.fn [_] rfl (strength_spec op) ?_) rfl
 repeat first | refine LOps.nil ?_ | refine QThen.normal ?_ | refine LOps.pure (Pure.mv (lv := .atom _) rfl) rfl ?_ | refine LOps.pure (Pure.lss rfl rfl) rfl ?_
 refine LCode.cond rfl (fun hd => ?_) (fun hd => ?_)
 ·have hd' : strengthP op < least := by have := of_decide_eq_true hd; omega
  repeat first | refine LOps.nil ?_ | refine LCode.seq ?_ | refine LCode.region ?_ | refine LCode.ret ?_ | refine QThen.normal ?_ | refine QThen.ret ?_ | refine LOps.pure (Pure.as (lv := .atom _) rfl) rfl ?_ | refine LOps.pure (Pure.mv (lv := .atom _) rfl) rfl ?_ | refine LOps.pure (Pure.sadd rfl rfl (by simp only [List.length_append, List.length_cons, List.length_nil]; omega)) rfl ?_
  exact retRet rfl (AllRes.cons (ResIs.tmp (v := .atom _) rfl (LV.Sub.refl _)) AllRes.nil) (str_eq (by simp only [opnd]; rw [if_pos hd']))
 ·have hd' : ¬ strengthP op < least := by have := of_decide_eq_false hd; omega
  repeat first | refine LOps.nil ?_ | refine LCode.seq ?_ | refine LCode.region ?_ | refine LCode.skip ?_ | refine LCode.ret ?_ | refine QThen.normal ?_ | refine LOps.pure (Pure.as (lv := .atom _) rfl) rfl ?_ | refine LOps.pure (Pure.mv (lv := .atom _) rfl) rfl ?_
  exact retRet rfl (AllRes.cons (ResIs.tmp (v := .atom _) rfl (LV.Sub.refl _)) AllRes.nil) (str_eq (by simp only [opnd]; rw [if_neg hd']))
theorem list_spec (l : List Ex) (hn : l.length ≤ 1000000000) (hl : (Go.Lib.join (l.map fE) comSp).length ≤ 1000000000) (he : ∀ e ∈ l, LCalls (KC B0 w0) 118 [encE e] [] (Ret (str (fE e)))) :
  LCalls (KC B0 w0) 87 [.list (l.map encE)] [] (Ret (str (Go.Lib.join (l.map fE) comSp))) := by
 have hla : (l.map encE).length = l.length := List.length_map _
 refine LCalls.intro Tryz.func87 rfl (n := 20) rfl rfl rfl ?_
 repeat first | refine LOps.nil ?_ | refine LCode.seq ?_ | refine LCode.region ?_ | refine LCode.block ?_ | refine QThen.normal ?_ | refine LOps.pure (Pure.as (lv := .atom _) rfl) rfl ?_ | refine LOps.pure (Pure.mv (lv := .list _) rfl) rfl ?_ | refine LOps.pure (Pure.mv (lv := .atom _) rfl) rfl ?_ | refine LOps.pure (Pure.llen rfl) rfl ?_
 refine LCode.loopI (fun k ls H => ∃ (v : LV) (i : Nat), i ≤ l.length ∧ k = l.length - i ∧ ls = [(0, .list (l.map encE)), (3, v), (6, .list (l.map encE)), (7, int .i64 l.length), (8, int .i64 i)] ∧ Acc 1 v (((l.take i).map fE).map str) H [])
  ⟨_, _, _, ⟨nilSlice, 0, Nat.zero_le _, rfl, rfl, by simpa using Acc.nil⟩, ⟨rfl, rfl, rfl, int_eq (by omega), rfl, trivial⟩, HSub.refl _⟩ ?_
 rintro k ls H ⟨v, i, hi, rfl, rfl, hacc⟩ j hj
 repeat first | refine LOps.nil ?_ | refine LCode.seq ?_ | refine LCode.region ?_ | refine QThen.normal ?_ | refine LOps.pure (Pure.lss rfl rfl) rfl ?_
 refine LCode.cond rfl (fun hc => ?_) (fun hc => ?_)
 ·have hlt : i < l.length := by have := of_decide_eq_true hc; omega
  repeat first | refine LCode.seq ?_ | refine LCode.region ?_ | refine LCode.skip ?_ | refine LCode.block ?_ | refine QThen.normal ?_
  refine LOps.pure (Pure.ixRef (el' := encE l[i]) (cs := [_, _, _, _]) rfl rfl (by omega) (map_get _ _ _ hlt) rfl rfl) rfl ?_
  repeat first | refine LOps.pure (Pure.ldRefAgg (cs' := [_, _, _, _]) rfl rfl rfl) rfl ?_
  refine LOps.step (S.alloc fun b5 => ?_) rfl
  repeat first | refine LOps.nil ?_ | refine LCode.region ?_ | refine QThen.normal ?_ | refine LOps.step (S.store (cs' := [_, _, _, _]) rfl Pick.here rfl rfl rfl rfl rfl ?_) rfl
  refine LOps.pure (Pure.mv (lv := v) rfl) rfl ?_
  repeat first | refine LOps.pure (Pure.ldHAgg (cs' := [_, _, _, _]) rfl (List.Mem.head _) rfl rfl) rfl ?_
  refine LOps.step (S.fn [_] rfl (he l[i] (List.getElem_mem hlt)) ?_) rfl
  refine LOps.step (S.lit [_] rfl (elemsOk.cons rfl rfl elemsOk.nil) rfl rfl rfl ?_) rfl
  refine LOps.step (S.acc1 rfl hacc rfl (by simp; rfl) rfl (by simp; omega) fun v' H' hacc' => ?_) rfl
  refine LOps.pure (Pure.as (lv := v') rfl) rfl ?_
  repeat first | refine LOps.nil ?_ | refine LCode.region ?_ | refine QThen.normal ?_ | refine QBlock.normal ?_ | refine LOps.pure (Pure.mv (lv := .atom _) rfl) rfl ?_ | refine LOps.pure (Pure.add rfl rfl (by omega)) rfl ?_
  exact ⟨_, _, _, by omega, ⟨v', i + 1, by omega, rfl, rfl, by
   rw [List.take_succ_eq_append_getElem hlt, List.map_append, List.map_append]
   exact hacc'⟩, ⟨rfl, rfl, rfl, rfl, int_eq (by omega), trivial⟩, HSub.drop (HSub.refl _), hj⟩
 ·have hi' : i = l.length := by have := of_decide_eq_false hc; omega
  subst hi'
  rw [List.take_length] at hacc
  refine LCode.sub (d := 3) (v := v) rfl hacc.sub ?_
  refine LCode.weak (HSub.nil _) ?_
  repeat first | refine LCode.seq ?_ | refine LCode.region ?_ | refine LCode.exit ?_ | refine QThen.normal ?_ | refine QThen.exit ?_ | refine QBlock.hit ?_ | refine LOps.pure (Pure.mv (lv := .list _) rfl) rfl ?_
  refine LOps.step (S.fn [_, _] rfl (joinS_spec comSp (l.map fE) (by rw [List.length_map]; omega) hl) ?_) rfl
  repeat first | refine LOps.nil ?_ | refine LCode.ret ?_ | refine QThen.normal ?_ | refine LOps.pure (Pure.as (lv := .atom _) rfl) rfl ?_
  exact retRet hj (AllRes.cons (ResIs.tmp (v := .atom _) rfl (LV.Sub.refl _)) AllRes.nil) rfl
theorem expr_node (hG : GW B0 w0) (op : List UInt8) (num : Nat) (name : List UInt8) (args : List Ex) (hnum : num < 4294967296) (hn : args.length ≤ 1000000000) (hl : (fE (.mk op num name args)).length ≤ 1000000000)
  (he : ∀ e ∈ args, (fE e).length ≤ 1000000000 → LCalls (KC B0 w0) 118 [encE e] [] (Ret (str (fE e)))) :
  LCalls (KC B0 w0) 118 [encE (.mk op num name args)] [] (Ret (str (fE (.mk op num name args)))) := by
 have hF := fE_mk op num name args
 have hla : (args.map encE).length = args.length := List.length_map _
 rw [fNode, List.length_map, List.map_map] at hF
 rw [encE_mk]
 refine LCalls.intro Tryz.func118 rfl (n := 113) rfl rfl rfl ?_
 repeat first | refine LCode.seq ?_ | refine LCode.region ?_
 refine LOps.step (S.box (cs := [str op, int .u32 num, str name, .list (args.map encE)]) rfl fun b1 => ?_) rfl
 repeat first | refine LOps.nil ?_ | refine LCode.seq ?_ | refine QThen.normal ?_ | refine LOps.pure (Pure.as (lv := .atom _) rfl) rfl ?_
 refine LCode.cut [(1, ptr b1 0), (2, str []), (3, int .i64 args.length), (4, int .i64 (strengthP op))] ?_ (fun j hj => ?_)
 ·refine LCode.quiet (by kernel_rfl) ?_
  repeat first | refine LQ.pure (Pure.fieldH rfl) rfl ?_ | refine LQ.pure (Pure.loadH (c := .list _) rfl (List.Mem.head _) rfl) rfl ?_ | refine LQ.pure (Pure.loadH (c := .atom _) rfl (List.Mem.head _) rfl) rfl ?_ | refine LQ.pure (Pure.llen rfl) rfl ?_
  refine LQ.call (args := [_]) (v := .int .i64 (strengthP op)) (ret_any (strength_spec op)) rfl ?_
  repeat first | refine LQ.pure (Pure.as (lv := .atom _) rfl) rfl ?_ | refine LQ.nil ?_ | refine QThen.normal ?_
  exact ⟨⟨rfl, rfl, int_eq (by omega), rfl, trivial⟩, rfl, rfl⟩
 repeat first | refine LOps.nil ?_ | refine LCode.seq ?_ | refine LCode.region ?_ | refine LCode.block ?_ | refine QThen.normal ?_ | refine LOps.pure (Pure.as (lv := .atom _) rfl) rfl ?_ | refine LOps.pure (Pure.fieldH rfl) rfl ?_ | refine LOps.pure (Pure.loadH (c := .atom _) rfl (List.Mem.head _) rfl) rfl ?_ | refine LOps.pure (Pure.seq rfl rfl) rfl ?_
 refine LCode.cond rfl (fun h1 => ?_) (fun h1 => ?_)
 ·have e1 : op = nNum := of_decide_eq_true h1
  rw [if_pos e1] at hF
  repeat first | refine LCode.seq ?_ | refine LCode.region ?_ | refine LOps.pure (Pure.fieldH rfl) rfl ?_ | refine LOps.pure (Pure.loadH (c := .atom _) rfl (List.Mem.head _) rfl) rfl ?_ | refine LOps.pure (Pure.cvt rfl) rfl ?_
  refine LOps.step (S.fn [_, _] (show _ = [int .u64 (IntKind.wrap .u64 num), int .i64 10] from rfl) (by rw [wrap_u64 (by omega)]; exact fmtUint_spec hG num (by omega)) ?_) rfl
  repeat first | refine LOps.nil ?_ | refine LCode.ret ?_ | refine QThen.normal ?_ | refine QThen.ret ?_ | refine QBlock.ret ?_ | refine LOps.pure (Pure.as (lv := .atom _) rfl) rfl ?_
  exact retRet hj (AllRes.cons (ResIs.tmp (v := .atom _) rfl (LV.Sub.refl _)) AllRes.nil) (str_eq hF.symm)
 have e1 : ¬ op = nNum := of_decide_eq_false h1
 rw [if_neg e1] at hF
 repeat first | refine LOps.nil ?_ | refine LCode.seq ?_ | refine LCode.region ?_ | refine QThen.normal ?_ | refine LOps.pure (Pure.as (lv := .atom _) rfl) rfl ?_ | refine LOps.pure (Pure.fieldH rfl) rfl ?_ | refine LOps.pure (Pure.loadH (c := .atom _) rfl (List.Mem.head _) rfl) rfl ?_ | refine LOps.pure (Pure.seq rfl rfl) rfl ?_
 refine LCode.cond rfl (fun h2 => ?_) (fun h2 => ?_)
 ·have e2 : op = nVar := of_decide_eq_true h2
  rw [if_pos e2] at hF
  repeat first | refine LOps.nil ?_ | refine LCode.seq ?_ | refine LCode.region ?_ | refine LCode.ret ?_ | refine QThen.normal ?_ | refine QThen.ret ?_ | refine QBlock.ret ?_ | refine LOps.pure (Pure.as (lv := .atom _) rfl) rfl ?_ | refine LOps.pure (Pure.fieldH rfl) rfl ?_ | refine LOps.pure (Pure.loadH (c := .atom _) rfl (List.Mem.head _) rfl) rfl ?_
  exact retRet hj (AllRes.cons (ResIs.tmp (v := .atom _) rfl (LV.Sub.refl _)) AllRes.nil) (str_eq hF.symm)
 have e2 : ¬ op = nVar := of_decide_eq_false h2
 rw [if_neg e2] at hF
 repeat first | refine LCode.seq ?_ | refine LCode.region ?_ | refine LOps.pure (Pure.fieldH rfl) rfl ?_ | refine LOps.pure (Pure.loadH (c := .atom _) rfl (List.Mem.head _) rfl) rfl ?_ | refine LOps.pure (Pure.seq rfl rfl) rfl ?_ | refine LOps.pure (Pure.mv (lv := .atom _) rfl) rfl ?_
 refine LOps.cut [(1, ptr b1 0), (2, str []), (3, int .i64 args.length), (4, int .i64 (strengthP op)), (26, bool (decide (op = nElem ∧ args.length = 1)))] ?_ (fun j3 hj3 => ?_)
 ·refine LOps.bcase 30 rfl (fun h => ?_) (fun h => ?_)
  ·have h' : op = nElem := of_decide_eq_true h
   repeat first | refine LOps.nil ?_ | refine QThen.normal ?_ | refine LOps.pure (Pure.as (lv := .atom _) rfl) rfl ?_ | refine LOps.pure (Pure.mv (lv := .atom _) rfl) rfl ?_ | refine LOps.pure (Pure.eql rfl rfl) rfl ?_ | refine LOps.pure (Pure.pickT (lv := .atom _) rfl rfl) rfl ?_ | refine LOps.want rfl rfl ?_
   exact ⟨⟨rfl, rfl, rfl, rfl, bool_eq (by simp only [h', true_and]; exact decide_eq_decide.mpr (by omega)), trivial⟩, rfl, rfl⟩
  ·have h' : ¬ op = nElem := of_decide_eq_false h
   repeat first | refine LOps.nil ?_ | refine QThen.normal ?_ | refine LOps.pure (Pure.as (lv := .atom _) rfl) rfl ?_ | refine LOps.pure (Pure.pickF (lv := .atom _) rfl rfl) rfl ?_ | refine LOps.skip rfl rfl rfl rfl ?_
   exact ⟨⟨rfl, rfl, rfl, rfl, bool_eq (by simp only [h', false_and]; rfl), trivial⟩, rfl, rfl⟩
 refine LCode.cond rfl (fun h3 => ?_) (fun h3 => ?_)
 ·obtain ⟨e3, hlen⟩ : op = nElem ∧ args.length = 1 := of_decide_eq_true h3
  obtain ⟨a, rfl⟩ := List.length_eq_one_iff.mp hlen
  rw [if_pos ⟨e3, hlen⟩] at hF
  simp only [List.map_cons, List.headD_cons] at hF
  rw [hF] at hl
  simp only [List.length_append, List.length_cons, List.length_nil] at hl
  repeat first | refine LCode.seq ?_
  refine LCode.cut [(2, str (name ++ [91] ++ fE a ++ [93]))] ?_ (fun j4 hj4 => ?_)
  ·refine LCode.quiet (by kernel_rfl) ?_
   repeat first | refine LQ.pure (Pure.fieldH rfl) rfl ?_ | refine LQ.pure (Pure.loadH (c := .list _) rfl (List.Mem.head _) rfl) rfl ?_ | refine LQ.pure (Pure.loadH (c := .atom _) rfl (List.Mem.head _) rfl) rfl ?_ | refine LQ.pure (Pure.sadd rfl rfl (by simp only [List.length_append, List.length_cons, List.length_nil]; omega)) rfl ?_
   refine LQ.pure (Pure.ixRef (el' := encE a) (cs := [_, _, _, _]) rfl rfl (by omega) rfl rfl rfl) rfl ?_
   repeat first | refine LQ.pure (Pure.ldRefAgg (cs' := [_, _, _, _]) rfl rfl rfl) rfl ?_
   refine LQ.call (args := [_]) (v := .string ⟨(fE a).toArray⟩) (ret_any (he a (List.mem_singleton.mpr rfl) (by omega))) rfl ?_
   repeat first | refine LQ.pure (Pure.as (lv := .atom _) rfl) rfl ?_ | refine LQ.pure (Pure.sadd rfl rfl (by simp only [List.length_append, List.length_cons, List.length_nil]; omega)) rfl ?_ | refine LQ.nil ?_ | refine QThen.normal ?_
   exact ⟨⟨rfl, trivial⟩, rfl, rfl⟩
  repeat first | refine LCode.ret ?_ | refine QThen.ret ?_ | refine QBlock.ret ?_
  exact retRet (hj4.trans (hj3.trans hj)) (AllRes.cons (ResIs.tmp (v := .atom _) rfl (LV.Sub.refl _)) AllRes.nil) (str_eq hF.symm)
 have e3 : ¬ (op = nElem ∧ args.length = 1) := of_decide_eq_false h3
 rw [if_neg e3] at hF
 repeat first | refine LOps.nil ?_ | refine LCode.seq ?_ | refine LCode.region ?_ | refine QThen.normal ?_ | refine LOps.pure (Pure.as (lv := .atom _) rfl) rfl ?_ | refine LOps.pure (Pure.fieldH rfl) rfl ?_ | refine LOps.pure (Pure.loadH (c := .atom _) rfl (List.Mem.head _) rfl) rfl ?_ | refine LOps.pure (Pure.seq rfl rfl) rfl ?_
 refine LCode.cond rfl (fun h4 => ?_) (fun h4 => ?_)
 ·have e4 : op = nCall := of_decide_eq_true h4
  rw [if_pos e4] at hF
  have hmm : List.map ((fun x => x.snd) ∘ fun e => (exOp e, fE e)) args = args.map fE := rfl
  rw [hmm] at hF
  rw [hF] at hl
  simp only [List.length_append, List.length_cons, List.length_nil] at hl
  repeat first | refine LCode.seq ?_
  refine LCode.cut [(2, str (name ++ [40] ++ Go.Lib.join (args.map fE) comSp ++ [41]))] ?_ (fun j4 hj4 => ?_)
  ·refine LCode.quiet (by kernel_rfl) ?_
   repeat first | refine LQ.pure (Pure.fieldH rfl) rfl ?_ | refine LQ.pure (Pure.loadH (c := .list _) rfl (List.Mem.head _) rfl) rfl ?_ | refine LQ.pure (Pure.loadH (c := .atom _) rfl (List.Mem.head _) rfl) rfl ?_ | refine LQ.pure (Pure.sadd rfl rfl (by simp only [List.length_append, List.length_cons, List.length_nil]; omega)) rfl ?_
   refine LQ.call (args := [_]) (v := .string ⟨(Go.Lib.join (args.map fE) comSp).toArray⟩) (ret_any (list_spec args hn (by omega) fun e he' => he e he' (by have := join_mem comSp (List.mem_map_of_mem (f := fE) he'); omega))) rfl ?_
   repeat first | refine LQ.pure (Pure.as (lv := .atom _) rfl) rfl ?_ | refine LQ.pure (Pure.sadd rfl rfl (by simp only [List.length_append, List.length_cons, List.length_nil]; omega)) rfl ?_ | refine LQ.nil ?_ | refine QThen.normal ?_
   exact ⟨⟨rfl, trivial⟩, rfl, rfl⟩
  repeat first | refine LCode.ret ?_ | refine QThen.ret ?_ | refine QBlock.ret ?_
  exact retRet (hj4.trans (hj3.trans hj)) (AllRes.cons (ResIs.tmp (v := .atom _) rfl (LV.Sub.refl _)) AllRes.nil) (str_eq hF.symm)
 have e4 : ¬ op = nCall := of_decide_eq_false h4
 rw [if_neg e4] at hF
 repeat first | refine LCode.seq ?_ | refine LCode.region ?_ | refine LOps.pure (Pure.fieldH rfl) rfl ?_ | refine LOps.pure (Pure.loadH (c := .atom _) rfl (List.Mem.head _) rfl) rfl ?_ | refine LOps.pure (Pure.seq rfl rfl) rfl ?_ | refine LOps.pure (Pure.mv (lv := .atom _) rfl) rfl ?_
 refine LOps.cut [(1, ptr b1 0), (2, str []), (3, int .i64 args.length), (4, int .i64 (strengthP op)), (56, bool (decide (op = nNeg ∧ args.length = 1)))] ?_ (fun j5 hj5 => ?_)
 ·refine LOps.bcase 60 rfl (fun h => ?_) (fun h => ?_)
  ·have h' : op = nNeg := of_decide_eq_true h
   repeat first | refine LOps.nil ?_ | refine QThen.normal ?_ | refine LOps.pure (Pure.as (lv := .atom _) rfl) rfl ?_ | refine LOps.pure (Pure.mv (lv := .atom _) rfl) rfl ?_ | refine LOps.pure (Pure.eql rfl rfl) rfl ?_ | refine LOps.pure (Pure.pickT (lv := .atom _) rfl rfl) rfl ?_ | refine LOps.want rfl rfl ?_
   exact ⟨⟨rfl, rfl, rfl, rfl, bool_eq (by simp only [h', true_and]; exact decide_eq_decide.mpr (by omega)), trivial⟩, rfl, rfl⟩
  ·have h' : ¬ op = nNeg := of_decide_eq_false h
   repeat first | refine LOps.nil ?_ | refine QThen.normal ?_ | refine LOps.pure (Pure.as (lv := .atom _) rfl) rfl ?_ | refine LOps.pure (Pure.pickF (lv := .atom _) rfl rfl) rfl ?_ | refine LOps.skip rfl rfl rfl rfl ?_
   exact ⟨⟨rfl, rfl, rfl, rfl, bool_eq (by simp only [h', false_and]; rfl), trivial⟩, rfl, rfl⟩
 refine LCode.cond rfl (fun h5 => ?_) (fun h5 => ?_)
 ·obtain ⟨e5, hlen⟩ : op = nNeg ∧ args.length = 1 := of_decide_eq_true h5
  obtain ⟨a, rfl⟩ := List.length_eq_one_iff.mp hlen
  rw [if_pos ⟨e5, hlen⟩] at hF
  simp only [List.map_cons, List.headD_cons] at hF
  rw [hF] at hl
  simp only [List.length_append, List.length_cons, List.length_nil] at hl
  have hol := opnd_len (exOp a, fE a) (strengthP op)
  simp only at hol
  repeat first | refine LCode.seq ?_ | refine LCode.region ?_ | refine LOps.pure (Pure.fieldH rfl) rfl ?_ | refine LOps.pure (Pure.loadH (c := .list _) rfl (List.Mem.head _) rfl) rfl ?_
  refine LOps.pure (Pure.ixRef (el' := encE a) (cs := [_, _, _, _]) rfl rfl (by omega) rfl rfl rfl) rfl ?_
  repeat first | refine LOps.pure (Pure.mv (lv := .atom _) rfl) rfl ?_ | refine LOps.pure (Pure.ldRefAgg (cs' := [_, _, _, _]) rfl rfl rfl) rfl ?_
  refine LOps.step (S.fn [_, _] rfl (operand_spec a (strengthP op) (by omega) (he a (List.mem_singleton.mpr rfl) (by omega))) ?_) rfl
  repeat first | refine LOps.nil ?_ | refine LCode.ret ?_ | refine QThen.normal ?_ | refine QThen.ret ?_ | refine QBlock.ret ?_ | refine LOps.pure (Pure.as (lv := .atom _) rfl) rfl ?_ | refine LOps.pure (Pure.sadd rfl rfl (by simp only [List.length_append, List.length_cons, List.length_nil]; omega)) rfl ?_
  exact retRet (hj5.trans (hj3.trans hj)) (AllRes.cons (ResIs.tmp (v := .atom _) rfl (LV.Sub.refl _)) AllRes.nil) (str_eq hF.symm)
 have e5 : ¬ (op = nNeg ∧ args.length = 1) := of_decide_eq_false h5
 rw [if_neg e5] at hF
 repeat first | refine LCode.seq ?_ | refine LCode.region ?_ | refine LOps.pure (Pure.fieldH rfl) rfl ?_ | refine LOps.pure (Pure.loadH (c := .atom _) rfl (List.Mem.head _) rfl) rfl ?_ | refine LOps.pure (Pure.seq rfl rfl) rfl ?_ | refine LOps.pure (Pure.mv (lv := .atom _) rfl) rfl ?_
 refine LOps.cut [(1, ptr b1 0), (2, str []), (3, int .i64 args.length), (4, int .i64 (strengthP op)), (71, bool (decide (op = nNot ∧ args.length = 1)))] ?_ (fun j6 hj6 => ?_)
 ·refine LOps.bcase 75 rfl (fun h => ?_) (fun h => ?_)
  ·have h' : op = nNot := of_decide_eq_true h
   repeat first | refine LOps.nil ?_ | refine QThen.normal ?_ | refine LOps.pure (Pure.as (lv := .atom _) rfl) rfl ?_ | refine LOps.pure (Pure.mv (lv := .atom _) rfl) rfl ?_ | refine LOps.pure (Pure.eql rfl rfl) rfl ?_ | refine LOps.pure (Pure.pickT (lv := .atom _) rfl rfl) rfl ?_ | refine LOps.want rfl rfl ?_
   exact ⟨⟨rfl, rfl, rfl, rfl, bool_eq (by simp only [h', true_and]; exact decide_eq_decide.mpr (by omega)), trivial⟩, rfl, rfl⟩
  ·have h' : ¬ op = nNot := of_decide_eq_false h
   repeat first | refine LOps.nil ?_ | refine QThen.normal ?_ | refine LOps.pure (Pure.as (lv := .atom _) rfl) rfl ?_ | refine LOps.pure (Pure.pickF (lv := .atom _) rfl rfl) rfl ?_ | refine LOps.skip rfl rfl rfl rfl ?_
   exact ⟨⟨rfl, rfl, rfl, rfl, bool_eq (by simp only [h', false_and]; rfl), trivial⟩, rfl, rfl⟩
 refine LCode.cond rfl (fun h6 => ?_) (fun h6 => ?_)
 ·obtain ⟨e6, hlen⟩ : op = nNot ∧ args.length = 1 := of_decide_eq_true h6
  obtain ⟨a, rfl⟩ := List.length_eq_one_iff.mp hlen
  rw [if_pos ⟨e6, hlen⟩] at hF
  simp only [List.map_cons, List.headD_cons] at hF
  rw [hF] at hl
  simp only [List.length_append, List.length_cons, List.length_nil] at hl
  have hol := opnd_len (exOp a, fE a) (strengthP op)
  simp only at hol
  repeat first | refine LCode.seq ?_ | refine LCode.region ?_ | refine LOps.pure (Pure.fieldH rfl) rfl ?_ | refine LOps.pure (Pure.loadH (c := .list _) rfl (List.Mem.head _) rfl) rfl ?_
  refine LOps.pure (Pure.ixRef (el' := encE a) (cs := [_, _, _, _]) rfl rfl (by omega) rfl rfl rfl) rfl ?_
  repeat first | refine LOps.pure (Pure.mv (lv := .atom _) rfl) rfl ?_ | refine LOps.pure (Pure.ldRefAgg (cs' := [_, _, _, _]) rfl rfl rfl) rfl ?_
  refine LOps.step (S.fn [_, _] rfl (operand_spec a (strengthP op) (by omega) (he a (List.mem_singleton.mpr rfl) (by omega))) ?_) rfl
  repeat first | refine LOps.nil ?_ | refine LCode.ret ?_ | refine QThen.normal ?_ | refine QThen.ret ?_ | refine QBlock.ret ?_ | refine LOps.pure (Pure.as (lv := .atom _) rfl) rfl ?_ | refine LOps.pure (Pure.sadd rfl rfl (by simp only [List.length_append, List.length_cons, List.length_nil]; omega)) rfl ?_
  exact retRet (hj6.trans (hj5.trans (hj3.trans hj))) (AllRes.cons (ResIs.tmp (v := .atom _) rfl (LV.Sub.refl _)) AllRes.nil) (str_eq hF.symm)
 have e6 : ¬ (op = nNot ∧ args.length = 1) := of_decide_eq_false h6
 rw [if_neg e6] at hF
 repeat first | refine LOps.nil ?_ | refine LCode.seq ?_ | refine LCode.region ?_ | refine QThen.normal ?_ | refine LOps.pure (Pure.as (lv := .atom _) rfl) rfl ?_ | refine LOps.pure (Pure.mv (lv := .atom _) rfl) rfl ?_ | refine LOps.pure (Pure.eql rfl rfl) rfl ?_
 refine LCode.cond rfl (fun h7 => ?_) (fun h7 => ?_)
 ·have e7 : args.length = 2 := by have := of_decide_eq_true h7; omega
  obtain ⟨a, b, rfl⟩ : ∃ a b, args = [a, b] := by
   match args, e7 with
   | [a, b], _ => exact ⟨a, b, rfl⟩
  rw [if_pos e7] at hF
  simp only [List.map_cons, List.headD_cons, List.tail_cons] at hF
  rw [hF] at hl
  simp only [List.length_append, List.length_cons, List.length_nil] at hl
  have hola := opnd_len (exOp a, fE a) (leftLv (strengthP op))
  have holb := opnd_len (exOp b, fE b) (strengthP op + 1)
  have hs7 := strengthP_le op
  simp only at hola holb
  have sa := operand_spec a (leftLv (strengthP op)) (by omega) (he a (by simp) (by omega))
  have sb := operand_spec b (strengthP op + 1) (by omega) (he b (by simp) (by omega))
  repeat first | refine LOps.nil ?_ | refine LCode.seq ?_ | refine LCode.region ?_ | refine QThen.normal ?_ | refine LOps.pure (Pure.as (lv := .atom _) rfl) rfl ?_ | refine LOps.pure (Pure.mv (lv := .atom _) rfl) rfl ?_ | refine LOps.pure (Pure.eql rfl rfl) rfl ?_
  refine LCode.cut [(1, ptr b1 0), (2, str []), (4, int .i64 (strengthP op)), (5, int .i64 (leftLv (strengthP op)))] ?_ (fun j7 hj7 => ?_)
  ·refine LCode.cond rfl (fun h8 => ?_) (fun h8 => ?_)
   ·have h8' : strengthP op = 2 := by have := of_decide_eq_true h8; omega
    repeat first | refine LOps.nil ?_ | refine LCode.region ?_ | refine QThen.normal ?_ | refine LOps.pure (Pure.as (lv := .atom _) rfl) rfl ?_ | refine LOps.pure (Pure.mv (lv := .atom _) rfl) rfl ?_ | refine LOps.pure (Pure.add rfl rfl (by omega)) rfl ?_
    exact ⟨⟨rfl, rfl, rfl, int_eq (by rw [leftLv, if_pos h8']; omega), trivial⟩, rfl, rfl⟩
   ·have h8' : ¬ strengthP op = 2 := by have := of_decide_eq_false h8; omega
    repeat first | refine LCode.skip ?_ | refine QThen.normal ?_
    exact ⟨⟨rfl, rfl, rfl, int_eq (by rw [leftLv, if_neg h8']), trivial⟩, rfl, rfl⟩
  repeat first | refine LCode.seq ?_
  refine LCode.cut [(2, str (opnd (exOp a, fE a) (leftLv (strengthP op)) ++ [32] ++ op ++ [32] ++ opnd (exOp b, fE b) (strengthP op + 1)))] ?_ (fun j8 hj8 => ?_)
  ·refine LCode.quiet (by kernel_rfl) ?_
   repeat first | refine LQ.pure (Pure.fieldH rfl) rfl ?_ | refine LQ.pure (Pure.loadH (c := .list _) rfl (List.Mem.head _) rfl) rfl ?_
   refine LQ.pure (Pure.ixRef (el' := encE a) (cs := [_, _, _, _]) rfl rfl (by omega) rfl rfl rfl) rfl ?_
   repeat first | refine LQ.pure (Pure.mv (lv := .atom _) rfl) rfl ?_ | refine LQ.pure (Pure.ldRefAgg (cs' := [_, _, _, _]) rfl rfl rfl) rfl ?_
   refine LQ.call (args := [_, _]) (v := .string ⟨(opnd (exOp a, fE a) (leftLv (strengthP op))).toArray⟩) (ret_any sa) rfl ?_
   repeat first | refine LQ.pure (Pure.fieldH rfl) rfl ?_ | refine LQ.pure (Pure.loadH (c := .list _) rfl (List.Mem.head _) rfl) rfl ?_ | refine LQ.pure (Pure.loadH (c := .atom _) rfl (List.Mem.head _) rfl) rfl ?_ | refine LQ.pure (Pure.sadd rfl rfl (by simp only [List.length_append, List.length_cons, List.length_nil]; omega)) rfl ?_
   refine LQ.pure (Pure.ixRef (el' := encE b) (cs := [_, _, _, _]) rfl rfl (by omega) rfl rfl rfl) rfl ?_
   repeat first | refine LQ.pure (Pure.mv (lv := .atom _) rfl) rfl ?_ | refine LQ.pure (Pure.ldRefAgg (cs' := [_, _, _, _]) rfl rfl rfl) rfl ?_ | refine LQ.pure (Pure.add rfl rfl (by omega)) rfl ?_
   refine LQ.call (args := [_, _]) (v := .string ⟨(opnd (exOp b, fE b) (strengthP op + 1)).toArray⟩) (ret_any (by
    have e9 : int .i64 ((strengthP op : Int) + 1) = int .i64 ((strengthP op + 1 : Nat) : Int) := int_eq (by omega)
    rw [← e9] at sb
    exact sb)) rfl ?_
   repeat first | refine LQ.pure (Pure.as (lv := .atom _) rfl) rfl ?_ | refine LQ.pure (Pure.sadd rfl rfl (by simp only [List.length_append, List.length_cons, List.length_nil]; omega)) rfl ?_ | refine LQ.nil ?_ | refine QThen.normal ?_
   exact ⟨⟨rfl, trivial⟩, rfl, rfl⟩
  repeat first | refine LCode.ret ?_ | refine QThen.ret ?_ | refine QBlock.ret ?_
  exact retRet (hj8.trans (hj7.trans (hj6.trans (hj5.trans (hj3.trans hj))))) (AllRes.cons (ResIs.tmp (v := .atom _) rfl (LV.Sub.refl _)) AllRes.nil) (str_eq hF.symm)
 ·have e7 : ¬ args.length = 2 := by have := of_decide_eq_false h7; omega
  rw [if_neg e7] at hF
  repeat first | refine LOps.nil ?_ | refine LCode.seq ?_ | refine LCode.region ?_ | refine LCode.skip ?_ | refine LCode.ret ?_ | refine QThen.normal ?_ | refine QBlock.normal ?_ | refine LOps.pure (Pure.as (lv := .atom _) rfl) rfl ?_
  exact retRet (hj6.trans (hj5.trans (hj3.trans hj))) (AllRes.cons (ResIs.tmp (v := .atom _) rfl (LV.Sub.refl _)) AllRes.nil) (str_eq hF.symm)
mutual
def okE : Ex → Prop
 | .mk _ num _ args => num < 4294967296 ∧ args.length ≤ 1000000000 ∧ okEs args
def okEs : List Ex → Prop
 | [] => True
 | e :: r => okE e ∧ okEs r
end
theorem okEs_mem : ∀ {l : List Ex} {e : Ex}, okEs l → e ∈ l → okE e
 | e :: r, x, h, hx => by
  rw [okEs] at h
  rcases List.mem_cons.mp hx with hx | hx
  ·exact hx ▸ h.1
  ·exact okEs_mem h.2 hx
theorem fexpr_spec (hG : GW B0 w0) : ∀ (n : Nat) (e : Ex), nEx e ≤ n → okE e → (fE e).length ≤ 1000000000 → LCalls (KC B0 w0) 118 [encE e] [] (Ret (str (fE e))) := by
 intro n
 induction n with
 | zero =>
  intro e hn
  obtain ⟨op, num, name, args⟩ := e
  rw [nEx] at hn
  omega
 | succ n ih =>
  intro e hn hk hl
  obtain ⟨op, num, name, args⟩ := e
  rw [nEx] at hn
  rw [okE] at hk
  exact expr_node hG op num name args hk.1 hk.2.1 hl fun e he hle => ih e (by have := nExs_mem he; omega) (okEs_mem hk.2.2 he) hle
end
end Go.Proofs.YtfodkbchknknjaaGreatDoor
namespace Go.GL
open Go.RowKit
section
variable {C : Ctx} {e : Env} {H : Heap} {x y : Operand} {dst : Option Nat} {ty : TypeId} {pos : String} {aft : Array Edge} {g : Option (Nat × Bool)} {K : LV → Heap → Prop} {X : List PanicEntry → Heap → Prop}
def bytV (l : List UInt8) : List Value := l.map fun b => .int .u8 b.toNat
theorem bytV_flat (l : List UInt8) : ∀ v ∈ bytV l, (∀ cs, v ≠ Value.agg cs) ∧ (∀ cs, v ≠ Value.tuple cs) := by
 intro v hv
 obtain ⟨b, _, rfl⟩ := List.mem_map.1 hv
 exact And.intro (fun _ h => by cases h) (fun _ h => by cases h)
theorem first_str {P : Program} (l : List UInt8) (w' : World) : (Builtin.firstCells 1 l.length (.string ⟨l.toArray⟩)).run P w' = .ok (bytV l).toArray w' := by
 have := Go.Lib.run_firstCells_string (P := P) w' 1 ⟨l.toArray⟩
 rw [size_mk] at this
 rw [this]
 rfl
/-! ### A buffer whose cells are all known: it can be frozen -/
theorem repL_atoms_eq {w : World} {L : Live} : ∀ {zs xs : List Value}, RepL w L (zs.map .atom) xs → xs = zs
 | [], _, h => by simpa only [List.map_nil, RepL] using h
 | z :: zs, xs, h => by
  simp only [List.map_cons, RepL] at h
  obtain ⟨y, ys, rfl, h1, h2⟩ := h
  simp only [Rep] at h1
  rw [h1, repL_atoms_eq h2]
/-- A row of bytes that holds l, at the slice v. -/
inductive BRow (el : TypeId) : Value → List UInt8 → Heap → Prop
 | nil : BRow el (.slice none 0 0) [] []
 | row {b : Nat} {l : List UInt8} {xs : List Value} (h0 : l ≠ []) (h1 : l.length ≤ xs.length) (h2 : xs.take l.length = bytV l) : BRow el (.slice (some ⟨b, 0, none⟩) l.length xs.length) l [(b, .cells el (xs.map .atom))]
theorem bytV_len (l : List UInt8) : (bytV l).length = l.length := List.length_map _
theorem bytV_app (l m : List UInt8) : bytV (l ++ m) = bytV l ++ bytV m := List.map_append
theorem left_newB {w : World} {L : Live} (hH : RelH C w L []) {el : TypeId} {l : List UInt8} {xs : List Value} (h0 : l ≠ []) (h1 : l.length ≤ xs.length) (h2 : xs.take l.length = bytV l) (hk : ∀ v' H', BRow el v' l H' → K (.atom v') H') :
  Left C w L [] (World.push w (.cells xs.toArray el)) (.slice (some ⟨w.heap.size, 0, none⟩) l.length xs.length) K := by
 have hx := ext_push hH.wf (.cells xs.toArray el) 0
 have := fr_push hH (.cells xs.toArray el) 0 [(w.heap.size, .cells el (xs.map .atom))] (fun p hp => by
  simp only [List.mem_singleton] at hp
  subst hp
  exact ⟨rfl, by simp [Live.upd], xs, heap_push_self, repL_atoms xs⟩) (by simp)
 exact ⟨.atom _, _, _, this.1, this.2, rep_atom, hk _ _ (BRow.row h0 h1 h2)⟩
theorem LStep.appB {sT xT el bytes : Nat} [ht : TSlice C.P sT el 1] [hr : TRow C.P el 1 bytes] [hx2 : TStr C.P xT] {v : Value} {l m : List UInt8}
  (hx : e.ev x = .atom v) (ha : BRow el v l H) (hy : e.ev y = str m) (hroom : (l.length + m.length) * bytes ≤ 140737488355328)
  (hk : ∀ v' H', BRow el v' (l ++ m) H' → K (.atom v') H') : LStep C ⟨dst, .call { callee := .builtin .append, args := #[x, y], argTypes := #[sT, xT] }, ty, pos, aft, g⟩ e H K X := by
 have h0 : ∀ (cs : Array Bool) (args : Array Value), builtin .append #[sT, xT] ty cs args = (do Pure.pure (.value (← Builtin.append_ #[sT, xT] ty args))) := fun _ _ => rfl
 have hlen : ∀ w' : World, (Builtin.lenOf (.string ⟨m.toArray⟩)).run C.P w' = .ok m.length w' := fun w' => by simp [Builtin.lenOf, size_mk]
 cases ha with
 | nil =>
  by_cases hne : m = []
  ·subst hne
   intro ρ w L h hH
   have hr : (Builtin.append_ #[sT, xT] ty #[.slice none 0 0, .string ⟨#[]⟩]).run C.P w = .ok (.slice none 0 0) w := by
    obtain ⟨i, hi, his⟩ := ht.size
    simp [Builtin.append_, run_underlying' ht.und, run_underlying' hx2.und, sizeOf, typeInfo, hi, Builtin.lenOf, Builtin.firstCells, show (ByteArray.mk #[]).size = 0 from rfl, show ((ByteArray.mk #[]).extract 0 0).data = #[] from rfl]
   rw [execOp_builtin', h0]
   simp only [List.map_toArray, List.map_cons, List.map_nil, Sem.run_bind, atom_of h hx, atom_of h hy, hr, Result.andThen_ok, Sem.run_pure]
   exact ⟨_, [], L, Fr.refl _ _ _, hH, rep_atom, hk _ _ BRow.nil⟩
  ·intro ρ w L h hH
   have hpos : 0 < m.length := List.length_pos_iff.2 hne
   obtain ⟨cap', rest, r1, r2, r3⟩ := run_append_new (ty := ty) (P := C.P) (w := w) (sT := sT) (xT := xT) (a := none) (len := 0) (cap := 0) (n := m.length) (xv := .string ⟨m.toArray⟩) (old := []) (new := bytV m) (.inl hx2.und) hlen (fun w' _ => first_str m w')
    (fun w' _ => by simp [Builtin.firstCells]) (by simpa using hroom) (by omega)
   rw [execOp_builtin', h0]
   simp only [List.map_toArray, List.map_cons, List.map_nil, Sem.run_bind, atom_of h hx, atom_of h hy, r3, Result.andThen_ok, Sem.run_pure, List.nil_append, Nat.zero_add]
   have hcl : (bytV m ++ rest).length = cap' := by rw [List.length_append, r2, bytV_len]; omega
   obtain ⟨lv, H', L', g1, g2, g3, g4⟩ := left_newB (K := K) (el := el) (l := m) (xs := bytV m ++ rest) hH.drew hne (by rw [hcl]; omega) (by rw [List.take_left' (bytV_len m)]) (fun v' H' h' => hk v' H' h')
   rw [hcl] at g3
   exact ⟨lv, H', L', g1.of_drew, g2, g3, g4⟩
 | row hne h1 h2 =>
  rename_i b xs
  intro ρ w L h hH
  obtain ⟨hb0, hbs, hl, zs, hz1, hz2⟩ := hH.objs _ (List.mem_singleton.2 rfl)
  have hz := repL_atoms_eq hz2
  subst hz
  simp only at hb0 hbs hl hz1
  rw [execOp_builtin', h0]
  simp only [List.map_toArray, List.map_cons, List.map_nil, Sem.run_bind, atom_of h hx, atom_of h hy]
  by_cases hc : l.length + m.length ≤ zs.length
  ·have hrun := run_append_in (ty := ty) (P := C.P) (w := w) (sT := sT) (xT := xT) (s := 1) (a := some ⟨b, 0, none⟩) (len := l.length) (cap := zs.length) (n := m.length) (xv := .string ⟨m.toArray⟩) (new := bytV m) (.inl hx2.und) hlen (fun w' _ => first_str m w') hc
   obtain ⟨w', r1, r2, r3, r4, r5, r6, r7⟩ := storeCells_run (P := C.P) (b := b) (off := 0 + l.length * 1) (t := el) (fr := (0, 0)) (bytV m) 0 w zs hz1 (by rw [bytV_len]; omega) (fun j _ _ => by simp) (bytV_flat m)
   rw [hrun]
   simp only [add_mk, r1, Result.andThen_ok, Sem.run_pure]
   have hx' : (zs.take (0 + l.length * 1 + 0) ++ bytV m ++ zs.drop (0 + l.length * 1 + 0 + (bytV m).length)).length = zs.length := by
    simp only [List.length_append, List.length_take, List.length_drop, bytV_len]
    omega
   have hfin := left_write (v := .slice (some ⟨b, 0, none⟩) (l.length + m.length) zs.length) (lv := .atom (.slice (some ⟨b, 0, none⟩) (l.length + m.length) zs.length)) (K := K) (cs' := (zs.take (0 + l.length * 1 + 0) ++ bytV m ++ zs.drop (0 + l.length * 1 + 0 + (bytV m).length)).map .atom) hH r2 r3 r4 r5 r6 r7 (by rw [hx', List.length_map]) (repL_atoms _) rep_atom (by
    have hb : BRow el (.slice (some ⟨b, 0, none⟩) (l ++ m).length (zs.take (0 + l.length * 1 + 0) ++ bytV m ++ zs.drop (0 + l.length * 1 + 0 + (bytV m).length)).length) (l ++ m) _ := BRow.row (b := b) (el := el) (by simp [hne]) (by rw [hx', List.length_append]; exact hc) (by
     have he : 0 + l.length * 1 + 0 = l.length := by omega
     rw [he, h2, ← bytV_app, List.take_left' (bytV_len _)])
    rw [hx', List.length_append] at hb
    exact hk _ _ hb)
   exact hfin
  ·have hold : ∀ w' : World, w'.heap = w.heap → (Builtin.firstCells 1 l.length (.slice (some ⟨b, 0, none⟩) l.length zs.length)).run C.P w' = .ok (bytV l).toArray w' := fun w' hw => by
    have := loadCellsFrom_run (P := C.P) (w := w') (b := b) (off := 0) l.length 0 #[] (bytV l) (bytV_len l) (fun j x' hj => by
     have hj' : zs[j]? = some x' := by
      rw [← h2, List.getElem?_take] at hj
      split at hj
      ·exact hj
      ·cases hj
     simp [World.cell?, hw, hz1, hj'])
    simp only [Builtin.firstCells, loadCells, Nat.mul_one, this]
    simp
   obtain ⟨cap', rest, r1, r2, r3⟩ := run_append_new (ty := ty) (P := C.P) (w := w) (sT := sT) (xT := xT) (a := some ⟨b, 0, none⟩) (len := l.length) (cap := zs.length) (n := m.length) (xv := .string ⟨m.toArray⟩) (old := bytV l) (new := bytV m) (.inl hx2.und) hlen (fun w' _ => first_str m w') hold hroom (by omega)
   rw [r3]
   simp only [Result.andThen_ok, Sem.run_pure]
   have hcl : (bytV l ++ bytV m ++ rest).length = cap' := by rw [List.length_append, List.length_append, r2, bytV_len, bytV_len]; omega
   have hH0 : RelH C w L [] := hH.sub (List.nil_sublist _)
   obtain ⟨lv, H', L', g1, g2, g3, g4⟩ := left_newB (K := K) (el := el) (l := l ++ m) (xs := bytV l ++ bytV m ++ rest) hH0.drew (by simp [hne]) (by rw [hcl, List.length_append]; omega) (by rw [← bytV_app, List.take_left' (bytV_len _)]) (fun v' H' h' => hk v' H' h')
   rw [hcl, List.length_append] at g3
   exact ⟨lv, H', L', g1.of_drew.wide (by simp), g2, g3, g4⟩
theorem S.appB1 {sT xT el bytes : Nat} [ht : TSlice C.P sT el 1] [hr : TRow C.P el 1 bytes] [hx2 : TStr C.P xT] {v : Value} {l m : List UInt8} {H1 : Heap} {q : Nat × LObj}
  (hx : e.ev x = .atom v) (ha : BRow el v l H1) (hy : e.ev y = str m) (hroom : (l.length + m.length) * bytes ≤ 140737488355328)
  (hk : ∀ v' H', BRow el v' (l ++ m) H' → K (.atom v') (q :: H')) : LStep C ⟨dst, .call { callee := .builtin .append, args := #[x, y], argTypes := #[sT, xT] }, ty, pos, aft, g⟩ e (q :: H1) K X := by
 refine LStep.conseq (K := fun lv H' => ∃ v' H2, lv = .atom v' ∧ H' = H2 ++ [q] ∧ BRow el v' (l ++ m) H2) (LStep.frame (List.perm_append_singleton _ _).symm (LStep.appB hx ha hy hroom fun v' H' h => ⟨v', H', rfl, rfl, h⟩)) ?_
 rintro lv H' ⟨v', H2, rfl, rfl, h⟩
 exact ⟨_, [q] ++ H2, LV.Sub.refl _, ⟨[], by simp⟩, hk _ _ h⟩
end
end Go.GL
namespace Go.Proofs.YtfodkbchknknjaaGreatDoor
open Go.GL Go.RowKit Go.Stele
set_option maxRecDepth 100000
set_option maxHeartbeats 4000000
/-- A builder at b that holds l. -/
def BH (b : Nat) (l : List UInt8) (H : Heap) : Prop := ∃ p v Hv, (p = LV.atom (.pointer none) ∨ p = ptr b 0) ∧ BRow 5 v l Hv ∧ H = (b, .cells 87 [p, .atom v]) :: Hv
theorem lays240 : Lays.n240 Tryz.prog Tryz.lays156_ren := { Tryz.lays156 with }
section
variable {B0 : Nat} {w0 : World}
theorem copyCheck_spec (b : Nat) (p v : LV) (hp : p = LV.atom (.pointer none) ∨ p = ptr b 0) : LCalls (KC B0 w0) 83 [ptr b 0] [(b, .cells 87 [p, v])]
  (fun r H' => (∃ x, r = .ret (.atom x)) ∧ H' = [(b, .cells 87 [ptr b 0, v])]) := fun xs w L hv hH => by
 simp only [RepL] at hv
 obtain ⟨y, ys, rfl, hy, rfl⟩ := hv
 simp only [Rep] at hy
 subst hy
 obtain ⟨hb0, hbs, hl, zs, hx1, hx2⟩ := hH.objs _ (List.mem_singleton.2 rfl)
 simp only at hb0 hbs hl hx1 hx2
 have hz := hx2
 simp only [RepL] at hz
 obtain ⟨a, as1, rfl, ha, c, as2, rfl, hc, rfl⟩ := hz
 rcases hp with rfl | rfl
 ·simp only [Rep] at ha
  subst ha
  have h0 : w.cell? ⟨b, 0, none⟩ = some (.pointer none) := by simp [World.cell?, hx1]
  have hsh : w.shape? b = some (87, 2) := by simp [World.shape?, hx1]
  have hfz : w.frozen? ⟨b, 0, none⟩ = false := Go.Lib.frozen_of_heap hx1 0
  refine (Any.Builder_copyCheck_fresh (P := Tryz.prog) lays240 Tryz.Builder_Extra_156.toX72 b w h0 hsh hfz).mono fun e w' he => ?_
  obtain ⟨rfl, rfl⟩ := he
  refine left_write (w := w) (w' := w.setCell ⟨b, 0, none⟩ (.pointer (some ⟨b, 0, none⟩))) (xs' := [.pointer (some ⟨b, 0, none⟩), c]) (cs' := [ptr b 0, v]) (lv := .atom (.tuple #[])) hH rfl rfl rfl (by simp [World.setCell]) (fun d hd => by simp [World.setCell, Array.getElem?_modify, Ne.symm hd]) (by rw [setCell_heap (xs := [.pointer none, c]) hx1]; rfl) rfl ?_ rep_atom ⟨⟨_, rfl⟩, rfl⟩
  simp only [RepL] at hx2 ⊢
  exact ⟨_, _, rfl, rep_atom, c, [], rfl, hc, rfl⟩
 ·simp only [Rep] at ha
  subst ha
  have h0 : w.cell? ⟨b, 0, none⟩ = some (.pointer (some ⟨b, 0, none⟩)) := by simp [World.cell?, hx1]
  refine (Any.Builder_copyCheck_used (P := Tryz.prog) lays240 Tryz.Builder_Extra_156.toX72 b w h0).mono fun e w' he => ?_
  obtain ⟨rfl, rfl⟩ := he
  exact ⟨.atom (.tuple #[]), _, L, Fr.refl _ _ _, hH, rep_atom, ⟨_, rfl⟩, rfl⟩
attribute [local irreducible] LOps LCode LStep LCalls Go.GL.Pure QThen QBlock RetPost LQ LAny LLate LLateOp
theorem writeString_spec (b : Nat) (l m : List UInt8) (H : Heap) (hB : BH b l H) (hlen : l.length + m.length ≤ 10000000000) : LCalls (KC B0 w0) 49 [ptr b 0, str m] H (fun r H' => (∃ x, r = .ret x) ∧ BH b (l ++ m) H') := by
 obtain ⟨p, v, Hv, hp, hacc, rfl⟩ := hB
 refine LCalls.intro Tryz.func49 rfl (n := 19) rfl rfl rfl ?_
 repeat first | refine LOps.nil ?_ | refine LCode.seq ?_ | refine LCode.region ?_ | refine QThen.normal ?_ | refine LOps.pure (Pure.as (lv := .atom _) rfl) rfl ?_ | refine LOps.pure (Pure.mv (lv := .atom _) rfl) rfl ?_
 refine LOps.step (S.callH (H1 := [(b, _)]) (F := Hv) [_] rfl (List.Perm.refl _) (copyCheck_spec b p (.atom v) hp) (fun x H' h => ?_) (fun ch H' h => ?_)) rfl
 ·obtain ⟨⟨x', hx'⟩, rfl⟩ := h
  cases hx'
  repeat first | refine LOps.nil ?_ | refine LCode.seq ?_ | refine LCode.region ?_ | refine QThen.normal ?_ | refine LOps.pure (Pure.mv (lv := .atom _) rfl) rfl ?_ | refine LOps.pure (Pure.nilCheckH rfl) rfl ?_ | refine LOps.pure (Pure.fieldH rfl) rfl ?_ | refine LOps.pure (Pure.loadH (c := .atom _) rfl (List.Mem.head _) rfl) rfl ?_
  refine LOps.step (S.appB1 (q := (b, .cells 87 [ptr b 0, .atom v])) (l := l) (m := m) rfl hacc rfl (by omega) fun v' H' hacc' => ?_) rfl
  repeat first | refine LOps.pure (Pure.nilCheckH rfl) rfl ?_ | refine LOps.pure (Pure.fieldH rfl) rfl ?_
  have hacc2 := hacc'
  generalize l ++ m = lm at hacc' hacc2 ⊢
  cases hacc' with
  | nil =>
   repeat first | refine LOps.nil ?_ | refine LCode.seq ?_ | refine LCode.region ?_ | refine LCode.ret ?_ | refine QThen.normal ?_ | refine LOps.pure (Pure.as (lv := .atom _) rfl) rfl ?_ | refine LOps.pure (Pure.mv (lv := .atom _) rfl) rfl ?_ | refine LOps.pure (Pure.slen rfl) rfl ?_ | refine LOps.step (S.store (cs' := [_, _]) rfl Pick.here rfl rfl rfl rfl rfl ?_) rfl
   exact RetPost.ret rfl (AllRes.cons (ResIs.tmp (v := .atom _) rfl (LV.Sub.refl _)) (AllRes.cons (ResIs.tmp (v := .atom _) rfl (LV.Sub.refl _)) AllRes.nil)) (HSub.refl _) ⟨⟨_, rfl⟩, ptr b 0, _, _, .inr rfl, hacc2, rfl⟩
  | row h0 h1 h2 =>
   repeat first | refine LOps.nil ?_ | refine LCode.seq ?_ | refine LCode.region ?_ | refine LCode.ret ?_ | refine QThen.normal ?_ | refine LOps.pure (Pure.as (lv := .atom _) rfl) rfl ?_ | refine LOps.pure (Pure.mv (lv := .atom _) rfl) rfl ?_ | refine LOps.pure (Pure.slen rfl) rfl ?_ | refine LOps.step (S.store (cs' := [_, _]) rfl Pick.here rfl rfl rfl rfl rfl ?_) rfl
   exact RetPost.ret rfl (AllRes.cons (ResIs.tmp (v := .atom _) rfl (LV.Sub.refl _)) (AllRes.cons (ResIs.tmp (v := .atom _) rfl (LV.Sub.refl _)) AllRes.nil)) (HSub.refl _) ⟨⟨_, rfl⟩, ptr b 0, _, _, .inr rfl, hacc2, rfl⟩
 ·obtain ⟨⟨x', hx'⟩, _⟩ := h
  cases hx'
end
end Go.Proofs.YtfodkbchknknjaaGreatDoor
namespace Go.Proofs.YtfodkbchknknjaaGreatDoor
open Go Go.Shelf Go.RowKit
section
variable {P : Program} {ρ : Ren}
set_option maxHeartbeats 4000000 in
set_option maxRecDepth 100000 in
theorem builder_string_row (L : Lays.n169 P ρ) (X : Builder.Extra P ρ) (b g : Nat) (p : Value) (l : List UInt8) (cur : Array Value) (w : World) (hbk : w.heap[b]? = some (.cells #[p, .slice (some ⟨g, 0, none⟩) l.length cur.size] (ρ.t 72) (0, 0)))
  (hg : w.heap[g]? = some (.cells cur (ρ.t 5) (0, 0))) (h0 : l ≠ []) (hn : l.length ≤ cur.size) (hbig : l.length ≤ 9223372036854775807) (hcell : ∀ (j : Nat) (x : UInt8), l[j]? = some x → cur[j]? = some (.int .u8 x.toNat)) :
  Calls P (ρ.f 169) #[.pointer (some ⟨b, 0, none⟩)] w fun e w' => e = .returned (.string ⟨l.toArray⟩) ∧ w' = w.drew.freeze ⟨g, 0, none⟩ l.length := by
 have hl0 : l.length ≠ 0 := by simpa using h0
 have c1 : w.drew.cell? ⟨b, 1, none⟩ = some (.slice (some ⟨g, 0, none⟩) l.length cur.size) := by
  have : w.drew.heap[b]? = some (.cells #[p, .slice (some ⟨g, 0, none⟩) l.length cur.size] (ρ.t 72) (0, 0)) := hbk
  rw [Lib.cell_of_heap this]; rfl
 have hSD : (Builtin.unsafeSliceData_ #[(ρ.t 37)] (ρ.t 127) #[.slice (some ⟨g, 0, none⟩) l.length cur.size]).run P w.drew = .ok (.pointer (some ⟨g, 0, none⟩)) w.drew :=
  Lib.run_unsafeSliceData_row _ _ _ _ _ _ (by omega)
 have hUS : (Builtin.unsafeString_ #[(ρ.t 127), (ρ.t 3)] (ρ.t 9) #[.pointer (some ⟨g, 0, none⟩), .int .i64 l.length]).run P w.drew = .ok (.string ⟨l.toArray⟩) (w.drew.freeze ⟨g, 0, none⟩ l.length) := by
  refine Lib.run_unsafeString_row w.drew (ρ.t 127) (ρ.t 3) (ρ.t 9) (ρ.t 5) L.t127 X.cellsByte g cur.size (by have hg' : w.drew.heap[g]? = some (.cells cur (ρ.t 5) (0, 0)) := hg; simp [World.shape?, hg']) l h0 hn hbig ?_
  intro j x hx
  have hg' : w.drew.heap[g]? = some (.cells cur (ρ.t 5) (0, 0)) := hg
  have := hcell j x hx
  rw [Go.GL.add_mk]
  simp [World.cell?, hg', this]
 have mixed := L.mixed
 have t72 := L.t72; have a72 := L.a72; have z72 := L.z72; have v72 := L.v72; have u72 := run_underlying L.t72
 have t70 := L.t70; have a70 := L.a70; have z70 := L.z70; have v70 := L.v70; have u70 := run_underlying L.t70
 have t37 := L.t37; have a37 := L.a37; have z37 := L.z37; have v37 := L.v37; have u37 := run_underlying L.t37
 have t127 := L.t127; have a127 := L.a127; have z127 := L.z127; have v127 := L.v127; have u127 := run_underlying L.t127
 have t3 := L.t3; have a3 := L.a3; have z3 := L.z3; have v3 := L.v3; have u3 := run_underlying L.t3
 have t9 := L.t9; have a9 := L.a9; have z9 := L.z9; have v9 := L.v9; have u9 := run_underlying L.t9
 have t5 := X.t5; have a5 := X.a5; have z5 := X.z5; have v5 := X.v5; have u5 := run_underlying X.t5
 go_enter L.f169, Body.n169_ntmps ρ
 go_wp2
 go_region_o
 all_goals (go_wp2; go_ret; exact ⟨rfl, rfl⟩)
end
open Go.GL Go.Stele
theorem lays169 : Lays.n169 Tryz.prog Tryz.lays156_ren := { Tryz.lays156 with }
section
variable {B0 : Nat} {w0 : World}
theorem fr_freeze {C : Ctx} {w : World} {L : Live} {H : Heap} (hH : RelH C w L H) {g n : Nat} (hm : g ∈ keys H) (hb : C.B0 ≤ g) : Fr (keys H) w L (w.drew.freeze ⟨g, 0, none⟩ n) L [] ∧ RelH C (w.drew.freeze ⟨g, 0, none⟩ n) L [] := by
 have hbl : ∀ c, c ≠ g → (w.drew.freeze ⟨g, 0, none⟩ n).heap[c]? = w.heap[c]? := fun c hc => by
  unfold World.freeze
  split
  ·rfl
  ·simp only [Array.getElem?_modify]
   rw [if_neg (Ne.symm hc)]
   rfl
 have hsz : (w.drew.freeze ⟨g, 0, none⟩ n).heap.size = w.heap.size := by
  unfold World.freeze
  split
  ·rfl
  ·simp
 have hsh : ∀ c, (w.drew.freeze ⟨g, 0, none⟩ n).shape? c = w.shape? c := fun c => by
  by_cases hc : c = g
  ·subst hc
   unfold World.freeze
   split
   ·rfl
   ·simp only [World.shape?, Array.getElem?_modify, if_true]
    show (match Option.map _ w.heap[c]? with | some (Obj.cells c e _) => some (e, c.size) | _ => none) = _
    cases w.heap[c]? with
    | none => rfl
    | some o => cases o <;> rfl
  ·exact shape_of_heap (hbl c hc)
 have hce : ∀ c i, (w.drew.freeze ⟨g, 0, none⟩ n).cell? ⟨c, i, none⟩ = w.cell? ⟨c, i, none⟩ := fun c i => by
  by_cases hc : c = g
  ·subst hc
   unfold World.freeze
   split
   ·rfl
   ·simp only [World.cell?, Array.getElem?_modify, if_true]
    show (match Option.map _ w.heap[c]? with | some (Obj.cells c e _) => _ | _ => none) = _
    cases w.heap[c]? with
    | none => rfl
    | some o => cases o <;> rfl
  ·exact cell_of_heap (hbl c hc) i
 have hos : (w.drew.freeze ⟨g, 0, none⟩ n).os = w.os ∧ (w.drew.freeze ⟨g, 0, none⟩ n).tape = w.tape ∧ (w.drew.freeze ⟨g, 0, none⟩ n).output = w.output := by
  unfold World.freeze
  split <;> exact ⟨rfl, rfl, rfl⟩
 exact ⟨⟨hos.1, hos.2.1, hos.2.2, ⟨Nat.le_of_eq hsz.symm, fun c _ => hsh c, fun c i _ => hce c i, fun _ => Nat.le_refl _⟩, fun c _ hc => hbl c (fun h => hc (h ▸ hm)), fun _ _ _ => rfl, by simp⟩,
  ⟨hH.base.trans ⟨hos.1, hos.2.1, hos.2.2, Nat.le_of_eq hsz.symm, fun c hc => hbl c (by omega)⟩, hH.lbase, by rw [hsz]; exact hH.b0, fun c hc => hH.wf c (by rw [hsz] at hc; exact hc), List.nodup_nil, by simp⟩⟩
theorem string_spec (b : Nat) (l : List UInt8) (H : Heap) (hB : BH b l H) (hlen : l.length ≤ 10000000000) : LCalls (KC B0 w0) 50 [ptr b 0] H (Ret (str l)) := fun xs w L hv hH => by
 obtain ⟨p, v, Hv, hp, hacc, rfl⟩ := hB
 simp only [RepL] at hv
 obtain ⟨y, ys, rfl, hy, rfl⟩ := hv
 simp only [Rep] at hy
 subst hy
 obtain ⟨hb0, hbs, hl, zs, hx1, hx2⟩ := hH.objs _ (List.mem_cons_self ..)
 simp only at hb0 hbs hl hx1 hx2
 simp only [RepL] at hx2
 obtain ⟨a, as1, rfl, ha, c, as2, rfl, hc, rfl⟩ := hx2
 simp only [Rep] at hc
 subst hc
 cases hacc with
 | nil =>
  refine (Any.Builder_String_nil (P := Tryz.prog) lays169 Tryz.Builder_Extra_156 w.heap.size b a w hx1).mono fun e w' he => ?_
  obtain ⟨rfl, hb⟩ := he
  obtain ⟨h1, h2⟩ := fr_below (hH.sub (List.nil_sublist _)) hb
  exact ⟨str [], [], L, h1.wide (by simp), h2, rep_atom, rfl, rfl⟩
 | row h0 h1 h2 =>
  rename_i g xs
  obtain ⟨hg0, hgs, hgl, ws, hw1, hw2⟩ := hH.objs _ (List.mem_cons_of_mem _ (List.mem_singleton.2 rfl))
  simp only at hg0 hgs hgl hw1
  have := repL_atoms_eq hw2
  subst this
  have hcell : ∀ (j : Nat) (x : UInt8), l[j]? = some x → ws.toArray[j]? = some (Value.int .u8 x.toNat) := fun j x hx => by
   have hj : (bytV l)[j]? = some (Value.int .u8 x.toNat) := by simp [bytV, hx]
   rw [← h2, List.getElem?_take] at hj
   split at hj
   ·simpa using hj
   ·cases hj
  refine (builder_string_row (P := Tryz.prog) lays169 Tryz.Builder_Extra_156 b g a l ws.toArray w hx1 hw1 h0 (by simpa using h1) (by omega) hcell).mono fun e w' he => ?_
  obtain ⟨rfl, rfl⟩ := he
  obtain ⟨f1, f2⟩ := fr_freeze (n := l.length) hH (g := g) (by simp) hg0
  exact ⟨str l, [], L, f1, f2, rep_atom, rfl, rfl⟩
end
end Go.Proofs.YtfodkbchknknjaaGreatDoor
namespace Go.Proofs.YtfodkbchknknjaaGreatDoor
open Go.GL Go.RowKit Go.Stele
set_option maxRecDepth 100000
set_option maxHeartbeats 4000000
attribute [local irreducible] LOps LCode LStep LCalls Go.GL.Pure QThen QBlock RetPost LQ LAny LLate LLateOp
section
variable {B0 : Nat} {w0 : World}
theorem sameStmts_spec : ∀ (n : Nat) (a b : List Sm), nSms a ≤ n → n ≤ 4611686018427387904 → LCalls (KC B0 w0) 40 [.list (a.map encS), .list (b.map encS)] [] (Ret (bool (eqSms a b))) := by
 intro n
 induction n using Nat.strongRecOn with
 | _ n ih =>
 intro a b hn hb
 have ha := nSms_len a
 have hla : (a.map encS).length = a.length := List.length_map _
 have hlb : (b.map encS).length = b.length := List.length_map _
 rw [eqSms_list]
 refine LCalls.intro Tryz.func40 rfl (n := 97) rfl rfl rfl ?_
 repeat first | refine LOps.nil ?_ | refine LCode.seq ?_ | refine LCode.region ?_ | refine QThen.normal ?_ | refine LOps.pure (Pure.as (lv := .atom _) rfl) rfl ?_ | refine LOps.pure (Pure.mv (lv := .list _) rfl) rfl ?_ | refine LOps.pure (Pure.llen rfl) rfl ?_ | refine LOps.pure (Pure.neq rfl rfl) rfl ?_
 refine LCode.cond rfl (fun hc => ?_) (fun hc => ?_)
 ·have hne : a.length ≠ b.length := by
   have : ¬ ((a.map encS).length : Int) = (b.map encS).length := by simpa using hc
   omega
  repeat first | refine LOps.nil ?_ | refine LCode.seq ?_ | refine LCode.region ?_ | refine LCode.ret ?_ | refine QThen.normal ?_ | refine QThen.ret ?_ | refine LOps.pure (Pure.as (lv := .atom _) rfl) rfl ?_
  exact retRet rfl (AllRes.cons (ResIs.tmp (v := .atom _) rfl (LV.Sub.refl _)) AllRes.nil) (bool_eq (eqList_len a b hne).symm)
 ·have hle : a.length = b.length := by
   have : ((a.map encS).length : Int) = (b.map encS).length := by simpa using hc
   omega
  repeat first | refine LOps.nil ?_ | refine LCode.seq ?_ | refine LCode.region ?_ | refine LCode.skip ?_ | refine LCode.block ?_ | refine QThen.normal ?_ | refine LOps.pure (Pure.as (lv := .atom _) rfl) rfl ?_
  refine LCode.loopI (fun k ls H => ∃ i, k = a.length - i ∧ i ≤ a.length ∧ ls = [(0, .list (a.map encS)), (1, .list (b.map encS)), (5, int .i64 i)] ∧ H = [] ∧ eqList eqSm a b = eqList eqSm (a.drop i) (b.drop i))
   ⟨_, _, _, ⟨0, rfl, Nat.zero_le _, rfl, rfl, rfl⟩, ⟨rfl, rfl, rfl, trivial⟩, HSub.refl _⟩ ?_
  rintro k ls H ⟨i, rfl, hi, rfl, rfl, hE⟩ j hj
  repeat first | refine LOps.nil ?_ | refine LCode.seq ?_ | refine LCode.region ?_ | refine QThen.normal ?_ | refine LOps.pure (Pure.mv (lv := .list _) rfl) rfl ?_ | refine LOps.pure (Pure.mv (lv := .atom _) rfl) rfl ?_ | refine LOps.pure (Pure.llen rfl) rfl ?_ | refine LOps.pure (Pure.lss rfl rfl) rfl ?_
  refine LCode.cond rfl (fun hc => ?_) (fun hc => ?_)
  ·have hlt : i < a.length := by have := of_decide_eq_true hc; omega
   have hlt2 : i < b.length := by omega
   have hna : nExs (smIndex a[i]) < n ∧ nExs (smValue a[i]) < n ∧ nSms (smThen a[i]) < n ∧ nSms (smElse a[i]) < n := by
    have h1 := nSms_mem (List.getElem_mem hlt)
    have h2 := nSm_eq a[i]
    omega
   repeat first | refine LCode.seq ?_ | refine LCode.skip ?_ | refine LCode.block ?_ | refine QThen.normal ?_
   have hpt := eqSm_parts a[i] b[i]
   refine LCode.cut [(0, .list (a.map encS)), (1, .list (b.map encS)), (5, int .i64 i), (96, bool (!eqSm a[i] b[i]))] ?_ (fun j2 hj2 => ?_)
   ·refine LCode.quiet (by kernel_rfl) ?_
    repeat first | refine LQ.pure (Pure.mv (lv := .list _) rfl) rfl ?_ | refine LQ.pure (Pure.mv (lv := .atom _) rfl) rfl ?_
    refine LQ.pure (Pure.ixRef (el' := encS a[i]) (cs := [_, _, _, _, _, _]) rfl rfl (by omega) (map_get _ _ _ hlt) rfl rfl) rfl ?_
    repeat first | refine LQ.pure (Pure.mv (lv := .list _) rfl) rfl ?_ | refine LQ.pure (Pure.mv (lv := .atom _) rfl) rfl ?_ | refine LQ.pure (Pure.field1 rfl rfl) rfl ?_ | refine LQ.pure (Pure.loadRef (c := .atom _) rfl rfl) rfl ?_
    refine LQ.pure (Pure.ixRef (el' := encS b[i]) (cs := [_, _, _, _, _, _]) rfl rfl (by omega) (map_get _ _ _ hlt2) rfl rfl) rfl ?_
    repeat first | refine LQ.pure (Pure.mv (lv := .atom _) rfl) rfl ?_ | refine LQ.pure (Pure.neq rfl rfl) rfl ?_ | refine LQ.pure (Pure.field1 rfl rfl) rfl ?_ | refine LQ.pure (Pure.loadRef (c := .atom _) rfl rfl) rfl ?_
    refine LQ.bcase 28 rfl (fun h1 => ?_) (fun h1 => ?_)
    ·repeat first | refine LQ.pure (Pure.mv (lv := .atom _) rfl) rfl ?_ | refine LQ.pure (Pure.pickT (lv := .atom _) rfl rfl) rfl ?_ | refine LQ.skip rfl rfl rfl rfl ?_ | refine LQ.nil ?_ | refine QThen.normal ?_
     exact ⟨⟨rfl, rfl, rfl, bool_eq (by rw [hpt, not_t h1]; rfl), trivial⟩, rfl, rfl⟩
    ·have h1' := not_f h1
     rw [h1', Bool.true_and] at hpt
     repeat first | refine LQ.pure (Pure.mv (lv := .list _) rfl) rfl ?_ | refine LQ.pure (Pure.mv (lv := .atom _) rfl) rfl ?_ | refine LQ.want rfl rfl ?_
     refine LQ.pure (Pure.ixRef (el' := encS a[i]) (cs := [_, _, _, _, _, _]) rfl rfl (by omega) (map_get _ _ _ hlt) rfl rfl) rfl ?_
     repeat first | refine LQ.pure (Pure.mv (lv := .list _) rfl) rfl ?_ | refine LQ.pure (Pure.mv (lv := .atom _) rfl) rfl ?_ | refine LQ.pure (Pure.field1 rfl rfl) rfl ?_ | refine LQ.pure (Pure.loadRef (c := .atom _) rfl rfl) rfl ?_ | refine LQ.want rfl rfl ?_
     refine LQ.pure (Pure.ixRef (el' := encS b[i]) (cs := [_, _, _, _, _, _]) rfl rfl (by omega) (map_get _ _ _ hlt2) rfl rfl) rfl ?_
     repeat first | refine LQ.pure (Pure.mv (lv := .atom _) rfl) rfl ?_ | refine LQ.pure (Pure.field1 rfl rfl) rfl ?_ | refine LQ.pure (Pure.loadRef (c := .atom _) rfl rfl) rfl ?_ | refine LQ.pure (Pure.sneq rfl rfl) rfl ?_ | refine LQ.pure (Pure.pickF (lv := .atom _) rfl rfl) rfl ?_ | refine LQ.want rfl rfl ?_
     refine LQ.bcase 41 rfl (fun h2 => ?_) (fun h2 => ?_)
     ·repeat first | refine LQ.pure (Pure.mv (lv := .atom _) rfl) rfl ?_ | refine LQ.pure (Pure.pickT (lv := .atom _) rfl rfl) rfl ?_ | refine LQ.skip rfl rfl rfl rfl ?_ | refine LQ.nil ?_ | refine QThen.normal ?_
      exact ⟨⟨rfl, rfl, rfl, bool_eq (by rw [hpt, not_t h2]; rfl), trivial⟩, rfl, rfl⟩
     ·have h2' := not_f h2
      rw [h2', Bool.true_and] at hpt
      repeat first | refine LQ.pure (Pure.mv (lv := .list _) rfl) rfl ?_ | refine LQ.pure (Pure.mv (lv := .atom _) rfl) rfl ?_ | refine LQ.want rfl rfl ?_
      refine LQ.pure (Pure.ixRef (el' := encS a[i]) (cs := [_, _, _, _, _, _]) rfl rfl (by omega) (map_get _ _ _ hlt) rfl rfl) rfl ?_
      repeat first | refine LQ.pure (Pure.mv (lv := .list _) rfl) rfl ?_ | refine LQ.pure (Pure.mv (lv := .atom _) rfl) rfl ?_ | refine LQ.pure (Pure.field1 rfl rfl) rfl ?_ | refine LQ.pure (Pure.loadRef (c := .list _) rfl rfl) rfl ?_ | refine LQ.want rfl rfl ?_
      refine LQ.pure (Pure.ixRef (el' := encS b[i]) (cs := [_, _, _, _, _, _]) rfl rfl (by omega) (map_get _ _ _ hlt2) rfl rfl) rfl ?_
      repeat first | refine LQ.pure (Pure.field1 rfl rfl) rfl ?_ | refine LQ.pure (Pure.loadRef (c := .list _) rfl rfl) rfl ?_ | refine LQ.want rfl rfl ?_
      refine LQ.call (args := [_, _]) (v := .bool (eqExs (smIndex a[i]) (smIndex b[i]))) (ret_any (sameExprs_spec _ (smIndex a[i]) (smIndex b[i]) (Nat.le_refl _) (by omega))) rfl ?_
      repeat first | refine LQ.pure (Pure.mv (lv := .atom _) rfl) rfl ?_ | refine LQ.pure (Pure.pickF (lv := .atom _) rfl rfl) rfl ?_ | refine LQ.pure (Pure.not rfl) rfl ?_ | refine LQ.want rfl rfl ?_
      refine LQ.bcase 55 rfl (fun h3 => ?_) (fun h3 => ?_)
      ·repeat first | refine LQ.pure (Pure.mv (lv := .atom _) rfl) rfl ?_ | refine LQ.pure (Pure.pickT (lv := .atom _) rfl rfl) rfl ?_ | refine LQ.skip rfl rfl rfl rfl ?_ | refine LQ.nil ?_ | refine QThen.normal ?_
       exact ⟨⟨rfl, rfl, rfl, bool_eq (by rw [hpt, not_t h3]; rfl), trivial⟩, rfl, rfl⟩
      ·have h3' := not_f h3
       rw [h3', Bool.true_and] at hpt
       repeat first | refine LQ.pure (Pure.mv (lv := .list _) rfl) rfl ?_ | refine LQ.pure (Pure.mv (lv := .atom _) rfl) rfl ?_ | refine LQ.want rfl rfl ?_
       refine LQ.pure (Pure.ixRef (el' := encS a[i]) (cs := [_, _, _, _, _, _]) rfl rfl (by omega) (map_get _ _ _ hlt) rfl rfl) rfl ?_
       repeat first | refine LQ.pure (Pure.mv (lv := .list _) rfl) rfl ?_ | refine LQ.pure (Pure.mv (lv := .atom _) rfl) rfl ?_ | refine LQ.pure (Pure.field1 rfl rfl) rfl ?_ | refine LQ.pure (Pure.loadRef (c := .list _) rfl rfl) rfl ?_ | refine LQ.want rfl rfl ?_
       refine LQ.pure (Pure.ixRef (el' := encS b[i]) (cs := [_, _, _, _, _, _]) rfl rfl (by omega) (map_get _ _ _ hlt2) rfl rfl) rfl ?_
       repeat first | refine LQ.pure (Pure.field1 rfl rfl) rfl ?_ | refine LQ.pure (Pure.loadRef (c := .list _) rfl rfl) rfl ?_ | refine LQ.want rfl rfl ?_
       refine LQ.call (args := [_, _]) (v := .bool (eqExs (smValue a[i]) (smValue b[i]))) (ret_any (sameExprs_spec _ (smValue a[i]) (smValue b[i]) (Nat.le_refl _) (by omega))) rfl ?_
       repeat first | refine LQ.pure (Pure.mv (lv := .atom _) rfl) rfl ?_ | refine LQ.pure (Pure.pickF (lv := .atom _) rfl rfl) rfl ?_ | refine LQ.pure (Pure.not rfl) rfl ?_ | refine LQ.want rfl rfl ?_
       refine LQ.bcase 69 rfl (fun h4 => ?_) (fun h4 => ?_)
       ·repeat first | refine LQ.pure (Pure.mv (lv := .atom _) rfl) rfl ?_ | refine LQ.pure (Pure.pickT (lv := .atom _) rfl rfl) rfl ?_ | refine LQ.skip rfl rfl rfl rfl ?_ | refine LQ.nil ?_ | refine QThen.normal ?_
        exact ⟨⟨rfl, rfl, rfl, bool_eq (by rw [hpt, not_t h4]; rfl), trivial⟩, rfl, rfl⟩
       ·have h4' := not_f h4
        rw [h4', Bool.true_and] at hpt
        repeat first | refine LQ.pure (Pure.mv (lv := .list _) rfl) rfl ?_ | refine LQ.pure (Pure.mv (lv := .atom _) rfl) rfl ?_ | refine LQ.want rfl rfl ?_
        refine LQ.pure (Pure.ixRef (el' := encS a[i]) (cs := [_, _, _, _, _, _]) rfl rfl (by omega) (map_get _ _ _ hlt) rfl rfl) rfl ?_
        repeat first | refine LQ.pure (Pure.mv (lv := .list _) rfl) rfl ?_ | refine LQ.pure (Pure.mv (lv := .atom _) rfl) rfl ?_ | refine LQ.pure (Pure.field1 rfl rfl) rfl ?_ | refine LQ.pure (Pure.loadRef (c := .list _) rfl rfl) rfl ?_ | refine LQ.want rfl rfl ?_
        refine LQ.pure (Pure.ixRef (el' := encS b[i]) (cs := [_, _, _, _, _, _]) rfl rfl (by omega) (map_get _ _ _ hlt2) rfl rfl) rfl ?_
        repeat first | refine LQ.pure (Pure.field1 rfl rfl) rfl ?_ | refine LQ.pure (Pure.loadRef (c := .list _) rfl rfl) rfl ?_ | refine LQ.want rfl rfl ?_
        refine LQ.call (args := [_, _]) (v := .bool (eqSms (smThen a[i]) (smThen b[i]))) (ret_any (by
         have := ih _ hna.2.2.1 (smThen a[i]) (smThen b[i]) (Nat.le_refl _) (by omega)
         rw [← encThen_eq, ← encThen_eq] at this
         exact this)) rfl ?_
        repeat first | refine LQ.pure (Pure.mv (lv := .atom _) rfl) rfl ?_ | refine LQ.pure (Pure.pickF (lv := .atom _) rfl rfl) rfl ?_ | refine LQ.pure (Pure.not rfl) rfl ?_ | refine LQ.want rfl rfl ?_
        refine LQ.bcase 83 rfl (fun h5 => ?_) (fun h5 => ?_)
        ·repeat first | refine LQ.pure (Pure.pickT (lv := .atom _) rfl rfl) rfl ?_ | refine LQ.skip rfl rfl rfl rfl ?_ | refine LQ.nil ?_ | refine QThen.normal ?_
         exact ⟨⟨rfl, rfl, rfl, bool_eq (by rw [hpt, not_t h5]; rfl), trivial⟩, rfl, rfl⟩
        ·have h5' := not_f h5
         rw [h5', Bool.true_and] at hpt
         repeat first | refine LQ.pure (Pure.mv (lv := .list _) rfl) rfl ?_ | refine LQ.pure (Pure.mv (lv := .atom _) rfl) rfl ?_ | refine LQ.want rfl rfl ?_
         refine LQ.pure (Pure.ixRef (el' := encS a[i]) (cs := [_, _, _, _, _, _]) rfl rfl (by omega) (map_get _ _ _ hlt) rfl rfl) rfl ?_
         repeat first | refine LQ.pure (Pure.mv (lv := .list _) rfl) rfl ?_ | refine LQ.pure (Pure.mv (lv := .atom _) rfl) rfl ?_ | refine LQ.pure (Pure.field1 rfl rfl) rfl ?_ | refine LQ.pure (Pure.loadRef (c := .list _) rfl rfl) rfl ?_ | refine LQ.want rfl rfl ?_
         refine LQ.pure (Pure.ixRef (el' := encS b[i]) (cs := [_, _, _, _, _, _]) rfl rfl (by omega) (map_get _ _ _ hlt2) rfl rfl) rfl ?_
         repeat first | refine LQ.pure (Pure.field1 rfl rfl) rfl ?_ | refine LQ.pure (Pure.loadRef (c := .list _) rfl rfl) rfl ?_ | refine LQ.want rfl rfl ?_
         refine LQ.call (args := [_, _]) (v := .bool (eqSms (smElse a[i]) (smElse b[i]))) (ret_any (by
          have := ih _ hna.2.2.2 (smElse a[i]) (smElse b[i]) (Nat.le_refl _) (by omega)
          rw [← encElse_eq, ← encElse_eq] at this
          exact this)) rfl ?_
         repeat first | refine LQ.pure (Pure.pickF (lv := .atom _) rfl rfl) rfl ?_ | refine LQ.pure (Pure.not rfl) rfl ?_ | refine LQ.want rfl rfl ?_ | refine LQ.nil ?_ | refine QThen.normal ?_
         exact ⟨⟨rfl, rfl, rfl, bool_eq (by rw [hpt]), trivial⟩, rfl, rfl⟩
   ·rw [eqList_drop hlt hlt2] at hE
    refine LCode.cond rfl (fun hd => ?_) (fun hd => ?_)
    ·have hd' : eqSm a[i] b[i] = false := by simpa using hd
     repeat first | refine LOps.nil ?_ | refine LCode.seq ?_ | refine LCode.region ?_ | refine LCode.ret ?_ | refine QThen.normal ?_ | refine QThen.ret ?_ | refine QBlock.ret ?_ | refine LOps.pure (Pure.as (lv := .atom _) rfl) rfl ?_
     exact retRet (hj2.trans hj) (AllRes.cons (ResIs.tmp (v := .atom _) rfl (LV.Sub.refl _)) AllRes.nil) (bool_eq (by rw [hE, hd', Bool.false_and]))
    ·have hd' : eqSm a[i] b[i] = true := by simpa using hd
     rw [hd', Bool.true_and] at hE
     repeat first | refine LOps.nil ?_ | refine LCode.region ?_ | refine LCode.skip ?_ | refine QThen.normal ?_ | refine QBlock.normal ?_ | refine LOps.pure (Pure.as (lv := .atom _) rfl) rfl ?_ | refine LOps.pure (Pure.mv (lv := .atom _) rfl) rfl ?_ | refine LOps.pure (Pure.add rfl rfl (by omega)) rfl ?_
     exact ⟨_, _, _, by omega, ⟨i + 1, rfl, by omega, rfl, rfl, hE⟩, ⟨rfl, rfl, int_eq (by omega), trivial⟩, HSub.refl _, hj2.trans hj⟩
  ·have hge : a.length ≤ i := by have := of_decide_eq_false hc; omega
   rw [eqList_end hge (by omega)] at hE
   repeat first | refine LOps.nil ?_ | refine LCode.seq ?_ | refine LCode.region ?_ | refine LCode.ret ?_ | refine LCode.exit ?_ | refine QThen.normal ?_ | refine QThen.exit ?_ | refine QBlock.hit ?_ | refine LOps.pure (Pure.as (lv := .atom _) rfl) rfl ?_
   exact retRet hj (AllRes.cons (ResIs.tmp (v := .atom _) rfl (LV.Sub.refl _)) AllRes.nil) (bool_eq hE.symm)
end
end Go.Proofs.YtfodkbchknknjaaGreatDoor
namespace Go.Proofs.YtfodkbchknknjaaGreatDoor
open Go.GL Go.RowKit Go.Stele
set_option maxRecDepth 100000
set_option maxHeartbeats 4000000
instance : TPair Tryz.prog 70 := .of (by kernel_rfl) (by kernel_rfl) (by kernel_rfl)
/-- A program that is not too great. -/
structure PrOk (p : Pr) : Prop where
 size : nPr p ≤ 1000000000
 ars : ∀ a ∈ p.arrays, a.name.length ≤ 1000000000 ∧ a.size ≤ 4294967296
theorem fn_len {l : List FnD} {i : Nat} (h : i < l.length) : (l[i]).params.length + (l[i]).locals.length + nSms (l[i]).body ≤ nFns l := by
 have h1 := nFns_mem (List.getElem_mem h)
 unfold nFn at h1
 omega
theorem eqFn_parts (a b : FnD) : eqFn a b = (decide (a.name = b.name) && eqNames a.params b.params && eqNames a.locals b.locals && eqSms a.body b.body) := rfl
attribute [local irreducible] LOps LCode LStep LCalls Go.GL.Pure QThen QBlock RetPost LQ LAny LLate LLateOp
section
variable {B0 : Nat} {w0 : World}
theorem equal_spec (a b : Pr) (ha : PrOk a) (hb : PrOk b) : LCalls (KC B0 w0) 14 [encPr a, encPr b] [] (Ret (bool (eqPr a b))) := by
 have hsz := ha.size
 unfold nPr at hsz
 have hfl := nFns_len a.funcs
 have h1a : (a.arrays.map encAr).length = a.arrays.length := List.length_map _
 have h1b : (b.arrays.map encAr).length = b.arrays.length := List.length_map _
 have h2a : (a.funcs.map encFn).length = a.funcs.length := List.length_map _
 have h2b : (b.funcs.map encFn).length = b.funcs.length := List.length_map _
 refine LCalls.intro Tryz.func14 rfl (n := 97) rfl rfl rfl ?_
 repeat first | refine LCode.seq ?_ | refine LCode.region ?_
 refine LOps.step (S.box (cs := [.list (a.vars.map str), .list (a.arrays.map encAr), .list (a.funcs.map encFn)]) rfl fun b2 => ?_) rfl
 refine LOps.step (S.box (cs := [.list (b.vars.map str), .list (b.arrays.map encAr), .list (b.funcs.map encFn)]) rfl fun b3 => ?_) rfl
 repeat first | refine LOps.nil ?_ | refine LCode.seq ?_ | refine LCode.region ?_ | refine QThen.normal ?_ | refine LOps.pure (Pure.as (lv := .atom _) rfl) rfl ?_ | refine LOps.pure (Pure.fieldH rfl) rfl ?_ | refine LOps.pure (Pure.loadH (c := .list _) rfl (List.Mem.head _) rfl) rfl ?_ | refine LOps.pure (Pure.loadH (c := .list _) rfl (List.Mem.tail _ (List.Mem.head _)) rfl) rfl ?_
 refine LOps.cut [(2, ptr b2 0), (3, ptr b3 0), (32, bool (!(eqNames a.vars b.vars && decide (a.arrays.length = b.arrays.length) && decide (a.funcs.length = b.funcs.length))))] ?_ (fun j hj => ?_)
 ·refine LOps.step (S.fn [_, _] rfl (sameNames_spec a.vars b.vars (by omega)) ?_) rfl
  repeat first | refine LOps.pure (Pure.not rfl) rfl ?_ | refine LOps.pure (Pure.mv (lv := .atom _) rfl) rfl ?_
  refine LOps.bcase 15 rfl (fun h1 => ?_) (fun h1 => ?_)
  ·repeat first | refine LOps.nil ?_ | refine QThen.normal ?_ | refine LOps.pure (Pure.mv (lv := .atom _) rfl) rfl ?_ | refine LOps.pure (Pure.pickT (lv := .atom _) rfl rfl) rfl ?_ | refine LOps.skip rfl rfl rfl rfl ?_
   exact ⟨⟨rfl, rfl, bool_eq (by rw [not_t h1]; rfl), trivial⟩, rfl, rfl⟩
  ·repeat first | refine LOps.pure (Pure.fieldH rfl) rfl ?_ | refine LOps.pure (Pure.loadH (c := .list _) rfl (List.Mem.head _) rfl) rfl ?_ | refine LOps.pure (Pure.loadH (c := .list _) rfl (List.Mem.tail _ (List.Mem.head _)) rfl) rfl ?_ | refine LOps.pure (Pure.mv (lv := .atom _) rfl) rfl ?_ | refine LOps.pure (Pure.llen rfl) rfl ?_ | refine LOps.pure (Pure.neq rfl rfl) rfl ?_ | refine LOps.pure (Pure.pickF (lv := .atom _) rfl rfl) rfl ?_ | refine LOps.want rfl rfl ?_
   have e2 : (!decide (((a.arrays.map encAr).length : Int) = ((b.arrays.map encAr).length : Int))) = !decide (a.arrays.length = b.arrays.length) := by
    rw [h1a, h1b]
    congr 1
    rw [decide_eq_decide]
    omega
   refine LOps.bcase 24 rfl (fun h2 => ?_) (fun h2 => ?_)
   ·rw [e2] at h2
    repeat first | refine LOps.nil ?_ | refine QThen.normal ?_ | refine LOps.pure (Pure.pickT (lv := .atom _) rfl rfl) rfl ?_ | refine LOps.skip rfl rfl rfl rfl ?_
    exact ⟨⟨rfl, rfl, bool_eq (by rw [not_f h1, not_t h2]; rfl), trivial⟩, rfl, rfl⟩
   ·rw [e2] at h2
    repeat first | refine LOps.nil ?_ | refine QThen.normal ?_ | refine LOps.pure (Pure.fieldH rfl) rfl ?_ | refine LOps.pure (Pure.loadH (c := .list _) rfl (List.Mem.head _) rfl) rfl ?_ | refine LOps.pure (Pure.loadH (c := .list _) rfl (List.Mem.tail _ (List.Mem.head _)) rfl) rfl ?_ | refine LOps.pure (Pure.llen rfl) rfl ?_ | refine LOps.pure (Pure.neq rfl rfl) rfl ?_ | refine LOps.pure (Pure.pickF (lv := .atom _) rfl rfl) rfl ?_ | refine LOps.want rfl rfl ?_
    refine ⟨⟨rfl, rfl, bool_eq ?_, trivial⟩, rfl, rfl⟩
    rw [not_f h1, not_f h2]
    show (!decide (((a.funcs.map encFn).length : Int) = ((b.funcs.map encFn).length : Int))) = _
    rw [h2a, h2b, Bool.true_and, Bool.true_and]
    congr 1
    rw [decide_eq_decide]
    omega
 ·skip
  refine LCode.cond rfl (fun hc => ?_) (fun hc => ?_)
  ·repeat first | refine LOps.nil ?_ | refine LCode.seq ?_ | refine LCode.region ?_ | refine LCode.ret ?_ | refine QThen.normal ?_ | refine QThen.ret ?_ | refine LOps.pure (Pure.as (lv := .atom _) rfl) rfl ?_
   refine retRet hj (AllRes.cons (ResIs.tmp (v := .atom _) rfl (LV.Sub.refl _)) AllRes.nil) (bool_eq ?_)
   have hx := not_t hc
   have : ¬ eqPr a b = true := by
    rw [eqPr_iff]
    rintro rfl
    rw [(eqNames_iff _ _).2 rfl] at hx
    simp at hx
   exact (Bool.eq_false_iff.2 this).symm
  ·have hx := not_f hc
   simp only [Bool.and_eq_true, decide_eq_true_eq] at hx
   obtain ⟨⟨hv, hla⟩, hlf⟩ := hx
   have hE0 : eqPr a b = (eqList eqAr a.arrays b.arrays && eqList eqFn a.funcs b.funcs) := by rw [eqPr, hv, Bool.true_and]
   repeat first | refine LOps.nil ?_ | refine LCode.seq ?_ | refine LCode.region ?_ | refine LCode.skip ?_ | refine LCode.block ?_ | refine QThen.normal ?_ | refine LOps.pure (Pure.as (lv := .atom _) rfl) rfl ?_
   refine LCode.loopI (fun k ls H => ∃ i, k = a.arrays.length - i ∧ i ≤ a.arrays.length ∧ ls = [(2, ptr b2 0), (3, ptr b3 0), (5, int .i64 i)] ∧ H = [(b3, .cells 27 [.list (b.vars.map str), .list (b.arrays.map encAr), .list (b.funcs.map encFn)]), (b2, .cells 27 [.list (a.vars.map str), .list (a.arrays.map encAr), .list (a.funcs.map encFn)])] ∧ eqPr a b = (eqList eqAr (a.arrays.drop i) (b.arrays.drop i) && eqList eqFn a.funcs b.funcs))
    ⟨_, _, _, ⟨0, rfl, Nat.zero_le _, rfl, rfl, hE0⟩, ⟨rfl, rfl, rfl, trivial⟩, HSub.refl _⟩ ?_
   rintro k ls H ⟨i, rfl, hi, rfl, rfl, hE⟩ j2 hj2
   repeat first | refine LOps.nil ?_ | refine LCode.seq ?_ | refine LCode.region ?_ | refine QThen.normal ?_ | refine LOps.pure (Pure.fieldH rfl) rfl ?_ | refine LOps.pure (Pure.loadH (c := .list _) rfl (List.Mem.tail _ (List.Mem.head _)) rfl) rfl ?_ | refine LOps.pure (Pure.mv (lv := .atom _) rfl) rfl ?_ | refine LOps.pure (Pure.llen rfl) rfl ?_ | refine LOps.pure (Pure.lss rfl rfl) rfl ?_
   refine LCode.cond rfl (fun hc => ?_) (fun hc => ?_)
   ·have hlt : i < a.arrays.length := by have := of_decide_eq_true hc; omega
    have hlt2 : i < b.arrays.length := by omega
    obtain ⟨hn1, hs1⟩ := ha.ars _ (List.getElem_mem hlt)
    obtain ⟨hn2, hs2⟩ := hb.ars _ (List.getElem_mem hlt2)
    repeat first | refine LCode.seq ?_ | refine LCode.skip ?_ | refine LCode.block ?_ | refine QThen.normal ?_
    refine LCode.cut [(2, ptr b2 0), (3, ptr b3 0), (5, int .i64 i), (50, bool (!eqAr a.arrays[i] b.arrays[i]))] ?_ (fun j3 hj3 => ?_)
    ·refine LCode.quiet (by kernel_rfl) ?_
     repeat first | refine LQ.pure (Pure.fieldH rfl) rfl ?_ | refine LQ.pure (Pure.loadH (c := .list _) rfl (List.Mem.tail _ (List.Mem.head _)) rfl) rfl ?_ | refine LQ.pure (Pure.mv (lv := .atom _) rfl) rfl ?_
     refine LQ.pure (Pure.ixRef (el' := encAr a.arrays[i]) (cs := [_, _]) rfl rfl (by omega) (map_get _ _ _ hlt) rfl rfl) rfl ?_
     repeat first | refine LQ.pure (Pure.fieldH rfl) rfl ?_ | refine LQ.pure (Pure.loadH (c := .list _) rfl (List.Mem.head _) rfl) rfl ?_ | refine LQ.pure (Pure.mv (lv := .atom _) rfl) rfl ?_ | refine LQ.pure (Pure.ldRefAgg (cs' := [_, _]) rfl rfl rfl) rfl ?_
     refine LQ.pure (Pure.ixRef (el' := encAr b.arrays[i]) (cs := [_, _]) rfl rfl (by omega) (map_get _ _ _ hlt2) rfl rfl) rfl ?_
     repeat first | refine LQ.pure (Pure.ldRefAgg (cs' := [_, _]) rfl rfl rfl) rfl ?_
     refine LQ.pure (Pure.pairNeq rfl rfl hn1 hn2 (by omega) (by omega)) rfl ?_
     repeat first | refine LQ.nil ?_ | refine QThen.normal ?_
     exact ⟨⟨rfl, rfl, rfl, rfl, trivial⟩, rfl, rfl⟩
    ·rw [eqList_drop hlt hlt2] at hE
     refine LCode.cond rfl (fun hd => ?_) (fun hd => ?_)
     ·repeat first | refine LOps.nil ?_ | refine LCode.seq ?_ | refine LCode.region ?_ | refine LCode.ret ?_ | refine QThen.normal ?_ | refine QThen.ret ?_ | refine QBlock.ret ?_ | refine LOps.pure (Pure.as (lv := .atom _) rfl) rfl ?_
      exact retRet (hj3.trans (hj2.trans hj)) (AllRes.cons (ResIs.tmp (v := .atom _) rfl (LV.Sub.refl _)) AllRes.nil) (bool_eq (by rw [hE, not_t hd]; rfl))
     ·rw [not_f hd, Bool.true_and] at hE
      repeat first | refine LOps.nil ?_ | refine LCode.region ?_ | refine LCode.skip ?_ | refine QThen.normal ?_ | refine QBlock.normal ?_ | refine LOps.pure (Pure.as (lv := .atom _) rfl) rfl ?_ | refine LOps.pure (Pure.mv (lv := .atom _) rfl) rfl ?_ | refine LOps.pure (Pure.add rfl rfl (by omega)) rfl ?_
      exact ⟨_, _, _, by omega, ⟨i + 1, rfl, by omega, rfl, rfl, hE⟩, ⟨rfl, rfl, int_eq (by omega), trivial⟩, HSub.refl _, hj3.trans hj2⟩
   ·have hge : a.arrays.length ≤ i := by have := of_decide_eq_false hc; omega
    rw [eqList_end hge (by omega), Bool.true_and] at hE
    repeat first | refine LOps.nil ?_ | refine LCode.seq ?_ | refine LCode.region ?_ | refine LCode.exit ?_ | refine LCode.block ?_ | refine QThen.normal ?_ | refine QThen.exit ?_ | refine QBlock.hit ?_ | refine LOps.pure (Pure.as (lv := .atom _) rfl) rfl ?_
    refine LCode.loopI (fun k ls H => ∃ i, k = a.funcs.length - i ∧ i ≤ a.funcs.length ∧ ls = [(2, ptr b2 0), (3, ptr b3 0), (6, int .i64 i)] ∧ H = [(b3, .cells 27 [.list (b.vars.map str), .list (b.arrays.map encAr), .list (b.funcs.map encFn)]), (b2, .cells 27 [.list (a.vars.map str), .list (a.arrays.map encAr), .list (a.funcs.map encFn)])] ∧ eqPr a b = eqList eqFn (a.funcs.drop i) (b.funcs.drop i))
     ⟨_, _, _, ⟨0, rfl, Nat.zero_le _, rfl, rfl, hE⟩, ⟨rfl, rfl, rfl, trivial⟩, HSub.refl _⟩ ?_
    clear hE hge
    rintro k ls H ⟨i, rfl, hi, rfl, rfl, hE⟩ j3 hj3
    repeat first | refine LOps.nil ?_ | refine LCode.seq ?_ | refine LCode.region ?_ | refine QThen.normal ?_ | refine LOps.pure (Pure.fieldH rfl) rfl ?_ | refine LOps.pure (Pure.loadH (c := .list _) rfl (List.Mem.tail _ (List.Mem.head _)) rfl) rfl ?_ | refine LOps.pure (Pure.mv (lv := .atom _) rfl) rfl ?_ | refine LOps.pure (Pure.llen rfl) rfl ?_ | refine LOps.pure (Pure.lss rfl rfl) rfl ?_
    refine LCode.cond rfl (fun hc => ?_) (fun hc => ?_)
    ·have hlt : i < a.funcs.length := by have := of_decide_eq_true hc; omega
     have hlt2 : i < b.funcs.length := by omega
     have hfn := fn_len hlt
     have hpt := eqFn_parts a.funcs[i] b.funcs[i]
     repeat first | refine LCode.seq ?_ | refine LCode.skip ?_ | refine LCode.block ?_ | refine QThen.normal ?_
     refine LCode.midC (A := Nat × Nat) (fun q => [(2, ptr b2 0), (3, ptr b3 0), (6, int .i64 i), (7, ptr q.1 0), (8, ptr q.2 0)]) (fun q => (q.1, .cells 53 [str a.funcs[i].name, .list (a.funcs[i].params.map str), .list (a.funcs[i].locals.map str), .list (a.funcs[i].body.map encS)]) :: (q.2, .cells 53 [str b.funcs[i].name, .list (b.funcs[i].params.map str), .list (b.funcs[i].locals.map str), .list (b.funcs[i].body.map encS)]) :: [(b3, .cells 27 [.list (b.vars.map str), .list (b.arrays.map encAr), .list (b.funcs.map encFn)]), (b2, .cells 27 [.list (a.vars.map str), .list (a.arrays.map encAr), .list (a.funcs.map encFn)])]) (fun _ => True) ?_ ?_
     ·refine LCode.draw (m := 14) rfl [(b3, .cells 27 [.list (b.vars.map str), .list (b.arrays.map encAr), .list (b.funcs.map encFn)]), (b2, .cells 27 [.list (a.vars.map str), .list (a.arrays.map encAr), .list (a.funcs.map encFn)])] ?_
      refine LAny.tk 0 rfl rfl (Pure.fieldH rfl) ?_
      refine LAny.tk 1 rfl rfl (Pure.loadH (c := .list _) rfl (List.Mem.tail _ (List.Mem.head _)) rfl) ?_
      refine LAny.tk 2 rfl rfl (Pure.mv (lv := .atom _) rfl) ?_
      refine LAny.take (i := 3) (HSub.refl _) rfl (by kernel_rfl) (by kernel_rfl) (by kernel_rfl) rfl (Pure.ixRef (el' := encFn a.funcs[i]) (cs := [_, _, _, _]) rfl rfl (by omega) (map_get _ _ _ hlt) rfl rfl) ?_
      refine LAny.tk 4 rfl rfl (Pure.ldRefAgg (cs' := [_, _, _, _]) rfl rfl rfl) ?_
      refine LAny.tk 5 rfl rfl (Pure.fieldH rfl) ?_
      refine LAny.tk 6 rfl rfl (Pure.loadH (c := .list _) rfl (List.Mem.head _) rfl) ?_
      refine LAny.tk 7 rfl rfl (Pure.mv (lv := .atom _) rfl) ?_
      refine LAny.take (i := 8) (HSub.refl _) rfl (by kernel_rfl) (by kernel_rfl) (by kernel_rfl) rfl (Pure.ixRef (el' := encFn b.funcs[i]) (cs := [_, _, _, _]) rfl rfl (by omega) (map_get _ _ _ hlt2) rfl rfl) ?_
      refine LAny.tk 9 rfl rfl (Pure.ldRefAgg (cs' := [_, _, _, _]) rfl rfl rfl) ?_
      refine LAny.late ?_ (HSub.refl _)
      refine LLate.two (i := 10) (j := 11) (by kernel_rfl) ?_ ?_
      ·refine LLateOp.step (H1 := []) (F := [(b3, .cells 27 [.list (b.vars.map str), .list (b.arrays.map encAr), .list (b.funcs.map encFn)]), (b2, .cells 27 [.list (a.vars.map str), .list (a.arrays.map encAr), .list (a.funcs.map encFn)])]) rfl (.inl rfl) rfl (List.Perm.refl _) (HSub.refl _) (S.alloc fun b7 => ?_)
       refine LLate.o 11 (LLateOp.step (H1 := []) (F := (b7, .cells 53 [str [], nilSlice, nilSlice, nilSlice]) :: [(b3, .cells 27 [.list (b.vars.map str), .list (b.arrays.map encAr), .list (b.funcs.map encFn)]), (b2, .cells 27 [.list (a.vars.map str), .list (a.arrays.map encAr), .list (a.funcs.map encFn)])]) rfl (.inl rfl) rfl (List.Perm.refl _) (HSub.drop (HSub.refl _)) (S.alloc fun b8 => ?_))
       refine LLate.o 12 (LLateOp.step (H1 := [(b7, .cells 53 [str [], nilSlice, nilSlice, nilSlice])]) (F := (b8, .cells 53 [str [], nilSlice, nilSlice, nilSlice]) :: [(b3, .cells 27 [.list (b.vars.map str), .list (b.arrays.map encAr), .list (b.funcs.map encFn)]), (b2, .cells 27 [.list (a.vars.map str), .list (a.arrays.map encAr), .list (a.funcs.map encFn)])]) rfl (.inl rfl) rfl (Pick.there Pick.here) (HSub.drop (HSub.refl _)) (S.store (cs' := [str a.funcs[i].name, .list (a.funcs[i].params.map str), .list (a.funcs[i].locals.map str), .list (a.funcs[i].body.map encS)]) rfl Pick.here rfl rfl rfl rfl rfl ?_))
       refine LLate.o 13 (LLateOp.step (H1 := [(b8, .cells 53 [str [], nilSlice, nilSlice, nilSlice])]) (F := (b7, .cells 53 [str a.funcs[i].name, .list (a.funcs[i].params.map str), .list (a.funcs[i].locals.map str), .list (a.funcs[i].body.map encS)]) :: [(b3, .cells 27 [.list (b.vars.map str), .list (b.arrays.map encAr), .list (b.funcs.map encFn)]), (b2, .cells 27 [.list (a.vars.map str), .list (a.arrays.map encAr), .list (a.funcs.map encFn)])]) rfl (.inl rfl) rfl (Pick.there Pick.here) (HSub.drop (HSub.refl _)) (S.store (cs' := [str b.funcs[i].name, .list (b.funcs[i].params.map str), .list (b.funcs[i].locals.map str), .list (b.funcs[i].body.map encS)]) rfl Pick.here rfl rfl rfl rfl rfl ?_))
       refine LLate.done (by kernel_rfl) ?_
       repeat first | refine QThen.normal ?_
       exact ⟨(b7, b8), trivial, ⟨rfl, rfl, rfl, rfl, rfl, trivial⟩, HSub.pick (Pick.there Pick.here) (HSub.refl _), rfl⟩
      ·refine LLateOp.step (H1 := []) (F := [(b3, .cells 27 [.list (b.vars.map str), .list (b.arrays.map encAr), .list (b.funcs.map encFn)]), (b2, .cells 27 [.list (a.vars.map str), .list (a.arrays.map encAr), .list (a.funcs.map encFn)])]) rfl (.inl rfl) rfl (List.Perm.refl _) (HSub.refl _) (S.alloc fun b8 => ?_)
       refine LLate.o 10 (LLateOp.step (H1 := []) (F := (b8, .cells 53 [str [], nilSlice, nilSlice, nilSlice]) :: [(b3, .cells 27 [.list (b.vars.map str), .list (b.arrays.map encAr), .list (b.funcs.map encFn)]), (b2, .cells 27 [.list (a.vars.map str), .list (a.arrays.map encAr), .list (a.funcs.map encFn)])]) rfl (.inl rfl) rfl (List.Perm.refl _) (HSub.drop (HSub.refl _)) (S.alloc fun b7 => ?_))
       refine LLate.o 12 (LLateOp.step (H1 := [(b7, .cells 53 [str [], nilSlice, nilSlice, nilSlice])]) (F := (b8, .cells 53 [str [], nilSlice, nilSlice, nilSlice]) :: [(b3, .cells 27 [.list (b.vars.map str), .list (b.arrays.map encAr), .list (b.funcs.map encFn)]), (b2, .cells 27 [.list (a.vars.map str), .list (a.arrays.map encAr), .list (a.funcs.map encFn)])]) rfl (.inl rfl) rfl Pick.here (HSub.drop (HSub.refl _)) (S.store (cs' := [str a.funcs[i].name, .list (a.funcs[i].params.map str), .list (a.funcs[i].locals.map str), .list (a.funcs[i].body.map encS)]) rfl Pick.here rfl rfl rfl rfl rfl ?_))
       refine LLate.o 13 (LLateOp.step (H1 := [(b8, .cells 53 [str [], nilSlice, nilSlice, nilSlice])]) (F := (b7, .cells 53 [str a.funcs[i].name, .list (a.funcs[i].params.map str), .list (a.funcs[i].locals.map str), .list (a.funcs[i].body.map encS)]) :: [(b3, .cells 27 [.list (b.vars.map str), .list (b.arrays.map encAr), .list (b.funcs.map encFn)]), (b2, .cells 27 [.list (a.vars.map str), .list (a.arrays.map encAr), .list (a.funcs.map encFn)])]) rfl (.inl rfl) rfl (Pick.there Pick.here) (HSub.drop (HSub.refl _)) (S.store (cs' := [str b.funcs[i].name, .list (b.funcs[i].params.map str), .list (b.funcs[i].locals.map str), .list (b.funcs[i].body.map encS)]) rfl Pick.here rfl rfl rfl rfl rfl ?_))
       refine LLate.done (by kernel_rfl) ?_
       repeat first | refine QThen.normal ?_
       exact ⟨(b7, b8), trivial, ⟨rfl, rfl, rfl, rfl, rfl, trivial⟩, HSub.pick (Pick.there Pick.here) (HSub.refl _), rfl⟩
     ·rintro ⟨b7, b8⟩ _ j4 hj4
      repeat first | refine LCode.seq ?_ | refine LCode.region ?_ | refine LOps.pure (Pure.fieldH rfl) rfl ?_ | refine LOps.pure (Pure.loadH (c := .atom _) rfl (List.Mem.head _) rfl) rfl ?_ | refine LOps.pure (Pure.loadH (c := .atom _) rfl (List.Mem.tail _ (List.Mem.head _)) rfl) rfl ?_ | refine LOps.pure (Pure.mv (lv := .atom _) rfl) rfl ?_ | refine LOps.pure (Pure.sneq rfl rfl) rfl ?_
      refine LOps.cut [(2, ptr b2 0), (3, ptr b3 0), (6, int .i64 i), (96, bool (!eqFn a.funcs[i] b.funcs[i]))] ?_ (fun j5 hj5 => ?_)
      ·refine LOps.bcase 73 rfl (fun h1 => ?_) (fun h1 => ?_)
       ·repeat first | refine LOps.nil ?_ | refine QThen.normal ?_ | refine LOps.pure (Pure.mv (lv := .atom _) rfl) rfl ?_ | refine LOps.pure (Pure.pickT (lv := .atom _) rfl rfl) rfl ?_ | refine LOps.skip rfl rfl rfl rfl ?_
        exact ⟨⟨rfl, rfl, rfl, bool_eq (by rw [hpt, not_t h1]; rfl), trivial⟩, rfl, rfl⟩
       ·rw [not_f h1, Bool.true_and] at hpt
        repeat first | refine LOps.pure (Pure.fieldH rfl) rfl ?_ | refine LOps.pure (Pure.loadH (c := .list _) rfl (List.Mem.head _) rfl) rfl ?_ | refine LOps.pure (Pure.loadH (c := .list _) rfl (List.Mem.tail _ (List.Mem.head _)) rfl) rfl ?_ | refine LOps.want rfl rfl ?_
        refine LOps.step (S.fn [_, _] rfl (sameNames_spec a.funcs[i].params b.funcs[i].params (by omega)) ?_) rfl
        repeat first | refine LOps.pure (Pure.not rfl) rfl ?_ | refine LOps.pure (Pure.mv (lv := .atom _) rfl) rfl ?_ | refine LOps.pure (Pure.pickF (lv := .atom _) rfl rfl) rfl ?_ | refine LOps.want rfl rfl ?_
        refine LOps.bcase 81 rfl (fun h2 => ?_) (fun h2 => ?_)
        ·repeat first | refine LOps.nil ?_ | refine QThen.normal ?_ | refine LOps.pure (Pure.mv (lv := .atom _) rfl) rfl ?_ | refine LOps.pure (Pure.pickT (lv := .atom _) rfl rfl) rfl ?_ | refine LOps.skip rfl rfl rfl rfl ?_
         exact ⟨⟨rfl, rfl, rfl, bool_eq (by rw [hpt, not_t h2]; rfl), trivial⟩, rfl, rfl⟩
        ·rw [not_f h2, Bool.true_and] at hpt
         repeat first | refine LOps.pure (Pure.fieldH rfl) rfl ?_ | refine LOps.pure (Pure.loadH (c := .list _) rfl (List.Mem.head _) rfl) rfl ?_ | refine LOps.pure (Pure.loadH (c := .list _) rfl (List.Mem.tail _ (List.Mem.head _)) rfl) rfl ?_ | refine LOps.want rfl rfl ?_
         refine LOps.step (S.fn [_, _] rfl (sameNames_spec a.funcs[i].locals b.funcs[i].locals (by omega)) ?_) rfl
         repeat first | refine LOps.pure (Pure.not rfl) rfl ?_ | refine LOps.pure (Pure.mv (lv := .atom _) rfl) rfl ?_ | refine LOps.pure (Pure.pickF (lv := .atom _) rfl rfl) rfl ?_ | refine LOps.want rfl rfl ?_
         refine LOps.bcase 89 rfl (fun h3 => ?_) (fun h3 => ?_)
         ·repeat first | refine LOps.nil ?_ | refine QThen.normal ?_ | refine LOps.pure (Pure.pickT (lv := .atom _) rfl rfl) rfl ?_ | refine LOps.skip rfl rfl rfl rfl ?_
          exact ⟨⟨rfl, rfl, rfl, bool_eq (by rw [hpt, not_t h3]; rfl), trivial⟩, rfl, rfl⟩
         ·rw [not_f h3, Bool.true_and] at hpt
          repeat first | refine LOps.pure (Pure.fieldH rfl) rfl ?_ | refine LOps.pure (Pure.loadH (c := .list _) rfl (List.Mem.head _) rfl) rfl ?_ | refine LOps.pure (Pure.loadH (c := .list _) rfl (List.Mem.tail _ (List.Mem.head _)) rfl) rfl ?_ | refine LOps.want rfl rfl ?_
          refine LOps.step (S.fn [_, _] rfl (sameStmts_spec _ a.funcs[i].body b.funcs[i].body (Nat.le_refl _) (by omega)) ?_) rfl
          repeat first | refine LOps.nil ?_ | refine QThen.normal ?_ | refine LOps.pure (Pure.not rfl) rfl ?_ | refine LOps.pure (Pure.pickF (lv := .atom _) rfl rfl) rfl ?_ | refine LOps.want rfl rfl ?_
          exact ⟨⟨rfl, rfl, rfl, bool_eq (by rw [hpt]), trivial⟩, rfl, rfl⟩
      ·rw [eqList_drop hlt hlt2] at hE
       refine LCode.cond rfl (fun hd => ?_) (fun hd => ?_)
       ·repeat first | refine LOps.nil ?_ | refine LCode.seq ?_ | refine LCode.region ?_ | refine LCode.ret ?_ | refine QThen.normal ?_ | refine QThen.ret ?_ | refine QBlock.ret ?_ | refine LOps.pure (Pure.as (lv := .atom _) rfl) rfl ?_
        exact retRet (hj5.trans (hj4.trans (hj3.trans (hj2.trans hj)))) (AllRes.cons (ResIs.tmp (v := .atom _) rfl (LV.Sub.refl _)) AllRes.nil) (bool_eq (by rw [hE, not_t hd]; rfl))
       ·rw [not_f hd, Bool.true_and] at hE
        repeat first | refine LOps.nil ?_ | refine LCode.region ?_ | refine LCode.skip ?_ | refine QThen.normal ?_ | refine QBlock.normal ?_ | refine LOps.pure (Pure.as (lv := .atom _) rfl) rfl ?_ | refine LOps.pure (Pure.mv (lv := .atom _) rfl) rfl ?_ | refine LOps.pure (Pure.add rfl rfl (by omega)) rfl ?_
        exact ⟨_, _, _, by omega, ⟨i + 1, rfl, by omega, rfl, rfl, hE⟩, ⟨rfl, rfl, int_eq (by omega), trivial⟩, HSub.drop (HSub.drop (HSub.refl _)), hj5.trans (hj4.trans hj3)⟩
    ·have hge : a.funcs.length ≤ i := by have := of_decide_eq_false hc; omega
     rw [eqList_end hge (by omega)] at hE
     repeat first | refine LOps.nil ?_ | refine LCode.seq ?_ | refine LCode.region ?_ | refine LCode.ret ?_ | refine LCode.exit ?_ | refine QThen.normal ?_ | refine QThen.exit ?_ | refine QBlock.hit ?_ | refine LOps.pure (Pure.as (lv := .atom _) rfl) rfl ?_
     exact retRet (hj3.trans (hj2.trans hj)) (AllRes.cons (ResIs.tmp (v := .atom _) rfl (LV.Sub.refl _)) AllRes.nil) (bool_eq hE.symm)
end
end Go.Proofs.YtfodkbchknknjaaGreatDoor
namespace Go.Proofs.YtfodkbchknknjaaGreatDoor
open Go.GL Go.RowKit Go.Stele
set_option maxRecDepth 100000
set_option maxHeartbeats 4000000
attribute [local irreducible] LOps LCode LStep LCalls Go.GL.Pure QThen QBlock RetPost LQ LAny LLate LLateOp
section
variable {B0 : Nat} {w0 : World}
/-- equalExpr, given the lists of arguments. -/
theorem eqE_spec (x y : Ex) (h : LCalls (KC B0 w0) 108 [.list ((exArgs x).map encE), .list ((exArgs y).map encE), .atom (.func (.func 109) #[] #[])] [] (Ret (bool (eqExs (exArgs x) (exArgs y))))) :
  LCalls (KC B0 w0) 109 [encE x, encE y] [] (Ret (bool (eqEx x y))) := by
 have hpt := eqEx_parts x y
 rw [← encArgs_eq, ← encArgs_eq] at h
 refine LCalls.intro Tryz.func109 rfl (n := 31) rfl rfl rfl ?_
 repeat first | refine LCode.seq ?_ | refine LCode.region ?_
 refine LOps.step (S.box (cs := [str (exOp x), int .u32 (exNum x), str (exName x), .list (encArgs x)]) rfl fun b2 => ?_) rfl
 refine LOps.step (S.box (cs := [str (exOp y), int .u32 (exNum y), str (exName y), .list (encArgs y)]) rfl fun b3 => ?_) rfl
 repeat first | refine LOps.nil ?_ | refine LCode.seq ?_ | refine LCode.region ?_ | refine QThen.normal ?_ | refine LOps.pure (Pure.as (lv := .atom _) rfl) rfl ?_ | refine LOps.pure (Pure.fieldH rfl) rfl ?_ | refine LOps.pure (Pure.loadH (c := .atom _) rfl (List.Mem.head _) rfl) rfl ?_ | refine LOps.pure (Pure.loadH (c := .atom _) rfl (List.Mem.tail _ (List.Mem.head _)) rfl) rfl ?_ | refine LOps.pure (Pure.seq rfl rfl) rfl ?_ | refine LOps.pure (Pure.mv (lv := .atom _) rfl) rfl ?_
 refine LOps.bcase 10 rfl (fun h1 => ?_) (fun h1 => ?_)
 ·rw [h1, Bool.true_and] at hpt
  repeat first | refine LOps.pure (Pure.fieldH rfl) rfl ?_ | refine LOps.pure (Pure.loadH (c := .atom _) rfl (List.Mem.head _) rfl) rfl ?_ | refine LOps.pure (Pure.loadH (c := .atom _) rfl (List.Mem.tail _ (List.Mem.head _)) rfl) rfl ?_ | refine LOps.pure (Pure.mv (lv := .atom _) rfl) rfl ?_ | refine LOps.pure (Pure.eql rfl rfl) rfl ?_ | refine LOps.pure (Pure.pickT (lv := .atom _) rfl rfl) rfl ?_ | refine LOps.want rfl rfl ?_
  refine LOps.bcase 17 rfl (fun h2 => ?_) (fun h2 => ?_)
  ·rw [h2, Bool.true_and] at hpt
   repeat first | refine LOps.pure (Pure.fieldH rfl) rfl ?_ | refine LOps.pure (Pure.loadH (c := .atom _) rfl (List.Mem.head _) rfl) rfl ?_ | refine LOps.pure (Pure.loadH (c := .atom _) rfl (List.Mem.tail _ (List.Mem.head _)) rfl) rfl ?_ | refine LOps.pure (Pure.seq rfl rfl) rfl ?_ | refine LOps.pure (Pure.mv (lv := .atom _) rfl) rfl ?_ | refine LOps.pure (Pure.pickT (lv := .atom _) rfl rfl) rfl ?_ | refine LOps.want rfl rfl ?_
   refine LOps.bcase 24 rfl (fun h3 => ?_) (fun h3 => ?_)
   ·rw [h3, Bool.true_and] at hpt
    repeat first | refine LOps.pure (Pure.fieldH rfl) rfl ?_ | refine LOps.pure (Pure.loadH (c := .list _) rfl (List.Mem.head _) rfl) rfl ?_ | refine LOps.pure (Pure.loadH (c := .list _) rfl (List.Mem.tail _ (List.Mem.head _)) rfl) rfl ?_ | refine LOps.want rfl rfl ?_
    refine LOps.step (S.fn [_, _, _] rfl h ?_) rfl
    repeat first | refine LOps.nil ?_ | refine LCode.ret ?_ | refine QThen.normal ?_ | refine LOps.pure (Pure.as (lv := .atom _) rfl) rfl ?_ | refine LOps.pure (Pure.pickT (lv := .atom _) rfl rfl) rfl ?_
    exact retRet rfl (AllRes.cons (ResIs.tmp (v := .atom _) rfl (LV.Sub.refl _)) AllRes.nil) (bool_eq (by rw [hpt]))
   ·repeat first | refine LOps.nil ?_ | refine LCode.ret ?_ | refine QThen.normal ?_ | refine LOps.pure (Pure.as (lv := .atom _) rfl) rfl ?_ | refine LOps.pure (Pure.pickF (lv := .atom _) rfl rfl) rfl ?_ | refine LOps.skip rfl rfl rfl rfl ?_
    exact retRet rfl (AllRes.cons (ResIs.tmp (v := .atom _) rfl (LV.Sub.refl _)) AllRes.nil) (bool_eq (by rw [hpt, h3]; rfl))
  ·repeat first | refine LOps.nil ?_ | refine LCode.ret ?_ | refine QThen.normal ?_ | refine LOps.pure (Pure.as (lv := .atom _) rfl) rfl ?_ | refine LOps.pure (Pure.mv (lv := .atom _) rfl) rfl ?_ | refine LOps.pure (Pure.pickF (lv := .atom _) rfl rfl) rfl ?_ | refine LOps.skip rfl rfl rfl rfl ?_
   exact retRet rfl (AllRes.cons (ResIs.tmp (v := .atom _) rfl (LV.Sub.refl _)) AllRes.nil) (bool_eq (by rw [hpt, h2]; rfl))
 ·repeat first | refine LOps.nil ?_ | refine LCode.ret ?_ | refine QThen.normal ?_ | refine LOps.pure (Pure.as (lv := .atom _) rfl) rfl ?_ | refine LOps.pure (Pure.mv (lv := .atom _) rfl) rfl ?_ | refine LOps.pure (Pure.pickF (lv := .atom _) rfl rfl) rfl ?_ | refine LOps.skip rfl rfl rfl rfl ?_
  exact retRet rfl (AllRes.cons (ResIs.tmp (v := .atom _) rfl (LV.Sub.refl _)) AllRes.nil) (bool_eq (by rw [hpt, h1]; rfl))
theorem eqEs_spec : ∀ (n : Nat) (a b : List Ex), nExs a ≤ n → n ≤ 4611686018427387904 → LCalls (KC B0 w0) 108 [.list (a.map encE), .list (b.map encE), .atom (.func (.func 109) #[] #[])] [] (Ret (bool (eqExs a b))) := by
 intro n
 induction n using Nat.strongRecOn with
 | _ n ih =>
 intro a b hn hb
 have ha := nExs_len a
 have hrec : ∀ (i : Nat) (h : i < a.length) (y : Ex), LCalls (KC B0 w0) 109 [encE a[i], encE y] [] (Ret (bool (eqEx a[i] y))) := fun i h y => by
  have h1 := nExs_mem (List.getElem_mem h)
  have h2 := nEx_eq a[i]
  exact eqE_spec a[i] y (ih _ (by omega) (exArgs a[i]) (exArgs y) (Nat.le_refl _) (by omega))
 rw [eqExs_list]
 refine LCalls.intro Tryz.func108 rfl (n := 32) rfl rfl rfl ?_
 have hla : (a.map encE).length = a.length := List.length_map _
 have hlb : (b.map encE).length = b.length := List.length_map _
 repeat first | refine LOps.nil ?_ | refine LCode.seq ?_ | refine LCode.region ?_ | refine QThen.normal ?_ | refine LOps.pure (Pure.as (lv := .atom _) rfl) rfl ?_ | refine LOps.pure (Pure.mv (lv := .list _) rfl) rfl ?_ | refine LOps.pure (Pure.llen rfl) rfl ?_ | refine LOps.pure (Pure.neq rfl rfl) rfl ?_
 refine LCode.cond rfl (fun hc => ?_) (fun hc => ?_)
 ·have hne : a.length ≠ b.length := by
   have : ¬ ((a.map encE).length : Int) = (b.map encE).length := by simpa using hc
   omega
  repeat first | refine LOps.nil ?_ | refine LCode.seq ?_ | refine LCode.region ?_ | refine LCode.ret ?_ | refine QThen.normal ?_ | refine QThen.ret ?_ | refine LOps.pure (Pure.as (lv := .atom _) rfl) rfl ?_
  exact retRet rfl (AllRes.cons (ResIs.tmp (v := .atom _) rfl (LV.Sub.refl _)) AllRes.nil) (bool_eq (eqList_len a b hne).symm)
 ·have hle : a.length = b.length := by
   have : ((a.map encE).length : Int) = (b.map encE).length := by simpa using hc
   omega
  repeat first | refine LOps.nil ?_ | refine LCode.seq ?_ | refine LCode.region ?_ | refine LCode.skip ?_ | refine LCode.block ?_ | refine QThen.normal ?_ | refine LOps.pure (Pure.mv (lv := .list _) rfl) rfl ?_ | refine LOps.pure (Pure.mv (lv := .atom _) rfl) rfl ?_ | refine LOps.pure (Pure.llen rfl) rfl ?_
  refine LCode.loopI (fun k ls H => ∃ i, k = a.length - i ∧ i ≤ a.length ∧ ls = [(0, .list (a.map encE)), (1, .list (b.map encE)), (2, .atom (.func (.func 109) #[] #[])), (15, .list (a.map encE)), (16, int .i64 a.length), (17, int .i64 i)] ∧ H = [] ∧ eqList eqEx a b = eqList eqEx (a.drop i) (b.drop i))
   ⟨_, _, _, ⟨0, rfl, Nat.zero_le _, rfl, rfl, rfl⟩, ⟨rfl, rfl, rfl, rfl, int_eq (by omega), rfl, trivial⟩, HSub.refl _⟩ ?_
  rintro k ls H ⟨i, rfl, hi, rfl, rfl, hE⟩ j hj
  repeat first | refine LOps.nil ?_ | refine LCode.seq ?_ | refine LCode.region ?_ | refine QThen.normal ?_ | refine LOps.pure (Pure.lss rfl rfl) rfl ?_
  refine LCode.cond rfl (fun hc => ?_) (fun hc => ?_)
  ·have hlt : i < a.length := by have := of_decide_eq_true hc; omega
   have hlt2 : i < b.length := by omega
   repeat first | refine LCode.seq ?_ | refine LCode.region ?_ | refine LCode.skip ?_ | refine LCode.block ?_ | refine QThen.normal ?_ | refine LOps.pure (Pure.mv (lv := .atom _) rfl) rfl ?_
   refine LOps.pure (Pure.ixRef (el' := encE a[i]) (cs := [_, _, _, _]) rfl rfl (by omega) (map_get _ _ _ hlt) rfl rfl) rfl ?_
   repeat first | refine LOps.pure (Pure.ldRefAgg (cs' := [_, _, _, _]) rfl rfl rfl) rfl ?_
   refine LOps.step (S.alloc fun b8 => ?_) rfl
   repeat first | refine LOps.nil ?_ | refine LCode.seq ?_ | refine LCode.region ?_ | refine QThen.normal ?_ | refine LOps.pure (Pure.as (lv := .atom _) rfl) rfl ?_ | refine LOps.pure (Pure.mv (lv := .list _) rfl) rfl ?_ | refine LOps.pure (Pure.mv (lv := .atom _) rfl) rfl ?_ | refine LOps.step (S.store (cs' := [_, _, _, _]) rfl Pick.here rfl rfl rfl rfl rfl ?_) rfl
   refine LOps.pure (Pure.ixRef (el' := encE b[i]) (cs := [_, _, _, _]) rfl rfl (by omega) (map_get _ _ _ hlt2) rfl rfl) rfl ?_
   repeat first | refine LOps.pure (Pure.ldRefAgg (cs' := [_, _, _, _]) rfl rfl rfl) rfl ?_
   refine LOps.step (S.alloc fun b9 => ?_) rfl
   repeat first | refine LOps.nil ?_ | refine LCode.seq ?_ | refine LCode.region ?_ | refine QThen.normal ?_ | refine LOps.pure (Pure.mv (lv := .atom _) rfl) rfl ?_ | refine LOps.pure (Pure.ldHAgg (cs' := [_, _, _, _]) rfl (List.Mem.head _) rfl rfl) rfl ?_ | refine LOps.pure (Pure.ldHAgg (cs' := [_, _, _, _]) rfl (List.Mem.tail _ (List.Mem.head _)) rfl rfl) rfl ?_ | refine LOps.step (S.store (cs' := [_, _, _, _]) rfl Pick.here rfl rfl rfl rfl rfl ?_) rfl
   refine LOps.step (S.fnV [_, _] rfl rfl (hrec i hlt b[i]) ?_) rfl
   repeat first | refine LOps.nil ?_ | refine QThen.normal ?_ | refine LOps.pure (Pure.not rfl) rfl ?_
   rw [eqList_drop hlt hlt2] at hE
   refine LCode.cond rfl (fun hd => ?_) (fun hd => ?_)
   ·repeat first | refine LOps.nil ?_ | refine LCode.seq ?_ | refine LCode.region ?_ | refine LCode.ret ?_ | refine QThen.normal ?_ | refine QThen.ret ?_ | refine QBlock.ret ?_ | refine LOps.pure (Pure.as (lv := .atom _) rfl) rfl ?_
    exact retRet hj (AllRes.cons (ResIs.tmp (v := .atom _) rfl (LV.Sub.refl _)) AllRes.nil) (bool_eq (by rw [hE, not_t hd]; rfl))
   ·rw [not_f hd, Bool.true_and] at hE
    repeat first | refine LOps.nil ?_ | refine LCode.region ?_ | refine LCode.skip ?_ | refine QThen.normal ?_ | refine QBlock.normal ?_ | refine LOps.pure (Pure.mv (lv := .atom _) rfl) rfl ?_ | refine LOps.pure (Pure.add rfl rfl (by omega)) rfl ?_
    exact ⟨_, _, _, by omega, ⟨i + 1, rfl, by omega, rfl, rfl, hE⟩, ⟨rfl, rfl, rfl, rfl, rfl, int_eq (by omega), trivial⟩, HSub.nil _, hj⟩
  ·have hge : a.length ≤ i := by have := of_decide_eq_false hc; omega
   rw [eqList_end hge (by omega)] at hE
   repeat first | refine LOps.nil ?_ | refine LCode.seq ?_ | refine LCode.region ?_ | refine LCode.ret ?_ | refine LCode.exit ?_ | refine QThen.normal ?_ | refine QThen.exit ?_ | refine QBlock.hit ?_ | refine LOps.pure (Pure.as (lv := .atom _) rfl) rfl ?_
   exact retRet hj (AllRes.cons (ResIs.tmp (v := .atom _) rfl (LV.Sub.refl _)) AllRes.nil) (bool_eq hE.symm)
theorem eqS_spec (x y : Sm) (hn : nSm x ≤ 4611686018427387904) (ht : LCalls (KC B0 w0) 69 [.list ((smThen x).map encS), .list ((smThen y).map encS), .atom (.func (.func 70) #[] #[])] [] (Ret (bool (eqSms (smThen x) (smThen y)))))
  (he : LCalls (KC B0 w0) 69 [.list ((smElse x).map encS), .list ((smElse y).map encS), .atom (.func (.func 70) #[] #[])] [] (Ret (bool (eqSms (smElse x) (smElse y))))) :
  LCalls (KC B0 w0) 70 [encS x, encS y] [] (Ret (bool (eqSm x y))) := by
 have hpt := eqSm_parts x y
 have hnn := nSm_eq x
 rw [← encThen_eq, ← encThen_eq] at ht
 rw [← encElse_eq, ← encElse_eq] at he
 refine LCalls.intro Tryz.func70 rfl (n := 45) rfl rfl rfl ?_
 repeat first | refine LCode.seq ?_ | refine LCode.region ?_
 refine LOps.step (S.box (cs := [int .i64 (smKind x), str (smName x), .list ((smIndex x).map encE), .list ((smValue x).map encE), .list (encThen x), .list (encElse x)]) rfl fun b2 => ?_) rfl
 refine LOps.step (S.box (cs := [int .i64 (smKind y), str (smName y), .list ((smIndex y).map encE), .list ((smValue y).map encE), .list (encThen y), .list (encElse y)]) rfl fun b3 => ?_) rfl
 repeat first | refine LOps.nil ?_ | refine LCode.seq ?_ | refine LCode.region ?_ | refine QThen.normal ?_ | refine LOps.pure (Pure.as (lv := .atom _) rfl) rfl ?_ | refine LOps.pure (Pure.fieldH rfl) rfl ?_ | refine LOps.pure (Pure.loadH (c := .atom _) rfl (List.Mem.head _) rfl) rfl ?_ | refine LOps.pure (Pure.loadH (c := .atom _) rfl (List.Mem.tail _ (List.Mem.head _)) rfl) rfl ?_ | refine LOps.pure (Pure.eql rfl rfl) rfl ?_ | refine LOps.pure (Pure.mv (lv := .atom _) rfl) rfl ?_
 refine LOps.bcase 10 rfl (fun h0 => ?_) (fun h0 => ?_)
 ·rw [h0, Bool.true_and] at hpt
  repeat first | refine LOps.pure (Pure.fieldH rfl) rfl ?_ | refine LOps.pure (Pure.loadH (c := .atom _) rfl (List.Mem.head _) rfl) rfl ?_ | refine LOps.pure (Pure.loadH (c := .atom _) rfl (List.Mem.tail _ (List.Mem.head _)) rfl) rfl ?_ | refine LOps.pure (Pure.mv (lv := .atom _) rfl) rfl ?_ | refine LOps.pure (Pure.seq rfl rfl) rfl ?_ | refine LOps.pure (Pure.pickT (lv := .atom _) rfl rfl) rfl ?_ | refine LOps.want rfl rfl ?_
  refine LOps.bcase 17 rfl (fun h1 => ?_) (fun h1 => ?_)
  ·rw [h1, Bool.true_and] at hpt
   repeat first | refine LOps.pure (Pure.fieldH rfl) rfl ?_ | refine LOps.pure (Pure.loadH (c := .list _) rfl (List.Mem.head _) rfl) rfl ?_ | refine LOps.pure (Pure.loadH (c := .list _) rfl (List.Mem.tail _ (List.Mem.head _)) rfl) rfl ?_ | refine LOps.want rfl rfl ?_
   refine LOps.step (S.fn [_, _, _] rfl (eqEs_spec _ (smIndex x) (smIndex y) (Nat.le_refl _) (by omega)) ?_) rfl
   repeat first | refine LOps.pure (Pure.mv (lv := .atom _) rfl) rfl ?_ | refine LOps.pure (Pure.pickT (lv := .atom _) rfl rfl) rfl ?_
   refine LOps.bcase 24 rfl (fun h2 => ?_) (fun h2 => ?_)
   ·rw [h2, Bool.true_and] at hpt
    repeat first | refine LOps.pure (Pure.fieldH rfl) rfl ?_ | refine LOps.pure (Pure.loadH (c := .list _) rfl (List.Mem.head _) rfl) rfl ?_ | refine LOps.pure (Pure.loadH (c := .list _) rfl (List.Mem.tail _ (List.Mem.head _)) rfl) rfl ?_ | refine LOps.want rfl rfl ?_
    refine LOps.step (S.fn [_, _, _] rfl (eqEs_spec _ (smValue x) (smValue y) (Nat.le_refl _) (by omega)) ?_) rfl
    repeat first | refine LOps.pure (Pure.mv (lv := .atom _) rfl) rfl ?_ | refine LOps.pure (Pure.pickT (lv := .atom _) rfl rfl) rfl ?_
    refine LOps.bcase 31 rfl (fun h3 => ?_) (fun h3 => ?_)
    ·rw [h3, Bool.true_and] at hpt
     repeat first | refine LOps.pure (Pure.fieldH rfl) rfl ?_ | refine LOps.pure (Pure.loadH (c := .list _) rfl (List.Mem.head _) rfl) rfl ?_ | refine LOps.pure (Pure.loadH (c := .list _) rfl (List.Mem.tail _ (List.Mem.head _)) rfl) rfl ?_ | refine LOps.want rfl rfl ?_
     refine LOps.step (S.fn [_, _, _] rfl ht ?_) rfl
     repeat first | refine LOps.pure (Pure.mv (lv := .atom _) rfl) rfl ?_ | refine LOps.pure (Pure.pickT (lv := .atom _) rfl rfl) rfl ?_
     refine LOps.bcase 38 rfl (fun h4 => ?_) (fun h4 => ?_)
     ·rw [h4, Bool.true_and] at hpt
      repeat first | refine LOps.pure (Pure.fieldH rfl) rfl ?_ | refine LOps.pure (Pure.loadH (c := .list _) rfl (List.Mem.head _) rfl) rfl ?_ | refine LOps.pure (Pure.loadH (c := .list _) rfl (List.Mem.tail _ (List.Mem.head _)) rfl) rfl ?_ | refine LOps.want rfl rfl ?_
      refine LOps.step (S.fn [_, _, _] rfl he ?_) rfl
      repeat first | refine LOps.nil ?_ | refine LCode.ret ?_ | refine QThen.normal ?_ | refine LOps.pure (Pure.as (lv := .atom _) rfl) rfl ?_ | refine LOps.pure (Pure.pickT (lv := .atom _) rfl rfl) rfl ?_
      exact retRet rfl (AllRes.cons (ResIs.tmp (v := .atom _) rfl (LV.Sub.refl _)) AllRes.nil) (bool_eq (by rw [hpt]))
     ·repeat first | refine LOps.nil ?_ | refine LCode.ret ?_ | refine QThen.normal ?_ | refine LOps.pure (Pure.as (lv := .atom _) rfl) rfl ?_ | refine LOps.pure (Pure.pickF (lv := .atom _) rfl rfl) rfl ?_ | refine LOps.skip rfl rfl rfl rfl ?_
      exact retRet rfl (AllRes.cons (ResIs.tmp (v := .atom _) rfl (LV.Sub.refl _)) AllRes.nil) (bool_eq (by rw [hpt, h4]; rfl))
    ·repeat first | refine LOps.nil ?_ | refine LCode.ret ?_ | refine QThen.normal ?_ | refine LOps.pure (Pure.as (lv := .atom _) rfl) rfl ?_ | refine LOps.pure (Pure.mv (lv := .atom _) rfl) rfl ?_ | refine LOps.pure (Pure.pickF (lv := .atom _) rfl rfl) rfl ?_ | refine LOps.skip rfl rfl rfl rfl ?_
     exact retRet rfl (AllRes.cons (ResIs.tmp (v := .atom _) rfl (LV.Sub.refl _)) AllRes.nil) (bool_eq (by rw [hpt, h3]; rfl))
   ·repeat first | refine LOps.nil ?_ | refine LCode.ret ?_ | refine QThen.normal ?_ | refine LOps.pure (Pure.as (lv := .atom _) rfl) rfl ?_ | refine LOps.pure (Pure.mv (lv := .atom _) rfl) rfl ?_ | refine LOps.pure (Pure.pickF (lv := .atom _) rfl rfl) rfl ?_ | refine LOps.skip rfl rfl rfl rfl ?_
    exact retRet rfl (AllRes.cons (ResIs.tmp (v := .atom _) rfl (LV.Sub.refl _)) AllRes.nil) (bool_eq (by rw [hpt, h2]; rfl))
  ·repeat first | refine LOps.nil ?_ | refine LCode.ret ?_ | refine QThen.normal ?_ | refine LOps.pure (Pure.as (lv := .atom _) rfl) rfl ?_ | refine LOps.pure (Pure.mv (lv := .atom _) rfl) rfl ?_ | refine LOps.pure (Pure.pickF (lv := .atom _) rfl rfl) rfl ?_ | refine LOps.skip rfl rfl rfl rfl ?_
   exact retRet rfl (AllRes.cons (ResIs.tmp (v := .atom _) rfl (LV.Sub.refl _)) AllRes.nil) (bool_eq (by rw [hpt, h1]; rfl))
 ·repeat first | refine LOps.nil ?_ | refine LCode.ret ?_ | refine QThen.normal ?_ | refine LOps.pure (Pure.as (lv := .atom _) rfl) rfl ?_ | refine LOps.pure (Pure.mv (lv := .atom _) rfl) rfl ?_ | refine LOps.pure (Pure.pickF (lv := .atom _) rfl rfl) rfl ?_ | refine LOps.skip rfl rfl rfl rfl ?_
  exact retRet rfl (AllRes.cons (ResIs.tmp (v := .atom _) rfl (LV.Sub.refl _)) AllRes.nil) (bool_eq (by rw [hpt, h0]; rfl))
theorem eqSs_spec : ∀ (n : Nat) (a b : List Sm), nSms a ≤ n → n ≤ 4611686018427387904 → LCalls (KC B0 w0) 69 [.list (a.map encS), .list (b.map encS), .atom (.func (.func 70) #[] #[])] [] (Ret (bool (eqSms a b))) := by
 intro n
 induction n using Nat.strongRecOn with
 | _ n ih =>
 intro a b hn hb
 have ha := nSms_len a
 have hrec : ∀ (i : Nat) (h : i < a.length) (y : Sm), LCalls (KC B0 w0) 70 [encS a[i], encS y] [] (Ret (bool (eqSm a[i] y))) := fun i h y => by
  have h1 := nSms_mem (List.getElem_mem h)
  have h2 := nSm_eq a[i]
  exact eqS_spec a[i] y (by omega) (ih _ (by omega) (smThen a[i]) (smThen y) (Nat.le_refl _) (by omega)) (ih _ (by omega) (smElse a[i]) (smElse y) (Nat.le_refl _) (by omega))
 rw [eqSms_list]
 refine LCalls.intro Tryz.func69 rfl (n := 32) rfl rfl rfl ?_
 have hla : (a.map encS).length = a.length := List.length_map _
 have hlb : (b.map encS).length = b.length := List.length_map _
 repeat first | refine LOps.nil ?_ | refine LCode.seq ?_ | refine LCode.region ?_ | refine QThen.normal ?_ | refine LOps.pure (Pure.as (lv := .atom _) rfl) rfl ?_ | refine LOps.pure (Pure.mv (lv := .list _) rfl) rfl ?_ | refine LOps.pure (Pure.llen rfl) rfl ?_ | refine LOps.pure (Pure.neq rfl rfl) rfl ?_
 refine LCode.cond rfl (fun hc => ?_) (fun hc => ?_)
 ·have hne : a.length ≠ b.length := by
   have : ¬ ((a.map encS).length : Int) = (b.map encS).length := by simpa using hc
   omega
  repeat first | refine LOps.nil ?_ | refine LCode.seq ?_ | refine LCode.region ?_ | refine LCode.ret ?_ | refine QThen.normal ?_ | refine QThen.ret ?_ | refine LOps.pure (Pure.as (lv := .atom _) rfl) rfl ?_
  exact retRet rfl (AllRes.cons (ResIs.tmp (v := .atom _) rfl (LV.Sub.refl _)) AllRes.nil) (bool_eq (eqList_len a b hne).symm)
 ·have hle : a.length = b.length := by
   have : ((a.map encS).length : Int) = (b.map encS).length := by simpa using hc
   omega
  repeat first | refine LOps.nil ?_ | refine LCode.seq ?_ | refine LCode.region ?_ | refine LCode.skip ?_ | refine LCode.block ?_ | refine QThen.normal ?_ | refine LOps.pure (Pure.mv (lv := .list _) rfl) rfl ?_ | refine LOps.pure (Pure.mv (lv := .atom _) rfl) rfl ?_ | refine LOps.pure (Pure.llen rfl) rfl ?_
  refine LCode.loopI (fun k ls H => ∃ i, k = a.length - i ∧ i ≤ a.length ∧ ls = [(0, .list (a.map encS)), (1, .list (b.map encS)), (2, .atom (.func (.func 70) #[] #[])), (15, .list (a.map encS)), (16, int .i64 a.length), (17, int .i64 i)] ∧ H = [] ∧ eqList eqSm a b = eqList eqSm (a.drop i) (b.drop i))
   ⟨_, _, _, ⟨0, rfl, Nat.zero_le _, rfl, rfl, rfl⟩, ⟨rfl, rfl, rfl, rfl, int_eq (by omega), rfl, trivial⟩, HSub.refl _⟩ ?_
  rintro k ls H ⟨i, rfl, hi, rfl, rfl, hE⟩ j hj
  repeat first | refine LOps.nil ?_ | refine LCode.seq ?_ | refine LCode.region ?_ | refine QThen.normal ?_ | refine LOps.pure (Pure.lss rfl rfl) rfl ?_
  refine LCode.cond rfl (fun hc => ?_) (fun hc => ?_)
  ·have hlt : i < a.length := by have := of_decide_eq_true hc; omega
   have hlt2 : i < b.length := by omega
   repeat first | refine LCode.seq ?_ | refine LCode.region ?_ | refine LCode.skip ?_ | refine LCode.block ?_ | refine QThen.normal ?_ | refine LOps.pure (Pure.mv (lv := .atom _) rfl) rfl ?_
   refine LOps.pure (Pure.ixRef (el' := encS a[i]) (cs := [_, _, _, _, _, _]) rfl rfl (by omega) (map_get _ _ _ hlt) rfl rfl) rfl ?_
   repeat first | refine LOps.pure (Pure.ldRefAgg (cs' := [_, _, _, _, _, _]) rfl rfl rfl) rfl ?_
   refine LOps.step (S.alloc fun b8 => ?_) rfl
   repeat first | refine LOps.nil ?_ | refine LCode.seq ?_ | refine LCode.region ?_ | refine QThen.normal ?_ | refine LOps.pure (Pure.as (lv := .atom _) rfl) rfl ?_ | refine LOps.pure (Pure.mv (lv := .list _) rfl) rfl ?_ | refine LOps.pure (Pure.mv (lv := .atom _) rfl) rfl ?_ | refine LOps.step (S.store (cs' := [_, _, _, _, _, _]) rfl Pick.here rfl rfl rfl rfl rfl ?_) rfl
   refine LOps.pure (Pure.ixRef (el' := encS b[i]) (cs := [_, _, _, _, _, _]) rfl rfl (by omega) (map_get _ _ _ hlt2) rfl rfl) rfl ?_
   repeat first | refine LOps.pure (Pure.ldRefAgg (cs' := [_, _, _, _, _, _]) rfl rfl rfl) rfl ?_
   refine LOps.step (S.alloc fun b9 => ?_) rfl
   repeat first | refine LOps.nil ?_ | refine LCode.seq ?_ | refine LCode.region ?_ | refine QThen.normal ?_ | refine LOps.pure (Pure.mv (lv := .atom _) rfl) rfl ?_ | refine LOps.pure (Pure.ldHAgg (cs' := [_, _, _, _, _, _]) rfl (List.Mem.head _) rfl rfl) rfl ?_ | refine LOps.pure (Pure.ldHAgg (cs' := [_, _, _, _, _, _]) rfl (List.Mem.tail _ (List.Mem.head _)) rfl rfl) rfl ?_ | refine LOps.step (S.store (cs' := [_, _, _, _, _, _]) rfl Pick.here rfl rfl rfl rfl rfl ?_) rfl
   refine LOps.step (S.fnV [_, _] rfl rfl (hrec i hlt b[i]) ?_) rfl
   repeat first | refine LOps.nil ?_ | refine QThen.normal ?_ | refine LOps.pure (Pure.not rfl) rfl ?_
   rw [eqList_drop hlt hlt2] at hE
   refine LCode.cond rfl (fun hd => ?_) (fun hd => ?_)
   ·repeat first | refine LOps.nil ?_ | refine LCode.seq ?_ | refine LCode.region ?_ | refine LCode.ret ?_ | refine QThen.normal ?_ | refine QThen.ret ?_ | refine QBlock.ret ?_ | refine LOps.pure (Pure.as (lv := .atom _) rfl) rfl ?_
    exact retRet hj (AllRes.cons (ResIs.tmp (v := .atom _) rfl (LV.Sub.refl _)) AllRes.nil) (bool_eq (by rw [hE, not_t hd]; rfl))
   ·rw [not_f hd, Bool.true_and] at hE
    repeat first | refine LOps.nil ?_ | refine LCode.region ?_ | refine LCode.skip ?_ | refine QThen.normal ?_ | refine QBlock.normal ?_ | refine LOps.pure (Pure.mv (lv := .atom _) rfl) rfl ?_ | refine LOps.pure (Pure.add rfl rfl (by omega)) rfl ?_
    exact ⟨_, _, _, by omega, ⟨i + 1, rfl, by omega, rfl, rfl, hE⟩, ⟨rfl, rfl, rfl, rfl, rfl, int_eq (by omega), trivial⟩, HSub.nil _, hj⟩
  ·have hge : a.length ≤ i := by have := of_decide_eq_false hc; omega
   rw [eqList_end hge (by omega)] at hE
   repeat first | refine LOps.nil ?_ | refine LCode.seq ?_ | refine LCode.region ?_ | refine LCode.ret ?_ | refine LCode.exit ?_ | refine QThen.normal ?_ | refine QThen.exit ?_ | refine QBlock.hit ?_ | refine LOps.pure (Pure.as (lv := .atom _) rfl) rfl ?_
   exact retRet hj (AllRes.cons (ResIs.tmp (v := .atom _) rfl (LV.Sub.refl _)) AllRes.nil) (bool_eq hE.symm)
theorem eqStrs_spec (a b : List (List UInt8)) (ha : a.length ≤ 4611686018427387904) : LCalls (KC B0 w0) 41 [.list (a.map str), .list (b.map str)] [] (Ret (bool (eqList (fun a b => decide (a = b)) a b))) := by
 have hla : (a.map str).length = a.length := List.length_map _
 have hlb : (b.map str).length = b.length := List.length_map _
 refine LCalls.intro Tryz.func41 rfl (n := 26) rfl rfl rfl ?_
 repeat first | refine LOps.nil ?_ | refine LCode.seq ?_ | refine LCode.region ?_ | refine QThen.normal ?_ | refine LOps.pure (Pure.as (lv := .atom _) rfl) rfl ?_ | refine LOps.pure (Pure.mv (lv := .list _) rfl) rfl ?_ | refine LOps.pure (Pure.llen rfl) rfl ?_ | refine LOps.pure (Pure.neq rfl rfl) rfl ?_
 refine LCode.cond rfl (fun hc => ?_) (fun hc => ?_)
 ·have hne : a.length ≠ b.length := by
   have : ¬ ((a.map str).length : Int) = (b.map str).length := by simpa using hc
   omega
  repeat first | refine LOps.nil ?_ | refine LCode.seq ?_ | refine LCode.region ?_ | refine LCode.ret ?_ | refine QThen.normal ?_ | refine QThen.ret ?_ | refine LOps.pure (Pure.as (lv := .atom _) rfl) rfl ?_
  exact retRet rfl (AllRes.cons (ResIs.tmp (v := .atom _) rfl (LV.Sub.refl _)) AllRes.nil) (bool_eq (eqList_len a b hne).symm)
 ·have hle : a.length = b.length := by
   have : ((a.map str).length : Int) = (b.map str).length := by simpa using hc
   omega
  repeat first | refine LOps.nil ?_ | refine LCode.seq ?_ | refine LCode.region ?_ | refine LCode.skip ?_ | refine LCode.block ?_ | refine QThen.normal ?_ | refine LOps.pure (Pure.mv (lv := .list _) rfl) rfl ?_ | refine LOps.pure (Pure.mv (lv := .atom _) rfl) rfl ?_ | refine LOps.pure (Pure.llen rfl) rfl ?_
  refine LCode.loopI (fun k ls H => ∃ i, k = a.length - i ∧ i ≤ a.length ∧ ls = [(0, .list (a.map str)), (1, .list (b.map str)), (12, int .i64 a.length), (13, int .i64 i)] ∧ H = [] ∧ eqList (fun a b => decide (a = b)) a b = eqList (fun a b => decide (a = b)) (a.drop i) (b.drop i))
   ⟨_, _, _, ⟨0, rfl, Nat.zero_le _, rfl, rfl, rfl⟩, ⟨rfl, rfl, int_eq (by omega), rfl, trivial⟩, HSub.refl _⟩ ?_
  rintro k ls H ⟨i, rfl, hi, rfl, rfl, hE⟩ j hj
  repeat first | refine LOps.nil ?_ | refine LCode.seq ?_ | refine LCode.region ?_ | refine QThen.normal ?_ | refine LOps.pure (Pure.lss rfl rfl) rfl ?_
  refine LCode.cond rfl (fun hc => ?_) (fun hc => ?_)
  ·have hlt : i < a.length := by have := of_decide_eq_true hc; omega
   have hlt2 : i < b.length := by omega
   repeat first | refine LOps.nil ?_ | refine LCode.seq ?_ | refine LCode.region ?_ | refine LCode.skip ?_ | refine LCode.block ?_ | refine QThen.normal ?_ | refine LOps.pure (Pure.as (lv := .atom _) rfl) rfl ?_ | refine LOps.pure (Pure.mv (lv := .atom _) rfl) rfl ?_
   refine LCode.cut [(0, .list (a.map str)), (1, .list (b.map str)), (12, int .i64 a.length), (13, int .i64 i), (24, bool (!decide (a[i] = b[i])))] ?_ (fun j2 hj2 => ?_)
   ·refine LCode.quiet (by kernel_rfl) ?_
    repeat first | refine LQ.pure (Pure.mv (lv := .list _) rfl) rfl ?_ | refine LQ.pure (Pure.mv (lv := .atom _) rfl) rfl ?_
    refine LQ.pure (Pure.ixRef (el' := str a[i]) (cs := [_]) rfl rfl (by omega) (map_get _ _ _ hlt) rfl rfl) rfl ?_
    repeat first | refine LQ.pure (Pure.mv (lv := .list _) rfl) rfl ?_ | refine LQ.pure (Pure.mv (lv := .atom _) rfl) rfl ?_ | refine LQ.pure (Pure.loadRef (c := .atom _) rfl rfl) rfl ?_
    refine LQ.pure (Pure.ixRef (el' := str b[i]) (cs := [_]) rfl rfl (by omega) (map_get _ _ _ hlt2) rfl rfl) rfl ?_
    repeat first | refine LQ.pure (Pure.loadRef (c := .atom _) rfl rfl) rfl ?_ | refine LQ.pure (Pure.sneq rfl rfl) rfl ?_ | refine LQ.nil ?_ | refine QThen.normal ?_
    exact ⟨⟨rfl, rfl, rfl, rfl, rfl, trivial⟩, rfl, rfl⟩
   ·rw [eqList_drop hlt hlt2] at hE
    refine LCode.cond rfl (fun hd => ?_) (fun hd => ?_)
    ·repeat first | refine LOps.nil ?_ | refine LCode.seq ?_ | refine LCode.region ?_ | refine LCode.ret ?_ | refine QThen.normal ?_ | refine QThen.ret ?_ | refine QBlock.ret ?_ | refine LOps.pure (Pure.as (lv := .atom _) rfl) rfl ?_
     exact retRet (hj2.trans hj) (AllRes.cons (ResIs.tmp (v := .atom _) rfl (LV.Sub.refl _)) AllRes.nil) (bool_eq (by rw [hE, not_t hd]; rfl))
    ·rw [not_f hd, Bool.true_and] at hE
     repeat first | refine LOps.nil ?_ | refine LCode.region ?_ | refine LCode.skip ?_ | refine QThen.normal ?_ | refine QBlock.normal ?_ | refine LOps.pure (Pure.mv (lv := .atom _) rfl) rfl ?_ | refine LOps.pure (Pure.add rfl rfl (by omega)) rfl ?_
     exact ⟨_, _, _, by omega, ⟨i + 1, rfl, by omega, rfl, rfl, hE⟩, ⟨rfl, rfl, rfl, int_eq (by omega), trivial⟩, HSub.refl _, hj2.trans hj⟩
  ·have hge : a.length ≤ i := by have := of_decide_eq_false hc; omega
   rw [eqList_end hge (by omega)] at hE
   repeat first | refine LOps.nil ?_ | refine LCode.seq ?_ | refine LCode.region ?_ | refine LCode.ret ?_ | refine LCode.exit ?_ | refine QThen.normal ?_ | refine QThen.exit ?_ | refine QBlock.hit ?_ | refine LOps.pure (Pure.as (lv := .atom _) rfl) rfl ?_
   exact retRet hj (AllRes.cons (ResIs.tmp (v := .atom _) rfl (LV.Sub.refl _)) AllRes.nil) (bool_eq hE.symm)
theorem eqArs_spec (a b : List Ar) (ha : a.length ≤ 4611686018427387904) (h1 : ∀ x ∈ a, x.name.length ≤ 1000000000 ∧ x.size ≤ 4294967296) (h2 : ∀ x ∈ b, x.name.length ≤ 1000000000 ∧ x.size ≤ 4294967296) : LCalls (KC B0 w0) 42 [.list (a.map encAr), .list (b.map encAr)] [] (Ret (bool (eqList eqAr a b))) := by
 have hla : (a.map encAr).length = a.length := List.length_map _
 have hlb : (b.map encAr).length = b.length := List.length_map _
 refine LCalls.intro Tryz.func42 rfl (n := 26) rfl rfl rfl ?_
 repeat first | refine LOps.nil ?_ | refine LCode.seq ?_ | refine LCode.region ?_ | refine QThen.normal ?_ | refine LOps.pure (Pure.as (lv := .atom _) rfl) rfl ?_ | refine LOps.pure (Pure.mv (lv := .list _) rfl) rfl ?_ | refine LOps.pure (Pure.llen rfl) rfl ?_ | refine LOps.pure (Pure.neq rfl rfl) rfl ?_
 refine LCode.cond rfl (fun hc => ?_) (fun hc => ?_)
 ·have hne : a.length ≠ b.length := by
   have : ¬ ((a.map encAr).length : Int) = (b.map encAr).length := by simpa using hc
   omega
  repeat first | refine LOps.nil ?_ | refine LCode.seq ?_ | refine LCode.region ?_ | refine LCode.ret ?_ | refine QThen.normal ?_ | refine QThen.ret ?_ | refine LOps.pure (Pure.as (lv := .atom _) rfl) rfl ?_
  exact retRet rfl (AllRes.cons (ResIs.tmp (v := .atom _) rfl (LV.Sub.refl _)) AllRes.nil) (bool_eq (eqList_len a b hne).symm)
 ·have hle : a.length = b.length := by
   have : ((a.map encAr).length : Int) = (b.map encAr).length := by simpa using hc
   omega
  repeat first | refine LOps.nil ?_ | refine LCode.seq ?_ | refine LCode.region ?_ | refine LCode.skip ?_ | refine LCode.block ?_ | refine QThen.normal ?_ | refine LOps.pure (Pure.mv (lv := .list _) rfl) rfl ?_ | refine LOps.pure (Pure.mv (lv := .atom _) rfl) rfl ?_ | refine LOps.pure (Pure.llen rfl) rfl ?_
  refine LCode.loopI (fun k ls H => ∃ i, k = a.length - i ∧ i ≤ a.length ∧ ls = [(0, .list (a.map encAr)), (1, .list (b.map encAr)), (12, int .i64 a.length), (13, int .i64 i)] ∧ H = [] ∧ eqList eqAr a b = eqList eqAr (a.drop i) (b.drop i))
   ⟨_, _, _, ⟨0, rfl, Nat.zero_le _, rfl, rfl, rfl⟩, ⟨rfl, rfl, int_eq (by omega), rfl, trivial⟩, HSub.refl _⟩ ?_
  rintro k ls H ⟨i, rfl, hi, rfl, rfl, hE⟩ j hj
  repeat first | refine LOps.nil ?_ | refine LCode.seq ?_ | refine LCode.region ?_ | refine QThen.normal ?_ | refine LOps.pure (Pure.lss rfl rfl) rfl ?_
  refine LCode.cond rfl (fun hc => ?_) (fun hc => ?_)
  ·have hlt : i < a.length := by have := of_decide_eq_true hc; omega
   have hlt2 : i < b.length := by omega
   repeat first | refine LOps.nil ?_ | refine LCode.seq ?_ | refine LCode.region ?_ | refine LCode.skip ?_ | refine LCode.block ?_ | refine QThen.normal ?_ | refine LOps.pure (Pure.as (lv := .atom _) rfl) rfl ?_ | refine LOps.pure (Pure.mv (lv := .atom _) rfl) rfl ?_
   refine LCode.cut [(0, .list (a.map encAr)), (1, .list (b.map encAr)), (12, int .i64 a.length), (13, int .i64 i), (24, bool (!eqAr a[i] b[i]))] ?_ (fun j2 hj2 => ?_)
   ·refine LCode.quiet (by kernel_rfl) ?_
    repeat first | refine LQ.pure (Pure.mv (lv := .list _) rfl) rfl ?_ | refine LQ.pure (Pure.mv (lv := .atom _) rfl) rfl ?_
    refine LQ.pure (Pure.ixRef (el' := encAr a[i]) (cs := [_, _]) rfl rfl (by omega) (map_get _ _ _ hlt) rfl rfl) rfl ?_
    repeat first | refine LQ.pure (Pure.mv (lv := .list _) rfl) rfl ?_ | refine LQ.pure (Pure.mv (lv := .atom _) rfl) rfl ?_ | refine LQ.pure (Pure.ldRefAgg (cs' := [_, _]) rfl rfl rfl) rfl ?_
    refine LQ.pure (Pure.ixRef (el' := encAr b[i]) (cs := [_, _]) rfl rfl (by omega) (map_get _ _ _ hlt2) rfl rfl) rfl ?_
    repeat first | refine LQ.pure (Pure.ldRefAgg (cs' := [_, _]) rfl rfl rfl) rfl ?_
    refine LQ.pure (Pure.pairNeq rfl rfl (h1 _ (List.getElem_mem hlt)).1 (h2 _ (List.getElem_mem hlt2)).1 (by have := (h1 _ (List.getElem_mem hlt)).2; omega) (by have := (h2 _ (List.getElem_mem hlt2)).2; omega)) rfl ?_
    repeat first | refine LQ.nil ?_ | refine QThen.normal ?_
    exact ⟨⟨rfl, rfl, rfl, rfl, rfl, trivial⟩, rfl, rfl⟩
   ·rw [eqList_drop hlt hlt2] at hE
    refine LCode.cond rfl (fun hd => ?_) (fun hd => ?_)
    ·repeat first | refine LOps.nil ?_ | refine LCode.seq ?_ | refine LCode.region ?_ | refine LCode.ret ?_ | refine QThen.normal ?_ | refine QThen.ret ?_ | refine QBlock.ret ?_ | refine LOps.pure (Pure.as (lv := .atom _) rfl) rfl ?_
     exact retRet (hj2.trans hj) (AllRes.cons (ResIs.tmp (v := .atom _) rfl (LV.Sub.refl _)) AllRes.nil) (bool_eq (by rw [hE, not_t hd]; rfl))
    ·rw [not_f hd, Bool.true_and] at hE
     repeat first | refine LOps.nil ?_ | refine LCode.region ?_ | refine LCode.skip ?_ | refine QThen.normal ?_ | refine QBlock.normal ?_ | refine LOps.pure (Pure.mv (lv := .atom _) rfl) rfl ?_ | refine LOps.pure (Pure.add rfl rfl (by omega)) rfl ?_
     exact ⟨_, _, _, by omega, ⟨i + 1, rfl, by omega, rfl, rfl, hE⟩, ⟨rfl, rfl, rfl, int_eq (by omega), trivial⟩, HSub.refl _, hj2.trans hj⟩
  ·have hge : a.length ≤ i := by have := of_decide_eq_false hc; omega
   rw [eqList_end hge (by omega)] at hE
   repeat first | refine LOps.nil ?_ | refine LCode.seq ?_ | refine LCode.region ?_ | refine LCode.ret ?_ | refine LCode.exit ?_ | refine QThen.normal ?_ | refine QThen.exit ?_ | refine QBlock.hit ?_ | refine LOps.pure (Pure.as (lv := .atom _) rfl) rfl ?_
   exact retRet hj (AllRes.cons (ResIs.tmp (v := .atom _) rfl (LV.Sub.refl _)) AllRes.nil) (bool_eq hE.symm)
theorem eqNs_spec (a b : List (List UInt8)) (ha : a.length ≤ 4611686018427387904) : LCalls (KC B0 w0) 41 [.list (a.map str), .list (b.map str)] [] (Ret (bool (eqNames a b))) := eqStrs_spec a b ha
theorem eqF_spec (x y : FnD) (hn : nFn x ≤ 1000000000) : LCalls (KC B0 w0) 44 [encFn x, encFn y] [] (Ret (bool (eqFn x y))) := by
 have hpt := eqFn_parts x y
 unfold nFn at hn
 refine LCalls.intro Tryz.func44 rfl (n := 31) rfl rfl rfl ?_
 repeat first | refine LCode.seq ?_ | refine LCode.region ?_
 refine LOps.step (S.box (cs := [str x.name, .list (x.params.map str), .list (x.locals.map str), .list (x.body.map encS)]) rfl fun b2 => ?_) rfl
 refine LOps.step (S.box (cs := [str y.name, .list (y.params.map str), .list (y.locals.map str), .list (y.body.map encS)]) rfl fun b3 => ?_) rfl
 repeat first | refine LOps.nil ?_ | refine LCode.seq ?_ | refine LCode.region ?_ | refine QThen.normal ?_ | refine LOps.pure (Pure.as (lv := .atom _) rfl) rfl ?_ | refine LOps.pure (Pure.fieldH rfl) rfl ?_ | refine LOps.pure (Pure.loadH (c := .atom _) rfl (List.Mem.head _) rfl) rfl ?_ | refine LOps.pure (Pure.loadH (c := .atom _) rfl (List.Mem.tail _ (List.Mem.head _)) rfl) rfl ?_ | refine LOps.pure (Pure.seq rfl rfl) rfl ?_ | refine LOps.pure (Pure.mv (lv := .atom _) rfl) rfl ?_
 refine LOps.bcase 10 rfl (fun h0 => ?_) (fun h0 => ?_)
 ·rw [h0, Bool.true_and] at hpt
  repeat first | refine LOps.pure (Pure.fieldH rfl) rfl ?_ | refine LOps.pure (Pure.loadH (c := .list _) rfl (List.Mem.head _) rfl) rfl ?_ | refine LOps.pure (Pure.loadH (c := .list _) rfl (List.Mem.tail _ (List.Mem.head _)) rfl) rfl ?_ | refine LOps.want rfl rfl ?_
  refine LOps.step (S.fn [_, _] rfl (eqNs_spec x.params y.params (by omega)) ?_) rfl
  repeat first | refine LOps.pure (Pure.mv (lv := .atom _) rfl) rfl ?_ | refine LOps.pure (Pure.pickT (lv := .atom _) rfl rfl) rfl ?_
  refine LOps.bcase 17 rfl (fun h1 => ?_) (fun h1 => ?_)
  ·rw [h1, Bool.true_and] at hpt
   repeat first | refine LOps.pure (Pure.fieldH rfl) rfl ?_ | refine LOps.pure (Pure.loadH (c := .list _) rfl (List.Mem.head _) rfl) rfl ?_ | refine LOps.pure (Pure.loadH (c := .list _) rfl (List.Mem.tail _ (List.Mem.head _)) rfl) rfl ?_ | refine LOps.want rfl rfl ?_
   refine LOps.step (S.fn [_, _] rfl (eqNs_spec x.locals y.locals (by omega)) ?_) rfl
   repeat first | refine LOps.pure (Pure.mv (lv := .atom _) rfl) rfl ?_ | refine LOps.pure (Pure.pickT (lv := .atom _) rfl rfl) rfl ?_
   refine LOps.bcase 24 rfl (fun h2 => ?_) (fun h2 => ?_)
   ·rw [h2, Bool.true_and] at hpt
    repeat first | refine LOps.pure (Pure.fieldH rfl) rfl ?_ | refine LOps.pure (Pure.loadH (c := .list _) rfl (List.Mem.head _) rfl) rfl ?_ | refine LOps.pure (Pure.loadH (c := .list _) rfl (List.Mem.tail _ (List.Mem.head _)) rfl) rfl ?_ | refine LOps.want rfl rfl ?_
    refine LOps.step (S.fn [_, _, _] rfl (eqSs_spec _ x.body y.body (Nat.le_refl _) (by omega)) ?_) rfl
    repeat first | refine LOps.nil ?_ | refine LCode.ret ?_ | refine QThen.normal ?_ | refine LOps.pure (Pure.as (lv := .atom _) rfl) rfl ?_ | refine LOps.pure (Pure.pickT (lv := .atom _) rfl rfl) rfl ?_
    exact retRet rfl (AllRes.cons (ResIs.tmp (v := .atom _) rfl (LV.Sub.refl _)) AllRes.nil) (bool_eq (by rw [hpt]))
   ·repeat first | refine LOps.nil ?_ | refine LCode.ret ?_ | refine QThen.normal ?_ | refine LOps.pure (Pure.as (lv := .atom _) rfl) rfl ?_ | refine LOps.pure (Pure.pickF (lv := .atom _) rfl rfl) rfl ?_ | refine LOps.skip rfl rfl rfl rfl ?_
    exact retRet rfl (AllRes.cons (ResIs.tmp (v := .atom _) rfl (LV.Sub.refl _)) AllRes.nil) (bool_eq (by rw [hpt, h2]; rfl))
  ·repeat first | refine LOps.nil ?_ | refine LCode.ret ?_ | refine QThen.normal ?_ | refine LOps.pure (Pure.as (lv := .atom _) rfl) rfl ?_ | refine LOps.pure (Pure.mv (lv := .atom _) rfl) rfl ?_ | refine LOps.pure (Pure.pickF (lv := .atom _) rfl rfl) rfl ?_ | refine LOps.skip rfl rfl rfl rfl ?_
   exact retRet rfl (AllRes.cons (ResIs.tmp (v := .atom _) rfl (LV.Sub.refl _)) AllRes.nil) (bool_eq (by rw [hpt, h1]; rfl))
 ·repeat first | refine LOps.nil ?_ | refine LCode.ret ?_ | refine QThen.normal ?_ | refine LOps.pure (Pure.as (lv := .atom _) rfl) rfl ?_ | refine LOps.pure (Pure.mv (lv := .atom _) rfl) rfl ?_ | refine LOps.pure (Pure.pickF (lv := .atom _) rfl rfl) rfl ?_ | refine LOps.skip rfl rfl rfl rfl ?_
  exact retRet rfl (AllRes.cons (ResIs.tmp (v := .atom _) rfl (LV.Sub.refl _)) AllRes.nil) (bool_eq (by rw [hpt, h0]; rfl))
theorem eqFs_spec (a b : List FnD) (hn : nFns a ≤ 1000000000) : LCalls (KC B0 w0) 43 [.list (a.map encFn), .list (b.map encFn), .atom (.func (.func 44) #[] #[])] [] (Ret (bool (eqList eqFn a b))) := by
 have ha := nFns_len a
 have hrec : ∀ (i : Nat) (h : i < a.length) (y : FnD), LCalls (KC B0 w0) 44 [encFn a[i], encFn y] [] (Ret (bool (eqFn a[i] y))) := fun i h y => eqF_spec a[i] y (by have := nFns_mem (List.getElem_mem h); omega)
 refine LCalls.intro Tryz.func43 rfl (n := 32) rfl rfl rfl ?_
 have hla : (a.map encFn).length = a.length := List.length_map _
 have hlb : (b.map encFn).length = b.length := List.length_map _
 repeat first | refine LOps.nil ?_ | refine LCode.seq ?_ | refine LCode.region ?_ | refine QThen.normal ?_ | refine LOps.pure (Pure.as (lv := .atom _) rfl) rfl ?_ | refine LOps.pure (Pure.mv (lv := .list _) rfl) rfl ?_ | refine LOps.pure (Pure.llen rfl) rfl ?_ | refine LOps.pure (Pure.neq rfl rfl) rfl ?_
 refine LCode.cond rfl (fun hc => ?_) (fun hc => ?_)
 ·have hne : a.length ≠ b.length := by
   have : ¬ ((a.map encFn).length : Int) = (b.map encFn).length := by simpa using hc
   omega
  repeat first | refine LOps.nil ?_ | refine LCode.seq ?_ | refine LCode.region ?_ | refine LCode.ret ?_ | refine QThen.normal ?_ | refine QThen.ret ?_ | refine LOps.pure (Pure.as (lv := .atom _) rfl) rfl ?_
  exact retRet rfl (AllRes.cons (ResIs.tmp (v := .atom _) rfl (LV.Sub.refl _)) AllRes.nil) (bool_eq (eqList_len a b hne).symm)
 ·have hle : a.length = b.length := by
   have : ((a.map encFn).length : Int) = (b.map encFn).length := by simpa using hc
   omega
  repeat first | refine LOps.nil ?_ | refine LCode.seq ?_ | refine LCode.region ?_ | refine LCode.skip ?_ | refine LCode.block ?_ | refine QThen.normal ?_ | refine LOps.pure (Pure.mv (lv := .list _) rfl) rfl ?_ | refine LOps.pure (Pure.mv (lv := .atom _) rfl) rfl ?_ | refine LOps.pure (Pure.llen rfl) rfl ?_
  refine LCode.loopI (fun k ls H => ∃ i, k = a.length - i ∧ i ≤ a.length ∧ ls = [(0, .list (a.map encFn)), (1, .list (b.map encFn)), (2, .atom (.func (.func 44) #[] #[])), (15, .list (a.map encFn)), (16, int .i64 a.length), (17, int .i64 i)] ∧ H = [] ∧ eqList eqFn a b = eqList eqFn (a.drop i) (b.drop i))
   ⟨_, _, _, ⟨0, rfl, Nat.zero_le _, rfl, rfl, rfl⟩, ⟨rfl, rfl, rfl, rfl, int_eq (by omega), rfl, trivial⟩, HSub.refl _⟩ ?_
  rintro k ls H ⟨i, rfl, hi, rfl, rfl, hE⟩ j hj
  repeat first | refine LOps.nil ?_ | refine LCode.seq ?_ | refine LCode.region ?_ | refine QThen.normal ?_ | refine LOps.pure (Pure.lss rfl rfl) rfl ?_
  refine LCode.cond rfl (fun hc => ?_) (fun hc => ?_)
  ·have hlt : i < a.length := by have := of_decide_eq_true hc; omega
   have hlt2 : i < b.length := by omega
   repeat first | refine LCode.seq ?_ | refine LCode.region ?_ | refine LCode.skip ?_ | refine LCode.block ?_ | refine QThen.normal ?_ | refine LOps.pure (Pure.mv (lv := .atom _) rfl) rfl ?_
   refine LOps.pure (Pure.ixRef (el' := encFn a[i]) (cs := [_, _, _, _]) rfl rfl (by omega) (map_get _ _ _ hlt) rfl rfl) rfl ?_
   repeat first | refine LOps.pure (Pure.ldRefAgg (cs' := [_, _, _, _]) rfl rfl rfl) rfl ?_
   refine LOps.step (S.alloc fun b8 => ?_) rfl
   repeat first | refine LOps.nil ?_ | refine LCode.seq ?_ | refine LCode.region ?_ | refine QThen.normal ?_ | refine LOps.pure (Pure.as (lv := .atom _) rfl) rfl ?_ | refine LOps.pure (Pure.mv (lv := .list _) rfl) rfl ?_ | refine LOps.pure (Pure.mv (lv := .atom _) rfl) rfl ?_ | refine LOps.step (S.store (cs' := [_, _, _, _]) rfl Pick.here rfl rfl rfl rfl rfl ?_) rfl
   refine LOps.pure (Pure.ixRef (el' := encFn b[i]) (cs := [_, _, _, _]) rfl rfl (by omega) (map_get _ _ _ hlt2) rfl rfl) rfl ?_
   repeat first | refine LOps.pure (Pure.ldRefAgg (cs' := [_, _, _, _]) rfl rfl rfl) rfl ?_
   refine LOps.step (S.alloc fun b9 => ?_) rfl
   repeat first | refine LOps.nil ?_ | refine LCode.seq ?_ | refine LCode.region ?_ | refine QThen.normal ?_ | refine LOps.pure (Pure.mv (lv := .atom _) rfl) rfl ?_ | refine LOps.pure (Pure.ldHAgg (cs' := [_, _, _, _]) rfl (List.Mem.head _) rfl rfl) rfl ?_ | refine LOps.pure (Pure.ldHAgg (cs' := [_, _, _, _]) rfl (List.Mem.tail _ (List.Mem.head _)) rfl rfl) rfl ?_ | refine LOps.step (S.store (cs' := [_, _, _, _]) rfl Pick.here rfl rfl rfl rfl rfl ?_) rfl
   refine LOps.step (S.fnV [_, _] rfl rfl (hrec i hlt b[i]) ?_) rfl
   repeat first | refine LOps.nil ?_ | refine QThen.normal ?_ | refine LOps.pure (Pure.not rfl) rfl ?_
   rw [eqList_drop hlt hlt2] at hE
   refine LCode.cond rfl (fun hd => ?_) (fun hd => ?_)
   ·repeat first | refine LOps.nil ?_ | refine LCode.seq ?_ | refine LCode.region ?_ | refine LCode.ret ?_ | refine QThen.normal ?_ | refine QThen.ret ?_ | refine QBlock.ret ?_ | refine LOps.pure (Pure.as (lv := .atom _) rfl) rfl ?_
    exact retRet hj (AllRes.cons (ResIs.tmp (v := .atom _) rfl (LV.Sub.refl _)) AllRes.nil) (bool_eq (by rw [hE, not_t hd]; rfl))
   ·rw [not_f hd, Bool.true_and] at hE
    repeat first | refine LOps.nil ?_ | refine LCode.region ?_ | refine LCode.skip ?_ | refine QThen.normal ?_ | refine QBlock.normal ?_ | refine LOps.pure (Pure.mv (lv := .atom _) rfl) rfl ?_ | refine LOps.pure (Pure.add rfl rfl (by omega)) rfl ?_
    exact ⟨_, _, _, by omega, ⟨i + 1, rfl, by omega, rfl, rfl, hE⟩, ⟨rfl, rfl, rfl, rfl, rfl, int_eq (by omega), trivial⟩, HSub.nil _, hj⟩
  ·have hge : a.length ≤ i := by have := of_decide_eq_false hc; omega
   rw [eqList_end hge (by omega)] at hE
   repeat first | refine LOps.nil ?_ | refine LCode.seq ?_ | refine LCode.region ?_ | refine LCode.ret ?_ | refine LCode.exit ?_ | refine QThen.normal ?_ | refine QThen.exit ?_ | refine QBlock.hit ?_ | refine LOps.pure (Pure.as (lv := .atom _) rfl) rfl ?_
   exact retRet hj (AllRes.cons (ResIs.tmp (v := .atom _) rfl (LV.Sub.refl _)) AllRes.nil) (bool_eq hE.symm)
theorem pequal_spec (a b : Pr) (ha : PrOk a) (hb : PrOk b) : LCalls (KC B0 w0) 19 [encPr a, encPr b] [] (Ret (bool (eqPr a b))) := by
 have hsz := ha.size
 unfold nPr at hsz
 have hpt : eqPr a b = (eqNames a.vars b.vars && eqList eqAr a.arrays b.arrays && eqList eqFn a.funcs b.funcs) := rfl
 refine LCalls.intro Tryz.func19 rfl (n := 24) rfl rfl rfl ?_
 repeat first | refine LCode.seq ?_ | refine LCode.region ?_
 refine LOps.step (S.box (cs := [.list (a.vars.map str), .list (a.arrays.map encAr), .list (a.funcs.map encFn)]) rfl fun b2 => ?_) rfl
 refine LOps.step (S.box (cs := [.list (b.vars.map str), .list (b.arrays.map encAr), .list (b.funcs.map encFn)]) rfl fun b3 => ?_) rfl
 repeat first | refine LOps.nil ?_ | refine LCode.seq ?_ | refine LCode.region ?_ | refine QThen.normal ?_ | refine LOps.pure (Pure.as (lv := .atom _) rfl) rfl ?_ | refine LOps.pure (Pure.fieldH rfl) rfl ?_ | refine LOps.pure (Pure.loadH (c := .list _) rfl (List.Mem.head _) rfl) rfl ?_ | refine LOps.pure (Pure.loadH (c := .list _) rfl (List.Mem.tail _ (List.Mem.head _)) rfl) rfl ?_
 refine LOps.step (S.fn [_, _] rfl (eqNs_spec a.vars b.vars (by omega)) ?_) rfl
 repeat first | refine LOps.pure (Pure.mv (lv := .atom _) rfl) rfl ?_
 refine LOps.bcase 10 rfl (fun h0 => ?_) (fun h0 => ?_)
 ·rw [h0, Bool.true_and] at hpt
  repeat first | refine LOps.pure (Pure.fieldH rfl) rfl ?_ | refine LOps.pure (Pure.loadH (c := .list _) rfl (List.Mem.head _) rfl) rfl ?_ | refine LOps.pure (Pure.loadH (c := .list _) rfl (List.Mem.tail _ (List.Mem.head _)) rfl) rfl ?_ | refine LOps.want rfl rfl ?_
  refine LOps.step (S.fn [_, _] rfl (eqArs_spec a.arrays b.arrays (by omega) ha.ars hb.ars) ?_) rfl
  repeat first | refine LOps.pure (Pure.mv (lv := .atom _) rfl) rfl ?_ | refine LOps.pure (Pure.pickT (lv := .atom _) rfl rfl) rfl ?_
  refine LOps.bcase 17 rfl (fun h1 => ?_) (fun h1 => ?_)
  ·rw [h1, Bool.true_and] at hpt
   repeat first | refine LOps.pure (Pure.fieldH rfl) rfl ?_ | refine LOps.pure (Pure.loadH (c := .list _) rfl (List.Mem.head _) rfl) rfl ?_ | refine LOps.pure (Pure.loadH (c := .list _) rfl (List.Mem.tail _ (List.Mem.head _)) rfl) rfl ?_ | refine LOps.want rfl rfl ?_
   refine LOps.step (S.fn [_, _, _] rfl (eqFs_spec a.funcs b.funcs (by omega)) ?_) rfl
   repeat first | refine LOps.nil ?_ | refine LCode.ret ?_ | refine QThen.normal ?_ | refine LOps.pure (Pure.as (lv := .atom _) rfl) rfl ?_ | refine LOps.pure (Pure.pickT (lv := .atom _) rfl rfl) rfl ?_
   exact retRet rfl (AllRes.cons (ResIs.tmp (v := .atom _) rfl (LV.Sub.refl _)) AllRes.nil) (bool_eq (by rw [hpt]))
  ·repeat first | refine LOps.nil ?_ | refine LCode.ret ?_ | refine QThen.normal ?_ | refine LOps.pure (Pure.as (lv := .atom _) rfl) rfl ?_ | refine LOps.pure (Pure.pickF (lv := .atom _) rfl rfl) rfl ?_ | refine LOps.skip rfl rfl rfl rfl ?_
   exact retRet rfl (AllRes.cons (ResIs.tmp (v := .atom _) rfl (LV.Sub.refl _)) AllRes.nil) (bool_eq (by rw [hpt, h1]; rfl))
 ·repeat first | refine LOps.nil ?_ | refine LCode.ret ?_ | refine QThen.normal ?_ | refine LOps.pure (Pure.as (lv := .atom _) rfl) rfl ?_ | refine LOps.pure (Pure.mv (lv := .atom _) rfl) rfl ?_ | refine LOps.pure (Pure.pickF (lv := .atom _) rfl rfl) rfl ?_ | refine LOps.skip rfl rfl rfl rfl ?_
  exact retRet rfl (AllRes.cons (ResIs.tmp (v := .atom _) rfl (LV.Sub.refl _)) AllRes.nil) (bool_eq (by rw [hpt, h0]; rfl))
end
end Go.Proofs.YtfodkbchknknjaaGreatDoor
namespace Go.GL
open Go.RowKit
section
variable {C : Ctx} {e : Env} {H : Heap} {dst : Option Nat} {ty : TypeId} {pos : String} {aft : Array Edge} {g : Option (Nat × Bool)} {xT yT : TypeId} {x y : Operand} {k k2 : IntKind} {a b : Int}
theorem run_int2 {P : Program} {op : BinOp} {xT yT : TypeId} {x y : Operand} {k k2 : IntKind} {a b : Int} {ρ : Operand → Value} (hx : ρ x = .int k a) (hy : ρ y = .int k2 b) {s : Sem Value}
  (h : (binOp op xT (.int k a) (.int k2 b)) = s) {v : Value} (hv : ∀ w, s.run P w = .ok v w) (w : World) : (execOp ρ ⟨dst, .binOp op xT x y yT, ty, pos, aft, g⟩).run P w = .ok (.value v) w := by
 subst h
 have he : eqGuard op xT x y (.int k a) (.int k2 b) = Pure.pure () := by
  unfold eqGuard
  cases op <;> rfl
 simp only [execOp, hx, hy, he, Sem.run_bind, Sem.run_pure, Result.andThen_ok, hv]
theorem Pure.quoW (hx : e.ev x = int k a) (hy : e.ev y = int k b) (hb : b ≠ 0) : Pure C ⟨dst, .binOp .quo xT x y yT, ty, pos, aft, g⟩ e H (int k (k.wrap (a.tdiv b))) :=
 .of_any fun _ _ _ h => ⟨_, rep_atom, run_int2 (atom_of h hx) (atom_of h hy) (s := Op.intDiv .quo k a b) (by simp only [binOp, ne_eq, not_true_eq_false, if_false]) (fun _ => by simp only [Op.intDiv, if_neg hb, Sem.run_pure])⟩
theorem Pure.remW (hx : e.ev x = int k a) (hy : e.ev y = int k b) (hb : b ≠ 0) : Pure C ⟨dst, .binOp .rem xT x y yT, ty, pos, aft, g⟩ e H (int k (a.tmod b)) :=
 .of_any fun _ _ _ h => ⟨_, rep_atom, run_int2 (atom_of h hx) (atom_of h hy) (s := Op.intDiv .rem k a b) (by simp only [binOp, ne_eq, not_true_eq_false, if_false]) (fun _ => by simp only [Op.intDiv, if_neg hb, Sem.run_pure])⟩
end
theorem wpAnyH_weakS {P : Program} {md : Region.Mode} {ops : Array Oper} {Q : Exit → Act → World → Prop} {S S' : World → Prop} (hS : ∀ w, S' w → S w) : ∀ (fuel : Nat) (listed : Array Bool) (a : Act) (w : World),
  wpAnyH P md ops Q S' fuel listed a w → wpAnyH P md ops Q S fuel listed a w
 | 0, _, _, _, k => k
 | fuel + 1, _, _, _, k => ⟨k.1, fun i hi => wpOp_mono (fun a' w' h => ⟨hS _ h.1, wpAnyH_weakS hS fuel _ a' w' h.2⟩) (k.2 i hi)⟩
/-- Behind an acting operation what only computes or reads HF' may be taken first, again. -/
theorem LLate.any {C : Ctx} {n : Nat} {ops : Array Oper} {Q : Post} {HF : Heap} {fuel : Nat} {listed : Array Bool} {e : Env} {H : Heap} (HF' : Heap) (hs : ∀ p ∈ HF, p ∈ HF') (h : LAny C n ops Q HF' fuel listed e H) : LLate C n ops Q HF fuel listed e H := fun w0 L0 a w L hL hA _ hE hH =>
 wpAnyH_weakS (fun w' hw' => ⟨fun p hp => (hw'.1 p (hs p hp)).trans (hA.1 p hp), fun b i hi => (hw'.2 b i (Nat.lt_of_lt_of_le hi (hL b))).trans (hA.2 b i hi)⟩) _ _ _ _ (h a w L hE hH)
/-! ### A drawn region whose last operations stand in a row: what is ahead of them only computes or reads. -/
def LS (C : Ctx) (n : Nat) (ops : Array Oper) (K : Env → Prop) (rest : List Oper) (e : Env) (H : Heap) : Prop :=
 ∀ a w L, RelE n a e w L → RelH C w L H → wpStill C.P ops w (fun a' => ∃ e', RelE n a' e' w L ∧ K e') rest a
section still
variable {C : Ctx} {n : Nat} {ops : Array Oper} {K : Env → Prop} {e : Env} {H : Heap} {dst : Option Nat} {op : Op} {ty : TypeId} {pos : String} {aft : Array Edge} {rest : List Oper}
theorem LS.nil (h : K e) : LS C n ops K [] e H := fun _ _ _ hE _ => ⟨e, hE, h⟩
theorem still_one {P : Program} {Q : Act → Prop} {a : Act} {w : World} {o : Oper} (hg : Region.wanted o (yielded ops a.tmps) = true) {v : Value} (h : (execOp a.eval o).run P w = .ok (.value v) w) (k : wpStill P ops w Q rest (a.put o.dst v)) : wpStill P ops w Q (o :: rest) a := by
 unfold wpStill
 rw [if_pos hg]
 unfold Oper.still
 rw [h]
 exact ⟨rfl, k⟩
theorem LS.pure {lv : LV} (h : Pure C ⟨dst, op, ty, pos, aft, none⟩ e H lv) (hd : dstOk n dst) (k : LS C n ops K rest (e.put dst lv) H) : LS C n ops K (⟨dst, op, ty, pos, aft, none⟩ :: rest) e H := fun a w L hE hH => by
 obtain ⟨v, hv, hr⟩ := h a.eval w L hE.ev hH
 exact still_one (by simp [Region.wanted]) (hr w (Agree.refl _ _ _)) (k _ w L (hE.put hd hv) hH)
theorem wpStill_mono {P : Program} {w : World} {Q Q' : Act → Prop} (h : ∀ a, Q a → Q' a) : ∀ (l : List Oper) (a : Act), wpStill P ops w Q l a → wpStill P ops w Q' l a
 | [], a, k => h a k
 | o :: l, a, k => by
  unfold wpStill at k ⊢
  split at k
  ·rename_i hw
   rw [if_pos hw]
   exact Oper.still_mono (fun a => wpStill_mono h l a) k
  ·rename_i hw
   rw [if_neg hw]
   exact wpStill_mono h l _ k
theorem LCode.tail [hm : TMixed C.P] {id : Nat} {l : List Oper} {Q : Post} (m : Nat) (hB : Region.lexTailB .any l.toArray m = true) (h : LS C n l.toArray (fun e' => LOps C n l.toArray Q (l.drop m) e' H) (l.take m) e H) : LCode C n (.region id l.toArray true) Q e H := fun a w L hE hH => by
 refine wp_region_still_tail m hm.out hB ?_
 refine wpStill_mono (fun a' h' => ?_) _ _ (h a w.drew L (hE.mono (ext_drew w L)) hH.drew)
 obtain ⟨e', hE', hk⟩ := h'
 refine wpList_mono (fun x a2 w' hq => ?_) _ _ _ (hk a' w.drew L hE' hH.drew)
 obtain ⟨e2, H', L', h1, h2, h3, h4⟩ := hq
 exact ⟨e2, H', L', h1.of_drew, h2, h3, h4⟩
end still
end Go.GL
