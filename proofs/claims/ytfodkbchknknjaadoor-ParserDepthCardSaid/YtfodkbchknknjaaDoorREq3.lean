/- The reference's comparison of programs, walked. -/
import Derived.Test.YtfodkbchknknjaaDoorREq2
import Derived.Test.YtfodkbchknknjaaDoorGlPair
set_option linter.unusedVariables false
set_option linter.unusedSimpArgs false
namespace Go.Proofs.YtfodkbchknknjaaDoor
open Go.GL Go.RowKit Go.Stele
set_option maxRecDepth 100000
set_option maxHeartbeats 4000000
instance : TPair Tryd.prog 60 := .of (by kernel_rfl) (by kernel_rfl) (by kernel_rfl)
/-- A program that is not too great. -/
structure PrOk (p : Pr) : Prop where
  size : nPr p ≤ 1000000000
  ars : ∀ a ∈ p.arrays, a.name.length ≤ 1000000000 ∧ a.size ≤ 4294967296
theorem fn_len {l : List FnD} {i : Nat} (h : i < l.length) : (l[i]).params.length + (l[i]).locals.length + nSms (l[i]).body ≤ nFns l := by
  have h1 := nFns_mem (List.getElem_mem h)
  unfold nFn at h1
  omega
theorem eqFn_parts (a b : FnD) : eqFn a b = (decide (a.name = b.name) && eqNames a.params b.params && eqNames a.locals b.locals && eqSms a.body b.body) := rfl
theorem eqAr_parts (a b : Ar) : eqAr a b = (decide (a.name = b.name) && decide ((a.size : Int) = (b.size : Int))) := rfl
attribute [local irreducible] LOps LCode LStep LCalls Go.GL.Pure QThen QBlock RetPost LQ LAny LLate LLateOp
section
variable {B0 : Nat} {w0 : World}
theorem equal_spec (a b : Pr) (ha : PrOk a) (hb : PrOk b) : LCalls (KC B0 w0) 10 [encPr a, encPr b] [] (Ret (bool (eqPr a b))) := by
  have hsz := ha.size
  unfold nPr at hsz
  have hfl := nFns_len a.funcs
  have h1a : (a.arrays.map encAr).length = a.arrays.length := List.length_map _
  have h1b : (b.arrays.map encAr).length = b.arrays.length := List.length_map _
  have h2a : (a.funcs.map encFn).length = a.funcs.length := List.length_map _
  have h2b : (b.funcs.map encFn).length = b.funcs.length := List.length_map _
  refine LCalls.intro Tryd.func10 rfl (n := 97) rfl rfl rfl ?_
  repeat first
    | refine LCode.seq ?_
    | refine LCode.region ?_
  refine LOps.step (S.box (cs := [.list (a.vars.map str), .list (a.arrays.map encAr), .list (a.funcs.map encFn)]) rfl fun b2 => ?_) rfl
  refine LOps.step (S.box (cs := [.list (b.vars.map str), .list (b.arrays.map encAr), .list (b.funcs.map encFn)]) rfl fun b3 => ?_) rfl
  repeat first
    | refine LOps.nil ?_
    | refine LCode.seq ?_
    | refine LCode.region ?_
    | refine QThen.normal ?_
    | refine LOps.pure (Pure.as (lv := .atom _) rfl) rfl ?_
    | refine LOps.pure (Pure.fieldH rfl) rfl ?_
    | refine LOps.pure (Pure.loadH (c := .list _) rfl (List.Mem.head _) rfl) rfl ?_
    | refine LOps.pure (Pure.loadH (c := .list _) rfl (List.Mem.tail _ (List.Mem.head _)) rfl) rfl ?_
  refine LOps.cut [(2, ptr b2 0), (3, ptr b3 0), (32, bool (!(eqNames a.vars b.vars && decide (a.arrays.length = b.arrays.length) && decide (a.funcs.length = b.funcs.length))))] ?_ (fun j hj => ?_)
  · refine LOps.step (S.fn [_, _] rfl (sameNames_spec a.vars b.vars (by omega)) ?_) rfl
    repeat first
      | refine LOps.pure (Pure.not rfl) rfl ?_
      | refine LOps.pure (Pure.mv (lv := .atom _) rfl) rfl ?_
    refine LOps.bcase 15 rfl (fun h1 => ?_) (fun h1 => ?_)
    · repeat first
        | refine LOps.nil ?_
        | refine QThen.normal ?_
        | refine LOps.pure (Pure.mv (lv := .atom _) rfl) rfl ?_
        | refine LOps.pure (Pure.pickT (lv := .atom _) rfl rfl) rfl ?_
        | refine LOps.skip rfl rfl rfl rfl ?_
      exact ⟨⟨rfl, rfl, bool_eq (by rw [not_t h1]; rfl), trivial⟩, rfl, rfl⟩
    · repeat first
        | refine LOps.pure (Pure.fieldH rfl) rfl ?_
        | refine LOps.pure (Pure.loadH (c := .list _) rfl (List.Mem.head _) rfl) rfl ?_
        | refine LOps.pure (Pure.loadH (c := .list _) rfl (List.Mem.tail _ (List.Mem.head _)) rfl) rfl ?_
        | refine LOps.pure (Pure.mv (lv := .atom _) rfl) rfl ?_
        | refine LOps.pure (Pure.llen rfl) rfl ?_
        | refine LOps.pure (Pure.neq rfl rfl) rfl ?_
        | refine LOps.pure (Pure.pickF (lv := .atom _) rfl rfl) rfl ?_
        | refine LOps.want rfl rfl ?_
      have e2 : (!decide (((a.arrays.map encAr).length : Int) = ((b.arrays.map encAr).length : Int))) = !decide (a.arrays.length = b.arrays.length) := by
        rw [h1a, h1b]
        congr 1
        rw [decide_eq_decide]
        omega
      refine LOps.bcase 24 rfl (fun h2 => ?_) (fun h2 => ?_)
      · rw [e2] at h2
        repeat first
          | refine LOps.nil ?_
          | refine QThen.normal ?_
          | refine LOps.pure (Pure.pickT (lv := .atom _) rfl rfl) rfl ?_
          | refine LOps.skip rfl rfl rfl rfl ?_
        exact ⟨⟨rfl, rfl, bool_eq (by rw [not_f h1, not_t h2]; rfl), trivial⟩, rfl, rfl⟩
      · rw [e2] at h2
        repeat first
          | refine LOps.nil ?_
          | refine QThen.normal ?_
          | refine LOps.pure (Pure.fieldH rfl) rfl ?_
          | refine LOps.pure (Pure.loadH (c := .list _) rfl (List.Mem.head _) rfl) rfl ?_
          | refine LOps.pure (Pure.loadH (c := .list _) rfl (List.Mem.tail _ (List.Mem.head _)) rfl) rfl ?_
          | refine LOps.pure (Pure.llen rfl) rfl ?_
          | refine LOps.pure (Pure.neq rfl rfl) rfl ?_
          | refine LOps.pure (Pure.pickF (lv := .atom _) rfl rfl) rfl ?_
          | refine LOps.want rfl rfl ?_
        refine ⟨⟨rfl, rfl, bool_eq ?_, trivial⟩, rfl, rfl⟩
        rw [not_f h1, not_f h2]
        show (!decide (((a.funcs.map encFn).length : Int) = ((b.funcs.map encFn).length : Int))) = _
        rw [h2a, h2b, Bool.true_and, Bool.true_and]
        congr 1
        rw [decide_eq_decide]
        omega
  · skip
    refine LCode.cond rfl (fun hc => ?_) (fun hc => ?_)
    · repeat first
        | refine LOps.nil ?_
        | refine LCode.seq ?_
        | refine LCode.region ?_
        | refine LCode.ret ?_
        | refine QThen.normal ?_
        | refine QThen.ret ?_
        | refine LOps.pure (Pure.as (lv := .atom _) rfl) rfl ?_
      refine retRet hj (AllRes.cons (ResIs.tmp (v := .atom _) rfl (LV.Sub.refl _)) AllRes.nil) (bool_eq ?_)
      have hx := not_t hc
      have : ¬ eqPr a b = true := by
        rw [eqPr_iff]
        rintro rfl
        rw [(eqNames_iff _ _).2 rfl] at hx
        simp at hx
      exact (Bool.eq_false_iff.2 this).symm
    · have hx := not_f hc
      simp only [Bool.and_eq_true, decide_eq_true_eq] at hx
      obtain ⟨⟨hv, hla⟩, hlf⟩ := hx
      have hE0 : eqPr a b = (eqList eqAr a.arrays b.arrays && eqList eqFn a.funcs b.funcs) := by rw [eqPr, hv, Bool.true_and]
      repeat first
        | refine LOps.nil ?_
        | refine LCode.seq ?_
        | refine LCode.region ?_
        | refine LCode.skip ?_
        | refine LCode.block ?_
        | refine QThen.normal ?_
        | refine LOps.pure (Pure.as (lv := .atom _) rfl) rfl ?_
      refine LCode.loopI (fun k ls H => ∃ i, k = a.arrays.length - i ∧ i ≤ a.arrays.length ∧ ls = [(2, ptr b2 0), (3, ptr b3 0), (5, int .i64 i)] ∧ H = [(b3, .cells 29 [.list (b.vars.map str), .list (b.arrays.map encAr), .list (b.funcs.map encFn)]), (b2, .cells 29 [.list (a.vars.map str), .list (a.arrays.map encAr), .list (a.funcs.map encFn)])] ∧ eqPr a b = (eqList eqAr (a.arrays.drop i) (b.arrays.drop i) && eqList eqFn a.funcs b.funcs))
        ⟨_, _, _, ⟨0, rfl, Nat.zero_le _, rfl, rfl, hE0⟩, ⟨rfl, rfl, rfl, trivial⟩, HSub.refl _⟩ ?_
      rintro k ls H ⟨i, rfl, hi, rfl, rfl, hE⟩ j2 hj2
      repeat first
        | refine LOps.nil ?_
        | refine LCode.seq ?_
        | refine LCode.region ?_
        | refine QThen.normal ?_
        | refine LOps.pure (Pure.fieldH rfl) rfl ?_
        | refine LOps.pure (Pure.loadH (c := .list _) rfl (List.Mem.tail _ (List.Mem.head _)) rfl) rfl ?_
        | refine LOps.pure (Pure.mv (lv := .atom _) rfl) rfl ?_
        | refine LOps.pure (Pure.llen rfl) rfl ?_
        | refine LOps.pure (Pure.lss rfl rfl) rfl ?_
      refine LCode.cond rfl (fun hc => ?_) (fun hc => ?_)
      · have hlt : i < a.arrays.length := by have := of_decide_eq_true hc; omega
        have hlt2 : i < b.arrays.length := by omega
        obtain ⟨hn1, hs1⟩ := ha.ars _ (List.getElem_mem hlt)
        obtain ⟨hn2, hs2⟩ := hb.ars _ (List.getElem_mem hlt2)
        repeat first
          | refine LCode.seq ?_
          | refine LCode.skip ?_
          | refine LCode.block ?_
          | refine QThen.normal ?_
        refine LCode.cut [(2, ptr b2 0), (3, ptr b3 0), (5, int .i64 i), (50, bool (!eqAr a.arrays[i] b.arrays[i]))] ?_ (fun j3 hj3 => ?_)
        · refine LCode.quiet (by kernel_rfl) ?_
          repeat first
            | refine LQ.pure (Pure.fieldH rfl) rfl ?_
            | refine LQ.pure (Pure.loadH (c := .list _) rfl (List.Mem.tail _ (List.Mem.head _)) rfl) rfl ?_
            | refine LQ.pure (Pure.mv (lv := .atom _) rfl) rfl ?_
          refine LQ.pure (Pure.ixRef (el' := encAr a.arrays[i]) (cs := [_, _]) rfl rfl (by omega) (map_get _ _ _ hlt) rfl rfl) rfl ?_
          repeat first
            | refine LQ.pure (Pure.fieldH rfl) rfl ?_
            | refine LQ.pure (Pure.loadH (c := .list _) rfl (List.Mem.head _) rfl) rfl ?_
            | refine LQ.pure (Pure.mv (lv := .atom _) rfl) rfl ?_
            | refine LQ.pure (Pure.ldRefAgg (cs' := [_, _]) rfl rfl rfl) rfl ?_
          refine LQ.pure (Pure.ixRef (el' := encAr b.arrays[i]) (cs := [_, _]) rfl rfl (by omega) (map_get _ _ _ hlt2) rfl rfl) rfl ?_
          repeat first
            | refine LQ.pure (Pure.ldRefAgg (cs' := [_, _]) rfl rfl rfl) rfl ?_
          refine LQ.pure (Pure.pairNeq rfl rfl hn1 hn2 (by omega) (by omega)) rfl ?_
          repeat first
            | refine LQ.nil ?_
            | refine QThen.normal ?_
          exact ⟨⟨rfl, rfl, rfl, rfl, trivial⟩, rfl, rfl⟩
        · rw [eqList_drop hlt hlt2] at hE
          refine LCode.cond rfl (fun hd => ?_) (fun hd => ?_)
          · repeat first
              | refine LOps.nil ?_
              | refine LCode.seq ?_
              | refine LCode.region ?_
              | refine LCode.ret ?_
              | refine QThen.normal ?_
              | refine QThen.ret ?_
              | refine QBlock.ret ?_
              | refine LOps.pure (Pure.as (lv := .atom _) rfl) rfl ?_
            exact retRet (hj3.trans (hj2.trans hj)) (AllRes.cons (ResIs.tmp (v := .atom _) rfl (LV.Sub.refl _)) AllRes.nil) (bool_eq (by rw [hE, not_t hd]; rfl))
          · rw [not_f hd, Bool.true_and] at hE
            repeat first
              | refine LOps.nil ?_
              | refine LCode.region ?_
              | refine LCode.skip ?_
              | refine QThen.normal ?_
              | refine QBlock.normal ?_
              | refine LOps.pure (Pure.as (lv := .atom _) rfl) rfl ?_
              | refine LOps.pure (Pure.mv (lv := .atom _) rfl) rfl ?_
              | refine LOps.pure (Pure.add rfl rfl (by omega)) rfl ?_
            exact ⟨_, _, _, by omega, ⟨i + 1, rfl, by omega, rfl, rfl, hE⟩, ⟨rfl, rfl, int_eq (by omega), trivial⟩, HSub.refl _, hj3.trans hj2⟩
      · have hge : a.arrays.length ≤ i := by have := of_decide_eq_false hc; omega
        rw [eqList_end hge (by omega), Bool.true_and] at hE
        repeat first
          | refine LOps.nil ?_
          | refine LCode.seq ?_
          | refine LCode.region ?_
          | refine LCode.exit ?_
          | refine LCode.block ?_
          | refine QThen.normal ?_
          | refine QThen.exit ?_
          | refine QBlock.hit ?_
          | refine LOps.pure (Pure.as (lv := .atom _) rfl) rfl ?_
        refine LCode.loopI (fun k ls H => ∃ i, k = a.funcs.length - i ∧ i ≤ a.funcs.length ∧ ls = [(2, ptr b2 0), (3, ptr b3 0), (6, int .i64 i)] ∧ H = [(b3, .cells 29 [.list (b.vars.map str), .list (b.arrays.map encAr), .list (b.funcs.map encFn)]), (b2, .cells 29 [.list (a.vars.map str), .list (a.arrays.map encAr), .list (a.funcs.map encFn)])] ∧ eqPr a b = eqList eqFn (a.funcs.drop i) (b.funcs.drop i))
          ⟨_, _, _, ⟨0, rfl, Nat.zero_le _, rfl, rfl, hE⟩, ⟨rfl, rfl, rfl, trivial⟩, HSub.refl _⟩ ?_
        clear hE hge
        rintro k ls H ⟨i, rfl, hi, rfl, rfl, hE⟩ j3 hj3
        repeat first
          | refine LOps.nil ?_
          | refine LCode.seq ?_
          | refine LCode.region ?_
          | refine QThen.normal ?_
          | refine LOps.pure (Pure.fieldH rfl) rfl ?_
          | refine LOps.pure (Pure.loadH (c := .list _) rfl (List.Mem.tail _ (List.Mem.head _)) rfl) rfl ?_
          | refine LOps.pure (Pure.mv (lv := .atom _) rfl) rfl ?_
          | refine LOps.pure (Pure.llen rfl) rfl ?_
          | refine LOps.pure (Pure.lss rfl rfl) rfl ?_
        refine LCode.cond rfl (fun hc => ?_) (fun hc => ?_)
        · have hlt : i < a.funcs.length := by have := of_decide_eq_true hc; omega
          have hlt2 : i < b.funcs.length := by omega
          have hfn := fn_len hlt
          have hpt := eqFn_parts a.funcs[i] b.funcs[i]
          repeat first
            | refine LCode.seq ?_
            | refine LCode.skip ?_
            | refine LCode.block ?_
            | refine QThen.normal ?_
          refine LCode.midC (A := Nat × Nat) (fun q => [(2, ptr b2 0), (3, ptr b3 0), (6, int .i64 i), (7, ptr q.1 0), (8, ptr q.2 0)]) (fun q => (q.1, .cells 57 [str a.funcs[i].name, .list (a.funcs[i].params.map str), .list (a.funcs[i].locals.map str), .list (a.funcs[i].body.map encS)]) :: (q.2, .cells 57 [str b.funcs[i].name, .list (b.funcs[i].params.map str), .list (b.funcs[i].locals.map str), .list (b.funcs[i].body.map encS)]) :: [(b3, .cells 29 [.list (b.vars.map str), .list (b.arrays.map encAr), .list (b.funcs.map encFn)]), (b2, .cells 29 [.list (a.vars.map str), .list (a.arrays.map encAr), .list (a.funcs.map encFn)])]) (fun _ => True) ?_ ?_
          · refine LCode.draw (m := 14) rfl [(b3, .cells 29 [.list (b.vars.map str), .list (b.arrays.map encAr), .list (b.funcs.map encFn)]), (b2, .cells 29 [.list (a.vars.map str), .list (a.arrays.map encAr), .list (a.funcs.map encFn)])] ?_
            refine LAny.take (i := 0) (by first | exact HSub.nil _ | exact HSub.refl _ | exact HSub.drop (HSub.refl _) | exact HSub.pick Pick.here (HSub.nil _) | exact HSub.pick (Pick.there Pick.here) (HSub.nil _) | exact HSub.pick (Pick.there (Pick.there Pick.here)) (HSub.nil _)) rfl (by kernel_rfl) (by kernel_rfl) (by kernel_rfl) rfl (Pure.fieldH rfl) ?_
            refine LAny.take (i := 1) (by first | exact HSub.nil _ | exact HSub.refl _ | exact HSub.drop (HSub.refl _) | exact HSub.pick Pick.here (HSub.nil _) | exact HSub.pick (Pick.there Pick.here) (HSub.nil _) | exact HSub.pick (Pick.there (Pick.there Pick.here)) (HSub.nil _)) rfl (by kernel_rfl) (by kernel_rfl) (by kernel_rfl) rfl (Pure.loadH (c := .list _) rfl (List.Mem.tail _ (List.Mem.head _)) rfl) ?_
            refine LAny.take (i := 2) (by first | exact HSub.nil _ | exact HSub.refl _ | exact HSub.drop (HSub.refl _) | exact HSub.pick Pick.here (HSub.nil _) | exact HSub.pick (Pick.there Pick.here) (HSub.nil _) | exact HSub.pick (Pick.there (Pick.there Pick.here)) (HSub.nil _)) rfl (by kernel_rfl) (by kernel_rfl) (by kernel_rfl) rfl (Pure.mv (lv := .atom _) rfl) ?_
            refine LAny.take (i := 3) (HSub.refl _) rfl (by kernel_rfl) (by kernel_rfl) (by kernel_rfl) rfl (Pure.ixRef (el' := encFn a.funcs[i]) (cs := [_, _, _, _]) rfl rfl (by omega) (map_get _ _ _ hlt) rfl rfl) ?_
            refine LAny.take (i := 4) (by first | exact HSub.nil _ | exact HSub.refl _ | exact HSub.drop (HSub.refl _) | exact HSub.pick Pick.here (HSub.nil _) | exact HSub.pick (Pick.there Pick.here) (HSub.nil _) | exact HSub.pick (Pick.there (Pick.there Pick.here)) (HSub.nil _)) rfl (by kernel_rfl) (by kernel_rfl) (by kernel_rfl) rfl (Pure.ldRefAgg (cs' := [_, _, _, _]) rfl rfl rfl) ?_
            refine LAny.take (i := 5) (by first | exact HSub.nil _ | exact HSub.refl _ | exact HSub.drop (HSub.refl _) | exact HSub.pick Pick.here (HSub.nil _) | exact HSub.pick (Pick.there Pick.here) (HSub.nil _) | exact HSub.pick (Pick.there (Pick.there Pick.here)) (HSub.nil _)) rfl (by kernel_rfl) (by kernel_rfl) (by kernel_rfl) rfl (Pure.fieldH rfl) ?_
            refine LAny.take (i := 6) (by first | exact HSub.nil _ | exact HSub.refl _ | exact HSub.drop (HSub.refl _) | exact HSub.pick Pick.here (HSub.nil _) | exact HSub.pick (Pick.there Pick.here) (HSub.nil _) | exact HSub.pick (Pick.there (Pick.there Pick.here)) (HSub.nil _)) rfl (by kernel_rfl) (by kernel_rfl) (by kernel_rfl) rfl (Pure.loadH (c := .list _) rfl (List.Mem.head _) rfl) ?_
            refine LAny.take (i := 7) (by first | exact HSub.nil _ | exact HSub.refl _ | exact HSub.drop (HSub.refl _) | exact HSub.pick Pick.here (HSub.nil _) | exact HSub.pick (Pick.there Pick.here) (HSub.nil _) | exact HSub.pick (Pick.there (Pick.there Pick.here)) (HSub.nil _)) rfl (by kernel_rfl) (by kernel_rfl) (by kernel_rfl) rfl (Pure.mv (lv := .atom _) rfl) ?_
            refine LAny.take (i := 8) (HSub.refl _) rfl (by kernel_rfl) (by kernel_rfl) (by kernel_rfl) rfl (Pure.ixRef (el' := encFn b.funcs[i]) (cs := [_, _, _, _]) rfl rfl (by omega) (map_get _ _ _ hlt2) rfl rfl) ?_
            refine LAny.take (i := 9) (by first | exact HSub.nil _ | exact HSub.refl _ | exact HSub.drop (HSub.refl _) | exact HSub.pick Pick.here (HSub.nil _) | exact HSub.pick (Pick.there Pick.here) (HSub.nil _) | exact HSub.pick (Pick.there (Pick.there Pick.here)) (HSub.nil _)) rfl (by kernel_rfl) (by kernel_rfl) (by kernel_rfl) rfl (Pure.ldRefAgg (cs' := [_, _, _, _]) rfl rfl rfl) ?_
            refine LAny.late ?_ (HSub.refl _)
            refine LLate.two (i := 10) (j := 11) (by kernel_rfl) ?_ ?_
            · refine LLateOp.step (H1 := []) (F := [(b3, .cells 29 [.list (b.vars.map str), .list (b.arrays.map encAr), .list (b.funcs.map encFn)]), (b2, .cells 29 [.list (a.vars.map str), .list (a.arrays.map encAr), .list (a.funcs.map encFn)])]) rfl (.inl rfl) rfl (List.Perm.refl _) (HSub.refl _) (S.alloc fun b7 => ?_)
              refine LLate.one (i := 11) (by kernel_rfl) (LLateOp.step (H1 := []) (F := (b7, .cells 57 [str [], nilSlice, nilSlice, nilSlice]) :: [(b3, .cells 29 [.list (b.vars.map str), .list (b.arrays.map encAr), .list (b.funcs.map encFn)]), (b2, .cells 29 [.list (a.vars.map str), .list (a.arrays.map encAr), .list (a.funcs.map encFn)])]) rfl (.inl rfl) rfl (List.Perm.refl _) (HSub.drop (HSub.refl _)) (S.alloc fun b8 => ?_))
              refine LLate.one (i := 12) (by kernel_rfl) (LLateOp.step (H1 := [(b7, .cells 57 [str [], nilSlice, nilSlice, nilSlice])]) (F := (b8, .cells 57 [str [], nilSlice, nilSlice, nilSlice]) :: [(b3, .cells 29 [.list (b.vars.map str), .list (b.arrays.map encAr), .list (b.funcs.map encFn)]), (b2, .cells 29 [.list (a.vars.map str), .list (a.arrays.map encAr), .list (a.funcs.map encFn)])]) rfl (.inl rfl) rfl (Pick.there Pick.here) (HSub.drop (HSub.refl _)) (S.store (cs' := [str a.funcs[i].name, .list (a.funcs[i].params.map str), .list (a.funcs[i].locals.map str), .list (a.funcs[i].body.map encS)]) rfl Pick.here rfl rfl rfl rfl rfl ?_))
              refine LLate.one (i := 13) (by kernel_rfl) (LLateOp.step (H1 := [(b8, .cells 57 [str [], nilSlice, nilSlice, nilSlice])]) (F := (b7, .cells 57 [str a.funcs[i].name, .list (a.funcs[i].params.map str), .list (a.funcs[i].locals.map str), .list (a.funcs[i].body.map encS)]) :: [(b3, .cells 29 [.list (b.vars.map str), .list (b.arrays.map encAr), .list (b.funcs.map encFn)]), (b2, .cells 29 [.list (a.vars.map str), .list (a.arrays.map encAr), .list (a.funcs.map encFn)])]) rfl (.inl rfl) rfl (Pick.there Pick.here) (HSub.drop (HSub.refl _)) (S.store (cs' := [str b.funcs[i].name, .list (b.funcs[i].params.map str), .list (b.funcs[i].locals.map str), .list (b.funcs[i].body.map encS)]) rfl Pick.here rfl rfl rfl rfl rfl ?_))
              refine LLate.done (by kernel_rfl) ?_
              repeat first
                | refine QThen.normal ?_
              exact ⟨(b7, b8), trivial, ⟨rfl, rfl, rfl, rfl, rfl, trivial⟩, HSub.pick (Pick.there Pick.here) (HSub.refl _), rfl⟩
            · refine LLateOp.step (H1 := []) (F := [(b3, .cells 29 [.list (b.vars.map str), .list (b.arrays.map encAr), .list (b.funcs.map encFn)]), (b2, .cells 29 [.list (a.vars.map str), .list (a.arrays.map encAr), .list (a.funcs.map encFn)])]) rfl (.inl rfl) rfl (List.Perm.refl _) (HSub.refl _) (S.alloc fun b8 => ?_)
              refine LLate.one (i := 10) (by kernel_rfl) (LLateOp.step (H1 := []) (F := (b8, .cells 57 [str [], nilSlice, nilSlice, nilSlice]) :: [(b3, .cells 29 [.list (b.vars.map str), .list (b.arrays.map encAr), .list (b.funcs.map encFn)]), (b2, .cells 29 [.list (a.vars.map str), .list (a.arrays.map encAr), .list (a.funcs.map encFn)])]) rfl (.inl rfl) rfl (List.Perm.refl _) (HSub.drop (HSub.refl _)) (S.alloc fun b7 => ?_))
              refine LLate.one (i := 12) (by kernel_rfl) (LLateOp.step (H1 := [(b7, .cells 57 [str [], nilSlice, nilSlice, nilSlice])]) (F := (b8, .cells 57 [str [], nilSlice, nilSlice, nilSlice]) :: [(b3, .cells 29 [.list (b.vars.map str), .list (b.arrays.map encAr), .list (b.funcs.map encFn)]), (b2, .cells 29 [.list (a.vars.map str), .list (a.arrays.map encAr), .list (a.funcs.map encFn)])]) rfl (.inl rfl) rfl Pick.here (HSub.drop (HSub.refl _)) (S.store (cs' := [str a.funcs[i].name, .list (a.funcs[i].params.map str), .list (a.funcs[i].locals.map str), .list (a.funcs[i].body.map encS)]) rfl Pick.here rfl rfl rfl rfl rfl ?_))
              refine LLate.one (i := 13) (by kernel_rfl) (LLateOp.step (H1 := [(b8, .cells 57 [str [], nilSlice, nilSlice, nilSlice])]) (F := (b7, .cells 57 [str a.funcs[i].name, .list (a.funcs[i].params.map str), .list (a.funcs[i].locals.map str), .list (a.funcs[i].body.map encS)]) :: [(b3, .cells 29 [.list (b.vars.map str), .list (b.arrays.map encAr), .list (b.funcs.map encFn)]), (b2, .cells 29 [.list (a.vars.map str), .list (a.arrays.map encAr), .list (a.funcs.map encFn)])]) rfl (.inl rfl) rfl (Pick.there Pick.here) (HSub.drop (HSub.refl _)) (S.store (cs' := [str b.funcs[i].name, .list (b.funcs[i].params.map str), .list (b.funcs[i].locals.map str), .list (b.funcs[i].body.map encS)]) rfl Pick.here rfl rfl rfl rfl rfl ?_))
              refine LLate.done (by kernel_rfl) ?_
              repeat first
                | refine QThen.normal ?_
              exact ⟨(b7, b8), trivial, ⟨rfl, rfl, rfl, rfl, rfl, trivial⟩, HSub.pick (Pick.there Pick.here) (HSub.refl _), rfl⟩
          · rintro ⟨b7, b8⟩ _ j4 hj4
            repeat first
              | refine LCode.seq ?_
              | refine LCode.region ?_
              | refine LOps.pure (Pure.fieldH rfl) rfl ?_
              | refine LOps.pure (Pure.loadH (c := .atom _) rfl (List.Mem.head _) rfl) rfl ?_
              | refine LOps.pure (Pure.loadH (c := .atom _) rfl (List.Mem.tail _ (List.Mem.head _)) rfl) rfl ?_
              | refine LOps.pure (Pure.mv (lv := .atom _) rfl) rfl ?_
              | refine LOps.pure (Pure.sneq rfl rfl) rfl ?_
            refine LOps.cut [(2, ptr b2 0), (3, ptr b3 0), (6, int .i64 i), (96, bool (!eqFn a.funcs[i] b.funcs[i]))] ?_ (fun j5 hj5 => ?_)
            · refine LOps.bcase 73 rfl (fun h1 => ?_) (fun h1 => ?_)
              · repeat first
                  | refine LOps.nil ?_
                  | refine QThen.normal ?_
                  | refine LOps.pure (Pure.mv (lv := .atom _) rfl) rfl ?_
                  | refine LOps.pure (Pure.pickT (lv := .atom _) rfl rfl) rfl ?_
                  | refine LOps.skip rfl rfl rfl rfl ?_
                exact ⟨⟨rfl, rfl, rfl, bool_eq (by rw [hpt, not_t h1]; rfl), trivial⟩, rfl, rfl⟩
              · rw [not_f h1, Bool.true_and] at hpt
                repeat first
                  | refine LOps.pure (Pure.fieldH rfl) rfl ?_
                  | refine LOps.pure (Pure.loadH (c := .list _) rfl (List.Mem.head _) rfl) rfl ?_
                  | refine LOps.pure (Pure.loadH (c := .list _) rfl (List.Mem.tail _ (List.Mem.head _)) rfl) rfl ?_
                  | refine LOps.want rfl rfl ?_
                refine LOps.step (S.fn [_, _] rfl (sameNames_spec a.funcs[i].params b.funcs[i].params (by omega)) ?_) rfl
                repeat first
                  | refine LOps.pure (Pure.not rfl) rfl ?_
                  | refine LOps.pure (Pure.mv (lv := .atom _) rfl) rfl ?_
                  | refine LOps.pure (Pure.pickF (lv := .atom _) rfl rfl) rfl ?_
                  | refine LOps.want rfl rfl ?_
                refine LOps.bcase 81 rfl (fun h2 => ?_) (fun h2 => ?_)
                · repeat first
                    | refine LOps.nil ?_
                    | refine QThen.normal ?_
                    | refine LOps.pure (Pure.mv (lv := .atom _) rfl) rfl ?_
                    | refine LOps.pure (Pure.pickT (lv := .atom _) rfl rfl) rfl ?_
                    | refine LOps.skip rfl rfl rfl rfl ?_
                  exact ⟨⟨rfl, rfl, rfl, bool_eq (by rw [hpt, not_t h2]; rfl), trivial⟩, rfl, rfl⟩
                · rw [not_f h2, Bool.true_and] at hpt
                  repeat first
                    | refine LOps.pure (Pure.fieldH rfl) rfl ?_
                    | refine LOps.pure (Pure.loadH (c := .list _) rfl (List.Mem.head _) rfl) rfl ?_
                    | refine LOps.pure (Pure.loadH (c := .list _) rfl (List.Mem.tail _ (List.Mem.head _)) rfl) rfl ?_
                    | refine LOps.want rfl rfl ?_
                  refine LOps.step (S.fn [_, _] rfl (sameNames_spec a.funcs[i].locals b.funcs[i].locals (by omega)) ?_) rfl
                  repeat first
                    | refine LOps.pure (Pure.not rfl) rfl ?_
                    | refine LOps.pure (Pure.mv (lv := .atom _) rfl) rfl ?_
                    | refine LOps.pure (Pure.pickF (lv := .atom _) rfl rfl) rfl ?_
                    | refine LOps.want rfl rfl ?_
                  refine LOps.bcase 89 rfl (fun h3 => ?_) (fun h3 => ?_)
                  · repeat first
                      | refine LOps.nil ?_
                      | refine QThen.normal ?_
                      | refine LOps.pure (Pure.pickT (lv := .atom _) rfl rfl) rfl ?_
                      | refine LOps.skip rfl rfl rfl rfl ?_
                    exact ⟨⟨rfl, rfl, rfl, bool_eq (by rw [hpt, not_t h3]; rfl), trivial⟩, rfl, rfl⟩
                  · rw [not_f h3, Bool.true_and] at hpt
                    repeat first
                      | refine LOps.pure (Pure.fieldH rfl) rfl ?_
                      | refine LOps.pure (Pure.loadH (c := .list _) rfl (List.Mem.head _) rfl) rfl ?_
                      | refine LOps.pure (Pure.loadH (c := .list _) rfl (List.Mem.tail _ (List.Mem.head _)) rfl) rfl ?_
                      | refine LOps.want rfl rfl ?_
                    refine LOps.step (S.fn [_, _] rfl (sameStmts_spec _ a.funcs[i].body b.funcs[i].body (Nat.le_refl _) (by omega)) ?_) rfl
                    repeat first
                      | refine LOps.nil ?_
                      | refine QThen.normal ?_
                      | refine LOps.pure (Pure.not rfl) rfl ?_
                      | refine LOps.pure (Pure.pickF (lv := .atom _) rfl rfl) rfl ?_
                      | refine LOps.want rfl rfl ?_
                    exact ⟨⟨rfl, rfl, rfl, bool_eq (by rw [hpt]), trivial⟩, rfl, rfl⟩
            · rw [eqList_drop hlt hlt2] at hE
              refine LCode.cond rfl (fun hd => ?_) (fun hd => ?_)
              · repeat first
                  | refine LOps.nil ?_
                  | refine LCode.seq ?_
                  | refine LCode.region ?_
                  | refine LCode.ret ?_
                  | refine QThen.normal ?_
                  | refine QThen.ret ?_
                  | refine QBlock.ret ?_
                  | refine LOps.pure (Pure.as (lv := .atom _) rfl) rfl ?_
                exact retRet (hj5.trans (hj4.trans (hj3.trans (hj2.trans hj)))) (AllRes.cons (ResIs.tmp (v := .atom _) rfl (LV.Sub.refl _)) AllRes.nil) (bool_eq (by rw [hE, not_t hd]; rfl))
              · rw [not_f hd, Bool.true_and] at hE
                repeat first
                  | refine LOps.nil ?_
                  | refine LCode.region ?_
                  | refine LCode.skip ?_
                  | refine QThen.normal ?_
                  | refine QBlock.normal ?_
                  | refine LOps.pure (Pure.as (lv := .atom _) rfl) rfl ?_
                  | refine LOps.pure (Pure.mv (lv := .atom _) rfl) rfl ?_
                  | refine LOps.pure (Pure.add rfl rfl (by omega)) rfl ?_
                exact ⟨_, _, _, by omega, ⟨i + 1, rfl, by omega, rfl, rfl, hE⟩, ⟨rfl, rfl, int_eq (by omega), trivial⟩, HSub.drop (HSub.drop (HSub.refl _)), hj5.trans (hj4.trans hj3)⟩
        · have hge : a.funcs.length ≤ i := by have := of_decide_eq_false hc; omega
          rw [eqList_end hge (by omega)] at hE
          repeat first
            | refine LOps.nil ?_
            | refine LCode.seq ?_
            | refine LCode.region ?_
            | refine LCode.ret ?_
            | refine LCode.exit ?_
            | refine QThen.normal ?_
            | refine QThen.exit ?_
            | refine QBlock.hit ?_
            | refine LOps.pure (Pure.as (lv := .atom _) rfl) rfl ?_
          exact retRet (hj3.trans (hj2.trans hj)) (AllRes.cons (ResIs.tmp (v := .atom _) rfl (LV.Sub.refl _)) AllRes.nil) (bool_eq hE.symm)
end
end Go.Proofs.YtfodkbchknknjaaDoor
