/- Texts joined: REq2, REq3, PEq, GlArith, Fmt5. -/
import Derived.StillTail
import Derived.Test.YtfodkbchknknjaaGreatDoorBRowU3
import Derived.Test.YtfodkbchknknjaaGreatDoorBRowU5
set_option linter.unusedVariables false
set_option linter.unusedSimpArgs false
namespace Go.Proofs.YtfodkbchknknjaaGreatDoor
open Go.GL Go.RowKit Go.Stele
set_option maxRecDepth 100000
set_option maxHeartbeats 4000000
attribute [local irreducible] LOps LCode LStep LCalls Go.GL.Pure QThen QBlock RetPost LQ LAny LLate LLateOp
section
variable {B0 : Nat} {w0 : World}
theorem sameStmts_spec : ∀ (n : Nat) (a b : List Sm), nSms a ≤ n → n ≤ 4611686018427387904 → LCalls (KC B0 w0) 40 [.list (a.map encS), .list (b.map encS)] [] (Ret (bool (eqSms a b))) := by
  intro n
  induction n using Nat.strongRecOn with
  | _ n ih =>
  intro a b hn hb
  have ha := nSms_len a
  have hla : (a.map encS).length = a.length := List.length_map _
  have hlb : (b.map encS).length = b.length := List.length_map _
  rw [eqSms_list]
  refine LCalls.intro Tryz.func40 rfl (n := 97) rfl rfl rfl ?_
  repeat first
    | refine LOps.nil ?_
    | refine LCode.seq ?_
    | refine LCode.region ?_
    | refine QThen.normal ?_
    | refine LOps.pure (Pure.as (lv := .atom _) rfl) rfl ?_
    | refine LOps.pure (Pure.mv (lv := .list _) rfl) rfl ?_
    | refine LOps.pure (Pure.llen rfl) rfl ?_
    | refine LOps.pure (Pure.neq rfl rfl) rfl ?_
  refine LCode.cond rfl (fun hc => ?_) (fun hc => ?_)
  · have hne : a.length ≠ b.length := by
      have : ¬ ((a.map encS).length : Int) = (b.map encS).length := by simpa using hc
      omega
    repeat first
      | refine LOps.nil ?_
      | refine LCode.seq ?_
      | refine LCode.region ?_
      | refine LCode.ret ?_
      | refine QThen.normal ?_
      | refine QThen.ret ?_
      | refine LOps.pure (Pure.as (lv := .atom _) rfl) rfl ?_
    exact retRet rfl (AllRes.cons (ResIs.tmp (v := .atom _) rfl (LV.Sub.refl _)) AllRes.nil) (bool_eq (eqList_len a b hne).symm)
  · have hle : a.length = b.length := by
      have : ((a.map encS).length : Int) = (b.map encS).length := by simpa using hc
      omega
    repeat first
      | refine LOps.nil ?_
      | refine LCode.seq ?_
      | refine LCode.region ?_
      | refine LCode.skip ?_
      | refine LCode.block ?_
      | refine QThen.normal ?_
      | refine LOps.pure (Pure.as (lv := .atom _) rfl) rfl ?_
    refine LCode.loopI (fun k ls H => ∃ i, k = a.length - i ∧ i ≤ a.length ∧ ls = [(0, .list (a.map encS)), (1, .list (b.map encS)), (5, int .i64 i)] ∧ H = [] ∧ eqList eqSm a b = eqList eqSm (a.drop i) (b.drop i))
      ⟨_, _, _, ⟨0, rfl, Nat.zero_le _, rfl, rfl, rfl⟩, ⟨rfl, rfl, rfl, trivial⟩, HSub.refl _⟩ ?_
    rintro k ls H ⟨i, rfl, hi, rfl, rfl, hE⟩ j hj
    repeat first
      | refine LOps.nil ?_
      | refine LCode.seq ?_
      | refine LCode.region ?_
      | refine QThen.normal ?_
      | refine LOps.pure (Pure.mv (lv := .list _) rfl) rfl ?_
      | refine LOps.pure (Pure.mv (lv := .atom _) rfl) rfl ?_
      | refine LOps.pure (Pure.llen rfl) rfl ?_
      | refine LOps.pure (Pure.lss rfl rfl) rfl ?_
    refine LCode.cond rfl (fun hc => ?_) (fun hc => ?_)
    · have hlt : i < a.length := by have := of_decide_eq_true hc; omega
      have hlt2 : i < b.length := by omega
      have hna : nExs (smIndex a[i]) < n ∧ nExs (smValue a[i]) < n ∧ nSms (smThen a[i]) < n ∧ nSms (smElse a[i]) < n := by
        have h1 := nSms_mem (List.getElem_mem hlt)
        have h2 := nSm_eq a[i]
        omega
      repeat first
        | refine LCode.seq ?_
        | refine LCode.skip ?_
        | refine LCode.block ?_
        | refine QThen.normal ?_
      have hpt := eqSm_parts a[i] b[i]
      refine LCode.cut [(0, .list (a.map encS)), (1, .list (b.map encS)), (5, int .i64 i), (96, bool (!eqSm a[i] b[i]))] ?_ (fun j2 hj2 => ?_)
      · refine LCode.quiet (by kernel_rfl) ?_
        repeat first
          | refine LQ.pure (Pure.mv (lv := .list _) rfl) rfl ?_
          | refine LQ.pure (Pure.mv (lv := .atom _) rfl) rfl ?_
        refine LQ.pure (Pure.ixRef (el' := encS a[i]) (cs := [_, _, _, _, _, _]) rfl rfl (by omega) (map_get _ _ _ hlt) rfl rfl) rfl ?_
        repeat first
          | refine LQ.pure (Pure.mv (lv := .list _) rfl) rfl ?_
          | refine LQ.pure (Pure.mv (lv := .atom _) rfl) rfl ?_
          | refine LQ.pure (Pure.field1 rfl rfl) rfl ?_
          | refine LQ.pure (Pure.loadRef (c := .atom _) rfl rfl) rfl ?_
        refine LQ.pure (Pure.ixRef (el' := encS b[i]) (cs := [_, _, _, _, _, _]) rfl rfl (by omega) (map_get _ _ _ hlt2) rfl rfl) rfl ?_
        repeat first
          | refine LQ.pure (Pure.mv (lv := .atom _) rfl) rfl ?_
          | refine LQ.pure (Pure.neq rfl rfl) rfl ?_
          | refine LQ.pure (Pure.field1 rfl rfl) rfl ?_
          | refine LQ.pure (Pure.loadRef (c := .atom _) rfl rfl) rfl ?_
        refine LQ.bcase 28 rfl (fun h1 => ?_) (fun h1 => ?_)
        · repeat first
            | refine LQ.pure (Pure.mv (lv := .atom _) rfl) rfl ?_
            | refine LQ.pure (Pure.pickT (lv := .atom _) rfl rfl) rfl ?_
            | refine LQ.skip rfl rfl rfl rfl ?_
            | refine LQ.nil ?_
            | refine QThen.normal ?_
          exact ⟨⟨rfl, rfl, rfl, bool_eq (by rw [hpt, not_t h1]; rfl), trivial⟩, rfl, rfl⟩
        · have h1' := not_f h1
          rw [h1', Bool.true_and] at hpt
          repeat first
            | refine LQ.pure (Pure.mv (lv := .list _) rfl) rfl ?_
            | refine LQ.pure (Pure.mv (lv := .atom _) rfl) rfl ?_
            | refine LQ.want rfl rfl ?_
          refine LQ.pure (Pure.ixRef (el' := encS a[i]) (cs := [_, _, _, _, _, _]) rfl rfl (by omega) (map_get _ _ _ hlt) rfl rfl) rfl ?_
          repeat first
            | refine LQ.pure (Pure.mv (lv := .list _) rfl) rfl ?_
            | refine LQ.pure (Pure.mv (lv := .atom _) rfl) rfl ?_
            | refine LQ.pure (Pure.field1 rfl rfl) rfl ?_
            | refine LQ.pure (Pure.loadRef (c := .atom _) rfl rfl) rfl ?_
            | refine LQ.want rfl rfl ?_
          refine LQ.pure (Pure.ixRef (el' := encS b[i]) (cs := [_, _, _, _, _, _]) rfl rfl (by omega) (map_get _ _ _ hlt2) rfl rfl) rfl ?_
          repeat first
            | refine LQ.pure (Pure.mv (lv := .atom _) rfl) rfl ?_
            | refine LQ.pure (Pure.field1 rfl rfl) rfl ?_
            | refine LQ.pure (Pure.loadRef (c := .atom _) rfl rfl) rfl ?_
            | refine LQ.pure (Pure.sneq rfl rfl) rfl ?_
            | refine LQ.pure (Pure.pickF (lv := .atom _) rfl rfl) rfl ?_
            | refine LQ.want rfl rfl ?_
          refine LQ.bcase 41 rfl (fun h2 => ?_) (fun h2 => ?_)
          · repeat first
              | refine LQ.pure (Pure.mv (lv := .atom _) rfl) rfl ?_
              | refine LQ.pure (Pure.pickT (lv := .atom _) rfl rfl) rfl ?_
              | refine LQ.skip rfl rfl rfl rfl ?_
              | refine LQ.nil ?_
              | refine QThen.normal ?_
            exact ⟨⟨rfl, rfl, rfl, bool_eq (by rw [hpt, not_t h2]; rfl), trivial⟩, rfl, rfl⟩
          · have h2' := not_f h2
            rw [h2', Bool.true_and] at hpt
            repeat first
              | refine LQ.pure (Pure.mv (lv := .list _) rfl) rfl ?_
              | refine LQ.pure (Pure.mv (lv := .atom _) rfl) rfl ?_
              | refine LQ.want rfl rfl ?_
            refine LQ.pure (Pure.ixRef (el' := encS a[i]) (cs := [_, _, _, _, _, _]) rfl rfl (by omega) (map_get _ _ _ hlt) rfl rfl) rfl ?_
            repeat first
              | refine LQ.pure (Pure.mv (lv := .list _) rfl) rfl ?_
              | refine LQ.pure (Pure.mv (lv := .atom _) rfl) rfl ?_
              | refine LQ.pure (Pure.field1 rfl rfl) rfl ?_
              | refine LQ.pure (Pure.loadRef (c := .list _) rfl rfl) rfl ?_
              | refine LQ.want rfl rfl ?_
            refine LQ.pure (Pure.ixRef (el' := encS b[i]) (cs := [_, _, _, _, _, _]) rfl rfl (by omega) (map_get _ _ _ hlt2) rfl rfl) rfl ?_
            repeat first
              | refine LQ.pure (Pure.field1 rfl rfl) rfl ?_
              | refine LQ.pure (Pure.loadRef (c := .list _) rfl rfl) rfl ?_
              | refine LQ.want rfl rfl ?_
            refine LQ.call (args := [_, _]) (v := .bool (eqExs (smIndex a[i]) (smIndex b[i]))) (ret_any (sameExprs_spec _ (smIndex a[i]) (smIndex b[i]) (Nat.le_refl _) (by omega))) rfl ?_
            repeat first
              | refine LQ.pure (Pure.mv (lv := .atom _) rfl) rfl ?_
              | refine LQ.pure (Pure.pickF (lv := .atom _) rfl rfl) rfl ?_
              | refine LQ.pure (Pure.not rfl) rfl ?_
              | refine LQ.want rfl rfl ?_
            refine LQ.bcase 55 rfl (fun h3 => ?_) (fun h3 => ?_)
            · repeat first
                | refine LQ.pure (Pure.mv (lv := .atom _) rfl) rfl ?_
                | refine LQ.pure (Pure.pickT (lv := .atom _) rfl rfl) rfl ?_
                | refine LQ.skip rfl rfl rfl rfl ?_
                | refine LQ.nil ?_
                | refine QThen.normal ?_
              exact ⟨⟨rfl, rfl, rfl, bool_eq (by rw [hpt, not_t h3]; rfl), trivial⟩, rfl, rfl⟩
            · have h3' := not_f h3
              rw [h3', Bool.true_and] at hpt
              repeat first
                | refine LQ.pure (Pure.mv (lv := .list _) rfl) rfl ?_
                | refine LQ.pure (Pure.mv (lv := .atom _) rfl) rfl ?_
                | refine LQ.want rfl rfl ?_
              refine LQ.pure (Pure.ixRef (el' := encS a[i]) (cs := [_, _, _, _, _, _]) rfl rfl (by omega) (map_get _ _ _ hlt) rfl rfl) rfl ?_
              repeat first
                | refine LQ.pure (Pure.mv (lv := .list _) rfl) rfl ?_
                | refine LQ.pure (Pure.mv (lv := .atom _) rfl) rfl ?_
                | refine LQ.pure (Pure.field1 rfl rfl) rfl ?_
                | refine LQ.pure (Pure.loadRef (c := .list _) rfl rfl) rfl ?_
                | refine LQ.want rfl rfl ?_
              refine LQ.pure (Pure.ixRef (el' := encS b[i]) (cs := [_, _, _, _, _, _]) rfl rfl (by omega) (map_get _ _ _ hlt2) rfl rfl) rfl ?_
              repeat first
                | refine LQ.pure (Pure.field1 rfl rfl) rfl ?_
                | refine LQ.pure (Pure.loadRef (c := .list _) rfl rfl) rfl ?_
                | refine LQ.want rfl rfl ?_
              refine LQ.call (args := [_, _]) (v := .bool (eqExs (smValue a[i]) (smValue b[i]))) (ret_any (sameExprs_spec _ (smValue a[i]) (smValue b[i]) (Nat.le_refl _) (by omega))) rfl ?_
              repeat first
                | refine LQ.pure (Pure.mv (lv := .atom _) rfl) rfl ?_
                | refine LQ.pure (Pure.pickF (lv := .atom _) rfl rfl) rfl ?_
                | refine LQ.pure (Pure.not rfl) rfl ?_
                | refine LQ.want rfl rfl ?_
              refine LQ.bcase 69 rfl (fun h4 => ?_) (fun h4 => ?_)
              · repeat first
                  | refine LQ.pure (Pure.mv (lv := .atom _) rfl) rfl ?_
                  | refine LQ.pure (Pure.pickT (lv := .atom _) rfl rfl) rfl ?_
                  | refine LQ.skip rfl rfl rfl rfl ?_
                  | refine LQ.nil ?_
                  | refine QThen.normal ?_
                exact ⟨⟨rfl, rfl, rfl, bool_eq (by rw [hpt, not_t h4]; rfl), trivial⟩, rfl, rfl⟩
              · have h4' := not_f h4
                rw [h4', Bool.true_and] at hpt
                repeat first
                  | refine LQ.pure (Pure.mv (lv := .list _) rfl) rfl ?_
                  | refine LQ.pure (Pure.mv (lv := .atom _) rfl) rfl ?_
                  | refine LQ.want rfl rfl ?_
                refine LQ.pure (Pure.ixRef (el' := encS a[i]) (cs := [_, _, _, _, _, _]) rfl rfl (by omega) (map_get _ _ _ hlt) rfl rfl) rfl ?_
                repeat first
                  | refine LQ.pure (Pure.mv (lv := .list _) rfl) rfl ?_
                  | refine LQ.pure (Pure.mv (lv := .atom _) rfl) rfl ?_
                  | refine LQ.pure (Pure.field1 rfl rfl) rfl ?_
                  | refine LQ.pure (Pure.loadRef (c := .list _) rfl rfl) rfl ?_
                  | refine LQ.want rfl rfl ?_
                refine LQ.pure (Pure.ixRef (el' := encS b[i]) (cs := [_, _, _, _, _, _]) rfl rfl (by omega) (map_get _ _ _ hlt2) rfl rfl) rfl ?_
                repeat first
                  | refine LQ.pure (Pure.field1 rfl rfl) rfl ?_
                  | refine LQ.pure (Pure.loadRef (c := .list _) rfl rfl) rfl ?_
                  | refine LQ.want rfl rfl ?_
                refine LQ.call (args := [_, _]) (v := .bool (eqSms (smThen a[i]) (smThen b[i]))) (ret_any (by
                  have := ih _ hna.2.2.1 (smThen a[i]) (smThen b[i]) (Nat.le_refl _) (by omega)
                  rw [← encThen_eq, ← encThen_eq] at this
                  exact this)) rfl ?_
                repeat first
                  | refine LQ.pure (Pure.mv (lv := .atom _) rfl) rfl ?_
                  | refine LQ.pure (Pure.pickF (lv := .atom _) rfl rfl) rfl ?_
                  | refine LQ.pure (Pure.not rfl) rfl ?_
                  | refine LQ.want rfl rfl ?_
                refine LQ.bcase 83 rfl (fun h5 => ?_) (fun h5 => ?_)
                · repeat first
                    | refine LQ.pure (Pure.pickT (lv := .atom _) rfl rfl) rfl ?_
                    | refine LQ.skip rfl rfl rfl rfl ?_
                    | refine LQ.nil ?_
                    | refine QThen.normal ?_
                  exact ⟨⟨rfl, rfl, rfl, bool_eq (by rw [hpt, not_t h5]; rfl), trivial⟩, rfl, rfl⟩
                · have h5' := not_f h5
                  rw [h5', Bool.true_and] at hpt
                  repeat first
                    | refine LQ.pure (Pure.mv (lv := .list _) rfl) rfl ?_
                    | refine LQ.pure (Pure.mv (lv := .atom _) rfl) rfl ?_
                    | refine LQ.want rfl rfl ?_
                  refine LQ.pure (Pure.ixRef (el' := encS a[i]) (cs := [_, _, _, _, _, _]) rfl rfl (by omega) (map_get _ _ _ hlt) rfl rfl) rfl ?_
                  repeat first
                    | refine LQ.pure (Pure.mv (lv := .list _) rfl) rfl ?_
                    | refine LQ.pure (Pure.mv (lv := .atom _) rfl) rfl ?_
                    | refine LQ.pure (Pure.field1 rfl rfl) rfl ?_
                    | refine LQ.pure (Pure.loadRef (c := .list _) rfl rfl) rfl ?_
                    | refine LQ.want rfl rfl ?_
                  refine LQ.pure (Pure.ixRef (el' := encS b[i]) (cs := [_, _, _, _, _, _]) rfl rfl (by omega) (map_get _ _ _ hlt2) rfl rfl) rfl ?_
                  repeat first
                    | refine LQ.pure (Pure.field1 rfl rfl) rfl ?_
                    | refine LQ.pure (Pure.loadRef (c := .list _) rfl rfl) rfl ?_
                    | refine LQ.want rfl rfl ?_
                  refine LQ.call (args := [_, _]) (v := .bool (eqSms (smElse a[i]) (smElse b[i]))) (ret_any (by
                    have := ih _ hna.2.2.2 (smElse a[i]) (smElse b[i]) (Nat.le_refl _) (by omega)
                    rw [← encElse_eq, ← encElse_eq] at this
                    exact this)) rfl ?_
                  repeat first
                    | refine LQ.pure (Pure.pickF (lv := .atom _) rfl rfl) rfl ?_
                    | refine LQ.pure (Pure.not rfl) rfl ?_
                    | refine LQ.want rfl rfl ?_
                    | refine LQ.nil ?_
                    | refine QThen.normal ?_
                  exact ⟨⟨rfl, rfl, rfl, bool_eq (by rw [hpt]), trivial⟩, rfl, rfl⟩
      · rw [eqList_drop hlt hlt2] at hE
        refine LCode.cond rfl (fun hd => ?_) (fun hd => ?_)
        · have hd' : eqSm a[i] b[i] = false := by simpa using hd
          repeat first
            | refine LOps.nil ?_
            | refine LCode.seq ?_
            | refine LCode.region ?_
            | refine LCode.ret ?_
            | refine QThen.normal ?_
            | refine QThen.ret ?_
            | refine QBlock.ret ?_
            | refine LOps.pure (Pure.as (lv := .atom _) rfl) rfl ?_
          exact retRet (hj2.trans hj) (AllRes.cons (ResIs.tmp (v := .atom _) rfl (LV.Sub.refl _)) AllRes.nil) (bool_eq (by rw [hE, hd', Bool.false_and]))
        · have hd' : eqSm a[i] b[i] = true := by simpa using hd
          rw [hd', Bool.true_and] at hE
          repeat first
            | refine LOps.nil ?_
            | refine LCode.region ?_
            | refine LCode.skip ?_
            | refine QThen.normal ?_
            | refine QBlock.normal ?_
            | refine LOps.pure (Pure.as (lv := .atom _) rfl) rfl ?_
            | refine LOps.pure (Pure.mv (lv := .atom _) rfl) rfl ?_
            | refine LOps.pure (Pure.add rfl rfl (by omega)) rfl ?_
          exact ⟨_, _, _, by omega, ⟨i + 1, rfl, by omega, rfl, rfl, hE⟩, ⟨rfl, rfl, int_eq (by omega), trivial⟩, HSub.refl _, hj2.trans hj⟩
    · have hge : a.length ≤ i := by have := of_decide_eq_false hc; omega
      rw [eqList_end hge (by omega)] at hE
      repeat first
        | refine LOps.nil ?_
        | refine LCode.seq ?_
        | refine LCode.region ?_
        | refine LCode.ret ?_
        | refine LCode.exit ?_
        | refine QThen.normal ?_
        | refine QThen.exit ?_
        | refine QBlock.hit ?_
        | refine LOps.pure (Pure.as (lv := .atom _) rfl) rfl ?_
      exact retRet hj (AllRes.cons (ResIs.tmp (v := .atom _) rfl (LV.Sub.refl _)) AllRes.nil) (bool_eq hE.symm)
end
end Go.Proofs.YtfodkbchknknjaaGreatDoor
namespace Go.Proofs.YtfodkbchknknjaaGreatDoor
open Go.GL Go.RowKit Go.Stele
set_option maxRecDepth 100000
set_option maxHeartbeats 4000000
instance : TPair Tryz.prog 70 := .of (by kernel_rfl) (by kernel_rfl) (by kernel_rfl)
/-- A program that is not too great. -/
structure PrOk (p : Pr) : Prop where
  size : nPr p ≤ 1000000000
  ars : ∀ a ∈ p.arrays, a.name.length ≤ 1000000000 ∧ a.size ≤ 4294967296
theorem fn_len {l : List FnD} {i : Nat} (h : i < l.length) : (l[i]).params.length + (l[i]).locals.length + nSms (l[i]).body ≤ nFns l := by
  have h1 := nFns_mem (List.getElem_mem h)
  unfold nFn at h1
  omega
theorem eqFn_parts (a b : FnD) : eqFn a b = (decide (a.name = b.name) && eqNames a.params b.params && eqNames a.locals b.locals && eqSms a.body b.body) := rfl
theorem eqAr_parts (a b : Ar) : eqAr a b = (decide (a.name = b.name) && decide ((a.size : Int) = (b.size : Int))) := rfl
attribute [local irreducible] LOps LCode LStep LCalls Go.GL.Pure QThen QBlock RetPost LQ LAny LLate LLateOp
section
variable {B0 : Nat} {w0 : World}
theorem equal_spec (a b : Pr) (ha : PrOk a) (hb : PrOk b) : LCalls (KC B0 w0) 14 [encPr a, encPr b] [] (Ret (bool (eqPr a b))) := by
  have hsz := ha.size
  unfold nPr at hsz
  have hfl := nFns_len a.funcs
  have h1a : (a.arrays.map encAr).length = a.arrays.length := List.length_map _
  have h1b : (b.arrays.map encAr).length = b.arrays.length := List.length_map _
  have h2a : (a.funcs.map encFn).length = a.funcs.length := List.length_map _
  have h2b : (b.funcs.map encFn).length = b.funcs.length := List.length_map _
  refine LCalls.intro Tryz.func14 rfl (n := 97) rfl rfl rfl ?_
  repeat first
    | refine LCode.seq ?_
    | refine LCode.region ?_
  refine LOps.step (S.box (cs := [.list (a.vars.map str), .list (a.arrays.map encAr), .list (a.funcs.map encFn)]) rfl fun b2 => ?_) rfl
  refine LOps.step (S.box (cs := [.list (b.vars.map str), .list (b.arrays.map encAr), .list (b.funcs.map encFn)]) rfl fun b3 => ?_) rfl
  repeat first
    | refine LOps.nil ?_
    | refine LCode.seq ?_
    | refine LCode.region ?_
    | refine QThen.normal ?_
    | refine LOps.pure (Pure.as (lv := .atom _) rfl) rfl ?_
    | refine LOps.pure (Pure.fieldH rfl) rfl ?_
    | refine LOps.pure (Pure.loadH (c := .list _) rfl (List.Mem.head _) rfl) rfl ?_
    | refine LOps.pure (Pure.loadH (c := .list _) rfl (List.Mem.tail _ (List.Mem.head _)) rfl) rfl ?_
  refine LOps.cut [(2, ptr b2 0), (3, ptr b3 0), (32, bool (!(eqNames a.vars b.vars && decide (a.arrays.length = b.arrays.length) && decide (a.funcs.length = b.funcs.length))))] ?_ (fun j hj => ?_)
  · refine LOps.step (S.fn [_, _] rfl (sameNames_spec a.vars b.vars (by omega)) ?_) rfl
    repeat first
      | refine LOps.pure (Pure.not rfl) rfl ?_
      | refine LOps.pure (Pure.mv (lv := .atom _) rfl) rfl ?_
    refine LOps.bcase 15 rfl (fun h1 => ?_) (fun h1 => ?_)
    · repeat first
        | refine LOps.nil ?_
        | refine QThen.normal ?_
        | refine LOps.pure (Pure.mv (lv := .atom _) rfl) rfl ?_
        | refine LOps.pure (Pure.pickT (lv := .atom _) rfl rfl) rfl ?_
        | refine LOps.skip rfl rfl rfl rfl ?_
      exact ⟨⟨rfl, rfl, bool_eq (by rw [not_t h1]; rfl), trivial⟩, rfl, rfl⟩
    · repeat first
        | refine LOps.pure (Pure.fieldH rfl) rfl ?_
        | refine LOps.pure (Pure.loadH (c := .list _) rfl (List.Mem.head _) rfl) rfl ?_
        | refine LOps.pure (Pure.loadH (c := .list _) rfl (List.Mem.tail _ (List.Mem.head _)) rfl) rfl ?_
        | refine LOps.pure (Pure.mv (lv := .atom _) rfl) rfl ?_
        | refine LOps.pure (Pure.llen rfl) rfl ?_
        | refine LOps.pure (Pure.neq rfl rfl) rfl ?_
        | refine LOps.pure (Pure.pickF (lv := .atom _) rfl rfl) rfl ?_
        | refine LOps.want rfl rfl ?_
      have e2 : (!decide (((a.arrays.map encAr).length : Int) = ((b.arrays.map encAr).length : Int))) = !decide (a.arrays.length = b.arrays.length) := by
        rw [h1a, h1b]
        congr 1
        rw [decide_eq_decide]
        omega
      refine LOps.bcase 24 rfl (fun h2 => ?_) (fun h2 => ?_)
      · rw [e2] at h2
        repeat first
          | refine LOps.nil ?_
          | refine QThen.normal ?_
          | refine LOps.pure (Pure.pickT (lv := .atom _) rfl rfl) rfl ?_
          | refine LOps.skip rfl rfl rfl rfl ?_
        exact ⟨⟨rfl, rfl, bool_eq (by rw [not_f h1, not_t h2]; rfl), trivial⟩, rfl, rfl⟩
      · rw [e2] at h2
        repeat first
          | refine LOps.nil ?_
          | refine QThen.normal ?_
          | refine LOps.pure (Pure.fieldH rfl) rfl ?_
          | refine LOps.pure (Pure.loadH (c := .list _) rfl (List.Mem.head _) rfl) rfl ?_
          | refine LOps.pure (Pure.loadH (c := .list _) rfl (List.Mem.tail _ (List.Mem.head _)) rfl) rfl ?_
          | refine LOps.pure (Pure.llen rfl) rfl ?_
          | refine LOps.pure (Pure.neq rfl rfl) rfl ?_
          | refine LOps.pure (Pure.pickF (lv := .atom _) rfl rfl) rfl ?_
          | refine LOps.want rfl rfl ?_
        refine ⟨⟨rfl, rfl, bool_eq ?_, trivial⟩, rfl, rfl⟩
        rw [not_f h1, not_f h2]
        show (!decide (((a.funcs.map encFn).length : Int) = ((b.funcs.map encFn).length : Int))) = _
        rw [h2a, h2b, Bool.true_and, Bool.true_and]
        congr 1
        rw [decide_eq_decide]
        omega
  · skip
    refine LCode.cond rfl (fun hc => ?_) (fun hc => ?_)
    · repeat first
        | refine LOps.nil ?_
        | refine LCode.seq ?_
        | refine LCode.region ?_
        | refine LCode.ret ?_
        | refine QThen.normal ?_
        | refine QThen.ret ?_
        | refine LOps.pure (Pure.as (lv := .atom _) rfl) rfl ?_
      refine retRet hj (AllRes.cons (ResIs.tmp (v := .atom _) rfl (LV.Sub.refl _)) AllRes.nil) (bool_eq ?_)
      have hx := not_t hc
      have : ¬ eqPr a b = true := by
        rw [eqPr_iff]
        rintro rfl
        rw [(eqNames_iff _ _).2 rfl] at hx
        simp at hx
      exact (Bool.eq_false_iff.2 this).symm
    · have hx := not_f hc
      simp only [Bool.and_eq_true, decide_eq_true_eq] at hx
      obtain ⟨⟨hv, hla⟩, hlf⟩ := hx
      have hE0 : eqPr a b = (eqList eqAr a.arrays b.arrays && eqList eqFn a.funcs b.funcs) := by rw [eqPr, hv, Bool.true_and]
      repeat first
        | refine LOps.nil ?_
        | refine LCode.seq ?_
        | refine LCode.region ?_
        | refine LCode.skip ?_
        | refine LCode.block ?_
        | refine QThen.normal ?_
        | refine LOps.pure (Pure.as (lv := .atom _) rfl) rfl ?_
      refine LCode.loopI (fun k ls H => ∃ i, k = a.arrays.length - i ∧ i ≤ a.arrays.length ∧ ls = [(2, ptr b2 0), (3, ptr b3 0), (5, int .i64 i)] ∧ H = [(b3, .cells 27 [.list (b.vars.map str), .list (b.arrays.map encAr), .list (b.funcs.map encFn)]), (b2, .cells 27 [.list (a.vars.map str), .list (a.arrays.map encAr), .list (a.funcs.map encFn)])] ∧ eqPr a b = (eqList eqAr (a.arrays.drop i) (b.arrays.drop i) && eqList eqFn a.funcs b.funcs))
        ⟨_, _, _, ⟨0, rfl, Nat.zero_le _, rfl, rfl, hE0⟩, ⟨rfl, rfl, rfl, trivial⟩, HSub.refl _⟩ ?_
      rintro k ls H ⟨i, rfl, hi, rfl, rfl, hE⟩ j2 hj2
      repeat first
        | refine LOps.nil ?_
        | refine LCode.seq ?_
        | refine LCode.region ?_
        | refine QThen.normal ?_
        | refine LOps.pure (Pure.fieldH rfl) rfl ?_
        | refine LOps.pure (Pure.loadH (c := .list _) rfl (List.Mem.tail _ (List.Mem.head _)) rfl) rfl ?_
        | refine LOps.pure (Pure.mv (lv := .atom _) rfl) rfl ?_
        | refine LOps.pure (Pure.llen rfl) rfl ?_
        | refine LOps.pure (Pure.lss rfl rfl) rfl ?_
      refine LCode.cond rfl (fun hc => ?_) (fun hc => ?_)
      · have hlt : i < a.arrays.length := by have := of_decide_eq_true hc; omega
        have hlt2 : i < b.arrays.length := by omega
        obtain ⟨hn1, hs1⟩ := ha.ars _ (List.getElem_mem hlt)
        obtain ⟨hn2, hs2⟩ := hb.ars _ (List.getElem_mem hlt2)
        repeat first
          | refine LCode.seq ?_
          | refine LCode.skip ?_
          | refine LCode.block ?_
          | refine QThen.normal ?_
        refine LCode.cut [(2, ptr b2 0), (3, ptr b3 0), (5, int .i64 i), (50, bool (!eqAr a.arrays[i] b.arrays[i]))] ?_ (fun j3 hj3 => ?_)
        · refine LCode.quiet (by kernel_rfl) ?_
          repeat first
            | refine LQ.pure (Pure.fieldH rfl) rfl ?_
            | refine LQ.pure (Pure.loadH (c := .list _) rfl (List.Mem.tail _ (List.Mem.head _)) rfl) rfl ?_
            | refine LQ.pure (Pure.mv (lv := .atom _) rfl) rfl ?_
          refine LQ.pure (Pure.ixRef (el' := encAr a.arrays[i]) (cs := [_, _]) rfl rfl (by omega) (map_get _ _ _ hlt) rfl rfl) rfl ?_
          repeat first
            | refine LQ.pure (Pure.fieldH rfl) rfl ?_
            | refine LQ.pure (Pure.loadH (c := .list _) rfl (List.Mem.head _) rfl) rfl ?_
            | refine LQ.pure (Pure.mv (lv := .atom _) rfl) rfl ?_
            | refine LQ.pure (Pure.ldRefAgg (cs' := [_, _]) rfl rfl rfl) rfl ?_
          refine LQ.pure (Pure.ixRef (el' := encAr b.arrays[i]) (cs := [_, _]) rfl rfl (by omega) (map_get _ _ _ hlt2) rfl rfl) rfl ?_
          repeat first
            | refine LQ.pure (Pure.ldRefAgg (cs' := [_, _]) rfl rfl rfl) rfl ?_
          refine LQ.pure (Pure.pairNeq rfl rfl hn1 hn2 (by omega) (by omega)) rfl ?_
          repeat first
            | refine LQ.nil ?_
            | refine QThen.normal ?_
          exact ⟨⟨rfl, rfl, rfl, rfl, trivial⟩, rfl, rfl⟩
        · rw [eqList_drop hlt hlt2] at hE
          refine LCode.cond rfl (fun hd => ?_) (fun hd => ?_)
          · repeat first
              | refine LOps.nil ?_
              | refine LCode.seq ?_
              | refine LCode.region ?_
              | refine LCode.ret ?_
              | refine QThen.normal ?_
              | refine QThen.ret ?_
              | refine QBlock.ret ?_
              | refine LOps.pure (Pure.as (lv := .atom _) rfl) rfl ?_
            exact retRet (hj3.trans (hj2.trans hj)) (AllRes.cons (ResIs.tmp (v := .atom _) rfl (LV.Sub.refl _)) AllRes.nil) (bool_eq (by rw [hE, not_t hd]; rfl))
          · rw [not_f hd, Bool.true_and] at hE
            repeat first
              | refine LOps.nil ?_
              | refine LCode.region ?_
              | refine LCode.skip ?_
              | refine QThen.normal ?_
              | refine QBlock.normal ?_
              | refine LOps.pure (Pure.as (lv := .atom _) rfl) rfl ?_
              | refine LOps.pure (Pure.mv (lv := .atom _) rfl) rfl ?_
              | refine LOps.pure (Pure.add rfl rfl (by omega)) rfl ?_
            exact ⟨_, _, _, by omega, ⟨i + 1, rfl, by omega, rfl, rfl, hE⟩, ⟨rfl, rfl, int_eq (by omega), trivial⟩, HSub.refl _, hj3.trans hj2⟩
      · have hge : a.arrays.length ≤ i := by have := of_decide_eq_false hc; omega
        rw [eqList_end hge (by omega), Bool.true_and] at hE
        repeat first
          | refine LOps.nil ?_
          | refine LCode.seq ?_
          | refine LCode.region ?_
          | refine LCode.exit ?_
          | refine LCode.block ?_
          | refine QThen.normal ?_
          | refine QThen.exit ?_
          | refine QBlock.hit ?_
          | refine LOps.pure (Pure.as (lv := .atom _) rfl) rfl ?_
        refine LCode.loopI (fun k ls H => ∃ i, k = a.funcs.length - i ∧ i ≤ a.funcs.length ∧ ls = [(2, ptr b2 0), (3, ptr b3 0), (6, int .i64 i)] ∧ H = [(b3, .cells 27 [.list (b.vars.map str), .list (b.arrays.map encAr), .list (b.funcs.map encFn)]), (b2, .cells 27 [.list (a.vars.map str), .list (a.arrays.map encAr), .list (a.funcs.map encFn)])] ∧ eqPr a b = eqList eqFn (a.funcs.drop i) (b.funcs.drop i))
          ⟨_, _, _, ⟨0, rfl, Nat.zero_le _, rfl, rfl, hE⟩, ⟨rfl, rfl, rfl, trivial⟩, HSub.refl _⟩ ?_
        clear hE hge
        rintro k ls H ⟨i, rfl, hi, rfl, rfl, hE⟩ j3 hj3
        repeat first
          | refine LOps.nil ?_
          | refine LCode.seq ?_
          | refine LCode.region ?_
          | refine QThen.normal ?_
          | refine LOps.pure (Pure.fieldH rfl) rfl ?_
          | refine LOps.pure (Pure.loadH (c := .list _) rfl (List.Mem.tail _ (List.Mem.head _)) rfl) rfl ?_
          | refine LOps.pure (Pure.mv (lv := .atom _) rfl) rfl ?_
          | refine LOps.pure (Pure.llen rfl) rfl ?_
          | refine LOps.pure (Pure.lss rfl rfl) rfl ?_
        refine LCode.cond rfl (fun hc => ?_) (fun hc => ?_)
        · have hlt : i < a.funcs.length := by have := of_decide_eq_true hc; omega
          have hlt2 : i < b.funcs.length := by omega
          have hfn := fn_len hlt
          have hpt := eqFn_parts a.funcs[i] b.funcs[i]
          repeat first
            | refine LCode.seq ?_
            | refine LCode.skip ?_
            | refine LCode.block ?_
            | refine QThen.normal ?_
          refine LCode.midC (A := Nat × Nat) (fun q => [(2, ptr b2 0), (3, ptr b3 0), (6, int .i64 i), (7, ptr q.1 0), (8, ptr q.2 0)]) (fun q => (q.1, .cells 53 [str a.funcs[i].name, .list (a.funcs[i].params.map str), .list (a.funcs[i].locals.map str), .list (a.funcs[i].body.map encS)]) :: (q.2, .cells 53 [str b.funcs[i].name, .list (b.funcs[i].params.map str), .list (b.funcs[i].locals.map str), .list (b.funcs[i].body.map encS)]) :: [(b3, .cells 27 [.list (b.vars.map str), .list (b.arrays.map encAr), .list (b.funcs.map encFn)]), (b2, .cells 27 [.list (a.vars.map str), .list (a.arrays.map encAr), .list (a.funcs.map encFn)])]) (fun _ => True) ?_ ?_
          · refine LCode.draw (m := 14) rfl [(b3, .cells 27 [.list (b.vars.map str), .list (b.arrays.map encAr), .list (b.funcs.map encFn)]), (b2, .cells 27 [.list (a.vars.map str), .list (a.arrays.map encAr), .list (a.funcs.map encFn)])] ?_
            refine LAny.take (i := 0) (by first | exact HSub.nil _ | exact HSub.refl _ | exact HSub.drop (HSub.refl _) | exact HSub.pick Pick.here (HSub.nil _) | exact HSub.pick (Pick.there Pick.here) (HSub.nil _) | exact HSub.pick (Pick.there (Pick.there Pick.here)) (HSub.nil _)) rfl (by kernel_rfl) (by kernel_rfl) (by kernel_rfl) rfl (Pure.fieldH rfl) ?_
            refine LAny.take (i := 1) (by first | exact HSub.nil _ | exact HSub.refl _ | exact HSub.drop (HSub.refl _) | exact HSub.pick Pick.here (HSub.nil _) | exact HSub.pick (Pick.there Pick.here) (HSub.nil _) | exact HSub.pick (Pick.there (Pick.there Pick.here)) (HSub.nil _)) rfl (by kernel_rfl) (by kernel_rfl) (by kernel_rfl) rfl (Pure.loadH (c := .list _) rfl (List.Mem.tail _ (List.Mem.head _)) rfl) ?_
            refine LAny.take (i := 2) (by first | exact HSub.nil _ | exact HSub.refl _ | exact HSub.drop (HSub.refl _) | exact HSub.pick Pick.here (HSub.nil _) | exact HSub.pick (Pick.there Pick.here) (HSub.nil _) | exact HSub.pick (Pick.there (Pick.there Pick.here)) (HSub.nil _)) rfl (by kernel_rfl) (by kernel_rfl) (by kernel_rfl) rfl (Pure.mv (lv := .atom _) rfl) ?_
            refine LAny.take (i := 3) (HSub.refl _) rfl (by kernel_rfl) (by kernel_rfl) (by kernel_rfl) rfl (Pure.ixRef (el' := encFn a.funcs[i]) (cs := [_, _, _, _]) rfl rfl (by omega) (map_get _ _ _ hlt) rfl rfl) ?_
            refine LAny.take (i := 4) (by first | exact HSub.nil _ | exact HSub.refl _ | exact HSub.drop (HSub.refl _) | exact HSub.pick Pick.here (HSub.nil _) | exact HSub.pick (Pick.there Pick.here) (HSub.nil _) | exact HSub.pick (Pick.there (Pick.there Pick.here)) (HSub.nil _)) rfl (by kernel_rfl) (by kernel_rfl) (by kernel_rfl) rfl (Pure.ldRefAgg (cs' := [_, _, _, _]) rfl rfl rfl) ?_
            refine LAny.take (i := 5) (by first | exact HSub.nil _ | exact HSub.refl _ | exact HSub.drop (HSub.refl _) | exact HSub.pick Pick.here (HSub.nil _) | exact HSub.pick (Pick.there Pick.here) (HSub.nil _) | exact HSub.pick (Pick.there (Pick.there Pick.here)) (HSub.nil _)) rfl (by kernel_rfl) (by kernel_rfl) (by kernel_rfl) rfl (Pure.fieldH rfl) ?_
            refine LAny.take (i := 6) (by first | exact HSub.nil _ | exact HSub.refl _ | exact HSub.drop (HSub.refl _) | exact HSub.pick Pick.here (HSub.nil _) | exact HSub.pick (Pick.there Pick.here) (HSub.nil _) | exact HSub.pick (Pick.there (Pick.there Pick.here)) (HSub.nil _)) rfl (by kernel_rfl) (by kernel_rfl) (by kernel_rfl) rfl (Pure.loadH (c := .list _) rfl (List.Mem.head _) rfl) ?_
            refine LAny.take (i := 7) (by first | exact HSub.nil _ | exact HSub.refl _ | exact HSub.drop (HSub.refl _) | exact HSub.pick Pick.here (HSub.nil _) | exact HSub.pick (Pick.there Pick.here) (HSub.nil _) | exact HSub.pick (Pick.there (Pick.there Pick.here)) (HSub.nil _)) rfl (by kernel_rfl) (by kernel_rfl) (by kernel_rfl) rfl (Pure.mv (lv := .atom _) rfl) ?_
            refine LAny.take (i := 8) (HSub.refl _) rfl (by kernel_rfl) (by kernel_rfl) (by kernel_rfl) rfl (Pure.ixRef (el' := encFn b.funcs[i]) (cs := [_, _, _, _]) rfl rfl (by omega) (map_get _ _ _ hlt2) rfl rfl) ?_
            refine LAny.take (i := 9) (by first | exact HSub.nil _ | exact HSub.refl _ | exact HSub.drop (HSub.refl _) | exact HSub.pick Pick.here (HSub.nil _) | exact HSub.pick (Pick.there Pick.here) (HSub.nil _) | exact HSub.pick (Pick.there (Pick.there Pick.here)) (HSub.nil _)) rfl (by kernel_rfl) (by kernel_rfl) (by kernel_rfl) rfl (Pure.ldRefAgg (cs' := [_, _, _, _]) rfl rfl rfl) ?_
            refine LAny.late ?_ (HSub.refl _)
            refine LLate.two (i := 10) (j := 11) (by kernel_rfl) ?_ ?_
            · refine LLateOp.step (H1 := []) (F := [(b3, .cells 27 [.list (b.vars.map str), .list (b.arrays.map encAr), .list (b.funcs.map encFn)]), (b2, .cells 27 [.list (a.vars.map str), .list (a.arrays.map encAr), .list (a.funcs.map encFn)])]) rfl (.inl rfl) rfl (List.Perm.refl _) (HSub.refl _) (S.alloc fun b7 => ?_)
              refine LLate.one (i := 11) (by kernel_rfl) (LLateOp.step (H1 := []) (F := (b7, .cells 53 [str [], nilSlice, nilSlice, nilSlice]) :: [(b3, .cells 27 [.list (b.vars.map str), .list (b.arrays.map encAr), .list (b.funcs.map encFn)]), (b2, .cells 27 [.list (a.vars.map str), .list (a.arrays.map encAr), .list (a.funcs.map encFn)])]) rfl (.inl rfl) rfl (List.Perm.refl _) (HSub.drop (HSub.refl _)) (S.alloc fun b8 => ?_))
              refine LLate.one (i := 12) (by kernel_rfl) (LLateOp.step (H1 := [(b7, .cells 53 [str [], nilSlice, nilSlice, nilSlice])]) (F := (b8, .cells 53 [str [], nilSlice, nilSlice, nilSlice]) :: [(b3, .cells 27 [.list (b.vars.map str), .list (b.arrays.map encAr), .list (b.funcs.map encFn)]), (b2, .cells 27 [.list (a.vars.map str), .list (a.arrays.map encAr), .list (a.funcs.map encFn)])]) rfl (.inl rfl) rfl (Pick.there Pick.here) (HSub.drop (HSub.refl _)) (S.store (cs' := [str a.funcs[i].name, .list (a.funcs[i].params.map str), .list (a.funcs[i].locals.map str), .list (a.funcs[i].body.map encS)]) rfl Pick.here rfl rfl rfl rfl rfl ?_))
              refine LLate.one (i := 13) (by kernel_rfl) (LLateOp.step (H1 := [(b8, .cells 53 [str [], nilSlice, nilSlice, nilSlice])]) (F := (b7, .cells 53 [str a.funcs[i].name, .list (a.funcs[i].params.map str), .list (a.funcs[i].locals.map str), .list (a.funcs[i].body.map encS)]) :: [(b3, .cells 27 [.list (b.vars.map str), .list (b.arrays.map encAr), .list (b.funcs.map encFn)]), (b2, .cells 27 [.list (a.vars.map str), .list (a.arrays.map encAr), .list (a.funcs.map encFn)])]) rfl (.inl rfl) rfl (Pick.there Pick.here) (HSub.drop (HSub.refl _)) (S.store (cs' := [str b.funcs[i].name, .list (b.funcs[i].params.map str), .list (b.funcs[i].locals.map str), .list (b.funcs[i].body.map encS)]) rfl Pick.here rfl rfl rfl rfl rfl ?_))
              refine LLate.done (by kernel_rfl) ?_
              repeat first
                | refine QThen.normal ?_
              exact ⟨(b7, b8), trivial, ⟨rfl, rfl, rfl, rfl, rfl, trivial⟩, HSub.pick (Pick.there Pick.here) (HSub.refl _), rfl⟩
            · refine LLateOp.step (H1 := []) (F := [(b3, .cells 27 [.list (b.vars.map str), .list (b.arrays.map encAr), .list (b.funcs.map encFn)]), (b2, .cells 27 [.list (a.vars.map str), .list (a.arrays.map encAr), .list (a.funcs.map encFn)])]) rfl (.inl rfl) rfl (List.Perm.refl _) (HSub.refl _) (S.alloc fun b8 => ?_)
              refine LLate.one (i := 10) (by kernel_rfl) (LLateOp.step (H1 := []) (F := (b8, .cells 53 [str [], nilSlice, nilSlice, nilSlice]) :: [(b3, .cells 27 [.list (b.vars.map str), .list (b.arrays.map encAr), .list (b.funcs.map encFn)]), (b2, .cells 27 [.list (a.vars.map str), .list (a.arrays.map encAr), .list (a.funcs.map encFn)])]) rfl (.inl rfl) rfl (List.Perm.refl _) (HSub.drop (HSub.refl _)) (S.alloc fun b7 => ?_))
              refine LLate.one (i := 12) (by kernel_rfl) (LLateOp.step (H1 := [(b7, .cells 53 [str [], nilSlice, nilSlice, nilSlice])]) (F := (b8, .cells 53 [str [], nilSlice, nilSlice, nilSlice]) :: [(b3, .cells 27 [.list (b.vars.map str), .list (b.arrays.map encAr), .list (b.funcs.map encFn)]), (b2, .cells 27 [.list (a.vars.map str), .list (a.arrays.map encAr), .list (a.funcs.map encFn)])]) rfl (.inl rfl) rfl Pick.here (HSub.drop (HSub.refl _)) (S.store (cs' := [str a.funcs[i].name, .list (a.funcs[i].params.map str), .list (a.funcs[i].locals.map str), .list (a.funcs[i].body.map encS)]) rfl Pick.here rfl rfl rfl rfl rfl ?_))
              refine LLate.one (i := 13) (by kernel_rfl) (LLateOp.step (H1 := [(b8, .cells 53 [str [], nilSlice, nilSlice, nilSlice])]) (F := (b7, .cells 53 [str a.funcs[i].name, .list (a.funcs[i].params.map str), .list (a.funcs[i].locals.map str), .list (a.funcs[i].body.map encS)]) :: [(b3, .cells 27 [.list (b.vars.map str), .list (b.arrays.map encAr), .list (b.funcs.map encFn)]), (b2, .cells 27 [.list (a.vars.map str), .list (a.arrays.map encAr), .list (a.funcs.map encFn)])]) rfl (.inl rfl) rfl (Pick.there Pick.here) (HSub.drop (HSub.refl _)) (S.store (cs' := [str b.funcs[i].name, .list (b.funcs[i].params.map str), .list (b.funcs[i].locals.map str), .list (b.funcs[i].body.map encS)]) rfl Pick.here rfl rfl rfl rfl rfl ?_))
              refine LLate.done (by kernel_rfl) ?_
              repeat first
                | refine QThen.normal ?_
              exact ⟨(b7, b8), trivial, ⟨rfl, rfl, rfl, rfl, rfl, trivial⟩, HSub.pick (Pick.there Pick.here) (HSub.refl _), rfl⟩
          · rintro ⟨b7, b8⟩ _ j4 hj4
            repeat first
              | refine LCode.seq ?_
              | refine LCode.region ?_
              | refine LOps.pure (Pure.fieldH rfl) rfl ?_
              | refine LOps.pure (Pure.loadH (c := .atom _) rfl (List.Mem.head _) rfl) rfl ?_
              | refine LOps.pure (Pure.loadH (c := .atom _) rfl (List.Mem.tail _ (List.Mem.head _)) rfl) rfl ?_
              | refine LOps.pure (Pure.mv (lv := .atom _) rfl) rfl ?_
              | refine LOps.pure (Pure.sneq rfl rfl) rfl ?_
            refine LOps.cut [(2, ptr b2 0), (3, ptr b3 0), (6, int .i64 i), (96, bool (!eqFn a.funcs[i] b.funcs[i]))] ?_ (fun j5 hj5 => ?_)
            · refine LOps.bcase 73 rfl (fun h1 => ?_) (fun h1 => ?_)
              · repeat first
                  | refine LOps.nil ?_
                  | refine QThen.normal ?_
                  | refine LOps.pure (Pure.mv (lv := .atom _) rfl) rfl ?_
                  | refine LOps.pure (Pure.pickT (lv := .atom _) rfl rfl) rfl ?_
                  | refine LOps.skip rfl rfl rfl rfl ?_
                exact ⟨⟨rfl, rfl, rfl, bool_eq (by rw [hpt, not_t h1]; rfl), trivial⟩, rfl, rfl⟩
              · rw [not_f h1, Bool.true_and] at hpt
                repeat first
                  | refine LOps.pure (Pure.fieldH rfl) rfl ?_
                  | refine LOps.pure (Pure.loadH (c := .list _) rfl (List.Mem.head _) rfl) rfl ?_
                  | refine LOps.pure (Pure.loadH (c := .list _) rfl (List.Mem.tail _ (List.Mem.head _)) rfl) rfl ?_
                  | refine LOps.want rfl rfl ?_
                refine LOps.step (S.fn [_, _] rfl (sameNames_spec a.funcs[i].params b.funcs[i].params (by omega)) ?_) rfl
                repeat first
                  | refine LOps.pure (Pure.not rfl) rfl ?_
                  | refine LOps.pure (Pure.mv (lv := .atom _) rfl) rfl ?_
                  | refine LOps.pure (Pure.pickF (lv := .atom _) rfl rfl) rfl ?_
                  | refine LOps.want rfl rfl ?_
                refine LOps.bcase 81 rfl (fun h2 => ?_) (fun h2 => ?_)
                · repeat first
                    | refine LOps.nil ?_
                    | refine QThen.normal ?_
                    | refine LOps.pure (Pure.mv (lv := .atom _) rfl) rfl ?_
                    | refine LOps.pure (Pure.pickT (lv := .atom _) rfl rfl) rfl ?_
                    | refine LOps.skip rfl rfl rfl rfl ?_
                  exact ⟨⟨rfl, rfl, rfl, bool_eq (by rw [hpt, not_t h2]; rfl), trivial⟩, rfl, rfl⟩
                · rw [not_f h2, Bool.true_and] at hpt
                  repeat first
                    | refine LOps.pure (Pure.fieldH rfl) rfl ?_
                    | refine LOps.pure (Pure.loadH (c := .list _) rfl (List.Mem.head _) rfl) rfl ?_
                    | refine LOps.pure (Pure.loadH (c := .list _) rfl (List.Mem.tail _ (List.Mem.head _)) rfl) rfl ?_
                    | refine LOps.want rfl rfl ?_
                  refine LOps.step (S.fn [_, _] rfl (sameNames_spec a.funcs[i].locals b.funcs[i].locals (by omega)) ?_) rfl
                  repeat first
                    | refine LOps.pure (Pure.not rfl) rfl ?_
                    | refine LOps.pure (Pure.mv (lv := .atom _) rfl) rfl ?_
                    | refine LOps.pure (Pure.pickF (lv := .atom _) rfl rfl) rfl ?_
                    | refine LOps.want rfl rfl ?_
                  refine LOps.bcase 89 rfl (fun h3 => ?_) (fun h3 => ?_)
                  · repeat first
                      | refine LOps.nil ?_
                      | refine QThen.normal ?_
                      | refine LOps.pure (Pure.pickT (lv := .atom _) rfl rfl) rfl ?_
                      | refine LOps.skip rfl rfl rfl rfl ?_
                    exact ⟨⟨rfl, rfl, rfl, bool_eq (by rw [hpt, not_t h3]; rfl), trivial⟩, rfl, rfl⟩
                  · rw [not_f h3, Bool.true_and] at hpt
                    repeat first
                      | refine LOps.pure (Pure.fieldH rfl) rfl ?_
                      | refine LOps.pure (Pure.loadH (c := .list _) rfl (List.Mem.head _) rfl) rfl ?_
                      | refine LOps.pure (Pure.loadH (c := .list _) rfl (List.Mem.tail _ (List.Mem.head _)) rfl) rfl ?_
                      | refine LOps.want rfl rfl ?_
                    refine LOps.step (S.fn [_, _] rfl (sameStmts_spec _ a.funcs[i].body b.funcs[i].body (Nat.le_refl _) (by omega)) ?_) rfl
                    repeat first
                      | refine LOps.nil ?_
                      | refine QThen.normal ?_
                      | refine LOps.pure (Pure.not rfl) rfl ?_
                      | refine LOps.pure (Pure.pickF (lv := .atom _) rfl rfl) rfl ?_
                      | refine LOps.want rfl rfl ?_
                    exact ⟨⟨rfl, rfl, rfl, bool_eq (by rw [hpt]), trivial⟩, rfl, rfl⟩
            · rw [eqList_drop hlt hlt2] at hE
              refine LCode.cond rfl (fun hd => ?_) (fun hd => ?_)
              · repeat first
                  | refine LOps.nil ?_
                  | refine LCode.seq ?_
                  | refine LCode.region ?_
                  | refine LCode.ret ?_
                  | refine QThen.normal ?_
                  | refine QThen.ret ?_
                  | refine QBlock.ret ?_
                  | refine LOps.pure (Pure.as (lv := .atom _) rfl) rfl ?_
                exact retRet (hj5.trans (hj4.trans (hj3.trans (hj2.trans hj)))) (AllRes.cons (ResIs.tmp (v := .atom _) rfl (LV.Sub.refl _)) AllRes.nil) (bool_eq (by rw [hE, not_t hd]; rfl))
              · rw [not_f hd, Bool.true_and] at hE
                repeat first
                  | refine LOps.nil ?_
                  | refine LCode.region ?_
                  | refine LCode.skip ?_
                  | refine QThen.normal ?_
                  | refine QBlock.normal ?_
                  | refine LOps.pure (Pure.as (lv := .atom _) rfl) rfl ?_
                  | refine LOps.pure (Pure.mv (lv := .atom _) rfl) rfl ?_
                  | refine LOps.pure (Pure.add rfl rfl (by omega)) rfl ?_
                exact ⟨_, _, _, by omega, ⟨i + 1, rfl, by omega, rfl, rfl, hE⟩, ⟨rfl, rfl, int_eq (by omega), trivial⟩, HSub.drop (HSub.drop (HSub.refl _)), hj5.trans (hj4.trans hj3)⟩
        · have hge : a.funcs.length ≤ i := by have := of_decide_eq_false hc; omega
          rw [eqList_end hge (by omega)] at hE
          repeat first
            | refine LOps.nil ?_
            | refine LCode.seq ?_
            | refine LCode.region ?_
            | refine LCode.ret ?_
            | refine LCode.exit ?_
            | refine QThen.normal ?_
            | refine QThen.exit ?_
            | refine QBlock.hit ?_
            | refine LOps.pure (Pure.as (lv := .atom _) rfl) rfl ?_
          exact retRet (hj3.trans (hj2.trans hj)) (AllRes.cons (ResIs.tmp (v := .atom _) rfl (LV.Sub.refl _)) AllRes.nil) (bool_eq hE.symm)
end
end Go.Proofs.YtfodkbchknknjaaGreatDoor
namespace Go.Proofs.YtfodkbchknknjaaGreatDoor
open Go.GL Go.RowKit Go.Stele
set_option maxRecDepth 100000
set_option maxHeartbeats 4000000
attribute [local irreducible] LOps LCode LStep LCalls Go.GL.Pure QThen QBlock RetPost LQ LAny LLate LLateOp
section
variable {B0 : Nat} {w0 : World}
/-- equalExpr, given the lists of arguments. -/
theorem eqE_spec (x y : Ex) (h : LCalls (KC B0 w0) 108 [.list ((exArgs x).map encE), .list ((exArgs y).map encE), .atom (.func (.func 109) #[] #[])] [] (Ret (bool (eqExs (exArgs x) (exArgs y))))) :
    LCalls (KC B0 w0) 109 [encE x, encE y] [] (Ret (bool (eqEx x y))) := by
  have hpt := eqEx_parts x y
  rw [← encArgs_eq, ← encArgs_eq] at h
  refine LCalls.intro Tryz.func109 rfl (n := 31) rfl rfl rfl ?_
  repeat first
    | refine LCode.seq ?_
    | refine LCode.region ?_
  refine LOps.step (S.box (cs := [str (exOp x), int .u32 (exNum x), str (exName x), .list (encArgs x)]) rfl fun b2 => ?_) rfl
  refine LOps.step (S.box (cs := [str (exOp y), int .u32 (exNum y), str (exName y), .list (encArgs y)]) rfl fun b3 => ?_) rfl
  repeat first
    | refine LOps.nil ?_
    | refine LCode.seq ?_
    | refine LCode.region ?_
    | refine QThen.normal ?_
    | refine LOps.pure (Pure.as (lv := .atom _) rfl) rfl ?_
    | refine LOps.pure (Pure.fieldH rfl) rfl ?_
    | refine LOps.pure (Pure.loadH (c := .atom _) rfl (List.Mem.head _) rfl) rfl ?_
    | refine LOps.pure (Pure.loadH (c := .atom _) rfl (List.Mem.tail _ (List.Mem.head _)) rfl) rfl ?_
    | refine LOps.pure (Pure.seq rfl rfl) rfl ?_
    | refine LOps.pure (Pure.mv (lv := .atom _) rfl) rfl ?_
  refine LOps.bcase 10 rfl (fun h1 => ?_) (fun h1 => ?_)
  · rw [h1, Bool.true_and] at hpt
    repeat first
      | refine LOps.pure (Pure.fieldH rfl) rfl ?_
      | refine LOps.pure (Pure.loadH (c := .atom _) rfl (List.Mem.head _) rfl) rfl ?_
      | refine LOps.pure (Pure.loadH (c := .atom _) rfl (List.Mem.tail _ (List.Mem.head _)) rfl) rfl ?_
      | refine LOps.pure (Pure.mv (lv := .atom _) rfl) rfl ?_
      | refine LOps.pure (Pure.eql rfl rfl) rfl ?_
      | refine LOps.pure (Pure.pickT (lv := .atom _) rfl rfl) rfl ?_
      | refine LOps.want rfl rfl ?_
    refine LOps.bcase 17 rfl (fun h2 => ?_) (fun h2 => ?_)
    · rw [h2, Bool.true_and] at hpt
      repeat first
        | refine LOps.pure (Pure.fieldH rfl) rfl ?_
        | refine LOps.pure (Pure.loadH (c := .atom _) rfl (List.Mem.head _) rfl) rfl ?_
        | refine LOps.pure (Pure.loadH (c := .atom _) rfl (List.Mem.tail _ (List.Mem.head _)) rfl) rfl ?_
        | refine LOps.pure (Pure.seq rfl rfl) rfl ?_
        | refine LOps.pure (Pure.mv (lv := .atom _) rfl) rfl ?_
        | refine LOps.pure (Pure.pickT (lv := .atom _) rfl rfl) rfl ?_
        | refine LOps.want rfl rfl ?_
      refine LOps.bcase 24 rfl (fun h3 => ?_) (fun h3 => ?_)
      · rw [h3, Bool.true_and] at hpt
        repeat first
          | refine LOps.pure (Pure.fieldH rfl) rfl ?_
          | refine LOps.pure (Pure.loadH (c := .list _) rfl (List.Mem.head _) rfl) rfl ?_
          | refine LOps.pure (Pure.loadH (c := .list _) rfl (List.Mem.tail _ (List.Mem.head _)) rfl) rfl ?_
          | refine LOps.want rfl rfl ?_
        refine LOps.step (S.fn [_, _, _] rfl h ?_) rfl
        repeat first
          | refine LOps.nil ?_
          | refine LCode.ret ?_
          | refine QThen.normal ?_
          | refine LOps.pure (Pure.as (lv := .atom _) rfl) rfl ?_
          | refine LOps.pure (Pure.pickT (lv := .atom _) rfl rfl) rfl ?_
        exact retRet rfl (AllRes.cons (ResIs.tmp (v := .atom _) rfl (LV.Sub.refl _)) AllRes.nil) (bool_eq (by rw [hpt]))
      · repeat first
          | refine LOps.nil ?_
          | refine LCode.ret ?_
          | refine QThen.normal ?_
          | refine LOps.pure (Pure.as (lv := .atom _) rfl) rfl ?_
          | refine LOps.pure (Pure.pickF (lv := .atom _) rfl rfl) rfl ?_
          | refine LOps.skip rfl rfl rfl rfl ?_
        exact retRet rfl (AllRes.cons (ResIs.tmp (v := .atom _) rfl (LV.Sub.refl _)) AllRes.nil) (bool_eq (by rw [hpt, h3]; rfl))
    · repeat first
        | refine LOps.nil ?_
        | refine LCode.ret ?_
        | refine QThen.normal ?_
        | refine LOps.pure (Pure.as (lv := .atom _) rfl) rfl ?_
        | refine LOps.pure (Pure.mv (lv := .atom _) rfl) rfl ?_
        | refine LOps.pure (Pure.pickF (lv := .atom _) rfl rfl) rfl ?_
        | refine LOps.skip rfl rfl rfl rfl ?_
      exact retRet rfl (AllRes.cons (ResIs.tmp (v := .atom _) rfl (LV.Sub.refl _)) AllRes.nil) (bool_eq (by rw [hpt, h2]; rfl))
  · repeat first
      | refine LOps.nil ?_
      | refine LCode.ret ?_
      | refine QThen.normal ?_
      | refine LOps.pure (Pure.as (lv := .atom _) rfl) rfl ?_
      | refine LOps.pure (Pure.mv (lv := .atom _) rfl) rfl ?_
      | refine LOps.pure (Pure.pickF (lv := .atom _) rfl rfl) rfl ?_
      | refine LOps.skip rfl rfl rfl rfl ?_
    exact retRet rfl (AllRes.cons (ResIs.tmp (v := .atom _) rfl (LV.Sub.refl _)) AllRes.nil) (bool_eq (by rw [hpt, h1]; rfl))
theorem eqEs_spec : ∀ (n : Nat) (a b : List Ex), nExs a ≤ n → n ≤ 4611686018427387904 → LCalls (KC B0 w0) 108 [.list (a.map encE), .list (b.map encE), .atom (.func (.func 109) #[] #[])] [] (Ret (bool (eqExs a b))) := by
  intro n
  induction n using Nat.strongRecOn with
  | _ n ih =>
  intro a b hn hb
  have ha := nExs_len a
  have hrec : ∀ (i : Nat) (h : i < a.length) (y : Ex), LCalls (KC B0 w0) 109 [encE a[i], encE y] [] (Ret (bool (eqEx a[i] y))) := fun i h y => by
    have h1 := nExs_mem (List.getElem_mem h)
    have h2 := nEx_eq a[i]
    exact eqE_spec a[i] y (ih _ (by omega) (exArgs a[i]) (exArgs y) (Nat.le_refl _) (by omega))
  rw [eqExs_list]
  refine LCalls.intro Tryz.func108 rfl (n := 32) rfl rfl rfl ?_
  have hla : (a.map encE).length = a.length := List.length_map _
  have hlb : (b.map encE).length = b.length := List.length_map _
  repeat first
    | refine LOps.nil ?_
    | refine LCode.seq ?_
    | refine LCode.region ?_
    | refine QThen.normal ?_
    | refine LOps.pure (Pure.as (lv := .atom _) rfl) rfl ?_
    | refine LOps.pure (Pure.mv (lv := .list _) rfl) rfl ?_
    | refine LOps.pure (Pure.llen rfl) rfl ?_
    | refine LOps.pure (Pure.neq rfl rfl) rfl ?_
  refine LCode.cond rfl (fun hc => ?_) (fun hc => ?_)
  · have hne : a.length ≠ b.length := by
      have : ¬ ((a.map encE).length : Int) = (b.map encE).length := by simpa using hc
      omega
    repeat first
      | refine LOps.nil ?_
      | refine LCode.seq ?_
      | refine LCode.region ?_
      | refine LCode.ret ?_
      | refine QThen.normal ?_
      | refine QThen.ret ?_
      | refine LOps.pure (Pure.as (lv := .atom _) rfl) rfl ?_
    exact retRet rfl (AllRes.cons (ResIs.tmp (v := .atom _) rfl (LV.Sub.refl _)) AllRes.nil) (bool_eq (eqList_len a b hne).symm)
  · have hle : a.length = b.length := by
      have : ((a.map encE).length : Int) = (b.map encE).length := by simpa using hc
      omega
    repeat first
      | refine LOps.nil ?_
      | refine LCode.seq ?_
      | refine LCode.region ?_
      | refine LCode.skip ?_
      | refine LCode.block ?_
      | refine QThen.normal ?_
      | refine LOps.pure (Pure.mv (lv := .list _) rfl) rfl ?_
      | refine LOps.pure (Pure.mv (lv := .atom _) rfl) rfl ?_
      | refine LOps.pure (Pure.llen rfl) rfl ?_
    refine LCode.loopI (fun k ls H => ∃ i, k = a.length - i ∧ i ≤ a.length ∧ ls = [(0, .list (a.map encE)), (1, .list (b.map encE)), (2, .atom (.func (.func 109) #[] #[])), (15, .list (a.map encE)), (16, int .i64 a.length), (17, int .i64 i)] ∧ H = [] ∧ eqList eqEx a b = eqList eqEx (a.drop i) (b.drop i))
      ⟨_, _, _, ⟨0, rfl, Nat.zero_le _, rfl, rfl, rfl⟩, ⟨rfl, rfl, rfl, rfl, int_eq (by omega), rfl, trivial⟩, HSub.refl _⟩ ?_
    rintro k ls H ⟨i, rfl, hi, rfl, rfl, hE⟩ j hj
    repeat first
      | refine LOps.nil ?_
      | refine LCode.seq ?_
      | refine LCode.region ?_
      | refine QThen.normal ?_
      | refine LOps.pure (Pure.lss rfl rfl) rfl ?_
    refine LCode.cond rfl (fun hc => ?_) (fun hc => ?_)
    · have hlt : i < a.length := by have := of_decide_eq_true hc; omega
      have hlt2 : i < b.length := by omega
      repeat first
        | refine LCode.seq ?_
        | refine LCode.region ?_
        | refine LCode.skip ?_
        | refine LCode.block ?_
        | refine QThen.normal ?_
        | refine LOps.pure (Pure.mv (lv := .atom _) rfl) rfl ?_
      refine LOps.pure (Pure.ixRef (el' := encE a[i]) (cs := [_, _, _, _]) rfl rfl (by omega) (map_get _ _ _ hlt) rfl rfl) rfl ?_
      repeat first
        | refine LOps.pure (Pure.ldRefAgg (cs' := [_, _, _, _]) rfl rfl rfl) rfl ?_
      refine LOps.step (S.alloc fun b8 => ?_) rfl
      repeat first
        | refine LOps.nil ?_
        | refine LCode.seq ?_
        | refine LCode.region ?_
        | refine QThen.normal ?_
        | refine LOps.pure (Pure.as (lv := .atom _) rfl) rfl ?_
        | refine LOps.pure (Pure.mv (lv := .list _) rfl) rfl ?_
        | refine LOps.pure (Pure.mv (lv := .atom _) rfl) rfl ?_
        | refine LOps.step (S.store (cs' := [_, _, _, _]) rfl Pick.here rfl rfl rfl rfl rfl ?_) rfl
      refine LOps.pure (Pure.ixRef (el' := encE b[i]) (cs := [_, _, _, _]) rfl rfl (by omega) (map_get _ _ _ hlt2) rfl rfl) rfl ?_
      repeat first
        | refine LOps.pure (Pure.ldRefAgg (cs' := [_, _, _, _]) rfl rfl rfl) rfl ?_
      refine LOps.step (S.alloc fun b9 => ?_) rfl
      repeat first
        | refine LOps.nil ?_
        | refine LCode.seq ?_
        | refine LCode.region ?_
        | refine QThen.normal ?_
        | refine LOps.pure (Pure.mv (lv := .atom _) rfl) rfl ?_
        | refine LOps.pure (Pure.ldHAgg (cs' := [_, _, _, _]) rfl (List.Mem.head _) rfl rfl) rfl ?_
        | refine LOps.pure (Pure.ldHAgg (cs' := [_, _, _, _]) rfl (List.Mem.tail _ (List.Mem.head _)) rfl rfl) rfl ?_
        | refine LOps.step (S.store (cs' := [_, _, _, _]) rfl Pick.here rfl rfl rfl rfl rfl ?_) rfl
      refine LOps.step (S.fnV [_, _] rfl rfl (hrec i hlt b[i]) ?_) rfl
      repeat first
        | refine LOps.nil ?_
        | refine QThen.normal ?_
        | refine LOps.pure (Pure.not rfl) rfl ?_
      rw [eqList_drop hlt hlt2] at hE
      refine LCode.cond rfl (fun hd => ?_) (fun hd => ?_)
      · repeat first
          | refine LOps.nil ?_
          | refine LCode.seq ?_
          | refine LCode.region ?_
          | refine LCode.ret ?_
          | refine QThen.normal ?_
          | refine QThen.ret ?_
          | refine QBlock.ret ?_
          | refine LOps.pure (Pure.as (lv := .atom _) rfl) rfl ?_
        exact retRet hj (AllRes.cons (ResIs.tmp (v := .atom _) rfl (LV.Sub.refl _)) AllRes.nil) (bool_eq (by rw [hE, not_t hd]; rfl))
      · rw [not_f hd, Bool.true_and] at hE
        repeat first
          | refine LOps.nil ?_
          | refine LCode.region ?_
          | refine LCode.skip ?_
          | refine QThen.normal ?_
          | refine QBlock.normal ?_
          | refine LOps.pure (Pure.mv (lv := .atom _) rfl) rfl ?_
          | refine LOps.pure (Pure.add rfl rfl (by omega)) rfl ?_
        exact ⟨_, _, _, by omega, ⟨i + 1, rfl, by omega, rfl, rfl, hE⟩, ⟨rfl, rfl, rfl, rfl, rfl, int_eq (by omega), trivial⟩, HSub.nil _, hj⟩
    · have hge : a.length ≤ i := by have := of_decide_eq_false hc; omega
      rw [eqList_end hge (by omega)] at hE
      repeat first
        | refine LOps.nil ?_
        | refine LCode.seq ?_
        | refine LCode.region ?_
        | refine LCode.ret ?_
        | refine LCode.exit ?_
        | refine QThen.normal ?_
        | refine QThen.exit ?_
        | refine QBlock.hit ?_
        | refine LOps.pure (Pure.as (lv := .atom _) rfl) rfl ?_
      exact retRet hj (AllRes.cons (ResIs.tmp (v := .atom _) rfl (LV.Sub.refl _)) AllRes.nil) (bool_eq hE.symm)
theorem eqS_spec (x y : Sm) (hn : nSm x ≤ 4611686018427387904) (ht : LCalls (KC B0 w0) 69 [.list ((smThen x).map encS), .list ((smThen y).map encS), .atom (.func (.func 70) #[] #[])] [] (Ret (bool (eqSms (smThen x) (smThen y)))))
    (he : LCalls (KC B0 w0) 69 [.list ((smElse x).map encS), .list ((smElse y).map encS), .atom (.func (.func 70) #[] #[])] [] (Ret (bool (eqSms (smElse x) (smElse y))))) :
    LCalls (KC B0 w0) 70 [encS x, encS y] [] (Ret (bool (eqSm x y))) := by
  have hpt := eqSm_parts x y
  have hnn := nSm_eq x
  rw [← encThen_eq, ← encThen_eq] at ht
  rw [← encElse_eq, ← encElse_eq] at he
  refine LCalls.intro Tryz.func70 rfl (n := 45) rfl rfl rfl ?_
  repeat first
    | refine LCode.seq ?_
    | refine LCode.region ?_
  refine LOps.step (S.box (cs := [int .i64 (smKind x), str (smName x), .list ((smIndex x).map encE), .list ((smValue x).map encE), .list (encThen x), .list (encElse x)]) rfl fun b2 => ?_) rfl
  refine LOps.step (S.box (cs := [int .i64 (smKind y), str (smName y), .list ((smIndex y).map encE), .list ((smValue y).map encE), .list (encThen y), .list (encElse y)]) rfl fun b3 => ?_) rfl
  repeat first
    | refine LOps.nil ?_
    | refine LCode.seq ?_
    | refine LCode.region ?_
    | refine QThen.normal ?_
    | refine LOps.pure (Pure.as (lv := .atom _) rfl) rfl ?_
    | refine LOps.pure (Pure.fieldH rfl) rfl ?_
    | refine LOps.pure (Pure.loadH (c := .atom _) rfl (List.Mem.head _) rfl) rfl ?_
    | refine LOps.pure (Pure.loadH (c := .atom _) rfl (List.Mem.tail _ (List.Mem.head _)) rfl) rfl ?_
    | refine LOps.pure (Pure.eql rfl rfl) rfl ?_
    | refine LOps.pure (Pure.mv (lv := .atom _) rfl) rfl ?_
  refine LOps.bcase 10 rfl (fun h0 => ?_) (fun h0 => ?_)
  · rw [h0, Bool.true_and] at hpt
    repeat first
      | refine LOps.pure (Pure.fieldH rfl) rfl ?_
      | refine LOps.pure (Pure.loadH (c := .atom _) rfl (List.Mem.head _) rfl) rfl ?_
      | refine LOps.pure (Pure.loadH (c := .atom _) rfl (List.Mem.tail _ (List.Mem.head _)) rfl) rfl ?_
      | refine LOps.pure (Pure.mv (lv := .atom _) rfl) rfl ?_
      | refine LOps.pure (Pure.seq rfl rfl) rfl ?_
      | refine LOps.pure (Pure.pickT (lv := .atom _) rfl rfl) rfl ?_
      | refine LOps.want rfl rfl ?_
    refine LOps.bcase 17 rfl (fun h1 => ?_) (fun h1 => ?_)
    · rw [h1, Bool.true_and] at hpt
      repeat first
        | refine LOps.pure (Pure.fieldH rfl) rfl ?_
        | refine LOps.pure (Pure.loadH (c := .list _) rfl (List.Mem.head _) rfl) rfl ?_
        | refine LOps.pure (Pure.loadH (c := .list _) rfl (List.Mem.tail _ (List.Mem.head _)) rfl) rfl ?_
        | refine LOps.want rfl rfl ?_
      refine LOps.step (S.fn [_, _, _] rfl (eqEs_spec _ (smIndex x) (smIndex y) (Nat.le_refl _) (by omega)) ?_) rfl
      repeat first
        | refine LOps.pure (Pure.mv (lv := .atom _) rfl) rfl ?_
        | refine LOps.pure (Pure.pickT (lv := .atom _) rfl rfl) rfl ?_
      refine LOps.bcase 24 rfl (fun h2 => ?_) (fun h2 => ?_)
      · rw [h2, Bool.true_and] at hpt
        repeat first
          | refine LOps.pure (Pure.fieldH rfl) rfl ?_
          | refine LOps.pure (Pure.loadH (c := .list _) rfl (List.Mem.head _) rfl) rfl ?_
          | refine LOps.pure (Pure.loadH (c := .list _) rfl (List.Mem.tail _ (List.Mem.head _)) rfl) rfl ?_
          | refine LOps.want rfl rfl ?_
        refine LOps.step (S.fn [_, _, _] rfl (eqEs_spec _ (smValue x) (smValue y) (Nat.le_refl _) (by omega)) ?_) rfl
        repeat first
          | refine LOps.pure (Pure.mv (lv := .atom _) rfl) rfl ?_
          | refine LOps.pure (Pure.pickT (lv := .atom _) rfl rfl) rfl ?_
        refine LOps.bcase 31 rfl (fun h3 => ?_) (fun h3 => ?_)
        · rw [h3, Bool.true_and] at hpt
          repeat first
            | refine LOps.pure (Pure.fieldH rfl) rfl ?_
            | refine LOps.pure (Pure.loadH (c := .list _) rfl (List.Mem.head _) rfl) rfl ?_
            | refine LOps.pure (Pure.loadH (c := .list _) rfl (List.Mem.tail _ (List.Mem.head _)) rfl) rfl ?_
            | refine LOps.want rfl rfl ?_
          refine LOps.step (S.fn [_, _, _] rfl ht ?_) rfl
          repeat first
            | refine LOps.pure (Pure.mv (lv := .atom _) rfl) rfl ?_
            | refine LOps.pure (Pure.pickT (lv := .atom _) rfl rfl) rfl ?_
          refine LOps.bcase 38 rfl (fun h4 => ?_) (fun h4 => ?_)
          · rw [h4, Bool.true_and] at hpt
            repeat first
              | refine LOps.pure (Pure.fieldH rfl) rfl ?_
              | refine LOps.pure (Pure.loadH (c := .list _) rfl (List.Mem.head _) rfl) rfl ?_
              | refine LOps.pure (Pure.loadH (c := .list _) rfl (List.Mem.tail _ (List.Mem.head _)) rfl) rfl ?_
              | refine LOps.want rfl rfl ?_
            refine LOps.step (S.fn [_, _, _] rfl he ?_) rfl
            repeat first
              | refine LOps.nil ?_
              | refine LCode.ret ?_
              | refine QThen.normal ?_
              | refine LOps.pure (Pure.as (lv := .atom _) rfl) rfl ?_
              | refine LOps.pure (Pure.pickT (lv := .atom _) rfl rfl) rfl ?_
            exact retRet rfl (AllRes.cons (ResIs.tmp (v := .atom _) rfl (LV.Sub.refl _)) AllRes.nil) (bool_eq (by rw [hpt]))
          · repeat first
              | refine LOps.nil ?_
              | refine LCode.ret ?_
              | refine QThen.normal ?_
              | refine LOps.pure (Pure.as (lv := .atom _) rfl) rfl ?_
              | refine LOps.pure (Pure.pickF (lv := .atom _) rfl rfl) rfl ?_
              | refine LOps.skip rfl rfl rfl rfl ?_
            exact retRet rfl (AllRes.cons (ResIs.tmp (v := .atom _) rfl (LV.Sub.refl _)) AllRes.nil) (bool_eq (by rw [hpt, h4]; rfl))
        · repeat first
            | refine LOps.nil ?_
            | refine LCode.ret ?_
            | refine QThen.normal ?_
            | refine LOps.pure (Pure.as (lv := .atom _) rfl) rfl ?_
            | refine LOps.pure (Pure.mv (lv := .atom _) rfl) rfl ?_
            | refine LOps.pure (Pure.pickF (lv := .atom _) rfl rfl) rfl ?_
            | refine LOps.skip rfl rfl rfl rfl ?_
          exact retRet rfl (AllRes.cons (ResIs.tmp (v := .atom _) rfl (LV.Sub.refl _)) AllRes.nil) (bool_eq (by rw [hpt, h3]; rfl))
      · repeat first
          | refine LOps.nil ?_
          | refine LCode.ret ?_
          | refine QThen.normal ?_
          | refine LOps.pure (Pure.as (lv := .atom _) rfl) rfl ?_
          | refine LOps.pure (Pure.mv (lv := .atom _) rfl) rfl ?_
          | refine LOps.pure (Pure.pickF (lv := .atom _) rfl rfl) rfl ?_
          | refine LOps.skip rfl rfl rfl rfl ?_
        exact retRet rfl (AllRes.cons (ResIs.tmp (v := .atom _) rfl (LV.Sub.refl _)) AllRes.nil) (bool_eq (by rw [hpt, h2]; rfl))
    · repeat first
        | refine LOps.nil ?_
        | refine LCode.ret ?_
        | refine QThen.normal ?_
        | refine LOps.pure (Pure.as (lv := .atom _) rfl) rfl ?_
        | refine LOps.pure (Pure.mv (lv := .atom _) rfl) rfl ?_
        | refine LOps.pure (Pure.pickF (lv := .atom _) rfl rfl) rfl ?_
        | refine LOps.skip rfl rfl rfl rfl ?_
      exact retRet rfl (AllRes.cons (ResIs.tmp (v := .atom _) rfl (LV.Sub.refl _)) AllRes.nil) (bool_eq (by rw [hpt, h1]; rfl))
  · repeat first
      | refine LOps.nil ?_
      | refine LCode.ret ?_
      | refine QThen.normal ?_
      | refine LOps.pure (Pure.as (lv := .atom _) rfl) rfl ?_
      | refine LOps.pure (Pure.mv (lv := .atom _) rfl) rfl ?_
      | refine LOps.pure (Pure.pickF (lv := .atom _) rfl rfl) rfl ?_
      | refine LOps.skip rfl rfl rfl rfl ?_
    exact retRet rfl (AllRes.cons (ResIs.tmp (v := .atom _) rfl (LV.Sub.refl _)) AllRes.nil) (bool_eq (by rw [hpt, h0]; rfl))
theorem eqSs_spec : ∀ (n : Nat) (a b : List Sm), nSms a ≤ n → n ≤ 4611686018427387904 → LCalls (KC B0 w0) 69 [.list (a.map encS), .list (b.map encS), .atom (.func (.func 70) #[] #[])] [] (Ret (bool (eqSms a b))) := by
  intro n
  induction n using Nat.strongRecOn with
  | _ n ih =>
  intro a b hn hb
  have ha := nSms_len a
  have hrec : ∀ (i : Nat) (h : i < a.length) (y : Sm), LCalls (KC B0 w0) 70 [encS a[i], encS y] [] (Ret (bool (eqSm a[i] y))) := fun i h y => by
    have h1 := nSms_mem (List.getElem_mem h)
    have h2 := nSm_eq a[i]
    exact eqS_spec a[i] y (by omega) (ih _ (by omega) (smThen a[i]) (smThen y) (Nat.le_refl _) (by omega)) (ih _ (by omega) (smElse a[i]) (smElse y) (Nat.le_refl _) (by omega))
  rw [eqSms_list]
  refine LCalls.intro Tryz.func69 rfl (n := 32) rfl rfl rfl ?_
  have hla : (a.map encS).length = a.length := List.length_map _
  have hlb : (b.map encS).length = b.length := List.length_map _
  repeat first
    | refine LOps.nil ?_
    | refine LCode.seq ?_
    | refine LCode.region ?_
    | refine QThen.normal ?_
    | refine LOps.pure (Pure.as (lv := .atom _) rfl) rfl ?_
    | refine LOps.pure (Pure.mv (lv := .list _) rfl) rfl ?_
    | refine LOps.pure (Pure.llen rfl) rfl ?_
    | refine LOps.pure (Pure.neq rfl rfl) rfl ?_
  refine LCode.cond rfl (fun hc => ?_) (fun hc => ?_)
  · have hne : a.length ≠ b.length := by
      have : ¬ ((a.map encS).length : Int) = (b.map encS).length := by simpa using hc
      omega
    repeat first
      | refine LOps.nil ?_
      | refine LCode.seq ?_
      | refine LCode.region ?_
      | refine LCode.ret ?_
      | refine QThen.normal ?_
      | refine QThen.ret ?_
      | refine LOps.pure (Pure.as (lv := .atom _) rfl) rfl ?_
    exact retRet rfl (AllRes.cons (ResIs.tmp (v := .atom _) rfl (LV.Sub.refl _)) AllRes.nil) (bool_eq (eqList_len a b hne).symm)
  · have hle : a.length = b.length := by
      have : ((a.map encS).length : Int) = (b.map encS).length := by simpa using hc
      omega
    repeat first
      | refine LOps.nil ?_
      | refine LCode.seq ?_
      | refine LCode.region ?_
      | refine LCode.skip ?_
      | refine LCode.block ?_
      | refine QThen.normal ?_
      | refine LOps.pure (Pure.mv (lv := .list _) rfl) rfl ?_
      | refine LOps.pure (Pure.mv (lv := .atom _) rfl) rfl ?_
      | refine LOps.pure (Pure.llen rfl) rfl ?_
    refine LCode.loopI (fun k ls H => ∃ i, k = a.length - i ∧ i ≤ a.length ∧ ls = [(0, .list (a.map encS)), (1, .list (b.map encS)), (2, .atom (.func (.func 70) #[] #[])), (15, .list (a.map encS)), (16, int .i64 a.length), (17, int .i64 i)] ∧ H = [] ∧ eqList eqSm a b = eqList eqSm (a.drop i) (b.drop i))
      ⟨_, _, _, ⟨0, rfl, Nat.zero_le _, rfl, rfl, rfl⟩, ⟨rfl, rfl, rfl, rfl, int_eq (by omega), rfl, trivial⟩, HSub.refl _⟩ ?_
    rintro k ls H ⟨i, rfl, hi, rfl, rfl, hE⟩ j hj
    repeat first
      | refine LOps.nil ?_
      | refine LCode.seq ?_
      | refine LCode.region ?_
      | refine QThen.normal ?_
      | refine LOps.pure (Pure.lss rfl rfl) rfl ?_
    refine LCode.cond rfl (fun hc => ?_) (fun hc => ?_)
    · have hlt : i < a.length := by have := of_decide_eq_true hc; omega
      have hlt2 : i < b.length := by omega
      repeat first
        | refine LCode.seq ?_
        | refine LCode.region ?_
        | refine LCode.skip ?_
        | refine LCode.block ?_
        | refine QThen.normal ?_
        | refine LOps.pure (Pure.mv (lv := .atom _) rfl) rfl ?_
      refine LOps.pure (Pure.ixRef (el' := encS a[i]) (cs := [_, _, _, _, _, _]) rfl rfl (by omega) (map_get _ _ _ hlt) rfl rfl) rfl ?_
      repeat first
        | refine LOps.pure (Pure.ldRefAgg (cs' := [_, _, _, _, _, _]) rfl rfl rfl) rfl ?_
      refine LOps.step (S.alloc fun b8 => ?_) rfl
      repeat first
        | refine LOps.nil ?_
        | refine LCode.seq ?_
        | refine LCode.region ?_
        | refine QThen.normal ?_
        | refine LOps.pure (Pure.as (lv := .atom _) rfl) rfl ?_
        | refine LOps.pure (Pure.mv (lv := .list _) rfl) rfl ?_
        | refine LOps.pure (Pure.mv (lv := .atom _) rfl) rfl ?_
        | refine LOps.step (S.store (cs' := [_, _, _, _, _, _]) rfl Pick.here rfl rfl rfl rfl rfl ?_) rfl
      refine LOps.pure (Pure.ixRef (el' := encS b[i]) (cs := [_, _, _, _, _, _]) rfl rfl (by omega) (map_get _ _ _ hlt2) rfl rfl) rfl ?_
      repeat first
        | refine LOps.pure (Pure.ldRefAgg (cs' := [_, _, _, _, _, _]) rfl rfl rfl) rfl ?_
      refine LOps.step (S.alloc fun b9 => ?_) rfl
      repeat first
        | refine LOps.nil ?_
        | refine LCode.seq ?_
        | refine LCode.region ?_
        | refine QThen.normal ?_
        | refine LOps.pure (Pure.mv (lv := .atom _) rfl) rfl ?_
        | refine LOps.pure (Pure.ldHAgg (cs' := [_, _, _, _, _, _]) rfl (List.Mem.head _) rfl rfl) rfl ?_
        | refine LOps.pure (Pure.ldHAgg (cs' := [_, _, _, _, _, _]) rfl (List.Mem.tail _ (List.Mem.head _)) rfl rfl) rfl ?_
        | refine LOps.step (S.store (cs' := [_, _, _, _, _, _]) rfl Pick.here rfl rfl rfl rfl rfl ?_) rfl
      refine LOps.step (S.fnV [_, _] rfl rfl (hrec i hlt b[i]) ?_) rfl
      repeat first
        | refine LOps.nil ?_
        | refine QThen.normal ?_
        | refine LOps.pure (Pure.not rfl) rfl ?_
      rw [eqList_drop hlt hlt2] at hE
      refine LCode.cond rfl (fun hd => ?_) (fun hd => ?_)
      · repeat first
          | refine LOps.nil ?_
          | refine LCode.seq ?_
          | refine LCode.region ?_
          | refine LCode.ret ?_
          | refine QThen.normal ?_
          | refine QThen.ret ?_
          | refine QBlock.ret ?_
          | refine LOps.pure (Pure.as (lv := .atom _) rfl) rfl ?_
        exact retRet hj (AllRes.cons (ResIs.tmp (v := .atom _) rfl (LV.Sub.refl _)) AllRes.nil) (bool_eq (by rw [hE, not_t hd]; rfl))
      · rw [not_f hd, Bool.true_and] at hE
        repeat first
          | refine LOps.nil ?_
          | refine LCode.region ?_
          | refine LCode.skip ?_
          | refine QThen.normal ?_
          | refine QBlock.normal ?_
          | refine LOps.pure (Pure.mv (lv := .atom _) rfl) rfl ?_
          | refine LOps.pure (Pure.add rfl rfl (by omega)) rfl ?_
        exact ⟨_, _, _, by omega, ⟨i + 1, rfl, by omega, rfl, rfl, hE⟩, ⟨rfl, rfl, rfl, rfl, rfl, int_eq (by omega), trivial⟩, HSub.nil _, hj⟩
    · have hge : a.length ≤ i := by have := of_decide_eq_false hc; omega
      rw [eqList_end hge (by omega)] at hE
      repeat first
        | refine LOps.nil ?_
        | refine LCode.seq ?_
        | refine LCode.region ?_
        | refine LCode.ret ?_
        | refine LCode.exit ?_
        | refine QThen.normal ?_
        | refine QThen.exit ?_
        | refine QBlock.hit ?_
        | refine LOps.pure (Pure.as (lv := .atom _) rfl) rfl ?_
      exact retRet hj (AllRes.cons (ResIs.tmp (v := .atom _) rfl (LV.Sub.refl _)) AllRes.nil) (bool_eq hE.symm)
theorem eqStrs_spec (a b : List (List UInt8)) (ha : a.length ≤ 4611686018427387904) : LCalls (KC B0 w0) 41 [.list (a.map str), .list (b.map str)] [] (Ret (bool (eqList (fun a b => decide (a = b)) a b))) := by
  have hla : (a.map str).length = a.length := List.length_map _
  have hlb : (b.map str).length = b.length := List.length_map _
  refine LCalls.intro Tryz.func41 rfl (n := 26) rfl rfl rfl ?_
  repeat first
    | refine LOps.nil ?_
    | refine LCode.seq ?_
    | refine LCode.region ?_
    | refine QThen.normal ?_
    | refine LOps.pure (Pure.as (lv := .atom _) rfl) rfl ?_
    | refine LOps.pure (Pure.mv (lv := .list _) rfl) rfl ?_
    | refine LOps.pure (Pure.llen rfl) rfl ?_
    | refine LOps.pure (Pure.neq rfl rfl) rfl ?_
  refine LCode.cond rfl (fun hc => ?_) (fun hc => ?_)
  · have hne : a.length ≠ b.length := by
      have : ¬ ((a.map str).length : Int) = (b.map str).length := by simpa using hc
      omega
    repeat first
      | refine LOps.nil ?_
      | refine LCode.seq ?_
      | refine LCode.region ?_
      | refine LCode.ret ?_
      | refine QThen.normal ?_
      | refine QThen.ret ?_
      | refine LOps.pure (Pure.as (lv := .atom _) rfl) rfl ?_
    exact retRet rfl (AllRes.cons (ResIs.tmp (v := .atom _) rfl (LV.Sub.refl _)) AllRes.nil) (bool_eq (eqList_len a b hne).symm)
  · have hle : a.length = b.length := by
      have : ((a.map str).length : Int) = (b.map str).length := by simpa using hc
      omega
    repeat first
      | refine LOps.nil ?_
      | refine LCode.seq ?_
      | refine LCode.region ?_
      | refine LCode.skip ?_
      | refine LCode.block ?_
      | refine QThen.normal ?_
      | refine LOps.pure (Pure.mv (lv := .list _) rfl) rfl ?_
      | refine LOps.pure (Pure.mv (lv := .atom _) rfl) rfl ?_
      | refine LOps.pure (Pure.llen rfl) rfl ?_
    refine LCode.loopI (fun k ls H => ∃ i, k = a.length - i ∧ i ≤ a.length ∧ ls = [(0, .list (a.map str)), (1, .list (b.map str)), (12, int .i64 a.length), (13, int .i64 i)] ∧ H = [] ∧ eqList (fun a b => decide (a = b)) a b = eqList (fun a b => decide (a = b)) (a.drop i) (b.drop i))
      ⟨_, _, _, ⟨0, rfl, Nat.zero_le _, rfl, rfl, rfl⟩, ⟨rfl, rfl, int_eq (by omega), rfl, trivial⟩, HSub.refl _⟩ ?_
    rintro k ls H ⟨i, rfl, hi, rfl, rfl, hE⟩ j hj
    repeat first
      | refine LOps.nil ?_
      | refine LCode.seq ?_
      | refine LCode.region ?_
      | refine QThen.normal ?_
      | refine LOps.pure (Pure.lss rfl rfl) rfl ?_
    refine LCode.cond rfl (fun hc => ?_) (fun hc => ?_)
    · have hlt : i < a.length := by have := of_decide_eq_true hc; omega
      have hlt2 : i < b.length := by omega
      repeat first
        | refine LOps.nil ?_
        | refine LCode.seq ?_
        | refine LCode.region ?_
        | refine LCode.skip ?_
        | refine LCode.block ?_
        | refine QThen.normal ?_
        | refine LOps.pure (Pure.as (lv := .atom _) rfl) rfl ?_
        | refine LOps.pure (Pure.mv (lv := .atom _) rfl) rfl ?_
      refine LCode.cut [(0, .list (a.map str)), (1, .list (b.map str)), (12, int .i64 a.length), (13, int .i64 i), (24, bool (!decide (a[i] = b[i])))] ?_ (fun j2 hj2 => ?_)
      · refine LCode.quiet (by kernel_rfl) ?_
        repeat first
          | refine LQ.pure (Pure.mv (lv := .list _) rfl) rfl ?_
          | refine LQ.pure (Pure.mv (lv := .atom _) rfl) rfl ?_
        refine LQ.pure (Pure.ixRef (el' := str a[i]) (cs := [_]) rfl rfl (by omega) (map_get _ _ _ hlt) rfl rfl) rfl ?_
        repeat first
          | refine LQ.pure (Pure.mv (lv := .list _) rfl) rfl ?_
          | refine LQ.pure (Pure.mv (lv := .atom _) rfl) rfl ?_
          | refine LQ.pure (Pure.loadRef (c := .atom _) rfl rfl) rfl ?_
        refine LQ.pure (Pure.ixRef (el' := str b[i]) (cs := [_]) rfl rfl (by omega) (map_get _ _ _ hlt2) rfl rfl) rfl ?_
        repeat first
          | refine LQ.pure (Pure.loadRef (c := .atom _) rfl rfl) rfl ?_
          | refine LQ.pure (Pure.sneq rfl rfl) rfl ?_
          | refine LQ.nil ?_
          | refine QThen.normal ?_
        exact ⟨⟨rfl, rfl, rfl, rfl, rfl, trivial⟩, rfl, rfl⟩
      · rw [eqList_drop hlt hlt2] at hE
        refine LCode.cond rfl (fun hd => ?_) (fun hd => ?_)
        · repeat first
            | refine LOps.nil ?_
            | refine LCode.seq ?_
            | refine LCode.region ?_
            | refine LCode.ret ?_
            | refine QThen.normal ?_
            | refine QThen.ret ?_
            | refine QBlock.ret ?_
            | refine LOps.pure (Pure.as (lv := .atom _) rfl) rfl ?_
          exact retRet (hj2.trans hj) (AllRes.cons (ResIs.tmp (v := .atom _) rfl (LV.Sub.refl _)) AllRes.nil) (bool_eq (by rw [hE, not_t hd]; rfl))
        · rw [not_f hd, Bool.true_and] at hE
          repeat first
            | refine LOps.nil ?_
            | refine LCode.region ?_
            | refine LCode.skip ?_
            | refine QThen.normal ?_
            | refine QBlock.normal ?_
            | refine LOps.pure (Pure.mv (lv := .atom _) rfl) rfl ?_
            | refine LOps.pure (Pure.add rfl rfl (by omega)) rfl ?_
          exact ⟨_, _, _, by omega, ⟨i + 1, rfl, by omega, rfl, rfl, hE⟩, ⟨rfl, rfl, rfl, int_eq (by omega), trivial⟩, HSub.refl _, hj2.trans hj⟩
    · have hge : a.length ≤ i := by have := of_decide_eq_false hc; omega
      rw [eqList_end hge (by omega)] at hE
      repeat first
        | refine LOps.nil ?_
        | refine LCode.seq ?_
        | refine LCode.region ?_
        | refine LCode.ret ?_
        | refine LCode.exit ?_
        | refine QThen.normal ?_
        | refine QThen.exit ?_
        | refine QBlock.hit ?_
        | refine LOps.pure (Pure.as (lv := .atom _) rfl) rfl ?_
      exact retRet hj (AllRes.cons (ResIs.tmp (v := .atom _) rfl (LV.Sub.refl _)) AllRes.nil) (bool_eq hE.symm)
theorem eqArs_spec (a b : List Ar) (ha : a.length ≤ 4611686018427387904) (h1 : ∀ x ∈ a, x.name.length ≤ 1000000000 ∧ x.size ≤ 4294967296) (h2 : ∀ x ∈ b, x.name.length ≤ 1000000000 ∧ x.size ≤ 4294967296) : LCalls (KC B0 w0) 42 [.list (a.map encAr), .list (b.map encAr)] [] (Ret (bool (eqList eqAr a b))) := by
  have hla : (a.map encAr).length = a.length := List.length_map _
  have hlb : (b.map encAr).length = b.length := List.length_map _
  refine LCalls.intro Tryz.func42 rfl (n := 26) rfl rfl rfl ?_
  repeat first
    | refine LOps.nil ?_
    | refine LCode.seq ?_
    | refine LCode.region ?_
    | refine QThen.normal ?_
    | refine LOps.pure (Pure.as (lv := .atom _) rfl) rfl ?_
    | refine LOps.pure (Pure.mv (lv := .list _) rfl) rfl ?_
    | refine LOps.pure (Pure.llen rfl) rfl ?_
    | refine LOps.pure (Pure.neq rfl rfl) rfl ?_
  refine LCode.cond rfl (fun hc => ?_) (fun hc => ?_)
  · have hne : a.length ≠ b.length := by
      have : ¬ ((a.map encAr).length : Int) = (b.map encAr).length := by simpa using hc
      omega
    repeat first
      | refine LOps.nil ?_
      | refine LCode.seq ?_
      | refine LCode.region ?_
      | refine LCode.ret ?_
      | refine QThen.normal ?_
      | refine QThen.ret ?_
      | refine LOps.pure (Pure.as (lv := .atom _) rfl) rfl ?_
    exact retRet rfl (AllRes.cons (ResIs.tmp (v := .atom _) rfl (LV.Sub.refl _)) AllRes.nil) (bool_eq (eqList_len a b hne).symm)
  · have hle : a.length = b.length := by
      have : ((a.map encAr).length : Int) = (b.map encAr).length := by simpa using hc
      omega
    repeat first
      | refine LOps.nil ?_
      | refine LCode.seq ?_
      | refine LCode.region ?_
      | refine LCode.skip ?_
      | refine LCode.block ?_
      | refine QThen.normal ?_
      | refine LOps.pure (Pure.mv (lv := .list _) rfl) rfl ?_
      | refine LOps.pure (Pure.mv (lv := .atom _) rfl) rfl ?_
      | refine LOps.pure (Pure.llen rfl) rfl ?_
    refine LCode.loopI (fun k ls H => ∃ i, k = a.length - i ∧ i ≤ a.length ∧ ls = [(0, .list (a.map encAr)), (1, .list (b.map encAr)), (12, int .i64 a.length), (13, int .i64 i)] ∧ H = [] ∧ eqList eqAr a b = eqList eqAr (a.drop i) (b.drop i))
      ⟨_, _, _, ⟨0, rfl, Nat.zero_le _, rfl, rfl, rfl⟩, ⟨rfl, rfl, int_eq (by omega), rfl, trivial⟩, HSub.refl _⟩ ?_
    rintro k ls H ⟨i, rfl, hi, rfl, rfl, hE⟩ j hj
    repeat first
      | refine LOps.nil ?_
      | refine LCode.seq ?_
      | refine LCode.region ?_
      | refine QThen.normal ?_
      | refine LOps.pure (Pure.lss rfl rfl) rfl ?_
    refine LCode.cond rfl (fun hc => ?_) (fun hc => ?_)
    · have hlt : i < a.length := by have := of_decide_eq_true hc; omega
      have hlt2 : i < b.length := by omega
      repeat first
        | refine LOps.nil ?_
        | refine LCode.seq ?_
        | refine LCode.region ?_
        | refine LCode.skip ?_
        | refine LCode.block ?_
        | refine QThen.normal ?_
        | refine LOps.pure (Pure.as (lv := .atom _) rfl) rfl ?_
        | refine LOps.pure (Pure.mv (lv := .atom _) rfl) rfl ?_
      refine LCode.cut [(0, .list (a.map encAr)), (1, .list (b.map encAr)), (12, int .i64 a.length), (13, int .i64 i), (24, bool (!eqAr a[i] b[i]))] ?_ (fun j2 hj2 => ?_)
      · refine LCode.quiet (by kernel_rfl) ?_
        repeat first
          | refine LQ.pure (Pure.mv (lv := .list _) rfl) rfl ?_
          | refine LQ.pure (Pure.mv (lv := .atom _) rfl) rfl ?_
        refine LQ.pure (Pure.ixRef (el' := encAr a[i]) (cs := [_, _]) rfl rfl (by omega) (map_get _ _ _ hlt) rfl rfl) rfl ?_
        repeat first
          | refine LQ.pure (Pure.mv (lv := .list _) rfl) rfl ?_
          | refine LQ.pure (Pure.mv (lv := .atom _) rfl) rfl ?_
          | refine LQ.pure (Pure.ldRefAgg (cs' := [_, _]) rfl rfl rfl) rfl ?_
        refine LQ.pure (Pure.ixRef (el' := encAr b[i]) (cs := [_, _]) rfl rfl (by omega) (map_get _ _ _ hlt2) rfl rfl) rfl ?_
        repeat first
          | refine LQ.pure (Pure.ldRefAgg (cs' := [_, _]) rfl rfl rfl) rfl ?_
        refine LQ.pure (Pure.pairNeq rfl rfl (h1 _ (List.getElem_mem hlt)).1 (h2 _ (List.getElem_mem hlt2)).1 (by have := (h1 _ (List.getElem_mem hlt)).2; omega) (by have := (h2 _ (List.getElem_mem hlt2)).2; omega)) rfl ?_
        repeat first
          | refine LQ.nil ?_
          | refine QThen.normal ?_
        exact ⟨⟨rfl, rfl, rfl, rfl, rfl, trivial⟩, rfl, rfl⟩
      · rw [eqList_drop hlt hlt2] at hE
        refine LCode.cond rfl (fun hd => ?_) (fun hd => ?_)
        · repeat first
            | refine LOps.nil ?_
            | refine LCode.seq ?_
            | refine LCode.region ?_
            | refine LCode.ret ?_
            | refine QThen.normal ?_
            | refine QThen.ret ?_
            | refine QBlock.ret ?_
            | refine LOps.pure (Pure.as (lv := .atom _) rfl) rfl ?_
          exact retRet (hj2.trans hj) (AllRes.cons (ResIs.tmp (v := .atom _) rfl (LV.Sub.refl _)) AllRes.nil) (bool_eq (by rw [hE, not_t hd]; rfl))
        · rw [not_f hd, Bool.true_and] at hE
          repeat first
            | refine LOps.nil ?_
            | refine LCode.region ?_
            | refine LCode.skip ?_
            | refine QThen.normal ?_
            | refine QBlock.normal ?_
            | refine LOps.pure (Pure.mv (lv := .atom _) rfl) rfl ?_
            | refine LOps.pure (Pure.add rfl rfl (by omega)) rfl ?_
          exact ⟨_, _, _, by omega, ⟨i + 1, rfl, by omega, rfl, rfl, hE⟩, ⟨rfl, rfl, rfl, int_eq (by omega), trivial⟩, HSub.refl _, hj2.trans hj⟩
    · have hge : a.length ≤ i := by have := of_decide_eq_false hc; omega
      rw [eqList_end hge (by omega)] at hE
      repeat first
        | refine LOps.nil ?_
        | refine LCode.seq ?_
        | refine LCode.region ?_
        | refine LCode.ret ?_
        | refine LCode.exit ?_
        | refine QThen.normal ?_
        | refine QThen.exit ?_
        | refine QBlock.hit ?_
        | refine LOps.pure (Pure.as (lv := .atom _) rfl) rfl ?_
      exact retRet hj (AllRes.cons (ResIs.tmp (v := .atom _) rfl (LV.Sub.refl _)) AllRes.nil) (bool_eq hE.symm)
theorem eqNs_spec (a b : List (List UInt8)) (ha : a.length ≤ 4611686018427387904) : LCalls (KC B0 w0) 41 [.list (a.map str), .list (b.map str)] [] (Ret (bool (eqNames a b))) := eqStrs_spec a b ha
theorem eqF_spec (x y : FnD) (hn : nFn x ≤ 1000000000) : LCalls (KC B0 w0) 44 [encFn x, encFn y] [] (Ret (bool (eqFn x y))) := by
  have hpt := eqFn_parts x y
  unfold nFn at hn
  refine LCalls.intro Tryz.func44 rfl (n := 31) rfl rfl rfl ?_
  repeat first
    | refine LCode.seq ?_
    | refine LCode.region ?_
  refine LOps.step (S.box (cs := [str x.name, .list (x.params.map str), .list (x.locals.map str), .list (x.body.map encS)]) rfl fun b2 => ?_) rfl
  refine LOps.step (S.box (cs := [str y.name, .list (y.params.map str), .list (y.locals.map str), .list (y.body.map encS)]) rfl fun b3 => ?_) rfl
  repeat first
    | refine LOps.nil ?_
    | refine LCode.seq ?_
    | refine LCode.region ?_
    | refine QThen.normal ?_
    | refine LOps.pure (Pure.as (lv := .atom _) rfl) rfl ?_
    | refine LOps.pure (Pure.fieldH rfl) rfl ?_
    | refine LOps.pure (Pure.loadH (c := .atom _) rfl (List.Mem.head _) rfl) rfl ?_
    | refine LOps.pure (Pure.loadH (c := .atom _) rfl (List.Mem.tail _ (List.Mem.head _)) rfl) rfl ?_
    | refine LOps.pure (Pure.seq rfl rfl) rfl ?_
    | refine LOps.pure (Pure.mv (lv := .atom _) rfl) rfl ?_
  refine LOps.bcase 10 rfl (fun h0 => ?_) (fun h0 => ?_)
  · rw [h0, Bool.true_and] at hpt
    repeat first
      | refine LOps.pure (Pure.fieldH rfl) rfl ?_
      | refine LOps.pure (Pure.loadH (c := .list _) rfl (List.Mem.head _) rfl) rfl ?_
      | refine LOps.pure (Pure.loadH (c := .list _) rfl (List.Mem.tail _ (List.Mem.head _)) rfl) rfl ?_
      | refine LOps.want rfl rfl ?_
    refine LOps.step (S.fn [_, _] rfl (eqNs_spec x.params y.params (by omega)) ?_) rfl
    repeat first
      | refine LOps.pure (Pure.mv (lv := .atom _) rfl) rfl ?_
      | refine LOps.pure (Pure.pickT (lv := .atom _) rfl rfl) rfl ?_
    refine LOps.bcase 17 rfl (fun h1 => ?_) (fun h1 => ?_)
    · rw [h1, Bool.true_and] at hpt
      repeat first
        | refine LOps.pure (Pure.fieldH rfl) rfl ?_
        | refine LOps.pure (Pure.loadH (c := .list _) rfl (List.Mem.head _) rfl) rfl ?_
        | refine LOps.pure (Pure.loadH (c := .list _) rfl (List.Mem.tail _ (List.Mem.head _)) rfl) rfl ?_
        | refine LOps.want rfl rfl ?_
      refine LOps.step (S.fn [_, _] rfl (eqNs_spec x.locals y.locals (by omega)) ?_) rfl
      repeat first
        | refine LOps.pure (Pure.mv (lv := .atom _) rfl) rfl ?_
        | refine LOps.pure (Pure.pickT (lv := .atom _) rfl rfl) rfl ?_
      refine LOps.bcase 24 rfl (fun h2 => ?_) (fun h2 => ?_)
      · rw [h2, Bool.true_and] at hpt
        repeat first
          | refine LOps.pure (Pure.fieldH rfl) rfl ?_
          | refine LOps.pure (Pure.loadH (c := .list _) rfl (List.Mem.head _) rfl) rfl ?_
          | refine LOps.pure (Pure.loadH (c := .list _) rfl (List.Mem.tail _ (List.Mem.head _)) rfl) rfl ?_
          | refine LOps.want rfl rfl ?_
        refine LOps.step (S.fn [_, _, _] rfl (eqSs_spec _ x.body y.body (Nat.le_refl _) (by omega)) ?_) rfl
        repeat first
          | refine LOps.nil ?_
          | refine LCode.ret ?_
          | refine QThen.normal ?_
          | refine LOps.pure (Pure.as (lv := .atom _) rfl) rfl ?_
          | refine LOps.pure (Pure.pickT (lv := .atom _) rfl rfl) rfl ?_
        exact retRet rfl (AllRes.cons (ResIs.tmp (v := .atom _) rfl (LV.Sub.refl _)) AllRes.nil) (bool_eq (by rw [hpt]))
      · repeat first
          | refine LOps.nil ?_
          | refine LCode.ret ?_
          | refine QThen.normal ?_
          | refine LOps.pure (Pure.as (lv := .atom _) rfl) rfl ?_
          | refine LOps.pure (Pure.pickF (lv := .atom _) rfl rfl) rfl ?_
          | refine LOps.skip rfl rfl rfl rfl ?_
        exact retRet rfl (AllRes.cons (ResIs.tmp (v := .atom _) rfl (LV.Sub.refl _)) AllRes.nil) (bool_eq (by rw [hpt, h2]; rfl))
    · repeat first
        | refine LOps.nil ?_
        | refine LCode.ret ?_
        | refine QThen.normal ?_
        | refine LOps.pure (Pure.as (lv := .atom _) rfl) rfl ?_
        | refine LOps.pure (Pure.mv (lv := .atom _) rfl) rfl ?_
        | refine LOps.pure (Pure.pickF (lv := .atom _) rfl rfl) rfl ?_
        | refine LOps.skip rfl rfl rfl rfl ?_
      exact retRet rfl (AllRes.cons (ResIs.tmp (v := .atom _) rfl (LV.Sub.refl _)) AllRes.nil) (bool_eq (by rw [hpt, h1]; rfl))
  · repeat first
      | refine LOps.nil ?_
      | refine LCode.ret ?_
      | refine QThen.normal ?_
      | refine LOps.pure (Pure.as (lv := .atom _) rfl) rfl ?_
      | refine LOps.pure (Pure.mv (lv := .atom _) rfl) rfl ?_
      | refine LOps.pure (Pure.pickF (lv := .atom _) rfl rfl) rfl ?_
      | refine LOps.skip rfl rfl rfl rfl ?_
    exact retRet rfl (AllRes.cons (ResIs.tmp (v := .atom _) rfl (LV.Sub.refl _)) AllRes.nil) (bool_eq (by rw [hpt, h0]; rfl))
theorem eqFs_spec (a b : List FnD) (hn : nFns a ≤ 1000000000) : LCalls (KC B0 w0) 43 [.list (a.map encFn), .list (b.map encFn), .atom (.func (.func 44) #[] #[])] [] (Ret (bool (eqList eqFn a b))) := by
  have ha := nFns_len a
  have hrec : ∀ (i : Nat) (h : i < a.length) (y : FnD), LCalls (KC B0 w0) 44 [encFn a[i], encFn y] [] (Ret (bool (eqFn a[i] y))) := fun i h y => eqF_spec a[i] y (by have := nFns_mem (List.getElem_mem h); omega)
  refine LCalls.intro Tryz.func43 rfl (n := 32) rfl rfl rfl ?_
  have hla : (a.map encFn).length = a.length := List.length_map _
  have hlb : (b.map encFn).length = b.length := List.length_map _
  repeat first
    | refine LOps.nil ?_
    | refine LCode.seq ?_
    | refine LCode.region ?_
    | refine QThen.normal ?_
    | refine LOps.pure (Pure.as (lv := .atom _) rfl) rfl ?_
    | refine LOps.pure (Pure.mv (lv := .list _) rfl) rfl ?_
    | refine LOps.pure (Pure.llen rfl) rfl ?_
    | refine LOps.pure (Pure.neq rfl rfl) rfl ?_
  refine LCode.cond rfl (fun hc => ?_) (fun hc => ?_)
  · have hne : a.length ≠ b.length := by
      have : ¬ ((a.map encFn).length : Int) = (b.map encFn).length := by simpa using hc
      omega
    repeat first
      | refine LOps.nil ?_
      | refine LCode.seq ?_
      | refine LCode.region ?_
      | refine LCode.ret ?_
      | refine QThen.normal ?_
      | refine QThen.ret ?_
      | refine LOps.pure (Pure.as (lv := .atom _) rfl) rfl ?_
    exact retRet rfl (AllRes.cons (ResIs.tmp (v := .atom _) rfl (LV.Sub.refl _)) AllRes.nil) (bool_eq (eqList_len a b hne).symm)
  · have hle : a.length = b.length := by
      have : ((a.map encFn).length : Int) = (b.map encFn).length := by simpa using hc
      omega
    repeat first
      | refine LOps.nil ?_
      | refine LCode.seq ?_
      | refine LCode.region ?_
      | refine LCode.skip ?_
      | refine LCode.block ?_
      | refine QThen.normal ?_
      | refine LOps.pure (Pure.mv (lv := .list _) rfl) rfl ?_
      | refine LOps.pure (Pure.mv (lv := .atom _) rfl) rfl ?_
      | refine LOps.pure (Pure.llen rfl) rfl ?_
    refine LCode.loopI (fun k ls H => ∃ i, k = a.length - i ∧ i ≤ a.length ∧ ls = [(0, .list (a.map encFn)), (1, .list (b.map encFn)), (2, .atom (.func (.func 44) #[] #[])), (15, .list (a.map encFn)), (16, int .i64 a.length), (17, int .i64 i)] ∧ H = [] ∧ eqList eqFn a b = eqList eqFn (a.drop i) (b.drop i))
      ⟨_, _, _, ⟨0, rfl, Nat.zero_le _, rfl, rfl, rfl⟩, ⟨rfl, rfl, rfl, rfl, int_eq (by omega), rfl, trivial⟩, HSub.refl _⟩ ?_
    rintro k ls H ⟨i, rfl, hi, rfl, rfl, hE⟩ j hj
    repeat first
      | refine LOps.nil ?_
      | refine LCode.seq ?_
      | refine LCode.region ?_
      | refine QThen.normal ?_
      | refine LOps.pure (Pure.lss rfl rfl) rfl ?_
    refine LCode.cond rfl (fun hc => ?_) (fun hc => ?_)
    · have hlt : i < a.length := by have := of_decide_eq_true hc; omega
      have hlt2 : i < b.length := by omega
      repeat first
        | refine LCode.seq ?_
        | refine LCode.region ?_
        | refine LCode.skip ?_
        | refine LCode.block ?_
        | refine QThen.normal ?_
        | refine LOps.pure (Pure.mv (lv := .atom _) rfl) rfl ?_
      refine LOps.pure (Pure.ixRef (el' := encFn a[i]) (cs := [_, _, _, _]) rfl rfl (by omega) (map_get _ _ _ hlt) rfl rfl) rfl ?_
      repeat first
        | refine LOps.pure (Pure.ldRefAgg (cs' := [_, _, _, _]) rfl rfl rfl) rfl ?_
      refine LOps.step (S.alloc fun b8 => ?_) rfl
      repeat first
        | refine LOps.nil ?_
        | refine LCode.seq ?_
        | refine LCode.region ?_
        | refine QThen.normal ?_
        | refine LOps.pure (Pure.as (lv := .atom _) rfl) rfl ?_
        | refine LOps.pure (Pure.mv (lv := .list _) rfl) rfl ?_
        | refine LOps.pure (Pure.mv (lv := .atom _) rfl) rfl ?_
        | refine LOps.step (S.store (cs' := [_, _, _, _]) rfl Pick.here rfl rfl rfl rfl rfl ?_) rfl
      refine LOps.pure (Pure.ixRef (el' := encFn b[i]) (cs := [_, _, _, _]) rfl rfl (by omega) (map_get _ _ _ hlt2) rfl rfl) rfl ?_
      repeat first
        | refine LOps.pure (Pure.ldRefAgg (cs' := [_, _, _, _]) rfl rfl rfl) rfl ?_
      refine LOps.step (S.alloc fun b9 => ?_) rfl
      repeat first
        | refine LOps.nil ?_
        | refine LCode.seq ?_
        | refine LCode.region ?_
        | refine QThen.normal ?_
        | refine LOps.pure (Pure.mv (lv := .atom _) rfl) rfl ?_
        | refine LOps.pure (Pure.ldHAgg (cs' := [_, _, _, _]) rfl (List.Mem.head _) rfl rfl) rfl ?_
        | refine LOps.pure (Pure.ldHAgg (cs' := [_, _, _, _]) rfl (List.Mem.tail _ (List.Mem.head _)) rfl rfl) rfl ?_
        | refine LOps.step (S.store (cs' := [_, _, _, _]) rfl Pick.here rfl rfl rfl rfl rfl ?_) rfl
      refine LOps.step (S.fnV [_, _] rfl rfl (hrec i hlt b[i]) ?_) rfl
      repeat first
        | refine LOps.nil ?_
        | refine QThen.normal ?_
        | refine LOps.pure (Pure.not rfl) rfl ?_
      rw [eqList_drop hlt hlt2] at hE
      refine LCode.cond rfl (fun hd => ?_) (fun hd => ?_)
      · repeat first
          | refine LOps.nil ?_
          | refine LCode.seq ?_
          | refine LCode.region ?_
          | refine LCode.ret ?_
          | refine QThen.normal ?_
          | refine QThen.ret ?_
          | refine QBlock.ret ?_
          | refine LOps.pure (Pure.as (lv := .atom _) rfl) rfl ?_
        exact retRet hj (AllRes.cons (ResIs.tmp (v := .atom _) rfl (LV.Sub.refl _)) AllRes.nil) (bool_eq (by rw [hE, not_t hd]; rfl))
      · rw [not_f hd, Bool.true_and] at hE
        repeat first
          | refine LOps.nil ?_
          | refine LCode.region ?_
          | refine LCode.skip ?_
          | refine QThen.normal ?_
          | refine QBlock.normal ?_
          | refine LOps.pure (Pure.mv (lv := .atom _) rfl) rfl ?_
          | refine LOps.pure (Pure.add rfl rfl (by omega)) rfl ?_
        exact ⟨_, _, _, by omega, ⟨i + 1, rfl, by omega, rfl, rfl, hE⟩, ⟨rfl, rfl, rfl, rfl, rfl, int_eq (by omega), trivial⟩, HSub.nil _, hj⟩
    · have hge : a.length ≤ i := by have := of_decide_eq_false hc; omega
      rw [eqList_end hge (by omega)] at hE
      repeat first
        | refine LOps.nil ?_
        | refine LCode.seq ?_
        | refine LCode.region ?_
        | refine LCode.ret ?_
        | refine LCode.exit ?_
        | refine QThen.normal ?_
        | refine QThen.exit ?_
        | refine QBlock.hit ?_
        | refine LOps.pure (Pure.as (lv := .atom _) rfl) rfl ?_
      exact retRet hj (AllRes.cons (ResIs.tmp (v := .atom _) rfl (LV.Sub.refl _)) AllRes.nil) (bool_eq hE.symm)
theorem pequal_spec (a b : Pr) (ha : PrOk a) (hb : PrOk b) : LCalls (KC B0 w0) 19 [encPr a, encPr b] [] (Ret (bool (eqPr a b))) := by
  have hsz := ha.size
  unfold nPr at hsz
  have hpt : eqPr a b = (eqNames a.vars b.vars && eqList eqAr a.arrays b.arrays && eqList eqFn a.funcs b.funcs) := rfl
  refine LCalls.intro Tryz.func19 rfl (n := 24) rfl rfl rfl ?_
  repeat first
    | refine LCode.seq ?_
    | refine LCode.region ?_
  refine LOps.step (S.box (cs := [.list (a.vars.map str), .list (a.arrays.map encAr), .list (a.funcs.map encFn)]) rfl fun b2 => ?_) rfl
  refine LOps.step (S.box (cs := [.list (b.vars.map str), .list (b.arrays.map encAr), .list (b.funcs.map encFn)]) rfl fun b3 => ?_) rfl
  repeat first
    | refine LOps.nil ?_
    | refine LCode.seq ?_
    | refine LCode.region ?_
    | refine QThen.normal ?_
    | refine LOps.pure (Pure.as (lv := .atom _) rfl) rfl ?_
    | refine LOps.pure (Pure.fieldH rfl) rfl ?_
    | refine LOps.pure (Pure.loadH (c := .list _) rfl (List.Mem.head _) rfl) rfl ?_
    | refine LOps.pure (Pure.loadH (c := .list _) rfl (List.Mem.tail _ (List.Mem.head _)) rfl) rfl ?_
  refine LOps.step (S.fn [_, _] rfl (eqNs_spec a.vars b.vars (by omega)) ?_) rfl
  repeat first
    | refine LOps.pure (Pure.mv (lv := .atom _) rfl) rfl ?_
  refine LOps.bcase 10 rfl (fun h0 => ?_) (fun h0 => ?_)
  · rw [h0, Bool.true_and] at hpt
    repeat first
      | refine LOps.pure (Pure.fieldH rfl) rfl ?_
      | refine LOps.pure (Pure.loadH (c := .list _) rfl (List.Mem.head _) rfl) rfl ?_
      | refine LOps.pure (Pure.loadH (c := .list _) rfl (List.Mem.tail _ (List.Mem.head _)) rfl) rfl ?_
      | refine LOps.want rfl rfl ?_
    refine LOps.step (S.fn [_, _] rfl (eqArs_spec a.arrays b.arrays (by omega) ha.ars hb.ars) ?_) rfl
    repeat first
      | refine LOps.pure (Pure.mv (lv := .atom _) rfl) rfl ?_
      | refine LOps.pure (Pure.pickT (lv := .atom _) rfl rfl) rfl ?_
    refine LOps.bcase 17 rfl (fun h1 => ?_) (fun h1 => ?_)
    · rw [h1, Bool.true_and] at hpt
      repeat first
        | refine LOps.pure (Pure.fieldH rfl) rfl ?_
        | refine LOps.pure (Pure.loadH (c := .list _) rfl (List.Mem.head _) rfl) rfl ?_
        | refine LOps.pure (Pure.loadH (c := .list _) rfl (List.Mem.tail _ (List.Mem.head _)) rfl) rfl ?_
        | refine LOps.want rfl rfl ?_
      refine LOps.step (S.fn [_, _, _] rfl (eqFs_spec a.funcs b.funcs (by omega)) ?_) rfl
      repeat first
        | refine LOps.nil ?_
        | refine LCode.ret ?_
        | refine QThen.normal ?_
        | refine LOps.pure (Pure.as (lv := .atom _) rfl) rfl ?_
        | refine LOps.pure (Pure.pickT (lv := .atom _) rfl rfl) rfl ?_
      exact retRet rfl (AllRes.cons (ResIs.tmp (v := .atom _) rfl (LV.Sub.refl _)) AllRes.nil) (bool_eq (by rw [hpt]))
    · repeat first
        | refine LOps.nil ?_
        | refine LCode.ret ?_
        | refine QThen.normal ?_
        | refine LOps.pure (Pure.as (lv := .atom _) rfl) rfl ?_
        | refine LOps.pure (Pure.pickF (lv := .atom _) rfl rfl) rfl ?_
        | refine LOps.skip rfl rfl rfl rfl ?_
      exact retRet rfl (AllRes.cons (ResIs.tmp (v := .atom _) rfl (LV.Sub.refl _)) AllRes.nil) (bool_eq (by rw [hpt, h1]; rfl))
  · repeat first
      | refine LOps.nil ?_
      | refine LCode.ret ?_
      | refine QThen.normal ?_
      | refine LOps.pure (Pure.as (lv := .atom _) rfl) rfl ?_
      | refine LOps.pure (Pure.mv (lv := .atom _) rfl) rfl ?_
      | refine LOps.pure (Pure.pickF (lv := .atom _) rfl rfl) rfl ?_
      | refine LOps.skip rfl rfl rfl rfl ?_
    exact retRet rfl (AllRes.cons (ResIs.tmp (v := .atom _) rfl (LV.Sub.refl _)) AllRes.nil) (bool_eq (by rw [hpt, h0]; rfl))
end
end Go.Proofs.YtfodkbchknknjaaGreatDoor
namespace Go.GL
open Go.RowKit
section
variable {C : Ctx} {e : Env} {H : Heap} {dst : Option Nat} {ty : TypeId} {pos : String} {aft : Array Edge} {g : Option (Nat × Bool)} {xT yT : TypeId} {x y : Operand} {k k2 : IntKind} {a b : Int}
theorem run_int2 {P : Program} {op : BinOp} {xT yT : TypeId} {x y : Operand} {k k2 : IntKind} {a b : Int} {ρ : Operand → Value} (hx : ρ x = .int k a) (hy : ρ y = .int k2 b) {s : Sem Value}
    (h : (binOp op xT (.int k a) (.int k2 b)) = s) {v : Value} (hv : ∀ w, s.run P w = .ok v w) (w : World) : (execOp ρ ⟨dst, .binOp op xT x y yT, ty, pos, aft, g⟩).run P w = .ok (.value v) w := by
  subst h
  have he : eqGuard op xT x y (.int k a) (.int k2 b) = Pure.pure () := by
    unfold eqGuard
    cases op <;> rfl
  simp only [execOp, hx, hy, he, Sem.run_bind, Sem.run_pure, Result.andThen_ok, hv]
theorem Pure.quoW (hx : e.ev x = int k a) (hy : e.ev y = int k b) (hb : b ≠ 0) : Pure C ⟨dst, .binOp .quo xT x y yT, ty, pos, aft, g⟩ e H (int k (k.wrap (a.tdiv b))) :=
  .of_any fun _ _ _ h => ⟨_, rep_atom, run_int2 (atom_of h hx) (atom_of h hy) (s := Op.intDiv .quo k a b) (by simp only [binOp, ne_eq, not_true_eq_false, if_false]) (fun _ => by simp only [Op.intDiv, if_neg hb, Sem.run_pure])⟩
theorem Pure.remW (hx : e.ev x = int k a) (hy : e.ev y = int k b) (hb : b ≠ 0) : Pure C ⟨dst, .binOp .rem xT x y yT, ty, pos, aft, g⟩ e H (int k (a.tmod b)) :=
  .of_any fun _ _ _ h => ⟨_, rep_atom, run_int2 (atom_of h hx) (atom_of h hy) (s := Op.intDiv .rem k a b) (by simp only [binOp, ne_eq, not_true_eq_false, if_false]) (fun _ => by simp only [Op.intDiv, if_neg hb, Sem.run_pure])⟩
theorem Pure.shr (hx : e.ev x = int k a) (hy : e.ev y = int k2 b) (hb : 0 ≤ b) : Pure C ⟨dst, .binOp .shr xT x y yT, ty, pos, aft, g⟩ e H (int k (a.fdiv (2 ^ min b.toNat k.bits))) :=
  .of_any fun _ _ _ h => ⟨_, rep_atom, run_int2 (atom_of h hx) (atom_of h hy) (s := Op.shift .shr k a k2 b) (by simp only [binOp]) (fun _ => by simp only [Op.shift, if_neg (Int.not_lt.2 hb), Sem.run_pure])⟩
theorem Pure.shlW (hx : e.ev x = int k a) (hy : e.ev y = int k2 b) (hb : 0 ≤ b) : Pure C ⟨dst, .binOp .shl xT x y yT, ty, pos, aft, g⟩ e H (int k (k.wrap (a * 2 ^ min b.toNat k.bits))) :=
  .of_any fun _ _ _ h => ⟨_, rep_atom, run_int2 (atom_of h hx) (atom_of h hy) (s := Op.shift .shl k a k2 b) (by simp only [binOp]) (fun _ => by simp only [Op.shift, if_neg (Int.not_lt.2 hb), Sem.run_pure])⟩
theorem Pure.andW (hx : e.ev x = int k a) (hy : e.ev y = int k b) : Pure C ⟨dst, .binOp .and xT x y yT, ty, pos, aft, g⟩ e H (int k (k.wrap ((BitVec.ofInt k.bits a &&& BitVec.ofInt k.bits b).toNat : Nat))) :=
  .of_any fun _ _ _ h => ⟨_, rep_atom, run_int2 (atom_of h hx) (atom_of h hy) (s := Op.intBits .and k a b) (by simp only [binOp, ne_eq, not_true_eq_false, if_false]) (fun _ => rfl)⟩
theorem Pure.orW (hx : e.ev x = int k a) (hy : e.ev y = int k b) : Pure C ⟨dst, .binOp .or xT x y yT, ty, pos, aft, g⟩ e H (int k (k.wrap ((BitVec.ofInt k.bits a ||| BitVec.ofInt k.bits b).toNat : Nat))) :=
  .of_any fun _ _ _ h => ⟨_, rep_atom, run_int2 (atom_of h hx) (atom_of h hy) (s := Op.intBits .or k a b) (by simp only [binOp, ne_eq, not_true_eq_false, if_false]) (fun _ => rfl)⟩
theorem Pure.xorW (hx : e.ev x = int k a) (hy : e.ev y = int k b) : Pure C ⟨dst, .binOp .xor xT x y yT, ty, pos, aft, g⟩ e H (int k (k.wrap ((BitVec.ofInt k.bits a ^^^ BitVec.ofInt k.bits b).toNat : Nat))) :=
  .of_any fun _ _ _ h => ⟨_, rep_atom, run_int2 (atom_of h hx) (atom_of h hy) (s := Op.intBits .xor k a b) (by simp only [binOp, ne_eq, not_true_eq_false, if_false]) (fun _ => rfl)⟩
/-- The address of an element of an array. -/
theorem Pure.indexArr {t el len : Nat} {i : TypeInfo} (hu : C.P.underlying t = some (.array len el)) (hi : C.P.info? el = some i) {bl off : Nat} {n : Int} (hx : e.ev x = ptr bl off) (hy : e.ev y = int k n) (h0 : 0 ≤ n) (hn : n < len) :
    Pure C ⟨dst, .indexAddr t x y, ty, pos, aft, g⟩ e H (ptr bl (off + n.toNat * i.size)) := .of_any fun ρ w L h => ⟨_, rep_atom, fun w' => by
  have h3 : execOp ρ ⟨dst, .indexAddr t x y, ty, pos, aft, g⟩ = (do Pure.pure (.value (← Instr.indexAt t (ρ x) (ρ y)))) := rfl
  rw [h3, atom_of h hx, atom_of h hy]
  have hc : 0 ≤ n ∧ n < (len : Int) := ⟨h0, hn⟩
  simp [Instr.indexAt, asIntOf, run_underlying' hu, Instr.sureAddr, hc, run_sizeOf' hi, add_mk]⟩
end
theorem wpAnyH_weakS {P : Program} {md : Region.Mode} {ops : Array Oper} {Q : Exit → Act → World → Prop} {S S' : World → Prop} (hS : ∀ w, S' w → S w) : ∀ (fuel : Nat) (listed : Array Bool) (a : Act) (w : World),
    wpAnyH P md ops Q S' fuel listed a w → wpAnyH P md ops Q S fuel listed a w
  | 0, _, _, _, k => k
  | fuel + 1, _, _, _, k => ⟨k.1, fun i hi => wpOp_mono (fun a' w' h => ⟨hS _ h.1, wpAnyH_weakS hS fuel _ a' w' h.2⟩) (k.2 i hi)⟩
/-- Behind an acting operation what only computes or reads HF' may be taken first, again. -/
theorem LLate.any {C : Ctx} {n : Nat} {ops : Array Oper} {Q : Post} {HF : Heap} {fuel : Nat} {listed : Array Bool} {e : Env} {H : Heap} (HF' : Heap) (hs : ∀ p ∈ HF, p ∈ HF') (h : LAny C n ops Q HF' fuel listed e H) : LLate C n ops Q HF fuel listed e H := fun w0 L0 a w L hL hA _ hE hH =>
  wpAnyH_weakS (fun w' hw' => ⟨fun p hp => (hw'.1 p (hs p hp)).trans (hA.1 p hp), fun b i hi => (hw'.2 b i (Nat.lt_of_lt_of_le hi (hL b))).trans (hA.2 b i hi)⟩) _ _ _ _ (h a w L hE hH)
/-! ### A drawn region whose last operations stand in a row: what is ahead of them only computes or reads. -/
def LS (C : Ctx) (n : Nat) (ops : Array Oper) (K : Env → Prop) (rest : List Oper) (e : Env) (H : Heap) : Prop :=
  ∀ a w L, RelE n a e w L → RelH C w L H → wpStill C.P ops w (fun a' => ∃ e', RelE n a' e' w L ∧ K e') rest a
section still
variable {C : Ctx} {n : Nat} {ops : Array Oper} {K : Env → Prop} {e : Env} {H : Heap} {dst : Option Nat} {op : Op} {ty : TypeId} {pos : String} {aft : Array Edge} {rest : List Oper}
theorem LS.nil (h : K e) : LS C n ops K [] e H := fun _ _ _ hE _ => ⟨e, hE, h⟩
theorem still_one {P : Program} {Q : Act → Prop} {a : Act} {w : World} {o : Oper} (hg : Region.wanted o (yielded ops a.tmps) = true) {v : Value} (h : (execOp a.eval o).run P w = .ok (.value v) w) (k : wpStill P ops w Q rest (a.put o.dst v)) : wpStill P ops w Q (o :: rest) a := by
  unfold wpStill
  rw [if_pos hg]
  unfold Oper.still
  rw [h]
  exact ⟨rfl, k⟩
theorem LS.pure {lv : LV} (h : Pure C ⟨dst, op, ty, pos, aft, none⟩ e H lv) (hd : dstOk n dst) (k : LS C n ops K rest (e.put dst lv) H) : LS C n ops K (⟨dst, op, ty, pos, aft, none⟩ :: rest) e H := fun a w L hE hH => by
  obtain ⟨v, hv, hr⟩ := h a.eval w L hE.ev hH
  exact still_one (by simp [Region.wanted]) (hr w (Agree.refl _ _ _)) (k _ w L (hE.put hd hv) hH)
theorem LS.want {j d : Nat} {b : Bool} (hj : (ops[j]?).bind (·.dst) = some d) (hb : e.s d = .atom (.bool b))
    (k : LS C n ops K (⟨dst, op, ty, pos, aft, none⟩ :: rest) e H) : LS C n ops K (⟨dst, op, ty, pos, aft, some (j, b)⟩ :: rest) e H := fun a w L hE hH => by
  have := k a w L hE hH
  unfold wpStill at this ⊢
  rw [if_pos (by simp [Region.wanted])] at this
  rw [if_pos (by simp [Region.wanted, yielded_env hE hj hb])]
  exact this
theorem LS.skip {j d : Nat} {b c : Bool} (hj : (ops[j]?).bind (·.dst) = some d) (hb : e.s d = .atom (.bool b)) (hne : b = !c) (hd : dstOk n dst)
    (k : LS C n ops K rest (e.put dst (.atom undef)) H) : LS C n ops K (⟨dst, op, ty, pos, aft, some (j, c)⟩ :: rest) e H := fun a w L hE hH => by
  unfold wpStill
  rw [if_neg (by subst hne; cases c <;> simp [Region.wanted, yielded_env hE hj hb])]
  exact k _ w L (hE.put hd rep_atom) hH
theorem LS.skipU {j d : Nat} {c : Bool} (hj : (ops[j]?).bind (·.dst) = some d) (hb : e.s d = .atom undef) (hd : dstOk n dst)
    (k : LS C n ops K rest (e.put dst (.atom undef)) H) : LS C n ops K (⟨dst, op, ty, pos, aft, some (j, c)⟩ :: rest) e H := fun a w L hE hH => by
  unfold wpStill
  rw [if_neg (by simp [Region.wanted, yielded_undef hE hj hb])]
  exact k _ w L (hE.put hd rep_atom) hH
theorem LS.bcase (d : Nat) {b : Bool} (hb : e.s d = bool b) (ht : b = true → LS C n ops K rest (e.upd d (bool true)) H) (hf : b = false → LS C n ops K rest (e.upd d (bool false)) H) : LS C n ops K rest e H := by
  cases b
  · have := hf rfl; rwa [Env.upd_self hb] at this
  · have := ht rfl; rwa [Env.upd_self hb] at this
theorem wpStill_mono {P : Program} {w : World} {Q Q' : Act → Prop} (h : ∀ a, Q a → Q' a) : ∀ (l : List Oper) (a : Act), wpStill P ops w Q l a → wpStill P ops w Q' l a
  | [], a, k => h a k
  | o :: l, a, k => by
    unfold wpStill at k ⊢
    split at k
    · rename_i hw
      rw [if_pos hw]
      exact Oper.still_mono (fun a => wpStill_mono h l a) k
    · rename_i hw
      rw [if_neg hw]
      exact wpStill_mono h l _ k
theorem LCode.tail [hm : TMixed C.P] {id : Nat} {l : List Oper} {Q : Post} (m : Nat) (hB : Region.lexTailB .any l.toArray m = true) (h : LS C n l.toArray (fun e' => LOps C n l.toArray Q (l.drop m) e' H) (l.take m) e H) : LCode C n (.region id l.toArray true) Q e H := fun a w L hE hH => by
  refine wp_region_still_tail m hm.out hB ?_
  refine wpStill_mono (fun a' h' => ?_) _ _ (h a w.drew L (hE.mono (ext_drew w L)) hH.drew)
  obtain ⟨e', hE', hk⟩ := h'
  refine wpList_mono (fun x a2 w' hq => ?_) _ _ _ (hk a' w.drew L hE' hH.drew)
  obtain ⟨e2, H', L', h1, h2, h3, h4⟩ := hq
  exact ⟨e2, H', L', h1.of_drew, h2, h3, h4⟩
end still
end Go.GL
namespace Go.Proofs.YtfodkbchknknjaaGreatDoor
open Go.GL Go.RowKit Go.Stele
set_option maxRecDepth 100000
set_option maxHeartbeats 4000000
section
variable {C : Ctx} {e : Env} {dst : Option Nat} {ty : TypeId} {pos : String} {aft : Array Edge} {g : Option (Nat × Bool)} {K : LV → Heap → Prop} {X : List PanicEntry → Heap → Prop}
/-- A call that turns the builder; a block ahead of it stays. -/
theorem S.callBH {f : FuncId} [TEnter C.P f] (args : List Operand) {ats : Array TypeId} {avs : List LV} {R : Heap → Prop} {q : Nat × LObj} {H1 : Heap} (has : args.map e.ev = avs)
    (hc : LCalls C f avs H1 (fun r H' => (∃ x, r = .ret x) ∧ R H')) (hk : ∀ v H', R H' → K v (q :: H')) :
    LStep C ⟨dst, .call { callee := .value (.func f), args := args.toArray, argTypes := ats }, ty, pos, aft, g⟩ e (q :: H1) K X := by
  refine LStep.conseq (K := fun lv H' => ∃ H2, H' = H2 ++ [q] ∧ R H2) (S.callH (H1 := H1) (F := [q]) args has (List.perm_append_singleton _ _).symm hc (fun v H' h => ⟨H', rfl, h.2⟩) (fun ch H' h => by
    obtain ⟨⟨x, hx⟩, _⟩ := h
    cases hx)) ?_
  rintro lv H' ⟨H2, rfl, h⟩
  exact ⟨lv, [q] ++ H2, LV.Sub.refl _, ⟨[], by simp⟩, hk _ _ h⟩
end
attribute [local irreducible] LOps LCode LStep LCalls Go.GL.Pure QThen QBlock RetPost LQ LAny LLate LLateOp
section
variable {B0 : Nat} {w0 : World}
theorem one_spec (l : List Ex) (hn : l.length ≤ 1000000000) (hl : (fOne l).length ≤ 1000000000) (he : ∀ e ∈ l, LCalls (KC B0 w0) 118 [encE e] [] (Ret (str (fE e)))) :
    LCalls (KC B0 w0) 86 [.list (l.map encE)] [] (Ret (str (fOne l))) := by
  refine LCalls.intro Tryz.func86 rfl (n := 5) rfl rfl rfl ?_
  repeat first
    | refine LOps.nil ?_
    | refine LCode.seq ?_
    | refine LCode.region ?_
    | refine QThen.normal ?_
    | refine LOps.pure (Pure.as (lv := .atom _) rfl) rfl ?_
    | refine LOps.pure (Pure.mv (lv := .list _) rfl) rfl ?_
  refine LOps.step (S.fn [_] rfl (list_spec l hn hl he) ?_) rfl
  repeat first
    | refine LOps.nil ?_
    | refine LCode.ret ?_
    | refine QThen.normal ?_
    | refine LOps.pure (Pure.as (lv := .atom _) rfl) rfl ?_
  exact retRet rfl (AllRes.cons (ResIs.tmp (v := .atom _) rfl (LV.Sub.refl _)) AllRes.nil) rfl
theorem nExs_lens : ∀ l : List Ex, l.length ≤ nExs l
  | [] => Nat.zero_le _
  | e :: r => by
    have h1 := nExs_lens r
    obtain ⟨op, num, name, args⟩ := e
    rw [nExs, nEx, List.length_cons]
    omega
theorem one_ok (hG : GW B0 w0) (l : List Ex) (hk : okEs l) (hn : nExs l ≤ 1000000000) (hl : (fOne l).length ≤ 1000000000) : LCalls (KC B0 w0) 86 [.list (l.map encE)] [] (Ret (str (fOne l))) :=
  one_spec l (by have := nExs_lens l; omega) hl fun e he => fexpr_spec hG _ e (Nat.le_refl _) (okEs_mem hk he) (by
    have := join_mem comSp (List.mem_map_of_mem (f := fE) he)
    have h2 : (Go.Lib.join (l.map fE) comSp).length ≤ 1000000000 := hl
    omega)
mutual
def okS : Sm → Prop
  | .mk _ _ index value thn els => okEs index ∧ okEs value ∧ okSs thn ∧ okSs els
def okSs : List Sm → Prop
  | [] => True
  | s :: r => okS s ∧ okSs r
end
theorem okSs_mem : ∀ {l : List Sm} {s : Sm}, okSs l → s ∈ l → okS s
  | s :: r, x, h, hx => by
    rw [okSs] at h
    rcases List.mem_cons.mp hx with hx | hx
    · exact hx ▸ h.1
    · exact okSs_mem h.2 hx
theorem fSs_mem (ind : List UInt8) : ∀ {l : List Sm} {i : Nat} (h : i < l.length), (fSs ind (l.take i)).length + (fS ind l[i]).length ≤ (fSs ind l).length := by
  intro l i h
  have h1 := fSs_take ind h
  have h2 : fSs ind l = fSs ind (l.take (i + 1)) ++ fSs ind (l.drop (i + 1)) := by rw [← fSs_append, List.take_append_drop]
  rw [h2, h1]
  simp only [List.length_append]
  omega
theorem nSms_lens : ∀ l : List Sm, l.length ≤ nSms l
  | [] => Nat.zero_le _
  | s :: r => by
    have h1 := nSms_lens r
    obtain ⟨k, name, i, v, t, e⟩ := s
    rw [nSms, nSm, List.length_cons]
    omega
theorem lines_step (hG : GW B0 w0) (n : Nat) (ih : ∀ (l : List Sm) (ind acc : List UInt8) (b : Nat) (H : Heap), nSms l < n → okSs l → acc.length + (fSs ind l).length ≤ 1000000000 → BH b acc H →
      LCalls (KC B0 w0) 52 [ptr b 0, .list (l.map encS), str ind] H (fun r H' => (∃ x, r = .ret x) ∧ BH b (acc ++ fSs ind l) H'))
    (l : List Sm) (ind acc : List UInt8) (b : Nat) (H : Heap) (hn : nSms l ≤ n) (hn2 : n ≤ 1000000000) (hk : okSs l) (hl : acc.length + (fSs ind l).length ≤ 1000000000) (hB : BH b acc H) :
    LCalls (KC B0 w0) 52 [ptr b 0, .list (l.map encS), str ind] H (fun r H' => (∃ x, r = .ret x) ∧ BH b (acc ++ fSs ind l) H') := by
  have hla : (l.map encS).length = l.length := List.length_map _
  have hlen := nSms_lens l
  refine LCalls.intro Tryz.func52 rfl (n := 116) rfl rfl rfl ?_
  repeat first
    | refine LOps.nil ?_
    | refine LCode.seq ?_
    | refine LCode.region ?_
    | refine LCode.block ?_
    | refine QThen.normal ?_
    | refine LOps.pure (Pure.as (lv := .atom _) rfl) rfl ?_
    | refine LOps.pure (Pure.mv (lv := .list _) rfl) rfl ?_
    | refine LOps.pure (Pure.mv (lv := .atom _) rfl) rfl ?_
    | refine LOps.pure (Pure.llen rfl) rfl ?_
  refine LCode.loopI (fun k ls H => ∃ i, i ≤ l.length ∧ k = l.length - i ∧ ls = [(0, ptr b 0), (2, str ind), (6, .atom (.func (.func 86) #[] #[])), (10, .list (l.map encS)), (11, int .i64 l.length), (12, int .i64 i)] ∧ BH b (acc ++ fSs ind (l.take i)) H)
    ⟨_, _, _, ⟨0, Nat.zero_le _, rfl, rfl, by simpa [fSs] using hB⟩, ⟨rfl, rfl, rfl, rfl, int_eq (by omega), rfl, trivial⟩, HSub.refl _⟩ ?_
  rintro k ls H ⟨i, hi, rfl, rfl, hB⟩ j hj
  repeat first
    | refine LOps.nil ?_
    | refine LCode.seq ?_
    | refine LCode.region ?_
    | refine QThen.normal ?_
    | refine LOps.pure (Pure.lss rfl rfl) rfl ?_
  refine LCode.cond rfl (fun hc => ?_) (fun hc => ?_)
  · have hlt : i < l.length := by have := of_decide_eq_true hc; omega
    have hm := fSs_mem ind hlt
    have hke := okSs_mem hk (List.getElem_mem hlt)
    have hne := nSms_mem (List.getElem_mem hlt)
    have hta := fSs_take ind hlt
    repeat first
      | refine LCode.seq ?_
      | refine LCode.region ?_
      | refine LCode.skip ?_
      | refine LCode.block ?_
      | refine QThen.normal ?_
    refine LOps.pure (Pure.ixRef (el' := encS l[i]) (cs := [_, _, _, _, _, _]) rfl rfl (by omega) (map_get _ _ _ hlt) rfl rfl) rfl ?_
    repeat first
      | refine LOps.pure (Pure.ldRefAgg (cs' := [_, _, _, _, _, _]) rfl rfl rfl) rfl ?_
    refine LOps.step (S.alloc fun b8 => ?_) rfl
    repeat first
      | refine LOps.nil ?_
      | refine LCode.seq ?_
      | refine LCode.region ?_
      | refine QThen.normal ?_
      | refine LOps.pure (Pure.mv (lv := .atom _) rfl) rfl ?_
      | refine LOps.step (S.store (cs' := [_, _, _, _, _, _]) rfl Pick.here rfl rfl rfl rfl rfl ?_) rfl
    generalize l[i] = s at hm hke hne hta ⊢
    obtain ⟨kind, name, index, value, thn, els⟩ := s
    rw [fS_mk] at hm hta
    simp only [List.length_append] at hm
    rw [okS] at hke
    rw [nSm] at hne
    obtain ⟨hk1, hk2, hk3, hk4⟩ := hke
    refine LOps.step (S.callBH [_, _] rfl (writeString_spec b _ ind H hB (by simp only [List.length_append]; omega)) fun v H2 hB2 => ?_) rfl
    repeat first
      | refine LOps.nil ?_
      | refine LCode.seq ?_
      | refine LCode.region ?_
      | refine LCode.block ?_
      | refine QThen.normal ?_
      | refine LOps.pure (Pure.as (lv := .atom _) rfl) rfl ?_
      | refine LOps.pure (Pure.fieldH rfl) rfl ?_
      | refine LOps.pure (Pure.loadH (c := .atom _) rfl (List.Mem.head _) rfl) rfl ?_
      | refine LOps.pure (Pure.eql rfl rfl) rfl ?_
    refine LCode.cond rfl (fun h1 => ?_) (fun h1 => ?_)
    · have e1 : kind = 1 := of_decide_eq_true h1
      rw [fLine, if_pos e1] at hm hta
      simp only [List.length_append, List.length_cons, List.length_nil] at hm
      refine LCode.draw (m := 11) rfl [(b8, .cells 80 [int .i64 kind, str name, .list (index.map encE), .list (value.map encE), .list (encThen (.mk kind name index value thn els)), .list (encElse (.mk kind name index value thn els))])] ?_
      refine LAny.take (i := 0) (by first | exact HSub.nil _ | exact HSub.refl _ | exact HSub.drop (HSub.refl _) | exact HSub.pick Pick.here (HSub.nil _) | exact HSub.pick (Pick.there Pick.here) (HSub.nil _) | exact HSub.pick (Pick.there (Pick.there Pick.here)) (HSub.nil _)) rfl (by kernel_rfl) (by kernel_rfl) (by kernel_rfl) rfl (Pure.mv (lv := .atom _) rfl) ?_
      refine LAny.take (i := 1) (by first | exact HSub.nil _ | exact HSub.refl _ | exact HSub.drop (HSub.refl _) | exact HSub.pick Pick.here (HSub.nil _) | exact HSub.pick (Pick.there Pick.here) (HSub.nil _) | exact HSub.pick (Pick.there (Pick.there Pick.here)) (HSub.nil _)) rfl (by kernel_rfl) (by kernel_rfl) (by kernel_rfl) rfl (Pure.fieldH rfl) ?_
      refine LAny.take (i := 2) (by first | exact HSub.nil _ | exact HSub.refl _ | exact HSub.drop (HSub.refl _) | exact HSub.pick Pick.here (HSub.nil _) | exact HSub.pick (Pick.there Pick.here) (HSub.nil _) | exact HSub.pick (Pick.there (Pick.there Pick.here)) (HSub.nil _)) rfl (by kernel_rfl) (by kernel_rfl) (by kernel_rfl) rfl (Pure.loadH (c := .atom _) rfl (List.Mem.head _) rfl) ?_
      refine LAny.take (i := 3) (by first | exact HSub.nil _ | exact HSub.refl _ | exact HSub.drop (HSub.refl _) | exact HSub.pick Pick.here (HSub.nil _) | exact HSub.pick (Pick.there Pick.here) (HSub.nil _) | exact HSub.pick (Pick.there (Pick.there Pick.here)) (HSub.nil _)) rfl (by kernel_rfl) (by kernel_rfl) (by kernel_rfl) rfl (Pure.sadd rfl rfl (by first | omega | (simp only [List.length_append, List.length_cons, List.length_nil]; omega))) ?_
      refine LAny.take (i := 4) (by first | exact HSub.nil _ | exact HSub.refl _ | exact HSub.drop (HSub.refl _) | exact HSub.pick Pick.here (HSub.nil _) | exact HSub.pick (Pick.there Pick.here) (HSub.nil _) | exact HSub.pick (Pick.there (Pick.there Pick.here)) (HSub.nil _)) rfl (by kernel_rfl) (by kernel_rfl) (by kernel_rfl) rfl (Pure.mv (lv := .atom _) rfl) ?_
      refine LAny.take (i := 5) (by first | exact HSub.nil _ | exact HSub.refl _ | exact HSub.drop (HSub.refl _) | exact HSub.pick Pick.here (HSub.nil _) | exact HSub.pick (Pick.there Pick.here) (HSub.nil _) | exact HSub.pick (Pick.there (Pick.there Pick.here)) (HSub.nil _)) rfl (by kernel_rfl) (by kernel_rfl) (by kernel_rfl) rfl (Pure.fieldH rfl) ?_
      refine LAny.take (i := 6) (by first | exact HSub.nil _ | exact HSub.refl _ | exact HSub.drop (HSub.refl _) | exact HSub.pick Pick.here (HSub.nil _) | exact HSub.pick (Pick.there Pick.here) (HSub.nil _) | exact HSub.pick (Pick.there (Pick.there Pick.here)) (HSub.nil _)) rfl (by kernel_rfl) (by kernel_rfl) (by kernel_rfl) rfl (Pure.loadH (c := .list _) rfl (List.Mem.head _) rfl) ?_
      refine LAny.late ?_ (HSub.pick Pick.here (HSub.nil _))
      refine LLate.one (i := 7) (by kernel_rfl) (LLateOp.step (H1 := []) rfl (.inl rfl) rfl (List.Perm.refl _) (HSub.pick Pick.here (HSub.nil _)) (S.fnV [_] rfl rfl (one_ok hG value hk2 (by omega) (by omega)) ?_))
      refine LLate.one (i := 8) (by kernel_rfl) (LLateOp.pureH rfl rfl (Pure.sadd rfl rfl (by simp only [List.length_append, List.length_cons, List.length_nil]; omega)) ?_)
      refine LLate.one (i := 9) (by kernel_rfl) (LLateOp.pureH rfl rfl (Pure.sadd rfl rfl (by simp only [List.length_append, List.length_cons, List.length_nil]; omega)) ?_)
      refine LLate.one (i := 10) (by kernel_rfl) (LLateOp.step (H1 := H2) (F := [(b8, .cells 80 [int .i64 kind, str name, .list (index.map encE), .list (value.map encE), .list (encThen (.mk kind name index value thn els)), .list (encElse (.mk kind name index value thn els))])]) rfl (.inl rfl) rfl (List.perm_append_singleton _ _).symm (HSub.refl _) (LStep.call (args := [_, _]) (writeString_spec b _ (name ++ [32, 61, 32] ++ fOne value ++ [59, 10]) H2 hB2 (by simp only [List.length_append, List.length_cons, List.length_nil]; omega)) (fun v3 H3 h3 => ?_) (fun ch H3 h3 => ?_)))
      rotate_left
      · obtain ⟨⟨x, hx⟩, _⟩ := h3
        cases hx
      obtain ⟨_, hB3⟩ := h3
      refine LLate.done (by kernel_rfl) ?_
      repeat first
        | refine QThen.normal ?_
        | refine QBlock.normal ?_
      repeat first
        | refine LOps.nil ?_
        | refine LCode.region ?_
        | refine QThen.normal ?_
        | refine LOps.pure (Pure.mv (lv := .atom _) rfl) rfl ?_
        | refine LOps.pure (Pure.add rfl rfl (by omega)) rfl ?_
      exact ⟨_, _, _, by omega, ⟨i + 1, by omega, rfl, rfl, by rw [hta]; simpa only [List.append_assoc] using hB3⟩, ⟨rfl, rfl, rfl, rfl, rfl, int_eq (by omega), trivial⟩, ⟨_, List.Perm.refl _⟩, hj⟩
    have e1 : ¬ kind = 1 := of_decide_eq_false h1
    repeat first
      | refine LOps.nil ?_
      | refine LCode.seq ?_
      | refine LCode.region ?_
      | refine QThen.normal ?_
      | refine LOps.pure (Pure.as (lv := .atom _) rfl) rfl ?_
      | refine LOps.pure (Pure.eql rfl rfl) rfl ?_
    refine LCode.cond rfl (fun h2 => ?_) (fun h2 => ?_)
    · have e2 : kind = 2 := of_decide_eq_true h2
      rw [fLine, if_neg e1, if_pos e2] at hm hta
      simp only [List.length_append, List.length_cons, List.length_nil] at hm
      refine LCode.draw (m := 17) rfl [(b8, .cells 80 [int .i64 kind, str name, .list (index.map encE), .list (value.map encE), .list (encThen (.mk kind name index value thn els)), .list (encElse (.mk kind name index value thn els))])] ?_
      refine LAny.take (i := 0) (by first | exact HSub.nil _ | exact HSub.refl _ | exact HSub.drop (HSub.refl _) | exact HSub.pick Pick.here (HSub.nil _) | exact HSub.pick (Pick.there Pick.here) (HSub.nil _) | exact HSub.pick (Pick.there (Pick.there Pick.here)) (HSub.nil _)) rfl (by kernel_rfl) (by kernel_rfl) (by kernel_rfl) rfl (Pure.mv (lv := .atom _) rfl) ?_
      refine LAny.take (i := 1) (by first | exact HSub.nil _ | exact HSub.refl _ | exact HSub.drop (HSub.refl _) | exact HSub.pick Pick.here (HSub.nil _) | exact HSub.pick (Pick.there Pick.here) (HSub.nil _) | exact HSub.pick (Pick.there (Pick.there Pick.here)) (HSub.nil _)) rfl (by kernel_rfl) (by kernel_rfl) (by kernel_rfl) rfl (Pure.fieldH rfl) ?_
      refine LAny.take (i := 2) (by first | exact HSub.nil _ | exact HSub.refl _ | exact HSub.drop (HSub.refl _) | exact HSub.pick Pick.here (HSub.nil _) | exact HSub.pick (Pick.there Pick.here) (HSub.nil _) | exact HSub.pick (Pick.there (Pick.there Pick.here)) (HSub.nil _)) rfl (by kernel_rfl) (by kernel_rfl) (by kernel_rfl) rfl (Pure.loadH (c := .atom _) rfl (List.Mem.head _) rfl) ?_
      refine LAny.take (i := 3) (by first | exact HSub.nil _ | exact HSub.refl _ | exact HSub.drop (HSub.refl _) | exact HSub.pick Pick.here (HSub.nil _) | exact HSub.pick (Pick.there Pick.here) (HSub.nil _) | exact HSub.pick (Pick.there (Pick.there Pick.here)) (HSub.nil _)) rfl (by kernel_rfl) (by kernel_rfl) (by kernel_rfl) rfl (Pure.sadd rfl rfl (by first | omega | (simp only [List.length_append, List.length_cons, List.length_nil]; omega))) ?_
      refine LAny.take (i := 4) (by first | exact HSub.nil _ | exact HSub.refl _ | exact HSub.drop (HSub.refl _) | exact HSub.pick Pick.here (HSub.nil _) | exact HSub.pick (Pick.there Pick.here) (HSub.nil _) | exact HSub.pick (Pick.there (Pick.there Pick.here)) (HSub.nil _)) rfl (by kernel_rfl) (by kernel_rfl) (by kernel_rfl) rfl (Pure.mv (lv := .atom _) rfl) ?_
      refine LAny.take (i := 5) (by first | exact HSub.nil _ | exact HSub.refl _ | exact HSub.drop (HSub.refl _) | exact HSub.pick Pick.here (HSub.nil _) | exact HSub.pick (Pick.there Pick.here) (HSub.nil _) | exact HSub.pick (Pick.there (Pick.there Pick.here)) (HSub.nil _)) rfl (by kernel_rfl) (by kernel_rfl) (by kernel_rfl) rfl (Pure.fieldH rfl) ?_
      refine LAny.take (i := 6) (by first | exact HSub.nil _ | exact HSub.refl _ | exact HSub.drop (HSub.refl _) | exact HSub.pick Pick.here (HSub.nil _) | exact HSub.pick (Pick.there Pick.here) (HSub.nil _) | exact HSub.pick (Pick.there (Pick.there Pick.here)) (HSub.nil _)) rfl (by kernel_rfl) (by kernel_rfl) (by kernel_rfl) rfl (Pure.loadH (c := .list _) rfl (List.Mem.head _) rfl) ?_
      refine LAny.take (i := 10) (by first | exact HSub.nil _ | exact HSub.refl _ | exact HSub.drop (HSub.refl _) | exact HSub.pick Pick.here (HSub.nil _) | exact HSub.pick (Pick.there Pick.here) (HSub.nil _) | exact HSub.pick (Pick.there (Pick.there Pick.here)) (HSub.nil _)) rfl (by kernel_rfl) (by kernel_rfl) (by kernel_rfl) rfl (Pure.mv (lv := .atom _) rfl) ?_
      refine LAny.take (i := 11) (by first | exact HSub.nil _ | exact HSub.refl _ | exact HSub.drop (HSub.refl _) | exact HSub.pick Pick.here (HSub.nil _) | exact HSub.pick (Pick.there Pick.here) (HSub.nil _) | exact HSub.pick (Pick.there (Pick.there Pick.here)) (HSub.nil _)) rfl (by kernel_rfl) (by kernel_rfl) (by kernel_rfl) rfl (Pure.fieldH rfl) ?_
      refine LAny.take (i := 12) (by first | exact HSub.nil _ | exact HSub.refl _ | exact HSub.drop (HSub.refl _) | exact HSub.pick Pick.here (HSub.nil _) | exact HSub.pick (Pick.there Pick.here) (HSub.nil _) | exact HSub.pick (Pick.there (Pick.there Pick.here)) (HSub.nil _)) rfl (by kernel_rfl) (by kernel_rfl) (by kernel_rfl) rfl (Pure.loadH (c := .list _) rfl (List.Mem.head _) rfl) ?_
      refine LAny.late ?_ (HSub.pick Pick.here (HSub.nil _))
      refine LLate.one (i := 7) (by kernel_rfl) (LLateOp.step (H1 := []) rfl (.inl rfl) rfl (List.Perm.refl _) (HSub.pick Pick.here (HSub.nil _)) (S.fnV [_] rfl rfl (one_ok hG index hk1 (by omega) (by omega)) ?_))
      refine LLate.any [(b8, .cells 80 [int .i64 kind, str name, .list (index.map encE), .list (value.map encE), .list (encThen (.mk kind name index value thn els)), .list (encElse (.mk kind name index value thn els))])] (fun _ h => h) ?_
      refine LAny.take (i := 8) (by first | exact HSub.nil _ | exact HSub.refl _ | exact HSub.drop (HSub.refl _) | exact HSub.pick Pick.here (HSub.nil _) | exact HSub.pick (Pick.there Pick.here) (HSub.nil _) | exact HSub.pick (Pick.there (Pick.there Pick.here)) (HSub.nil _)) rfl (by kernel_rfl) (by kernel_rfl) (by kernel_rfl) rfl (Pure.sadd rfl rfl (by first | omega | (simp only [List.length_append, List.length_cons, List.length_nil]; omega))) ?_
      refine LAny.take (i := 9) (by first | exact HSub.nil _ | exact HSub.refl _ | exact HSub.drop (HSub.refl _) | exact HSub.pick Pick.here (HSub.nil _) | exact HSub.pick (Pick.there Pick.here) (HSub.nil _) | exact HSub.pick (Pick.there (Pick.there Pick.here)) (HSub.nil _)) rfl (by kernel_rfl) (by kernel_rfl) (by kernel_rfl) rfl (Pure.sadd rfl rfl (by first | omega | (simp only [List.length_append, List.length_cons, List.length_nil]; omega))) ?_
      refine LAny.late ?_ (HSub.pick Pick.here (HSub.nil _))
      refine LLate.one (i := 13) (by kernel_rfl) (LLateOp.step (H1 := []) rfl (.inl rfl) rfl (List.Perm.refl _) (HSub.pick Pick.here (HSub.nil _)) (S.fnV [_] rfl rfl (one_ok hG value hk2 (by omega) (by omega)) ?_))
      refine LLate.one (i := 14) (by kernel_rfl) (LLateOp.pureH rfl rfl (Pure.sadd rfl rfl (by simp only [List.length_append, List.length_cons, List.length_nil]; omega)) ?_)
      refine LLate.one (i := 15) (by kernel_rfl) (LLateOp.pureH rfl rfl (Pure.sadd rfl rfl (by simp only [List.length_append, List.length_cons, List.length_nil]; omega)) ?_)
      refine LLate.one (i := 16) (by kernel_rfl) (LLateOp.step (H1 := H2) (F := [(b8, .cells 80 [int .i64 kind, str name, .list (index.map encE), .list (value.map encE), .list (encThen (.mk kind name index value thn els)), .list (encElse (.mk kind name index value thn els))])]) rfl (.inl rfl) rfl (List.perm_append_singleton _ _).symm (HSub.refl _) (LStep.call (args := [_, _]) (writeString_spec b _ (name ++ [91] ++ fOne index ++ [93, 32, 61, 32] ++ fOne value ++ [59, 10]) H2 hB2 (by simp only [List.length_append, List.length_cons, List.length_nil]; omega)) (fun v3 H3 h3 => ?_) (fun ch H3 h3 => ?_)))
      rotate_left
      · obtain ⟨⟨x, hx⟩, _⟩ := h3
        cases hx
      obtain ⟨_, hB3⟩ := h3
      refine LLate.done (by kernel_rfl) ?_
      repeat first
        | refine QThen.normal ?_
        | refine QBlock.normal ?_
      repeat first
        | refine LOps.nil ?_
        | refine LCode.region ?_
        | refine QThen.normal ?_
        | refine LOps.pure (Pure.mv (lv := .atom _) rfl) rfl ?_
        | refine LOps.pure (Pure.add rfl rfl (by omega)) rfl ?_
      exact ⟨_, _, _, by omega, ⟨i + 1, by omega, rfl, rfl, by rw [hta]; simpa only [List.append_assoc] using hB3⟩, ⟨rfl, rfl, rfl, rfl, rfl, int_eq (by omega), trivial⟩, ⟨_, List.Perm.refl _⟩, hj⟩
    have e2 : ¬ kind = 2 := of_decide_eq_false h2
    repeat first
      | refine LOps.nil ?_
      | refine LCode.seq ?_
      | refine LCode.region ?_
      | refine QThen.normal ?_
      | refine LOps.pure (Pure.as (lv := .atom _) rfl) rfl ?_
      | refine LOps.pure (Pure.eql rfl rfl) rfl ?_
    refine LCode.cond rfl (fun h3 => ?_) (fun h3 => ?_)
    · have e3 : kind = 6 := of_decide_eq_true h3
      rw [fLine, if_neg e1, if_neg e2, if_pos e3] at hm hta
      simp only [List.length_append, List.length_cons, List.length_nil] at hm
      repeat first
        | refine LCode.region ?_
        | refine LOps.pure (Pure.mv (lv := .atom _) rfl) rfl ?_
        | refine LOps.pure (Pure.fieldH rfl) rfl ?_
        | refine LOps.pure (Pure.loadH (c := .list _) rfl (List.Mem.head _) rfl) rfl ?_
      refine LOps.step (S.fnV [_] rfl rfl (one_ok hG value hk2 (by omega) (by omega)) ?_) rfl
      repeat first
        | refine LOps.pure (Pure.sadd rfl rfl (by first | omega | (simp only [List.length_append, List.length_cons, List.length_nil]; omega))) rfl ?_
      refine LOps.step (S.callBH [_, _] rfl (writeString_spec b _ (fOne value ++ [59, 10]) H2 hB2 (by simp only [List.length_append, List.length_cons, List.length_nil]; omega)) fun v3 H3 hB3 => ?_) rfl
      repeat first
        | refine LOps.nil ?_
        | refine LCode.region ?_
        | refine QThen.normal ?_
        | refine QBlock.normal ?_
        | refine LOps.pure (Pure.mv (lv := .atom _) rfl) rfl ?_
        | refine LOps.pure (Pure.add rfl rfl (by omega)) rfl ?_
      exact ⟨_, _, _, by omega, ⟨i + 1, by omega, rfl, rfl, by rw [hta]; simpa only [List.append_assoc] using hB3⟩, ⟨rfl, rfl, rfl, rfl, rfl, int_eq (by omega), trivial⟩, HSub.drop (HSub.refl _), hj⟩
    have e3 : ¬ kind = 6 := of_decide_eq_false h3
    repeat first
      | refine LOps.nil ?_
      | refine LCode.seq ?_
      | refine LCode.region ?_
      | refine QThen.normal ?_
      | refine LOps.pure (Pure.as (lv := .atom _) rfl) rfl ?_
      | refine LOps.pure (Pure.eql rfl rfl) rfl ?_
    refine LCode.cond rfl (fun h4 => ?_) (fun h4 => ?_)
    · have e4 : kind = 5 := of_decide_eq_true h4
      rw [fLine, if_neg e1, if_neg e2, if_neg e3, if_pos e4] at hm hta
      simp only [List.length_append, List.length_cons, List.length_nil] at hm
      repeat first
        | refine LCode.region ?_
        | refine LOps.pure (Pure.mv (lv := .atom _) rfl) rfl ?_
        | refine LOps.pure (Pure.fieldH rfl) rfl ?_
        | refine LOps.pure (Pure.loadH (c := .list _) rfl (List.Mem.head _) rfl) rfl ?_
      refine LOps.step (S.fnV [_] rfl rfl (one_ok hG value hk2 (by omega) (by omega)) ?_) rfl
      repeat first
        | refine LOps.pure (Pure.sadd rfl rfl (by first | omega | (simp only [List.length_append, List.length_cons, List.length_nil]; omega))) rfl ?_
      refine LOps.step (S.callBH [_, _] rfl (writeString_spec b _ ([114, 101, 116, 117, 114, 110, 32] ++ fOne value ++ [59, 10]) H2 hB2 (by simp only [List.length_append, List.length_cons, List.length_nil]; omega)) fun v3 H3 hB3 => ?_) rfl
      repeat first
        | refine LOps.nil ?_
        | refine LCode.region ?_
        | refine QThen.normal ?_
        | refine QBlock.normal ?_
        | refine LOps.pure (Pure.mv (lv := .atom _) rfl) rfl ?_
        | refine LOps.pure (Pure.add rfl rfl (by omega)) rfl ?_
      exact ⟨_, _, _, by omega, ⟨i + 1, by omega, rfl, rfl, by rw [hta]; simpa only [List.append_assoc] using hB3⟩, ⟨rfl, rfl, rfl, rfl, rfl, int_eq (by omega), trivial⟩, HSub.drop (HSub.refl _), hj⟩
    have e4 : ¬ kind = 5 := of_decide_eq_false h4
    repeat first
      | refine LOps.nil ?_
      | refine LCode.seq ?_
      | refine LCode.region ?_
      | refine QThen.normal ?_
      | refine LOps.pure (Pure.as (lv := .atom _) rfl) rfl ?_
      | refine LOps.pure (Pure.eql rfl rfl) rfl ?_
    refine LCode.cond rfl (fun h5 => ?_) (fun h5 => ?_)
    · have e5 : kind = 7 := of_decide_eq_true h5
      rw [fLine, if_neg e1, if_neg e2, if_neg e3, if_neg e4, if_pos e5] at hm hta
      simp only [List.length_append, List.length_cons, List.length_nil] at hm
      repeat first
        | refine LCode.region ?_
        | refine LOps.pure (Pure.mv (lv := .atom _) rfl) rfl ?_
      refine LOps.step (S.callBH [_, _] rfl (writeString_spec b _ ([104, 97, 108, 116, 59, 10]) H2 hB2 (by simp only [List.length_append, List.length_cons, List.length_nil]; omega)) fun v3 H3 hB3 => ?_) rfl
      repeat first
        | refine LOps.nil ?_
        | refine LCode.region ?_
        | refine QThen.normal ?_
        | refine QBlock.normal ?_
        | refine LOps.pure (Pure.mv (lv := .atom _) rfl) rfl ?_
        | refine LOps.pure (Pure.add rfl rfl (by omega)) rfl ?_
      exact ⟨_, _, _, by omega, ⟨i + 1, by omega, rfl, rfl, by rw [hta]; simpa only [List.append_assoc] using hB3⟩, ⟨rfl, rfl, rfl, rfl, rfl, int_eq (by omega), trivial⟩, HSub.drop (HSub.refl _), hj⟩
    have e5 : ¬ kind = 7 := of_decide_eq_false h5
    repeat first
      | refine LOps.nil ?_
      | refine LCode.seq ?_
      | refine LCode.region ?_
      | refine QThen.normal ?_
      | refine LOps.pure (Pure.as (lv := .atom _) rfl) rfl ?_
      | refine LOps.pure (Pure.eql rfl rfl) rfl ?_
    refine LCode.cut [(0, ptr b 0), (2, str ind), (6, .atom (.func (.func 86) #[] #[])), (8, ptr b8 0), (10, .list (l.map encS)), (11, int .i64 l.length), (12, int .i64 i), (76, bool (decide (kind = 3 ∨ kind = 4)))] ?_ (fun j2 hj2 => ?_)
    · refine LCode.cond rfl (fun h6 => ?_) (fun h6 => ?_)
      · have e6 : kind = 3 := of_decide_eq_true h6
        repeat first
          | refine LCode.skip ?_
          | refine QThen.normal ?_
        exact ⟨⟨rfl, rfl, rfl, rfl, rfl, rfl, rfl, bool_eq (by simp [e6]; rfl), trivial⟩, rfl, rfl⟩
      · have e6 : ¬ kind = 3 := of_decide_eq_false h6
        repeat first
          | refine LOps.nil ?_
          | refine LCode.region ?_
          | refine QThen.normal ?_
          | refine LOps.pure (Pure.as (lv := .atom _) rfl) rfl ?_
          | refine LOps.pure (Pure.eql rfl rfl) rfl ?_
        exact ⟨⟨rfl, rfl, rfl, rfl, rfl, rfl, rfl, bool_eq (by simp [e6]; exact Iff.rfl), trivial⟩, rfl, rfl⟩
    refine LCode.cond rfl (fun h6 => ?_) (fun h6 => ?_)
    · have e6 : kind = 3 ∨ kind = 4 := of_decide_eq_true h6
      rw [fLine, if_neg e1, if_neg e2, if_neg e3, if_neg e4, if_neg e5, if_pos e6] at hm hta
      obtain ⟨word, hw⟩ : ∃ w : List UInt8, w = (if kind = 4 then [119, 104, 105, 108, 101, 32] else [105, 102, 32]) := ⟨_, rfl⟩
      rw [← hw] at hm hta
      simp only [List.length_append, List.length_cons, List.length_nil] at hm
      repeat first
        | refine LOps.nil ?_
        | refine LCode.seq ?_
        | refine LCode.region ?_
        | refine QThen.normal ?_
        | refine LOps.pure (Pure.as (lv := .atom _) rfl) rfl ?_
        | refine LOps.pure (Pure.fieldH rfl) rfl ?_
        | refine LOps.pure (Pure.loadH (c := .atom _) rfl (List.Mem.head _) rfl) rfl ?_
        | refine LOps.pure (Pure.eql rfl rfl) rfl ?_
      refine LCode.cut [(0, ptr b 0), (2, str ind), (6, .atom (.func (.func 86) #[] #[])), (8, ptr b8 0), (9, str word), (10, .list (l.map encS)), (11, int .i64 l.length), (12, int .i64 i)] ?_ (fun j3 hj3 => ?_)
      · refine LCode.cond rfl (fun h7 => ?_) (fun h7 => ?_)
        · have e7 : kind = 4 := of_decide_eq_true h7
          repeat first
            | refine LOps.nil ?_
            | refine LCode.region ?_
            | refine QThen.normal ?_
            | refine LOps.pure (Pure.as (lv := .atom _) rfl) rfl ?_
          exact ⟨⟨rfl, rfl, rfl, rfl, str_eq (by rw [hw, if_pos e7]), rfl, rfl, rfl, trivial⟩, rfl, rfl⟩
        · have e7 : ¬ kind = 4 := of_decide_eq_false h7
          repeat first
            | refine LCode.skip ?_
            | refine QThen.normal ?_
          exact ⟨⟨rfl, rfl, rfl, rfl, str_eq (by rw [hw, if_neg e7]), rfl, rfl, rfl, trivial⟩, rfl, rfl⟩
      repeat first
        | refine LCode.seq ?_
        | refine LCode.region ?_
        | refine LOps.pure (Pure.mv (lv := .atom _) rfl) rfl ?_
        | refine LOps.pure (Pure.fieldH rfl) rfl ?_
        | refine LOps.pure (Pure.loadH (c := .list _) rfl (List.Mem.head _) rfl) rfl ?_
      refine LOps.step (S.fnV [_] rfl rfl (one_ok hG value hk2 (by omega) (by omega)) ?_) rfl
      refine LOps.pure (Pure.sadd rfl rfl (by omega)) rfl ?_
      repeat first
        | refine LOps.pure (Pure.sadd rfl rfl (by first | omega | (simp only [List.length_append, List.length_cons, List.length_nil]; omega))) rfl ?_
      refine LOps.step (S.callBH [_, _] rfl (writeString_spec b _ (word ++ fOne value ++ [32, 123, 10]) H2 hB2 (by simp only [List.length_append, List.length_cons, List.length_nil]; omega)) fun v3 H3 hB3 => ?_) rfl
      repeat first
        | refine LOps.nil ?_
        | refine LCode.seq ?_
        | refine LCode.region ?_
        | refine QThen.normal ?_
        | refine LOps.pure (Pure.mv (lv := .atom _) rfl) rfl ?_
        | refine LOps.pure (Pure.fieldH rfl) rfl ?_
        | refine LOps.pure (Pure.sadd rfl rfl (by first | omega | (simp only [List.length_append, List.length_cons, List.length_nil]; omega))) rfl ?_
        | refine LOps.pure (Pure.loadH (c := .list _) rfl (List.Mem.head _) rfl) rfl ?_
      refine LOps.step (S.callBH [_, _, _] (show _ = [ptr b 0, .list (encThen (.mk kind name index value thn els)), str (ind2 ind)] from rfl) (by
        rw [encThen_eq]
        exact ih thn (ind2 ind) _ b H3 (by omega) hk3 (by simp only [List.length_append, List.length_cons, List.length_nil]; omega) hB3) fun v4 H4 hB4 => ?_) rfl
      repeat first
        | refine LOps.nil ?_
        | refine LCode.seq ?_
        | refine LCode.region ?_
        | refine QThen.normal ?_
        | refine LOps.pure (Pure.llen rfl) rfl ?_
        | refine LOps.pure (Pure.fieldH rfl) rfl ?_
        | refine LOps.pure (Pure.loadH (c := .list _) rfl (List.Mem.head _) rfl) rfl ?_
        | refine LOps.pure (Pure.gtr rfl rfl) rfl ?_
      have hel : (encElse (.mk kind name index value thn els)).length = els.length := by
        rw [encElse_eq, List.length_map]
        rfl
      refine LCode.cond rfl (fun h8 => ?_) (fun h8 => ?_)
      · have hne : els.isEmpty = false := by
          have := of_decide_eq_true h8
          cases els with
          | nil => simp only [List.length_nil] at hel; omega
          | cons _ _ => rfl
        rw [hne, if_neg (by decide)] at hm hta
        simp only [List.length_append, List.length_cons, List.length_nil] at hm
        repeat first
          | refine LCode.seq ?_
          | refine LCode.region ?_
          | refine LOps.pure (Pure.mv (lv := .atom _) rfl) rfl ?_
          | refine LOps.pure (Pure.sadd rfl rfl (by first | omega | (simp only [List.length_append, List.length_cons, List.length_nil]; omega))) rfl ?_
        refine LOps.step (S.callBH [_, _] rfl (writeString_spec b _ (ind ++ [125, 32, 101, 108, 115, 101, 32, 123, 10]) H4 hB4 (by simp only [List.length_append, List.length_cons, List.length_nil]; omega)) fun v5 H5 hB5 => ?_) rfl
        repeat first
          | refine LOps.nil ?_
          | refine LCode.region ?_
          | refine QThen.normal ?_
          | refine LOps.pure (Pure.mv (lv := .atom _) rfl) rfl ?_
          | refine LOps.pure (Pure.fieldH rfl) rfl ?_
          | refine LOps.pure (Pure.sadd rfl rfl (by first | omega | (simp only [List.length_append, List.length_cons, List.length_nil]; omega))) rfl ?_
          | refine LOps.pure (Pure.loadH (c := .list _) rfl (List.Mem.head _) rfl) rfl ?_
        refine LOps.step (S.callBH [_, _, _] (show _ = [ptr b 0, .list (encElse (.mk kind name index value thn els)), str (ind2 ind)] from rfl) (by
          rw [encElse_eq]
          exact ih els (ind2 ind) _ b H5 (by omega) hk4 (by simp only [List.length_append, List.length_cons, List.length_nil]; omega) hB5) fun v6 H6 hB6 => ?_) rfl
        repeat first
          | refine LOps.nil ?_
          | refine LCode.region ?_
          | refine QThen.normal ?_
          | refine LOps.pure (Pure.mv (lv := .atom _) rfl) rfl ?_
          | refine LOps.pure (Pure.sadd rfl rfl (by first | omega | (simp only [List.length_append, List.length_cons, List.length_nil]; omega))) rfl ?_
        refine LOps.step (S.callBH [_, _] rfl (writeString_spec b _ (ind ++ [125, 10]) H6 hB6 (by simp only [List.length_append, List.length_cons, List.length_nil]; omega)) fun v7 H7 hB7 => ?_) rfl
        repeat first
          | refine LOps.nil ?_
          | refine LCode.region ?_
          | refine QThen.normal ?_
          | refine QBlock.normal ?_
          | refine LOps.pure (Pure.mv (lv := .atom _) rfl) rfl ?_
          | refine LOps.pure (Pure.add rfl rfl (by omega)) rfl ?_
        exact ⟨_, _, _, by omega, ⟨i + 1, by omega, rfl, rfl, by rw [hta]; simpa only [List.append_assoc] using hB7⟩, ⟨rfl, rfl, rfl, rfl, rfl, int_eq (by omega), trivial⟩, HSub.drop (HSub.refl _), hj3.trans (hj2.trans hj)⟩
      · have hne : els.isEmpty = true := by
          have := of_decide_eq_false h8
          cases els with
          | nil => rfl
          | cons _ _ => simp only [List.length_cons] at hel; omega
        rw [hne, if_pos rfl] at hm hta
        simp only [List.length_append, List.length_cons, List.length_nil] at hm
        repeat first
          | refine LCode.region ?_
          | refine LCode.skip ?_
          | refine QThen.normal ?_
          | refine LOps.pure (Pure.mv (lv := .atom _) rfl) rfl ?_
          | refine LOps.pure (Pure.sadd rfl rfl (by first | omega | (simp only [List.length_append, List.length_cons, List.length_nil]; omega))) rfl ?_
        refine LOps.step (S.callBH [_, _] rfl (writeString_spec b _ (ind ++ [125, 10]) H4 hB4 (by simp only [List.length_append, List.length_cons, List.length_nil]; omega)) fun v7 H7 hB7 => ?_) rfl
        repeat first
          | refine LOps.nil ?_
          | refine LCode.region ?_
          | refine QThen.normal ?_
          | refine QBlock.normal ?_
          | refine LOps.pure (Pure.mv (lv := .atom _) rfl) rfl ?_
          | refine LOps.pure (Pure.add rfl rfl (by omega)) rfl ?_
        exact ⟨_, _, _, by omega, ⟨i + 1, by omega, rfl, rfl, by rw [hta]; simpa only [List.append_assoc, List.append_nil, List.nil_append] using hB7⟩, ⟨rfl, rfl, rfl, rfl, rfl, int_eq (by omega), trivial⟩, HSub.drop (HSub.refl _), hj3.trans (hj2.trans hj)⟩
    · have e6 : ¬ (kind = 3 ∨ kind = 4) := of_decide_eq_false h6
      rw [fLine, if_neg e1, if_neg e2, if_neg e3, if_neg e4, if_neg e5, if_neg e6] at hm hta
      repeat first
        | refine LOps.nil ?_
        | refine LCode.region ?_
        | refine LCode.skip ?_
        | refine QThen.normal ?_
        | refine QBlock.normal ?_
        | refine LOps.pure (Pure.mv (lv := .atom _) rfl) rfl ?_
        | refine LOps.pure (Pure.add rfl rfl (by omega)) rfl ?_
      exact ⟨_, _, _, by omega, ⟨i + 1, by omega, rfl, rfl, by rw [hta]; simpa only [List.append_assoc, List.append_nil] using hB2⟩, ⟨rfl, rfl, rfl, rfl, rfl, int_eq (by omega), trivial⟩, HSub.drop (HSub.refl _), hj2.trans hj⟩
  · have hi' : i = l.length := by have := of_decide_eq_false hc; omega
    subst hi'
    rw [List.take_length] at hB
    repeat first
      | refine LCode.exit ?_
      | refine QThen.exit ?_
      | refine QBlock.hit ?_
    exact RetPost.normal hj AllRes.nil (HSub.refl _) ⟨⟨_, rfl⟩, hB⟩
theorem lines_spec (hG : GW B0 w0) : ∀ (n : Nat) (l : List Sm) (ind acc : List UInt8) (b : Nat) (H : Heap), nSms l ≤ n → n ≤ 1000000000 → okSs l → acc.length + (fSs ind l).length ≤ 1000000000 → BH b acc H →
      LCalls (KC B0 w0) 52 [ptr b 0, .list (l.map encS), str ind] H (fun r H' => (∃ x, r = .ret x) ∧ BH b (acc ++ fSs ind l) H') := by
  intro n
  induction n with
  | zero => exact fun l ind acc b H hn hn2 hk hl hB => lines_step hG 0 (fun _ _ _ _ _ h => by omega) l ind acc b H hn hn2 hk hl hB
  | succ n ih => exact fun l ind acc b H hn hn2 hk hl hB => lines_step hG (n + 1) (fun l ind acc b H h hk hl hB => ih l ind acc b H (by omega) (by omega) hk hl hB) l ind acc b H hn hn2 hk hl hB
end
end Go.Proofs.YtfodkbchknknjaaGreatDoor
