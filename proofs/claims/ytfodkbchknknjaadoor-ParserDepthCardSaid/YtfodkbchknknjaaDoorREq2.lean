/- The reference's comparison of statements, walked. -/
import Derived.Test.YtfodkbchknknjaaDoorREq
set_option linter.unusedVariables false
set_option linter.unusedSimpArgs false
namespace Go.Proofs.YtfodkbchknknjaaDoor
open Go.GL Go.RowKit Go.Stele
set_option maxRecDepth 100000
set_option maxHeartbeats 4000000
attribute [local irreducible] LOps LCode LStep LCalls Go.GL.Pure QThen QBlock RetPost LQ LAny LLate LLateOp
section
variable {B0 : Nat} {w0 : World}
theorem sameStmts_spec : ∀ (n : Nat) (a b : List Sm), nSms a ≤ n → n ≤ 4611686018427387904 → LCalls (KC B0 w0) 15 [.list (a.map encS), .list (b.map encS)] [] (Ret (bool (eqSms a b))) := by
  intro n
  induction n using Nat.strongRecOn with
  | _ n ih =>
  intro a b hn hb
  have ha := nSms_len a
  have hla : (a.map encS).length = a.length := List.length_map _
  have hlb : (b.map encS).length = b.length := List.length_map _
  rw [eqSms_list]
  refine LCalls.intro Tryd.func15 rfl (n := 97) rfl rfl rfl ?_
  repeat first
    | refine LOps.nil ?_
    | refine LCode.seq ?_
    | refine LCode.region ?_
    | refine QThen.normal ?_
    | refine LOps.pure (Pure.as (lv := .atom _) rfl) rfl ?_
    | refine LOps.pure (Pure.mv (lv := .list _) rfl) rfl ?_
    | refine LOps.pure (Pure.llen rfl) rfl ?_
    | refine LOps.pure (Pure.neq rfl rfl) rfl ?_
  refine LCode.cond rfl (fun hc => ?_) (fun hc => ?_)
  · have hne : a.length ≠ b.length := by
      have : ¬ ((a.map encS).length : Int) = (b.map encS).length := by simpa using hc
      omega
    repeat first
      | refine LOps.nil ?_
      | refine LCode.seq ?_
      | refine LCode.region ?_
      | refine LCode.ret ?_
      | refine QThen.normal ?_
      | refine QThen.ret ?_
      | refine LOps.pure (Pure.as (lv := .atom _) rfl) rfl ?_
    exact retRet rfl (AllRes.cons (ResIs.tmp (v := .atom _) rfl (LV.Sub.refl _)) AllRes.nil) (bool_eq (eqList_len a b hne).symm)
  · have hle : a.length = b.length := by
      have : ((a.map encS).length : Int) = (b.map encS).length := by simpa using hc
      omega
    repeat first
      | refine LOps.nil ?_
      | refine LCode.seq ?_
      | refine LCode.region ?_
      | refine LCode.skip ?_
      | refine LCode.block ?_
      | refine QThen.normal ?_
      | refine LOps.pure (Pure.as (lv := .atom _) rfl) rfl ?_
    refine LCode.loopI (fun k ls H => ∃ i, k = a.length - i ∧ i ≤ a.length ∧ ls = [(0, .list (a.map encS)), (1, .list (b.map encS)), (5, int .i64 i)] ∧ H = [] ∧ eqList eqSm a b = eqList eqSm (a.drop i) (b.drop i))
      ⟨_, _, _, ⟨0, rfl, Nat.zero_le _, rfl, rfl, rfl⟩, ⟨rfl, rfl, rfl, trivial⟩, HSub.refl _⟩ ?_
    rintro k ls H ⟨i, rfl, hi, rfl, rfl, hE⟩ j hj
    repeat first
      | refine LOps.nil ?_
      | refine LCode.seq ?_
      | refine LCode.region ?_
      | refine QThen.normal ?_
      | refine LOps.pure (Pure.mv (lv := .list _) rfl) rfl ?_
      | refine LOps.pure (Pure.mv (lv := .atom _) rfl) rfl ?_
      | refine LOps.pure (Pure.llen rfl) rfl ?_
      | refine LOps.pure (Pure.lss rfl rfl) rfl ?_
    refine LCode.cond rfl (fun hc => ?_) (fun hc => ?_)
    · have hlt : i < a.length := by have := of_decide_eq_true hc; omega
      have hlt2 : i < b.length := by omega
      have hna : nExs (smIndex a[i]) < n ∧ nExs (smValue a[i]) < n ∧ nSms (smThen a[i]) < n ∧ nSms (smElse a[i]) < n := by
        have h1 := nSms_mem (List.getElem_mem hlt)
        have h2 := nSm_eq a[i]
        omega
      repeat first
        | refine LCode.seq ?_
        | refine LCode.skip ?_
        | refine LCode.block ?_
        | refine QThen.normal ?_
      have hpt := eqSm_parts a[i] b[i]
      refine LCode.cut [(0, .list (a.map encS)), (1, .list (b.map encS)), (5, int .i64 i), (96, bool (!eqSm a[i] b[i]))] ?_ (fun j2 hj2 => ?_)
      · refine LCode.quiet (by kernel_rfl) ?_
        repeat first
          | refine LQ.pure (Pure.mv (lv := .list _) rfl) rfl ?_
          | refine LQ.pure (Pure.mv (lv := .atom _) rfl) rfl ?_
        refine LQ.pure (Pure.ixRef (el' := encS a[i]) (cs := [_, _, _, _, _, _]) rfl rfl (by omega) (map_get _ _ _ hlt) rfl rfl) rfl ?_
        repeat first
          | refine LQ.pure (Pure.mv (lv := .list _) rfl) rfl ?_
          | refine LQ.pure (Pure.mv (lv := .atom _) rfl) rfl ?_
          | refine LQ.pure (Pure.field1 rfl rfl) rfl ?_
          | refine LQ.pure (Pure.loadRef (c := .atom _) rfl rfl) rfl ?_
        refine LQ.pure (Pure.ixRef (el' := encS b[i]) (cs := [_, _, _, _, _, _]) rfl rfl (by omega) (map_get _ _ _ hlt2) rfl rfl) rfl ?_
        repeat first
          | refine LQ.pure (Pure.mv (lv := .atom _) rfl) rfl ?_
          | refine LQ.pure (Pure.neq rfl rfl) rfl ?_
          | refine LQ.pure (Pure.field1 rfl rfl) rfl ?_
          | refine LQ.pure (Pure.loadRef (c := .atom _) rfl rfl) rfl ?_
        refine LQ.bcase 28 rfl (fun h1 => ?_) (fun h1 => ?_)
        · repeat first
            | refine LQ.pure (Pure.mv (lv := .atom _) rfl) rfl ?_
            | refine LQ.pure (Pure.pickT (lv := .atom _) rfl rfl) rfl ?_
            | refine LQ.skip rfl rfl rfl rfl ?_
            | refine LQ.nil ?_
            | refine QThen.normal ?_
          exact ⟨⟨rfl, rfl, rfl, bool_eq (by rw [hpt, not_t h1]; rfl), trivial⟩, rfl, rfl⟩
        · have h1' := not_f h1
          rw [h1', Bool.true_and] at hpt
          repeat first
            | refine LQ.pure (Pure.mv (lv := .list _) rfl) rfl ?_
            | refine LQ.pure (Pure.mv (lv := .atom _) rfl) rfl ?_
            | refine LQ.want rfl rfl ?_
          refine LQ.pure (Pure.ixRef (el' := encS a[i]) (cs := [_, _, _, _, _, _]) rfl rfl (by omega) (map_get _ _ _ hlt) rfl rfl) rfl ?_
          repeat first
            | refine LQ.pure (Pure.mv (lv := .list _) rfl) rfl ?_
            | refine LQ.pure (Pure.mv (lv := .atom _) rfl) rfl ?_
            | refine LQ.pure (Pure.field1 rfl rfl) rfl ?_
            | refine LQ.pure (Pure.loadRef (c := .atom _) rfl rfl) rfl ?_
            | refine LQ.want rfl rfl ?_
          refine LQ.pure (Pure.ixRef (el' := encS b[i]) (cs := [_, _, _, _, _, _]) rfl rfl (by omega) (map_get _ _ _ hlt2) rfl rfl) rfl ?_
          repeat first
            | refine LQ.pure (Pure.mv (lv := .atom _) rfl) rfl ?_
            | refine LQ.pure (Pure.field1 rfl rfl) rfl ?_
            | refine LQ.pure (Pure.loadRef (c := .atom _) rfl rfl) rfl ?_
            | refine LQ.pure (Pure.sneq rfl rfl) rfl ?_
            | refine LQ.pure (Pure.pickF (lv := .atom _) rfl rfl) rfl ?_
            | refine LQ.want rfl rfl ?_
          refine LQ.bcase 41 rfl (fun h2 => ?_) (fun h2 => ?_)
          · repeat first
              | refine LQ.pure (Pure.mv (lv := .atom _) rfl) rfl ?_
              | refine LQ.pure (Pure.pickT (lv := .atom _) rfl rfl) rfl ?_
              | refine LQ.skip rfl rfl rfl rfl ?_
              | refine LQ.nil ?_
              | refine QThen.normal ?_
            exact ⟨⟨rfl, rfl, rfl, bool_eq (by rw [hpt, not_t h2]; rfl), trivial⟩, rfl, rfl⟩
          · have h2' := not_f h2
            rw [h2', Bool.true_and] at hpt
            repeat first
              | refine LQ.pure (Pure.mv (lv := .list _) rfl) rfl ?_
              | refine LQ.pure (Pure.mv (lv := .atom _) rfl) rfl ?_
              | refine LQ.want rfl rfl ?_
            refine LQ.pure (Pure.ixRef (el' := encS a[i]) (cs := [_, _, _, _, _, _]) rfl rfl (by omega) (map_get _ _ _ hlt) rfl rfl) rfl ?_
            repeat first
              | refine LQ.pure (Pure.mv (lv := .list _) rfl) rfl ?_
              | refine LQ.pure (Pure.mv (lv := .atom _) rfl) rfl ?_
              | refine LQ.pure (Pure.field1 rfl rfl) rfl ?_
              | refine LQ.pure (Pure.loadRef (c := .list _) rfl rfl) rfl ?_
              | refine LQ.want rfl rfl ?_
            refine LQ.pure (Pure.ixRef (el' := encS b[i]) (cs := [_, _, _, _, _, _]) rfl rfl (by omega) (map_get _ _ _ hlt2) rfl rfl) rfl ?_
            repeat first
              | refine LQ.pure (Pure.field1 rfl rfl) rfl ?_
              | refine LQ.pure (Pure.loadRef (c := .list _) rfl rfl) rfl ?_
              | refine LQ.want rfl rfl ?_
            refine LQ.call (args := [_, _]) (v := .bool (eqExs (smIndex a[i]) (smIndex b[i]))) (ret_any (sameExprs_spec _ (smIndex a[i]) (smIndex b[i]) (Nat.le_refl _) (by omega))) rfl ?_
            repeat first
              | refine LQ.pure (Pure.mv (lv := .atom _) rfl) rfl ?_
              | refine LQ.pure (Pure.pickF (lv := .atom _) rfl rfl) rfl ?_
              | refine LQ.pure (Pure.not rfl) rfl ?_
              | refine LQ.want rfl rfl ?_
            refine LQ.bcase 55 rfl (fun h3 => ?_) (fun h3 => ?_)
            · repeat first
                | refine LQ.pure (Pure.mv (lv := .atom _) rfl) rfl ?_
                | refine LQ.pure (Pure.pickT (lv := .atom _) rfl rfl) rfl ?_
                | refine LQ.skip rfl rfl rfl rfl ?_
                | refine LQ.nil ?_
                | refine QThen.normal ?_
              exact ⟨⟨rfl, rfl, rfl, bool_eq (by rw [hpt, not_t h3]; rfl), trivial⟩, rfl, rfl⟩
            · have h3' := not_f h3
              rw [h3', Bool.true_and] at hpt
              repeat first
                | refine LQ.pure (Pure.mv (lv := .list _) rfl) rfl ?_
                | refine LQ.pure (Pure.mv (lv := .atom _) rfl) rfl ?_
                | refine LQ.want rfl rfl ?_
              refine LQ.pure (Pure.ixRef (el' := encS a[i]) (cs := [_, _, _, _, _, _]) rfl rfl (by omega) (map_get _ _ _ hlt) rfl rfl) rfl ?_
              repeat first
                | refine LQ.pure (Pure.mv (lv := .list _) rfl) rfl ?_
                | refine LQ.pure (Pure.mv (lv := .atom _) rfl) rfl ?_
                | refine LQ.pure (Pure.field1 rfl rfl) rfl ?_
                | refine LQ.pure (Pure.loadRef (c := .list _) rfl rfl) rfl ?_
                | refine LQ.want rfl rfl ?_
              refine LQ.pure (Pure.ixRef (el' := encS b[i]) (cs := [_, _, _, _, _, _]) rfl rfl (by omega) (map_get _ _ _ hlt2) rfl rfl) rfl ?_
              repeat first
                | refine LQ.pure (Pure.field1 rfl rfl) rfl ?_
                | refine LQ.pure (Pure.loadRef (c := .list _) rfl rfl) rfl ?_
                | refine LQ.want rfl rfl ?_
              refine LQ.call (args := [_, _]) (v := .bool (eqExs (smValue a[i]) (smValue b[i]))) (ret_any (sameExprs_spec _ (smValue a[i]) (smValue b[i]) (Nat.le_refl _) (by omega))) rfl ?_
              repeat first
                | refine LQ.pure (Pure.mv (lv := .atom _) rfl) rfl ?_
                | refine LQ.pure (Pure.pickF (lv := .atom _) rfl rfl) rfl ?_
                | refine LQ.pure (Pure.not rfl) rfl ?_
                | refine LQ.want rfl rfl ?_
              refine LQ.bcase 69 rfl (fun h4 => ?_) (fun h4 => ?_)
              · repeat first
                  | refine LQ.pure (Pure.mv (lv := .atom _) rfl) rfl ?_
                  | refine LQ.pure (Pure.pickT (lv := .atom _) rfl rfl) rfl ?_
                  | refine LQ.skip rfl rfl rfl rfl ?_
                  | refine LQ.nil ?_
                  | refine QThen.normal ?_
                exact ⟨⟨rfl, rfl, rfl, bool_eq (by rw [hpt, not_t h4]; rfl), trivial⟩, rfl, rfl⟩
              · have h4' := not_f h4
                rw [h4', Bool.true_and] at hpt
                repeat first
                  | refine LQ.pure (Pure.mv (lv := .list _) rfl) rfl ?_
                  | refine LQ.pure (Pure.mv (lv := .atom _) rfl) rfl ?_
                  | refine LQ.want rfl rfl ?_
                refine LQ.pure (Pure.ixRef (el' := encS a[i]) (cs := [_, _, _, _, _, _]) rfl rfl (by omega) (map_get _ _ _ hlt) rfl rfl) rfl ?_
                repeat first
                  | refine LQ.pure (Pure.mv (lv := .list _) rfl) rfl ?_
                  | refine LQ.pure (Pure.mv (lv := .atom _) rfl) rfl ?_
                  | refine LQ.pure (Pure.field1 rfl rfl) rfl ?_
                  | refine LQ.pure (Pure.loadRef (c := .list _) rfl rfl) rfl ?_
                  | refine LQ.want rfl rfl ?_
                refine LQ.pure (Pure.ixRef (el' := encS b[i]) (cs := [_, _, _, _, _, _]) rfl rfl (by omega) (map_get _ _ _ hlt2) rfl rfl) rfl ?_
                repeat first
                  | refine LQ.pure (Pure.field1 rfl rfl) rfl ?_
                  | refine LQ.pure (Pure.loadRef (c := .list _) rfl rfl) rfl ?_
                  | refine LQ.want rfl rfl ?_
                refine LQ.call (args := [_, _]) (v := .bool (eqSms (smThen a[i]) (smThen b[i]))) (ret_any (by
                  have := ih _ hna.2.2.1 (smThen a[i]) (smThen b[i]) (Nat.le_refl _) (by omega)
                  rw [← encThen_eq, ← encThen_eq] at this
                  exact this)) rfl ?_
                repeat first
                  | refine LQ.pure (Pure.mv (lv := .atom _) rfl) rfl ?_
                  | refine LQ.pure (Pure.pickF (lv := .atom _) rfl rfl) rfl ?_
                  | refine LQ.pure (Pure.not rfl) rfl ?_
                  | refine LQ.want rfl rfl ?_
                refine LQ.bcase 83 rfl (fun h5 => ?_) (fun h5 => ?_)
                · repeat first
                    | refine LQ.pure (Pure.pickT (lv := .atom _) rfl rfl) rfl ?_
                    | refine LQ.skip rfl rfl rfl rfl ?_
                    | refine LQ.nil ?_
                    | refine QThen.normal ?_
                  exact ⟨⟨rfl, rfl, rfl, bool_eq (by rw [hpt, not_t h5]; rfl), trivial⟩, rfl, rfl⟩
                · have h5' := not_f h5
                  rw [h5', Bool.true_and] at hpt
                  repeat first
                    | refine LQ.pure (Pure.mv (lv := .list _) rfl) rfl ?_
                    | refine LQ.pure (Pure.mv (lv := .atom _) rfl) rfl ?_
                    | refine LQ.want rfl rfl ?_
                  refine LQ.pure (Pure.ixRef (el' := encS a[i]) (cs := [_, _, _, _, _, _]) rfl rfl (by omega) (map_get _ _ _ hlt) rfl rfl) rfl ?_
                  repeat first
                    | refine LQ.pure (Pure.mv (lv := .list _) rfl) rfl ?_
                    | refine LQ.pure (Pure.mv (lv := .atom _) rfl) rfl ?_
                    | refine LQ.pure (Pure.field1 rfl rfl) rfl ?_
                    | refine LQ.pure (Pure.loadRef (c := .list _) rfl rfl) rfl ?_
                    | refine LQ.want rfl rfl ?_
                  refine LQ.pure (Pure.ixRef (el' := encS b[i]) (cs := [_, _, _, _, _, _]) rfl rfl (by omega) (map_get _ _ _ hlt2) rfl rfl) rfl ?_
                  repeat first
                    | refine LQ.pure (Pure.field1 rfl rfl) rfl ?_
                    | refine LQ.pure (Pure.loadRef (c := .list _) rfl rfl) rfl ?_
                    | refine LQ.want rfl rfl ?_
                  refine LQ.call (args := [_, _]) (v := .bool (eqSms (smElse a[i]) (smElse b[i]))) (ret_any (by
                    have := ih _ hna.2.2.2 (smElse a[i]) (smElse b[i]) (Nat.le_refl _) (by omega)
                    rw [← encElse_eq, ← encElse_eq] at this
                    exact this)) rfl ?_
                  repeat first
                    | refine LQ.pure (Pure.pickF (lv := .atom _) rfl rfl) rfl ?_
                    | refine LQ.pure (Pure.not rfl) rfl ?_
                    | refine LQ.want rfl rfl ?_
                    | refine LQ.nil ?_
                    | refine QThen.normal ?_
                  exact ⟨⟨rfl, rfl, rfl, bool_eq (by rw [hpt]), trivial⟩, rfl, rfl⟩
      · rw [eqList_drop hlt hlt2] at hE
        refine LCode.cond rfl (fun hd => ?_) (fun hd => ?_)
        · have hd' : eqSm a[i] b[i] = false := by simpa using hd
          repeat first
            | refine LOps.nil ?_
            | refine LCode.seq ?_
            | refine LCode.region ?_
            | refine LCode.ret ?_
            | refine QThen.normal ?_
            | refine QThen.ret ?_
            | refine QBlock.ret ?_
            | refine LOps.pure (Pure.as (lv := .atom _) rfl) rfl ?_
          exact retRet (hj2.trans hj) (AllRes.cons (ResIs.tmp (v := .atom _) rfl (LV.Sub.refl _)) AllRes.nil) (bool_eq (by rw [hE, hd', Bool.false_and]))
        · have hd' : eqSm a[i] b[i] = true := by simpa using hd
          rw [hd', Bool.true_and] at hE
          repeat first
            | refine LOps.nil ?_
            | refine LCode.region ?_
            | refine LCode.skip ?_
            | refine QThen.normal ?_
            | refine QBlock.normal ?_
            | refine LOps.pure (Pure.as (lv := .atom _) rfl) rfl ?_
            | refine LOps.pure (Pure.mv (lv := .atom _) rfl) rfl ?_
            | refine LOps.pure (Pure.add rfl rfl (by omega)) rfl ?_
          exact ⟨_, _, _, by omega, ⟨i + 1, rfl, by omega, rfl, rfl, hE⟩, ⟨rfl, rfl, int_eq (by omega), trivial⟩, HSub.refl _, hj2.trans hj⟩
    · have hge : a.length ≤ i := by have := of_decide_eq_false hc; omega
      rw [eqList_end hge (by omega)] at hE
      repeat first
        | refine LOps.nil ?_
        | refine LCode.seq ?_
        | refine LCode.region ?_
        | refine LCode.ret ?_
        | refine LCode.exit ?_
        | refine QThen.normal ?_
        | refine QThen.exit ?_
        | refine QBlock.hit ?_
        | refine LOps.pure (Pure.as (lv := .atom _) rfl) rfl ?_
      exact retRet hj (AllRes.cons (ResIs.tmp (v := .atom _) rfl (LV.Sub.refl _)) AllRes.nil) (bool_eq hE.symm)
end
end Go.Proofs.YtfodkbchknknjaaDoor
