/- The parser's comparison of programs, walked. -/
import Derived.Test.YtfodkbchknknjaaGreatDoorREq3
set_option linter.unusedVariables false
set_option linter.unusedSimpArgs false
namespace Go.Proofs.YtfodkbchknknjaaGreatDoor
open Go.GL Go.RowKit Go.Stele
set_option maxRecDepth 100000
set_option maxHeartbeats 4000000
attribute [local irreducible] LOps LCode LStep LCalls Go.GL.Pure QThen QBlock RetPost LQ LAny LLate LLateOp
section
variable {B0 : Nat} {w0 : World}
/-- equalExpr, given the lists of arguments. -/
theorem eqE_spec (x y : Ex) (h : LCalls (KC B0 w0) 108 [.list ((exArgs x).map encE), .list ((exArgs y).map encE), .atom (.func (.func 109) #[] #[])] [] (Ret (bool (eqExs (exArgs x) (exArgs y))))) :
    LCalls (KC B0 w0) 109 [encE x, encE y] [] (Ret (bool (eqEx x y))) := by
  have hpt := eqEx_parts x y
  rw [← encArgs_eq, ← encArgs_eq] at h
  refine LCalls.intro Tryz.func109 rfl (n := 31) rfl rfl rfl ?_
  repeat first
    | refine LCode.seq ?_
    | refine LCode.region ?_
  refine LOps.step (S.box (cs := [str (exOp x), int .u32 (exNum x), str (exName x), .list (encArgs x)]) rfl fun b2 => ?_) rfl
  refine LOps.step (S.box (cs := [str (exOp y), int .u32 (exNum y), str (exName y), .list (encArgs y)]) rfl fun b3 => ?_) rfl
  repeat first
    | refine LOps.nil ?_
    | refine LCode.seq ?_
    | refine LCode.region ?_
    | refine QThen.normal ?_
    | refine LOps.pure (Pure.as (lv := .atom _) rfl) rfl ?_
    | refine LOps.pure (Pure.fieldH rfl) rfl ?_
    | refine LOps.pure (Pure.loadH (c := .atom _) rfl (List.Mem.head _) rfl) rfl ?_
    | refine LOps.pure (Pure.loadH (c := .atom _) rfl (List.Mem.tail _ (List.Mem.head _)) rfl) rfl ?_
    | refine LOps.pure (Pure.seq rfl rfl) rfl ?_
    | refine LOps.pure (Pure.mv (lv := .atom _) rfl) rfl ?_
  refine LOps.bcase 10 rfl (fun h1 => ?_) (fun h1 => ?_)
  · rw [h1, Bool.true_and] at hpt
    repeat first
      | refine LOps.pure (Pure.fieldH rfl) rfl ?_
      | refine LOps.pure (Pure.loadH (c := .atom _) rfl (List.Mem.head _) rfl) rfl ?_
      | refine LOps.pure (Pure.loadH (c := .atom _) rfl (List.Mem.tail _ (List.Mem.head _)) rfl) rfl ?_
      | refine LOps.pure (Pure.mv (lv := .atom _) rfl) rfl ?_
      | refine LOps.pure (Pure.eql rfl rfl) rfl ?_
      | refine LOps.pure (Pure.pickT (lv := .atom _) rfl rfl) rfl ?_
      | refine LOps.want rfl rfl ?_
    refine LOps.bcase 17 rfl (fun h2 => ?_) (fun h2 => ?_)
    · rw [h2, Bool.true_and] at hpt
      repeat first
        | refine LOps.pure (Pure.fieldH rfl) rfl ?_
        | refine LOps.pure (Pure.loadH (c := .atom _) rfl (List.Mem.head _) rfl) rfl ?_
        | refine LOps.pure (Pure.loadH (c := .atom _) rfl (List.Mem.tail _ (List.Mem.head _)) rfl) rfl ?_
        | refine LOps.pure (Pure.seq rfl rfl) rfl ?_
        | refine LOps.pure (Pure.mv (lv := .atom _) rfl) rfl ?_
        | refine LOps.pure (Pure.pickT (lv := .atom _) rfl rfl) rfl ?_
        | refine LOps.want rfl rfl ?_
      refine LOps.bcase 24 rfl (fun h3 => ?_) (fun h3 => ?_)
      · rw [h3, Bool.true_and] at hpt
        repeat first
          | refine LOps.pure (Pure.fieldH rfl) rfl ?_
          | refine LOps.pure (Pure.loadH (c := .list _) rfl (List.Mem.head _) rfl) rfl ?_
          | refine LOps.pure (Pure.loadH (c := .list _) rfl (List.Mem.tail _ (List.Mem.head _)) rfl) rfl ?_
          | refine LOps.want rfl rfl ?_
        refine LOps.step (S.fn [_, _, _] rfl h ?_) rfl
        repeat first
          | refine LOps.nil ?_
          | refine LCode.ret ?_
          | refine QThen.normal ?_
          | refine LOps.pure (Pure.as (lv := .atom _) rfl) rfl ?_
          | refine LOps.pure (Pure.pickT (lv := .atom _) rfl rfl) rfl ?_
        exact retRet rfl (AllRes.cons (ResIs.tmp (v := .atom _) rfl (LV.Sub.refl _)) AllRes.nil) (bool_eq (by rw [hpt]))
      · repeat first
          | refine LOps.nil ?_
          | refine LCode.ret ?_
          | refine QThen.normal ?_
          | refine LOps.pure (Pure.as (lv := .atom _) rfl) rfl ?_
          | refine LOps.pure (Pure.pickF (lv := .atom _) rfl rfl) rfl ?_
          | refine LOps.skip rfl rfl rfl rfl ?_
        exact retRet rfl (AllRes.cons (ResIs.tmp (v := .atom _) rfl (LV.Sub.refl _)) AllRes.nil) (bool_eq (by rw [hpt, h3]; rfl))
    · repeat first
        | refine LOps.nil ?_
        | refine LCode.ret ?_
        | refine QThen.normal ?_
        | refine LOps.pure (Pure.as (lv := .atom _) rfl) rfl ?_
        | refine LOps.pure (Pure.mv (lv := .atom _) rfl) rfl ?_
        | refine LOps.pure (Pure.pickF (lv := .atom _) rfl rfl) rfl ?_
        | refine LOps.skip rfl rfl rfl rfl ?_
      exact retRet rfl (AllRes.cons (ResIs.tmp (v := .atom _) rfl (LV.Sub.refl _)) AllRes.nil) (bool_eq (by rw [hpt, h2]; rfl))
  · repeat first
      | refine LOps.nil ?_
      | refine LCode.ret ?_
      | refine QThen.normal ?_
      | refine LOps.pure (Pure.as (lv := .atom _) rfl) rfl ?_
      | refine LOps.pure (Pure.mv (lv := .atom _) rfl) rfl ?_
      | refine LOps.pure (Pure.pickF (lv := .atom _) rfl rfl) rfl ?_
      | refine LOps.skip rfl rfl rfl rfl ?_
    exact retRet rfl (AllRes.cons (ResIs.tmp (v := .atom _) rfl (LV.Sub.refl _)) AllRes.nil) (bool_eq (by rw [hpt, h1]; rfl))
theorem eqEs_spec : ∀ (n : Nat) (a b : List Ex), nExs a ≤ n → n ≤ 4611686018427387904 → LCalls (KC B0 w0) 108 [.list (a.map encE), .list (b.map encE), .atom (.func (.func 109) #[] #[])] [] (Ret (bool (eqExs a b))) := by
  intro n
  induction n using Nat.strongRecOn with
  | _ n ih =>
  intro a b hn hb
  have ha := nExs_len a
  have hrec : ∀ (i : Nat) (h : i < a.length) (y : Ex), LCalls (KC B0 w0) 109 [encE a[i], encE y] [] (Ret (bool (eqEx a[i] y))) := fun i h y => by
    have h1 := nExs_mem (List.getElem_mem h)
    have h2 := nEx_eq a[i]
    exact eqE_spec a[i] y (ih _ (by omega) (exArgs a[i]) (exArgs y) (Nat.le_refl _) (by omega))
  rw [eqExs_list]
  refine LCalls.intro Tryz.func108 rfl (n := 32) rfl rfl rfl ?_
  have hla : (a.map encE).length = a.length := List.length_map _
  have hlb : (b.map encE).length = b.length := List.length_map _
  repeat first
    | refine LOps.nil ?_
    | refine LCode.seq ?_
    | refine LCode.region ?_
    | refine QThen.normal ?_
    | refine LOps.pure (Pure.as (lv := .atom _) rfl) rfl ?_
    | refine LOps.pure (Pure.mv (lv := .list _) rfl) rfl ?_
    | refine LOps.pure (Pure.llen rfl) rfl ?_
    | refine LOps.pure (Pure.neq rfl rfl) rfl ?_
  refine LCode.cond rfl (fun hc => ?_) (fun hc => ?_)
  · have hne : a.length ≠ b.length := by
      have : ¬ ((a.map encE).length : Int) = (b.map encE).length := by simpa using hc
      omega
    repeat first
      | refine LOps.nil ?_
      | refine LCode.seq ?_
      | refine LCode.region ?_
      | refine LCode.ret ?_
      | refine QThen.normal ?_
      | refine QThen.ret ?_
      | refine LOps.pure (Pure.as (lv := .atom _) rfl) rfl ?_
    exact retRet rfl (AllRes.cons (ResIs.tmp (v := .atom _) rfl (LV.Sub.refl _)) AllRes.nil) (bool_eq (eqList_len a b hne).symm)
  · have hle : a.length = b.length := by
      have : ((a.map encE).length : Int) = (b.map encE).length := by simpa using hc
      omega
    repeat first
      | refine LOps.nil ?_
      | refine LCode.seq ?_
      | refine LCode.region ?_
      | refine LCode.skip ?_
      | refine LCode.block ?_
      | refine QThen.normal ?_
      | refine LOps.pure (Pure.mv (lv := .list _) rfl) rfl ?_
      | refine LOps.pure (Pure.mv (lv := .atom _) rfl) rfl ?_
      | refine LOps.pure (Pure.llen rfl) rfl ?_
    refine LCode.loopI (fun k ls H => ∃ i, k = a.length - i ∧ i ≤ a.length ∧ ls = [(0, .list (a.map encE)), (1, .list (b.map encE)), (2, .atom (.func (.func 109) #[] #[])), (15, .list (a.map encE)), (16, int .i64 a.length), (17, int .i64 i)] ∧ H = [] ∧ eqList eqEx a b = eqList eqEx (a.drop i) (b.drop i))
      ⟨_, _, _, ⟨0, rfl, Nat.zero_le _, rfl, rfl, rfl⟩, ⟨rfl, rfl, rfl, rfl, int_eq (by omega), rfl, trivial⟩, HSub.refl _⟩ ?_
    rintro k ls H ⟨i, rfl, hi, rfl, rfl, hE⟩ j hj
    repeat first
      | refine LOps.nil ?_
      | refine LCode.seq ?_
      | refine LCode.region ?_
      | refine QThen.normal ?_
      | refine LOps.pure (Pure.lss rfl rfl) rfl ?_
    refine LCode.cond rfl (fun hc => ?_) (fun hc => ?_)
    · have hlt : i < a.length := by have := of_decide_eq_true hc; omega
      have hlt2 : i < b.length := by omega
      repeat first
        | refine LCode.seq ?_
        | refine LCode.region ?_
        | refine LCode.skip ?_
        | refine LCode.block ?_
        | refine QThen.normal ?_
        | refine LOps.pure (Pure.mv (lv := .atom _) rfl) rfl ?_
      refine LOps.pure (Pure.ixRef (el' := encE a[i]) (cs := [_, _, _, _]) rfl rfl (by omega) (map_get _ _ _ hlt) rfl rfl) rfl ?_
      repeat first
        | refine LOps.pure (Pure.ldRefAgg (cs' := [_, _, _, _]) rfl rfl rfl) rfl ?_
      refine LOps.step (S.alloc fun b8 => ?_) rfl
      repeat first
        | refine LOps.nil ?_
        | refine LCode.seq ?_
        | refine LCode.region ?_
        | refine QThen.normal ?_
        | refine LOps.pure (Pure.as (lv := .atom _) rfl) rfl ?_
        | refine LOps.pure (Pure.mv (lv := .list _) rfl) rfl ?_
        | refine LOps.pure (Pure.mv (lv := .atom _) rfl) rfl ?_
        | refine LOps.step (S.store (cs' := [_, _, _, _]) rfl Pick.here rfl rfl rfl rfl rfl ?_) rfl
      refine LOps.pure (Pure.ixRef (el' := encE b[i]) (cs := [_, _, _, _]) rfl rfl (by omega) (map_get _ _ _ hlt2) rfl rfl) rfl ?_
      repeat first
        | refine LOps.pure (Pure.ldRefAgg (cs' := [_, _, _, _]) rfl rfl rfl) rfl ?_
      refine LOps.step (S.alloc fun b9 => ?_) rfl
      repeat first
        | refine LOps.nil ?_
        | refine LCode.seq ?_
        | refine LCode.region ?_
        | refine QThen.normal ?_
        | refine LOps.pure (Pure.mv (lv := .atom _) rfl) rfl ?_
        | refine LOps.pure (Pure.ldHAgg (cs' := [_, _, _, _]) rfl (List.Mem.head _) rfl rfl) rfl ?_
        | refine LOps.pure (Pure.ldHAgg (cs' := [_, _, _, _]) rfl (List.Mem.tail _ (List.Mem.head _)) rfl rfl) rfl ?_
        | refine LOps.step (S.store (cs' := [_, _, _, _]) rfl Pick.here rfl rfl rfl rfl rfl ?_) rfl
      refine LOps.step (S.fnV [_, _] rfl rfl (hrec i hlt b[i]) ?_) rfl
      repeat first
        | refine LOps.nil ?_
        | refine QThen.normal ?_
        | refine LOps.pure (Pure.not rfl) rfl ?_
      rw [eqList_drop hlt hlt2] at hE
      refine LCode.cond rfl (fun hd => ?_) (fun hd => ?_)
      · repeat first
          | refine LOps.nil ?_
          | refine LCode.seq ?_
          | refine LCode.region ?_
          | refine LCode.ret ?_
          | refine QThen.normal ?_
          | refine QThen.ret ?_
          | refine QBlock.ret ?_
          | refine LOps.pure (Pure.as (lv := .atom _) rfl) rfl ?_
        exact retRet hj (AllRes.cons (ResIs.tmp (v := .atom _) rfl (LV.Sub.refl _)) AllRes.nil) (bool_eq (by rw [hE, not_t hd]; rfl))
      · rw [not_f hd, Bool.true_and] at hE
        repeat first
          | refine LOps.nil ?_
          | refine LCode.region ?_
          | refine LCode.skip ?_
          | refine QThen.normal ?_
          | refine QBlock.normal ?_
          | refine LOps.pure (Pure.mv (lv := .atom _) rfl) rfl ?_
          | refine LOps.pure (Pure.add rfl rfl (by omega)) rfl ?_
        exact ⟨_, _, _, by omega, ⟨i + 1, rfl, by omega, rfl, rfl, hE⟩, ⟨rfl, rfl, rfl, rfl, rfl, int_eq (by omega), trivial⟩, HSub.nil _, hj⟩
    · have hge : a.length ≤ i := by have := of_decide_eq_false hc; omega
      rw [eqList_end hge (by omega)] at hE
      repeat first
        | refine LOps.nil ?_
        | refine LCode.seq ?_
        | refine LCode.region ?_
        | refine LCode.ret ?_
        | refine LCode.exit ?_
        | refine QThen.normal ?_
        | refine QThen.exit ?_
        | refine QBlock.hit ?_
        | refine LOps.pure (Pure.as (lv := .atom _) rfl) rfl ?_
      exact retRet hj (AllRes.cons (ResIs.tmp (v := .atom _) rfl (LV.Sub.refl _)) AllRes.nil) (bool_eq hE.symm)
theorem eqS_spec (x y : Sm) (hn : nSm x ≤ 4611686018427387904) (ht : LCalls (KC B0 w0) 69 [.list ((smThen x).map encS), .list ((smThen y).map encS), .atom (.func (.func 70) #[] #[])] [] (Ret (bool (eqSms (smThen x) (smThen y)))))
    (he : LCalls (KC B0 w0) 69 [.list ((smElse x).map encS), .list ((smElse y).map encS), .atom (.func (.func 70) #[] #[])] [] (Ret (bool (eqSms (smElse x) (smElse y))))) :
    LCalls (KC B0 w0) 70 [encS x, encS y] [] (Ret (bool (eqSm x y))) := by
  have hpt := eqSm_parts x y
  have hnn := nSm_eq x
  rw [← encThen_eq, ← encThen_eq] at ht
  rw [← encElse_eq, ← encElse_eq] at he
  refine LCalls.intro Tryz.func70 rfl (n := 45) rfl rfl rfl ?_
  repeat first
    | refine LCode.seq ?_
    | refine LCode.region ?_
  refine LOps.step (S.box (cs := [int .i64 (smKind x), str (smName x), .list ((smIndex x).map encE), .list ((smValue x).map encE), .list (encThen x), .list (encElse x)]) rfl fun b2 => ?_) rfl
  refine LOps.step (S.box (cs := [int .i64 (smKind y), str (smName y), .list ((smIndex y).map encE), .list ((smValue y).map encE), .list (encThen y), .list (encElse y)]) rfl fun b3 => ?_) rfl
  repeat first
    | refine LOps.nil ?_
    | refine LCode.seq ?_
    | refine LCode.region ?_
    | refine QThen.normal ?_
    | refine LOps.pure (Pure.as (lv := .atom _) rfl) rfl ?_
    | refine LOps.pure (Pure.fieldH rfl) rfl ?_
    | refine LOps.pure (Pure.loadH (c := .atom _) rfl (List.Mem.head _) rfl) rfl ?_
    | refine LOps.pure (Pure.loadH (c := .atom _) rfl (List.Mem.tail _ (List.Mem.head _)) rfl) rfl ?_
    | refine LOps.pure (Pure.eql rfl rfl) rfl ?_
    | refine LOps.pure (Pure.mv (lv := .atom _) rfl) rfl ?_
  refine LOps.bcase 10 rfl (fun h0 => ?_) (fun h0 => ?_)
  · rw [h0, Bool.true_and] at hpt
    repeat first
      | refine LOps.pure (Pure.fieldH rfl) rfl ?_
      | refine LOps.pure (Pure.loadH (c := .atom _) rfl (List.Mem.head _) rfl) rfl ?_
      | refine LOps.pure (Pure.loadH (c := .atom _) rfl (List.Mem.tail _ (List.Mem.head _)) rfl) rfl ?_
      | refine LOps.pure (Pure.mv (lv := .atom _) rfl) rfl ?_
      | refine LOps.pure (Pure.seq rfl rfl) rfl ?_
      | refine LOps.pure (Pure.pickT (lv := .atom _) rfl rfl) rfl ?_
      | refine LOps.want rfl rfl ?_
    refine LOps.bcase 17 rfl (fun h1 => ?_) (fun h1 => ?_)
    · rw [h1, Bool.true_and] at hpt
      repeat first
        | refine LOps.pure (Pure.fieldH rfl) rfl ?_
        | refine LOps.pure (Pure.loadH (c := .list _) rfl (List.Mem.head _) rfl) rfl ?_
        | refine LOps.pure (Pure.loadH (c := .list _) rfl (List.Mem.tail _ (List.Mem.head _)) rfl) rfl ?_
        | refine LOps.want rfl rfl ?_
      refine LOps.step (S.fn [_, _, _] rfl (eqEs_spec _ (smIndex x) (smIndex y) (Nat.le_refl _) (by omega)) ?_) rfl
      repeat first
        | refine LOps.pure (Pure.mv (lv := .atom _) rfl) rfl ?_
        | refine LOps.pure (Pure.pickT (lv := .atom _) rfl rfl) rfl ?_
      refine LOps.bcase 24 rfl (fun h2 => ?_) (fun h2 => ?_)
      · rw [h2, Bool.true_and] at hpt
        repeat first
          | refine LOps.pure (Pure.fieldH rfl) rfl ?_
          | refine LOps.pure (Pure.loadH (c := .list _) rfl (List.Mem.head _) rfl) rfl ?_
          | refine LOps.pure (Pure.loadH (c := .list _) rfl (List.Mem.tail _ (List.Mem.head _)) rfl) rfl ?_
          | refine LOps.want rfl rfl ?_
        refine LOps.step (S.fn [_, _, _] rfl (eqEs_spec _ (smValue x) (smValue y) (Nat.le_refl _) (by omega)) ?_) rfl
        repeat first
          | refine LOps.pure (Pure.mv (lv := .atom _) rfl) rfl ?_
          | refine LOps.pure (Pure.pickT (lv := .atom _) rfl rfl) rfl ?_
        refine LOps.bcase 31 rfl (fun h3 => ?_) (fun h3 => ?_)
        · rw [h3, Bool.true_and] at hpt
          repeat first
            | refine LOps.pure (Pure.fieldH rfl) rfl ?_
            | refine LOps.pure (Pure.loadH (c := .list _) rfl (List.Mem.head _) rfl) rfl ?_
            | refine LOps.pure (Pure.loadH (c := .list _) rfl (List.Mem.tail _ (List.Mem.head _)) rfl) rfl ?_
            | refine LOps.want rfl rfl ?_
          refine LOps.step (S.fn [_, _, _] rfl ht ?_) rfl
          repeat first
            | refine LOps.pure (Pure.mv (lv := .atom _) rfl) rfl ?_
            | refine LOps.pure (Pure.pickT (lv := .atom _) rfl rfl) rfl ?_
          refine LOps.bcase 38 rfl (fun h4 => ?_) (fun h4 => ?_)
          · rw [h4, Bool.true_and] at hpt
            repeat first
              | refine LOps.pure (Pure.fieldH rfl) rfl ?_
              | refine LOps.pure (Pure.loadH (c := .list _) rfl (List.Mem.head _) rfl) rfl ?_
              | refine LOps.pure (Pure.loadH (c := .list _) rfl (List.Mem.tail _ (List.Mem.head _)) rfl) rfl ?_
              | refine LOps.want rfl rfl ?_
            refine LOps.step (S.fn [_, _, _] rfl he ?_) rfl
            repeat first
              | refine LOps.nil ?_
              | refine LCode.ret ?_
              | refine QThen.normal ?_
              | refine LOps.pure (Pure.as (lv := .atom _) rfl) rfl ?_
              | refine LOps.pure (Pure.pickT (lv := .atom _) rfl rfl) rfl ?_
            exact retRet rfl (AllRes.cons (ResIs.tmp (v := .atom _) rfl (LV.Sub.refl _)) AllRes.nil) (bool_eq (by rw [hpt]))
          · repeat first
              | refine LOps.nil ?_
              | refine LCode.ret ?_
              | refine QThen.normal ?_
              | refine LOps.pure (Pure.as (lv := .atom _) rfl) rfl ?_
              | refine LOps.pure (Pure.pickF (lv := .atom _) rfl rfl) rfl ?_
              | refine LOps.skip rfl rfl rfl rfl ?_
            exact retRet rfl (AllRes.cons (ResIs.tmp (v := .atom _) rfl (LV.Sub.refl _)) AllRes.nil) (bool_eq (by rw [hpt, h4]; rfl))
        · repeat first
            | refine LOps.nil ?_
            | refine LCode.ret ?_
            | refine QThen.normal ?_
            | refine LOps.pure (Pure.as (lv := .atom _) rfl) rfl ?_
            | refine LOps.pure (Pure.mv (lv := .atom _) rfl) rfl ?_
            | refine LOps.pure (Pure.pickF (lv := .atom _) rfl rfl) rfl ?_
            | refine LOps.skip rfl rfl rfl rfl ?_
          exact retRet rfl (AllRes.cons (ResIs.tmp (v := .atom _) rfl (LV.Sub.refl _)) AllRes.nil) (bool_eq (by rw [hpt, h3]; rfl))
      · repeat first
          | refine LOps.nil ?_
          | refine LCode.ret ?_
          | refine QThen.normal ?_
          | refine LOps.pure (Pure.as (lv := .atom _) rfl) rfl ?_
          | refine LOps.pure (Pure.mv (lv := .atom _) rfl) rfl ?_
          | refine LOps.pure (Pure.pickF (lv := .atom _) rfl rfl) rfl ?_
          | refine LOps.skip rfl rfl rfl rfl ?_
        exact retRet rfl (AllRes.cons (ResIs.tmp (v := .atom _) rfl (LV.Sub.refl _)) AllRes.nil) (bool_eq (by rw [hpt, h2]; rfl))
    · repeat first
        | refine LOps.nil ?_
        | refine LCode.ret ?_
        | refine QThen.normal ?_
        | refine LOps.pure (Pure.as (lv := .atom _) rfl) rfl ?_
        | refine LOps.pure (Pure.mv (lv := .atom _) rfl) rfl ?_
        | refine LOps.pure (Pure.pickF (lv := .atom _) rfl rfl) rfl ?_
        | refine LOps.skip rfl rfl rfl rfl ?_
      exact retRet rfl (AllRes.cons (ResIs.tmp (v := .atom _) rfl (LV.Sub.refl _)) AllRes.nil) (bool_eq (by rw [hpt, h1]; rfl))
  · repeat first
      | refine LOps.nil ?_
      | refine LCode.ret ?_
      | refine QThen.normal ?_
      | refine LOps.pure (Pure.as (lv := .atom _) rfl) rfl ?_
      | refine LOps.pure (Pure.mv (lv := .atom _) rfl) rfl ?_
      | refine LOps.pure (Pure.pickF (lv := .atom _) rfl rfl) rfl ?_
      | refine LOps.skip rfl rfl rfl rfl ?_
    exact retRet rfl (AllRes.cons (ResIs.tmp (v := .atom _) rfl (LV.Sub.refl _)) AllRes.nil) (bool_eq (by rw [hpt, h0]; rfl))
theorem eqSs_spec : ∀ (n : Nat) (a b : List Sm), nSms a ≤ n → n ≤ 4611686018427387904 → LCalls (KC B0 w0) 69 [.list (a.map encS), .list (b.map encS), .atom (.func (.func 70) #[] #[])] [] (Ret (bool (eqSms a b))) := by
  intro n
  induction n using Nat.strongRecOn with
  | _ n ih =>
  intro a b hn hb
  have ha := nSms_len a
  have hrec : ∀ (i : Nat) (h : i < a.length) (y : Sm), LCalls (KC B0 w0) 70 [encS a[i], encS y] [] (Ret (bool (eqSm a[i] y))) := fun i h y => by
    have h1 := nSms_mem (List.getElem_mem h)
    have h2 := nSm_eq a[i]
    exact eqS_spec a[i] y (by omega) (ih _ (by omega) (smThen a[i]) (smThen y) (Nat.le_refl _) (by omega)) (ih _ (by omega) (smElse a[i]) (smElse y) (Nat.le_refl _) (by omega))
  rw [eqSms_list]
  refine LCalls.intro Tryz.func69 rfl (n := 32) rfl rfl rfl ?_
  have hla : (a.map encS).length = a.length := List.length_map _
  have hlb : (b.map encS).length = b.length := List.length_map _
  repeat first
    | refine LOps.nil ?_
    | refine LCode.seq ?_
    | refine LCode.region ?_
    | refine QThen.normal ?_
    | refine LOps.pure (Pure.as (lv := .atom _) rfl) rfl ?_
    | refine LOps.pure (Pure.mv (lv := .list _) rfl) rfl ?_
    | refine LOps.pure (Pure.llen rfl) rfl ?_
    | refine LOps.pure (Pure.neq rfl rfl) rfl ?_
  refine LCode.cond rfl (fun hc => ?_) (fun hc => ?_)
  · have hne : a.length ≠ b.length := by
      have : ¬ ((a.map encS).length : Int) = (b.map encS).length := by simpa using hc
      omega
    repeat first
      | refine LOps.nil ?_
      | refine LCode.seq ?_
      | refine LCode.region ?_
      | refine LCode.ret ?_
      | refine QThen.normal ?_
      | refine QThen.ret ?_
      | refine LOps.pure (Pure.as (lv := .atom _) rfl) rfl ?_
    exact retRet rfl (AllRes.cons (ResIs.tmp (v := .atom _) rfl (LV.Sub.refl _)) AllRes.nil) (bool_eq (eqList_len a b hne).symm)
  · have hle : a.length = b.length := by
      have : ((a.map encS).length : Int) = (b.map encS).length := by simpa using hc
      omega
    repeat first
      | refine LOps.nil ?_
      | refine LCode.seq ?_
      | refine LCode.region ?_
      | refine LCode.skip ?_
      | refine LCode.block ?_
      | refine QThen.normal ?_
      | refine LOps.pure (Pure.mv (lv := .list _) rfl) rfl ?_
      | refine LOps.pure (Pure.mv (lv := .atom _) rfl) rfl ?_
      | refine LOps.pure (Pure.llen rfl) rfl ?_
    refine LCode.loopI (fun k ls H => ∃ i, k = a.length - i ∧ i ≤ a.length ∧ ls = [(0, .list (a.map encS)), (1, .list (b.map encS)), (2, .atom (.func (.func 70) #[] #[])), (15, .list (a.map encS)), (16, int .i64 a.length), (17, int .i64 i)] ∧ H = [] ∧ eqList eqSm a b = eqList eqSm (a.drop i) (b.drop i))
      ⟨_, _, _, ⟨0, rfl, Nat.zero_le _, rfl, rfl, rfl⟩, ⟨rfl, rfl, rfl, rfl, int_eq (by omega), rfl, trivial⟩, HSub.refl _⟩ ?_
    rintro k ls H ⟨i, rfl, hi, rfl, rfl, hE⟩ j hj
    repeat first
      | refine LOps.nil ?_
      | refine LCode.seq ?_
      | refine LCode.region ?_
      | refine QThen.normal ?_
      | refine LOps.pure (Pure.lss rfl rfl) rfl ?_
    refine LCode.cond rfl (fun hc => ?_) (fun hc => ?_)
    · have hlt : i < a.length := by have := of_decide_eq_true hc; omega
      have hlt2 : i < b.length := by omega
      repeat first
        | refine LCode.seq ?_
        | refine LCode.region ?_
        | refine LCode.skip ?_
        | refine LCode.block ?_
        | refine QThen.normal ?_
        | refine LOps.pure (Pure.mv (lv := .atom _) rfl) rfl ?_
      refine LOps.pure (Pure.ixRef (el' := encS a[i]) (cs := [_, _, _, _, _, _]) rfl rfl (by omega) (map_get _ _ _ hlt) rfl rfl) rfl ?_
      repeat first
        | refine LOps.pure (Pure.ldRefAgg (cs' := [_, _, _, _, _, _]) rfl rfl rfl) rfl ?_
      refine LOps.step (S.alloc fun b8 => ?_) rfl
      repeat first
        | refine LOps.nil ?_
        | refine LCode.seq ?_
        | refine LCode.region ?_
        | refine QThen.normal ?_
        | refine LOps.pure (Pure.as (lv := .atom _) rfl) rfl ?_
        | refine LOps.pure (Pure.mv (lv := .list _) rfl) rfl ?_
        | refine LOps.pure (Pure.mv (lv := .atom _) rfl) rfl ?_
        | refine LOps.step (S.store (cs' := [_, _, _, _, _, _]) rfl Pick.here rfl rfl rfl rfl rfl ?_) rfl
      refine LOps.pure (Pure.ixRef (el' := encS b[i]) (cs := [_, _, _, _, _, _]) rfl rfl (by omega) (map_get _ _ _ hlt2) rfl rfl) rfl ?_
      repeat first
        | refine LOps.pure (Pure.ldRefAgg (cs' := [_, _, _, _, _, _]) rfl rfl rfl) rfl ?_
      refine LOps.step (S.alloc fun b9 => ?_) rfl
      repeat first
        | refine LOps.nil ?_
        | refine LCode.seq ?_
        | refine LCode.region ?_
        | refine QThen.normal ?_
        | refine LOps.pure (Pure.mv (lv := .atom _) rfl) rfl ?_
        | refine LOps.pure (Pure.ldHAgg (cs' := [_, _, _, _, _, _]) rfl (List.Mem.head _) rfl rfl) rfl ?_
        | refine LOps.pure (Pure.ldHAgg (cs' := [_, _, _, _, _, _]) rfl (List.Mem.tail _ (List.Mem.head _)) rfl rfl) rfl ?_
        | refine LOps.step (S.store (cs' := [_, _, _, _, _, _]) rfl Pick.here rfl rfl rfl rfl rfl ?_) rfl
      refine LOps.step (S.fnV [_, _] rfl rfl (hrec i hlt b[i]) ?_) rfl
      repeat first
        | refine LOps.nil ?_
        | refine QThen.normal ?_
        | refine LOps.pure (Pure.not rfl) rfl ?_
      rw [eqList_drop hlt hlt2] at hE
      refine LCode.cond rfl (fun hd => ?_) (fun hd => ?_)
      · repeat first
          | refine LOps.nil ?_
          | refine LCode.seq ?_
          | refine LCode.region ?_
          | refine LCode.ret ?_
          | refine QThen.normal ?_
          | refine QThen.ret ?_
          | refine QBlock.ret ?_
          | refine LOps.pure (Pure.as (lv := .atom _) rfl) rfl ?_
        exact retRet hj (AllRes.cons (ResIs.tmp (v := .atom _) rfl (LV.Sub.refl _)) AllRes.nil) (bool_eq (by rw [hE, not_t hd]; rfl))
      · rw [not_f hd, Bool.true_and] at hE
        repeat first
          | refine LOps.nil ?_
          | refine LCode.region ?_
          | refine LCode.skip ?_
          | refine QThen.normal ?_
          | refine QBlock.normal ?_
          | refine LOps.pure (Pure.mv (lv := .atom _) rfl) rfl ?_
          | refine LOps.pure (Pure.add rfl rfl (by omega)) rfl ?_
        exact ⟨_, _, _, by omega, ⟨i + 1, rfl, by omega, rfl, rfl, hE⟩, ⟨rfl, rfl, rfl, rfl, rfl, int_eq (by omega), trivial⟩, HSub.nil _, hj⟩
    · have hge : a.length ≤ i := by have := of_decide_eq_false hc; omega
      rw [eqList_end hge (by omega)] at hE
      repeat first
        | refine LOps.nil ?_
        | refine LCode.seq ?_
        | refine LCode.region ?_
        | refine LCode.ret ?_
        | refine LCode.exit ?_
        | refine QThen.normal ?_
        | refine QThen.exit ?_
        | refine QBlock.hit ?_
        | refine LOps.pure (Pure.as (lv := .atom _) rfl) rfl ?_
      exact retRet hj (AllRes.cons (ResIs.tmp (v := .atom _) rfl (LV.Sub.refl _)) AllRes.nil) (bool_eq hE.symm)
theorem eqStrs_spec (a b : List (List UInt8)) (ha : a.length ≤ 4611686018427387904) : LCalls (KC B0 w0) 41 [.list (a.map str), .list (b.map str)] [] (Ret (bool (eqList (fun a b => decide (a = b)) a b))) := by
  have hla : (a.map str).length = a.length := List.length_map _
  have hlb : (b.map str).length = b.length := List.length_map _
  refine LCalls.intro Tryz.func41 rfl (n := 26) rfl rfl rfl ?_
  repeat first
    | refine LOps.nil ?_
    | refine LCode.seq ?_
    | refine LCode.region ?_
    | refine QThen.normal ?_
    | refine LOps.pure (Pure.as (lv := .atom _) rfl) rfl ?_
    | refine LOps.pure (Pure.mv (lv := .list _) rfl) rfl ?_
    | refine LOps.pure (Pure.llen rfl) rfl ?_
    | refine LOps.pure (Pure.neq rfl rfl) rfl ?_
  refine LCode.cond rfl (fun hc => ?_) (fun hc => ?_)
  · have hne : a.length ≠ b.length := by
      have : ¬ ((a.map str).length : Int) = (b.map str).length := by simpa using hc
      omega
    repeat first
      | refine LOps.nil ?_
      | refine LCode.seq ?_
      | refine LCode.region ?_
      | refine LCode.ret ?_
      | refine QThen.normal ?_
      | refine QThen.ret ?_
      | refine LOps.pure (Pure.as (lv := .atom _) rfl) rfl ?_
    exact retRet rfl (AllRes.cons (ResIs.tmp (v := .atom _) rfl (LV.Sub.refl _)) AllRes.nil) (bool_eq (eqList_len a b hne).symm)
  · have hle : a.length = b.length := by
      have : ((a.map str).length : Int) = (b.map str).length := by simpa using hc
      omega
    repeat first
      | refine LOps.nil ?_
      | refine LCode.seq ?_
      | refine LCode.region ?_
      | refine LCode.skip ?_
      | refine LCode.block ?_
      | refine QThen.normal ?_
      | refine LOps.pure (Pure.mv (lv := .list _) rfl) rfl ?_
      | refine LOps.pure (Pure.mv (lv := .atom _) rfl) rfl ?_
      | refine LOps.pure (Pure.llen rfl) rfl ?_
    refine LCode.loopI (fun k ls H => ∃ i, k = a.length - i ∧ i ≤ a.length ∧ ls = [(0, .list (a.map str)), (1, .list (b.map str)), (12, int .i64 a.length), (13, int .i64 i)] ∧ H = [] ∧ eqList (fun a b => decide (a = b)) a b = eqList (fun a b => decide (a = b)) (a.drop i) (b.drop i))
      ⟨_, _, _, ⟨0, rfl, Nat.zero_le _, rfl, rfl, rfl⟩, ⟨rfl, rfl, int_eq (by omega), rfl, trivial⟩, HSub.refl _⟩ ?_
    rintro k ls H ⟨i, rfl, hi, rfl, rfl, hE⟩ j hj
    repeat first
      | refine LOps.nil ?_
      | refine LCode.seq ?_
      | refine LCode.region ?_
      | refine QThen.normal ?_
      | refine LOps.pure (Pure.lss rfl rfl) rfl ?_
    refine LCode.cond rfl (fun hc => ?_) (fun hc => ?_)
    · have hlt : i < a.length := by have := of_decide_eq_true hc; omega
      have hlt2 : i < b.length := by omega
      repeat first
        | refine LOps.nil ?_
        | refine LCode.seq ?_
        | refine LCode.region ?_
        | refine LCode.skip ?_
        | refine LCode.block ?_
        | refine QThen.normal ?_
        | refine LOps.pure (Pure.as (lv := .atom _) rfl) rfl ?_
        | refine LOps.pure (Pure.mv (lv := .atom _) rfl) rfl ?_
      refine LCode.cut [(0, .list (a.map str)), (1, .list (b.map str)), (12, int .i64 a.length), (13, int .i64 i), (24, bool (!decide (a[i] = b[i])))] ?_ (fun j2 hj2 => ?_)
      · refine LCode.quiet (by kernel_rfl) ?_
        repeat first
          | refine LQ.pure (Pure.mv (lv := .list _) rfl) rfl ?_
          | refine LQ.pure (Pure.mv (lv := .atom _) rfl) rfl ?_
        refine LQ.pure (Pure.ixRef (el' := str a[i]) (cs := [_]) rfl rfl (by omega) (map_get _ _ _ hlt) rfl rfl) rfl ?_
        repeat first
          | refine LQ.pure (Pure.mv (lv := .list _) rfl) rfl ?_
          | refine LQ.pure (Pure.mv (lv := .atom _) rfl) rfl ?_
          | refine LQ.pure (Pure.loadRef (c := .atom _) rfl rfl) rfl ?_
        refine LQ.pure (Pure.ixRef (el' := str b[i]) (cs := [_]) rfl rfl (by omega) (map_get _ _ _ hlt2) rfl rfl) rfl ?_
        repeat first
          | refine LQ.pure (Pure.loadRef (c := .atom _) rfl rfl) rfl ?_
          | refine LQ.pure (Pure.sneq rfl rfl) rfl ?_
          | refine LQ.nil ?_
          | refine QThen.normal ?_
        exact ⟨⟨rfl, rfl, rfl, rfl, rfl, trivial⟩, rfl, rfl⟩
      · rw [eqList_drop hlt hlt2] at hE
        refine LCode.cond rfl (fun hd => ?_) (fun hd => ?_)
        · repeat first
            | refine LOps.nil ?_
            | refine LCode.seq ?_
            | refine LCode.region ?_
            | refine LCode.ret ?_
            | refine QThen.normal ?_
            | refine QThen.ret ?_
            | refine QBlock.ret ?_
            | refine LOps.pure (Pure.as (lv := .atom _) rfl) rfl ?_
          exact retRet (hj2.trans hj) (AllRes.cons (ResIs.tmp (v := .atom _) rfl (LV.Sub.refl _)) AllRes.nil) (bool_eq (by rw [hE, not_t hd]; rfl))
        · rw [not_f hd, Bool.true_and] at hE
          repeat first
            | refine LOps.nil ?_
            | refine LCode.region ?_
            | refine LCode.skip ?_
            | refine QThen.normal ?_
            | refine QBlock.normal ?_
            | refine LOps.pure (Pure.mv (lv := .atom _) rfl) rfl ?_
            | refine LOps.pure (Pure.add rfl rfl (by omega)) rfl ?_
          exact ⟨_, _, _, by omega, ⟨i + 1, rfl, by omega, rfl, rfl, hE⟩, ⟨rfl, rfl, rfl, int_eq (by omega), trivial⟩, HSub.refl _, hj2.trans hj⟩
    · have hge : a.length ≤ i := by have := of_decide_eq_false hc; omega
      rw [eqList_end hge (by omega)] at hE
      repeat first
        | refine LOps.nil ?_
        | refine LCode.seq ?_
        | refine LCode.region ?_
        | refine LCode.ret ?_
        | refine LCode.exit ?_
        | refine QThen.normal ?_
        | refine QThen.exit ?_
        | refine QBlock.hit ?_
        | refine LOps.pure (Pure.as (lv := .atom _) rfl) rfl ?_
      exact retRet hj (AllRes.cons (ResIs.tmp (v := .atom _) rfl (LV.Sub.refl _)) AllRes.nil) (bool_eq hE.symm)
theorem eqArs_spec (a b : List Ar) (ha : a.length ≤ 4611686018427387904) (h1 : ∀ x ∈ a, x.name.length ≤ 1000000000 ∧ x.size ≤ 4294967296) (h2 : ∀ x ∈ b, x.name.length ≤ 1000000000 ∧ x.size ≤ 4294967296) : LCalls (KC B0 w0) 42 [.list (a.map encAr), .list (b.map encAr)] [] (Ret (bool (eqList eqAr a b))) := by
  have hla : (a.map encAr).length = a.length := List.length_map _
  have hlb : (b.map encAr).length = b.length := List.length_map _
  refine LCalls.intro Tryz.func42 rfl (n := 26) rfl rfl rfl ?_
  repeat first
    | refine LOps.nil ?_
    | refine LCode.seq ?_
    | refine LCode.region ?_
    | refine QThen.normal ?_
    | refine LOps.pure (Pure.as (lv := .atom _) rfl) rfl ?_
    | refine LOps.pure (Pure.mv (lv := .list _) rfl) rfl ?_
    | refine LOps.pure (Pure.llen rfl) rfl ?_
    | refine LOps.pure (Pure.neq rfl rfl) rfl ?_
  refine LCode.cond rfl (fun hc => ?_) (fun hc => ?_)
  · have hne : a.length ≠ b.length := by
      have : ¬ ((a.map encAr).length : Int) = (b.map encAr).length := by simpa using hc
      omega
    repeat first
      | refine LOps.nil ?_
      | refine LCode.seq ?_
      | refine LCode.region ?_
      | refine LCode.ret ?_
      | refine QThen.normal ?_
      | refine QThen.ret ?_
      | refine LOps.pure (Pure.as (lv := .atom _) rfl) rfl ?_
    exact retRet rfl (AllRes.cons (ResIs.tmp (v := .atom _) rfl (LV.Sub.refl _)) AllRes.nil) (bool_eq (eqList_len a b hne).symm)
  · have hle : a.length = b.length := by
      have : ((a.map encAr).length : Int) = (b.map encAr).length := by simpa using hc
      omega
    repeat first
      | refine LOps.nil ?_
      | refine LCode.seq ?_
      | refine LCode.region ?_
      | refine LCode.skip ?_
      | refine LCode.block ?_
      | refine QThen.normal ?_
      | refine LOps.pure (Pure.mv (lv := .list _) rfl) rfl ?_
      | refine LOps.pure (Pure.mv (lv := .atom _) rfl) rfl ?_
      | refine LOps.pure (Pure.llen rfl) rfl ?_
    refine LCode.loopI (fun k ls H => ∃ i, k = a.length - i ∧ i ≤ a.length ∧ ls = [(0, .list (a.map encAr)), (1, .list (b.map encAr)), (12, int .i64 a.length), (13, int .i64 i)] ∧ H = [] ∧ eqList eqAr a b = eqList eqAr (a.drop i) (b.drop i))
      ⟨_, _, _, ⟨0, rfl, Nat.zero_le _, rfl, rfl, rfl⟩, ⟨rfl, rfl, int_eq (by omega), rfl, trivial⟩, HSub.refl _⟩ ?_
    rintro k ls H ⟨i, rfl, hi, rfl, rfl, hE⟩ j hj
    repeat first
      | refine LOps.nil ?_
      | refine LCode.seq ?_
      | refine LCode.region ?_
      | refine QThen.normal ?_
      | refine LOps.pure (Pure.lss rfl rfl) rfl ?_
    refine LCode.cond rfl (fun hc => ?_) (fun hc => ?_)
    · have hlt : i < a.length := by have := of_decide_eq_true hc; omega
      have hlt2 : i < b.length := by omega
      repeat first
        | refine LOps.nil ?_
        | refine LCode.seq ?_
        | refine LCode.region ?_
        | refine LCode.skip ?_
        | refine LCode.block ?_
        | refine QThen.normal ?_
        | refine LOps.pure (Pure.as (lv := .atom _) rfl) rfl ?_
        | refine LOps.pure (Pure.mv (lv := .atom _) rfl) rfl ?_
      refine LCode.cut [(0, .list (a.map encAr)), (1, .list (b.map encAr)), (12, int .i64 a.length), (13, int .i64 i), (24, bool (!eqAr a[i] b[i]))] ?_ (fun j2 hj2 => ?_)
      · refine LCode.quiet (by kernel_rfl) ?_
        repeat first
          | refine LQ.pure (Pure.mv (lv := .list _) rfl) rfl ?_
          | refine LQ.pure (Pure.mv (lv := .atom _) rfl) rfl ?_
        refine LQ.pure (Pure.ixRef (el' := encAr a[i]) (cs := [_, _]) rfl rfl (by omega) (map_get _ _ _ hlt) rfl rfl) rfl ?_
        repeat first
          | refine LQ.pure (Pure.mv (lv := .list _) rfl) rfl ?_
          | refine LQ.pure (Pure.mv (lv := .atom _) rfl) rfl ?_
          | refine LQ.pure (Pure.ldRefAgg (cs' := [_, _]) rfl rfl rfl) rfl ?_
        refine LQ.pure (Pure.ixRef (el' := encAr b[i]) (cs := [_, _]) rfl rfl (by omega) (map_get _ _ _ hlt2) rfl rfl) rfl ?_
        repeat first
          | refine LQ.pure (Pure.ldRefAgg (cs' := [_, _]) rfl rfl rfl) rfl ?_
        refine LQ.pure (Pure.pairNeq rfl rfl (h1 _ (List.getElem_mem hlt)).1 (h2 _ (List.getElem_mem hlt2)).1 (by have := (h1 _ (List.getElem_mem hlt)).2; omega) (by have := (h2 _ (List.getElem_mem hlt2)).2; omega)) rfl ?_
        repeat first
          | refine LQ.nil ?_
          | refine QThen.normal ?_
        exact ⟨⟨rfl, rfl, rfl, rfl, rfl, trivial⟩, rfl, rfl⟩
      · rw [eqList_drop hlt hlt2] at hE
        refine LCode.cond rfl (fun hd => ?_) (fun hd => ?_)
        · repeat first
            | refine LOps.nil ?_
            | refine LCode.seq ?_
            | refine LCode.region ?_
            | refine LCode.ret ?_
            | refine QThen.normal ?_
            | refine QThen.ret ?_
            | refine QBlock.ret ?_
            | refine LOps.pure (Pure.as (lv := .atom _) rfl) rfl ?_
          exact retRet (hj2.trans hj) (AllRes.cons (ResIs.tmp (v := .atom _) rfl (LV.Sub.refl _)) AllRes.nil) (bool_eq (by rw [hE, not_t hd]; rfl))
        · rw [not_f hd, Bool.true_and] at hE
          repeat first
            | refine LOps.nil ?_
            | refine LCode.region ?_
            | refine LCode.skip ?_
            | refine QThen.normal ?_
            | refine QBlock.normal ?_
            | refine LOps.pure (Pure.mv (lv := .atom _) rfl) rfl ?_
            | refine LOps.pure (Pure.add rfl rfl (by omega)) rfl ?_
          exact ⟨_, _, _, by omega, ⟨i + 1, rfl, by omega, rfl, rfl, hE⟩, ⟨rfl, rfl, rfl, int_eq (by omega), trivial⟩, HSub.refl _, hj2.trans hj⟩
    · have hge : a.length ≤ i := by have := of_decide_eq_false hc; omega
      rw [eqList_end hge (by omega)] at hE
      repeat first
        | refine LOps.nil ?_
        | refine LCode.seq ?_
        | refine LCode.region ?_
        | refine LCode.ret ?_
        | refine LCode.exit ?_
        | refine QThen.normal ?_
        | refine QThen.exit ?_
        | refine QBlock.hit ?_
        | refine LOps.pure (Pure.as (lv := .atom _) rfl) rfl ?_
      exact retRet hj (AllRes.cons (ResIs.tmp (v := .atom _) rfl (LV.Sub.refl _)) AllRes.nil) (bool_eq hE.symm)
theorem eqNs_spec (a b : List (List UInt8)) (ha : a.length ≤ 4611686018427387904) : LCalls (KC B0 w0) 41 [.list (a.map str), .list (b.map str)] [] (Ret (bool (eqNames a b))) := eqStrs_spec a b ha
theorem eqF_spec (x y : FnD) (hn : nFn x ≤ 1000000000) : LCalls (KC B0 w0) 44 [encFn x, encFn y] [] (Ret (bool (eqFn x y))) := by
  have hpt := eqFn_parts x y
  unfold nFn at hn
  refine LCalls.intro Tryz.func44 rfl (n := 31) rfl rfl rfl ?_
  repeat first
    | refine LCode.seq ?_
    | refine LCode.region ?_
  refine LOps.step (S.box (cs := [str x.name, .list (x.params.map str), .list (x.locals.map str), .list (x.body.map encS)]) rfl fun b2 => ?_) rfl
  refine LOps.step (S.box (cs := [str y.name, .list (y.params.map str), .list (y.locals.map str), .list (y.body.map encS)]) rfl fun b3 => ?_) rfl
  repeat first
    | refine LOps.nil ?_
    | refine LCode.seq ?_
    | refine LCode.region ?_
    | refine QThen.normal ?_
    | refine LOps.pure (Pure.as (lv := .atom _) rfl) rfl ?_
    | refine LOps.pure (Pure.fieldH rfl) rfl ?_
    | refine LOps.pure (Pure.loadH (c := .atom _) rfl (List.Mem.head _) rfl) rfl ?_
    | refine LOps.pure (Pure.loadH (c := .atom _) rfl (List.Mem.tail _ (List.Mem.head _)) rfl) rfl ?_
    | refine LOps.pure (Pure.seq rfl rfl) rfl ?_
    | refine LOps.pure (Pure.mv (lv := .atom _) rfl) rfl ?_
  refine LOps.bcase 10 rfl (fun h0 => ?_) (fun h0 => ?_)
  · rw [h0, Bool.true_and] at hpt
    repeat first
      | refine LOps.pure (Pure.fieldH rfl) rfl ?_
      | refine LOps.pure (Pure.loadH (c := .list _) rfl (List.Mem.head _) rfl) rfl ?_
      | refine LOps.pure (Pure.loadH (c := .list _) rfl (List.Mem.tail _ (List.Mem.head _)) rfl) rfl ?_
      | refine LOps.want rfl rfl ?_
    refine LOps.step (S.fn [_, _] rfl (eqNs_spec x.params y.params (by omega)) ?_) rfl
    repeat first
      | refine LOps.pure (Pure.mv (lv := .atom _) rfl) rfl ?_
      | refine LOps.pure (Pure.pickT (lv := .atom _) rfl rfl) rfl ?_
    refine LOps.bcase 17 rfl (fun h1 => ?_) (fun h1 => ?_)
    · rw [h1, Bool.true_and] at hpt
      repeat first
        | refine LOps.pure (Pure.fieldH rfl) rfl ?_
        | refine LOps.pure (Pure.loadH (c := .list _) rfl (List.Mem.head _) rfl) rfl ?_
        | refine LOps.pure (Pure.loadH (c := .list _) rfl (List.Mem.tail _ (List.Mem.head _)) rfl) rfl ?_
        | refine LOps.want rfl rfl ?_
      refine LOps.step (S.fn [_, _] rfl (eqNs_spec x.locals y.locals (by omega)) ?_) rfl
      repeat first
        | refine LOps.pure (Pure.mv (lv := .atom _) rfl) rfl ?_
        | refine LOps.pure (Pure.pickT (lv := .atom _) rfl rfl) rfl ?_
      refine LOps.bcase 24 rfl (fun h2 => ?_) (fun h2 => ?_)
      · rw [h2, Bool.true_and] at hpt
        repeat first
          | refine LOps.pure (Pure.fieldH rfl) rfl ?_
          | refine LOps.pure (Pure.loadH (c := .list _) rfl (List.Mem.head _) rfl) rfl ?_
          | refine LOps.pure (Pure.loadH (c := .list _) rfl (List.Mem.tail _ (List.Mem.head _)) rfl) rfl ?_
          | refine LOps.want rfl rfl ?_
        refine LOps.step (S.fn [_, _, _] rfl (eqSs_spec _ x.body y.body (Nat.le_refl _) (by omega)) ?_) rfl
        repeat first
          | refine LOps.nil ?_
          | refine LCode.ret ?_
          | refine QThen.normal ?_
          | refine LOps.pure (Pure.as (lv := .atom _) rfl) rfl ?_
          | refine LOps.pure (Pure.pickT (lv := .atom _) rfl rfl) rfl ?_
        exact retRet rfl (AllRes.cons (ResIs.tmp (v := .atom _) rfl (LV.Sub.refl _)) AllRes.nil) (bool_eq (by rw [hpt]))
      · repeat first
          | refine LOps.nil ?_
          | refine LCode.ret ?_
          | refine QThen.normal ?_
          | refine LOps.pure (Pure.as (lv := .atom _) rfl) rfl ?_
          | refine LOps.pure (Pure.pickF (lv := .atom _) rfl rfl) rfl ?_
          | refine LOps.skip rfl rfl rfl rfl ?_
        exact retRet rfl (AllRes.cons (ResIs.tmp (v := .atom _) rfl (LV.Sub.refl _)) AllRes.nil) (bool_eq (by rw [hpt, h2]; rfl))
    · repeat first
        | refine LOps.nil ?_
        | refine LCode.ret ?_
        | refine QThen.normal ?_
        | refine LOps.pure (Pure.as (lv := .atom _) rfl) rfl ?_
        | refine LOps.pure (Pure.mv (lv := .atom _) rfl) rfl ?_
        | refine LOps.pure (Pure.pickF (lv := .atom _) rfl rfl) rfl ?_
        | refine LOps.skip rfl rfl rfl rfl ?_
      exact retRet rfl (AllRes.cons (ResIs.tmp (v := .atom _) rfl (LV.Sub.refl _)) AllRes.nil) (bool_eq (by rw [hpt, h1]; rfl))
  · repeat first
      | refine LOps.nil ?_
      | refine LCode.ret ?_
      | refine QThen.normal ?_
      | refine LOps.pure (Pure.as (lv := .atom _) rfl) rfl ?_
      | refine LOps.pure (Pure.mv (lv := .atom _) rfl) rfl ?_
      | refine LOps.pure (Pure.pickF (lv := .atom _) rfl rfl) rfl ?_
      | refine LOps.skip rfl rfl rfl rfl ?_
    exact retRet rfl (AllRes.cons (ResIs.tmp (v := .atom _) rfl (LV.Sub.refl _)) AllRes.nil) (bool_eq (by rw [hpt, h0]; rfl))
theorem eqFs_spec (a b : List FnD) (hn : nFns a ≤ 1000000000) : LCalls (KC B0 w0) 43 [.list (a.map encFn), .list (b.map encFn), .atom (.func (.func 44) #[] #[])] [] (Ret (bool (eqList eqFn a b))) := by
  have ha := nFns_len a
  have hrec : ∀ (i : Nat) (h : i < a.length) (y : FnD), LCalls (KC B0 w0) 44 [encFn a[i], encFn y] [] (Ret (bool (eqFn a[i] y))) := fun i h y => eqF_spec a[i] y (by have := nFns_mem (List.getElem_mem h); omega)
  refine LCalls.intro Tryz.func43 rfl (n := 32) rfl rfl rfl ?_
  have hla : (a.map encFn).length = a.length := List.length_map _
  have hlb : (b.map encFn).length = b.length := List.length_map _
  repeat first
    | refine LOps.nil ?_
    | refine LCode.seq ?_
    | refine LCode.region ?_
    | refine QThen.normal ?_
    | refine LOps.pure (Pure.as (lv := .atom _) rfl) rfl ?_
    | refine LOps.pure (Pure.mv (lv := .list _) rfl) rfl ?_
    | refine LOps.pure (Pure.llen rfl) rfl ?_
    | refine LOps.pure (Pure.neq rfl rfl) rfl ?_
  refine LCode.cond rfl (fun hc => ?_) (fun hc => ?_)
  · have hne : a.length ≠ b.length := by
      have : ¬ ((a.map encFn).length : Int) = (b.map encFn).length := by simpa using hc
      omega
    repeat first
      | refine LOps.nil ?_
      | refine LCode.seq ?_
      | refine LCode.region ?_
      | refine LCode.ret ?_
      | refine QThen.normal ?_
      | refine QThen.ret ?_
      | refine LOps.pure (Pure.as (lv := .atom _) rfl) rfl ?_
    exact retRet rfl (AllRes.cons (ResIs.tmp (v := .atom _) rfl (LV.Sub.refl _)) AllRes.nil) (bool_eq (eqList_len a b hne).symm)
  · have hle : a.length = b.length := by
      have : ((a.map encFn).length : Int) = (b.map encFn).length := by simpa using hc
      omega
    repeat first
      | refine LOps.nil ?_
      | refine LCode.seq ?_
      | refine LCode.region ?_
      | refine LCode.skip ?_
      | refine LCode.block ?_
      | refine QThen.normal ?_
      | refine LOps.pure (Pure.mv (lv := .list _) rfl) rfl ?_
      | refine LOps.pure (Pure.mv (lv := .atom _) rfl) rfl ?_
      | refine LOps.pure (Pure.llen rfl) rfl ?_
    refine LCode.loopI (fun k ls H => ∃ i, k = a.length - i ∧ i ≤ a.length ∧ ls = [(0, .list (a.map encFn)), (1, .list (b.map encFn)), (2, .atom (.func (.func 44) #[] #[])), (15, .list (a.map encFn)), (16, int .i64 a.length), (17, int .i64 i)] ∧ H = [] ∧ eqList eqFn a b = eqList eqFn (a.drop i) (b.drop i))
      ⟨_, _, _, ⟨0, rfl, Nat.zero_le _, rfl, rfl, rfl⟩, ⟨rfl, rfl, rfl, rfl, int_eq (by omega), rfl, trivial⟩, HSub.refl _⟩ ?_
    rintro k ls H ⟨i, rfl, hi, rfl, rfl, hE⟩ j hj
    repeat first
      | refine LOps.nil ?_
      | refine LCode.seq ?_
      | refine LCode.region ?_
      | refine QThen.normal ?_
      | refine LOps.pure (Pure.lss rfl rfl) rfl ?_
    refine LCode.cond rfl (fun hc => ?_) (fun hc => ?_)
    · have hlt : i < a.length := by have := of_decide_eq_true hc; omega
      have hlt2 : i < b.length := by omega
      repeat first
        | refine LCode.seq ?_
        | refine LCode.region ?_
        | refine LCode.skip ?_
        | refine LCode.block ?_
        | refine QThen.normal ?_
        | refine LOps.pure (Pure.mv (lv := .atom _) rfl) rfl ?_
      refine LOps.pure (Pure.ixRef (el' := encFn a[i]) (cs := [_, _, _, _]) rfl rfl (by omega) (map_get _ _ _ hlt) rfl rfl) rfl ?_
      repeat first
        | refine LOps.pure (Pure.ldRefAgg (cs' := [_, _, _, _]) rfl rfl rfl) rfl ?_
      refine LOps.step (S.alloc fun b8 => ?_) rfl
      repeat first
        | refine LOps.nil ?_
        | refine LCode.seq ?_
        | refine LCode.region ?_
        | refine QThen.normal ?_
        | refine LOps.pure (Pure.as (lv := .atom _) rfl) rfl ?_
        | refine LOps.pure (Pure.mv (lv := .list _) rfl) rfl ?_
        | refine LOps.pure (Pure.mv (lv := .atom _) rfl) rfl ?_
        | refine LOps.step (S.store (cs' := [_, _, _, _]) rfl Pick.here rfl rfl rfl rfl rfl ?_) rfl
      refine LOps.pure (Pure.ixRef (el' := encFn b[i]) (cs := [_, _, _, _]) rfl rfl (by omega) (map_get _ _ _ hlt2) rfl rfl) rfl ?_
      repeat first
        | refine LOps.pure (Pure.ldRefAgg (cs' := [_, _, _, _]) rfl rfl rfl) rfl ?_
      refine LOps.step (S.alloc fun b9 => ?_) rfl
      repeat first
        | refine LOps.nil ?_
        | refine LCode.seq ?_
        | refine LCode.region ?_
        | refine QThen.normal ?_
        | refine LOps.pure (Pure.mv (lv := .atom _) rfl) rfl ?_
        | refine LOps.pure (Pure.ldHAgg (cs' := [_, _, _, _]) rfl (List.Mem.head _) rfl rfl) rfl ?_
        | refine LOps.pure (Pure.ldHAgg (cs' := [_, _, _, _]) rfl (List.Mem.tail _ (List.Mem.head _)) rfl rfl) rfl ?_
        | refine LOps.step (S.store (cs' := [_, _, _, _]) rfl Pick.here rfl rfl rfl rfl rfl ?_) rfl
      refine LOps.step (S.fnV [_, _] rfl rfl (hrec i hlt b[i]) ?_) rfl
      repeat first
        | refine LOps.nil ?_
        | refine QThen.normal ?_
        | refine LOps.pure (Pure.not rfl) rfl ?_
      rw [eqList_drop hlt hlt2] at hE
      refine LCode.cond rfl (fun hd => ?_) (fun hd => ?_)
      · repeat first
          | refine LOps.nil ?_
          | refine LCode.seq ?_
          | refine LCode.region ?_
          | refine LCode.ret ?_
          | refine QThen.normal ?_
          | refine QThen.ret ?_
          | refine QBlock.ret ?_
          | refine LOps.pure (Pure.as (lv := .atom _) rfl) rfl ?_
        exact retRet hj (AllRes.cons (ResIs.tmp (v := .atom _) rfl (LV.Sub.refl _)) AllRes.nil) (bool_eq (by rw [hE, not_t hd]; rfl))
      · rw [not_f hd, Bool.true_and] at hE
        repeat first
          | refine LOps.nil ?_
          | refine LCode.region ?_
          | refine LCode.skip ?_
          | refine QThen.normal ?_
          | refine QBlock.normal ?_
          | refine LOps.pure (Pure.mv (lv := .atom _) rfl) rfl ?_
          | refine LOps.pure (Pure.add rfl rfl (by omega)) rfl ?_
        exact ⟨_, _, _, by omega, ⟨i + 1, rfl, by omega, rfl, rfl, hE⟩, ⟨rfl, rfl, rfl, rfl, rfl, int_eq (by omega), trivial⟩, HSub.nil _, hj⟩
    · have hge : a.length ≤ i := by have := of_decide_eq_false hc; omega
      rw [eqList_end hge (by omega)] at hE
      repeat first
        | refine LOps.nil ?_
        | refine LCode.seq ?_
        | refine LCode.region ?_
        | refine LCode.ret ?_
        | refine LCode.exit ?_
        | refine QThen.normal ?_
        | refine QThen.exit ?_
        | refine QBlock.hit ?_
        | refine LOps.pure (Pure.as (lv := .atom _) rfl) rfl ?_
      exact retRet hj (AllRes.cons (ResIs.tmp (v := .atom _) rfl (LV.Sub.refl _)) AllRes.nil) (bool_eq hE.symm)
theorem pequal_spec (a b : Pr) (ha : PrOk a) (hb : PrOk b) : LCalls (KC B0 w0) 19 [encPr a, encPr b] [] (Ret (bool (eqPr a b))) := by
  have hsz := ha.size
  unfold nPr at hsz
  have hpt : eqPr a b = (eqNames a.vars b.vars && eqList eqAr a.arrays b.arrays && eqList eqFn a.funcs b.funcs) := rfl
  refine LCalls.intro Tryz.func19 rfl (n := 24) rfl rfl rfl ?_
  repeat first
    | refine LCode.seq ?_
    | refine LCode.region ?_
  refine LOps.step (S.box (cs := [.list (a.vars.map str), .list (a.arrays.map encAr), .list (a.funcs.map encFn)]) rfl fun b2 => ?_) rfl
  refine LOps.step (S.box (cs := [.list (b.vars.map str), .list (b.arrays.map encAr), .list (b.funcs.map encFn)]) rfl fun b3 => ?_) rfl
  repeat first
    | refine LOps.nil ?_
    | refine LCode.seq ?_
    | refine LCode.region ?_
    | refine QThen.normal ?_
    | refine LOps.pure (Pure.as (lv := .atom _) rfl) rfl ?_
    | refine LOps.pure (Pure.fieldH rfl) rfl ?_
    | refine LOps.pure (Pure.loadH (c := .list _) rfl (List.Mem.head _) rfl) rfl ?_
    | refine LOps.pure (Pure.loadH (c := .list _) rfl (List.Mem.tail _ (List.Mem.head _)) rfl) rfl ?_
  refine LOps.step (S.fn [_, _] rfl (eqNs_spec a.vars b.vars (by omega)) ?_) rfl
  repeat first
    | refine LOps.pure (Pure.mv (lv := .atom _) rfl) rfl ?_
  refine LOps.bcase 10 rfl (fun h0 => ?_) (fun h0 => ?_)
  · rw [h0, Bool.true_and] at hpt
    repeat first
      | refine LOps.pure (Pure.fieldH rfl) rfl ?_
      | refine LOps.pure (Pure.loadH (c := .list _) rfl (List.Mem.head _) rfl) rfl ?_
      | refine LOps.pure (Pure.loadH (c := .list _) rfl (List.Mem.tail _ (List.Mem.head _)) rfl) rfl ?_
      | refine LOps.want rfl rfl ?_
    refine LOps.step (S.fn [_, _] rfl (eqArs_spec a.arrays b.arrays (by omega) ha.ars hb.ars) ?_) rfl
    repeat first
      | refine LOps.pure (Pure.mv (lv := .atom _) rfl) rfl ?_
      | refine LOps.pure (Pure.pickT (lv := .atom _) rfl rfl) rfl ?_
    refine LOps.bcase 17 rfl (fun h1 => ?_) (fun h1 => ?_)
    · rw [h1, Bool.true_and] at hpt
      repeat first
        | refine LOps.pure (Pure.fieldH rfl) rfl ?_
        | refine LOps.pure (Pure.loadH (c := .list _) rfl (List.Mem.head _) rfl) rfl ?_
        | refine LOps.pure (Pure.loadH (c := .list _) rfl (List.Mem.tail _ (List.Mem.head _)) rfl) rfl ?_
        | refine LOps.want rfl rfl ?_
      refine LOps.step (S.fn [_, _, _] rfl (eqFs_spec a.funcs b.funcs (by omega)) ?_) rfl
      repeat first
        | refine LOps.nil ?_
        | refine LCode.ret ?_
        | refine QThen.normal ?_
        | refine LOps.pure (Pure.as (lv := .atom _) rfl) rfl ?_
        | refine LOps.pure (Pure.pickT (lv := .atom _) rfl rfl) rfl ?_
      exact retRet rfl (AllRes.cons (ResIs.tmp (v := .atom _) rfl (LV.Sub.refl _)) AllRes.nil) (bool_eq (by rw [hpt]))
    · repeat first
        | refine LOps.nil ?_
        | refine LCode.ret ?_
        | refine QThen.normal ?_
        | refine LOps.pure (Pure.as (lv := .atom _) rfl) rfl ?_
        | refine LOps.pure (Pure.pickF (lv := .atom _) rfl rfl) rfl ?_
        | refine LOps.skip rfl rfl rfl rfl ?_
      exact retRet rfl (AllRes.cons (ResIs.tmp (v := .atom _) rfl (LV.Sub.refl _)) AllRes.nil) (bool_eq (by rw [hpt, h1]; rfl))
  · repeat first
      | refine LOps.nil ?_
      | refine LCode.ret ?_
      | refine QThen.normal ?_
      | refine LOps.pure (Pure.as (lv := .atom _) rfl) rfl ?_
      | refine LOps.pure (Pure.mv (lv := .atom _) rfl) rfl ?_
      | refine LOps.pure (Pure.pickF (lv := .atom _) rfl rfl) rfl ?_
      | refine LOps.skip rfl rfl rfl rfl ?_
    exact retRet rfl (AllRes.cons (ResIs.tmp (v := .atom _) rfl (LV.Sub.refl _)) AllRes.nil) (bool_eq (by rw [hpt, h0]; rfl))
end
end Go.Proofs.YtfodkbchknknjaaGreatDoor
