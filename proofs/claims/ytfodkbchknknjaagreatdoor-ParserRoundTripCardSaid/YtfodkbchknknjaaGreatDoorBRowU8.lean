/- Texts joined: PEq, GlArith, Fmt5, LexCat, LexJoin. -/
import Derived.StillTail
import Derived.Lib.Join
import Derived.Test.YtfodkbchknknjaaGreatDoorBRowU2
import Derived.Test.YtfodkbchknknjaaGreatDoorBRowU3
import Derived.Test.YtfodkbchknknjaaGreatDoorBRowU6
import Derived.Test.YtfodkbchknknjaaGreatDoorBRowU7
set_option linter.unusedVariables false
set_option linter.unusedSimpArgs false
namespace Go.Proofs.YtfodkbchknknjaaGreatDoor
open Go.GL Go.RowKit Go.Stele
set_option maxRecDepth 100000
set_option maxHeartbeats 4000000
attribute [local irreducible] LOps LCode LStep LCalls Go.GL.Pure QThen QBlock RetPost LQ LAny LLate LLateOp
section
variable {B0 : Nat} {w0 : World}
/-- equalExpr, given the lists of arguments. -/
theorem eqE_spec (x y : Ex) (h : LCalls (KC B0 w0) 108 [.list ((exArgs x).map encE), .list ((exArgs y).map encE), .atom (.func (.func 109) #[] #[])] [] (Ret (bool (eqExs (exArgs x) (exArgs y))))) :
    LCalls (KC B0 w0) 109 [encE x, encE y] [] (Ret (bool (eqEx x y))) := by
  have hpt := eqEx_parts x y
  rw [← encArgs_eq, ← encArgs_eq] at h
  refine LCalls.intro Tryz.func109 rfl (n := 31) rfl rfl rfl ?_
  repeat first
    | refine LCode.seq ?_
    | refine LCode.region ?_
  refine LOps.step (S.box (cs := [str (exOp x), int .u32 (exNum x), str (exName x), .list (encArgs x)]) rfl fun b2 => ?_) rfl
  refine LOps.step (S.box (cs := [str (exOp y), int .u32 (exNum y), str (exName y), .list (encArgs y)]) rfl fun b3 => ?_) rfl
  repeat first
    | refine LOps.nil ?_
    | refine LCode.seq ?_
    | refine LCode.region ?_
    | refine QThen.normal ?_
    | refine LOps.pure (Pure.as (lv := .atom _) rfl) rfl ?_
    | refine LOps.pure (Pure.fieldH rfl) rfl ?_
    | refine LOps.pure (Pure.loadH (c := .atom _) rfl (List.Mem.head _) rfl) rfl ?_
    | refine LOps.pure (Pure.loadH (c := .atom _) rfl (List.Mem.tail _ (List.Mem.head _)) rfl) rfl ?_
    | refine LOps.pure (Pure.seq rfl rfl) rfl ?_
    | refine LOps.pure (Pure.mv (lv := .atom _) rfl) rfl ?_
  refine LOps.bcase 10 rfl (fun h1 => ?_) (fun h1 => ?_)
  · rw [h1, Bool.true_and] at hpt
    repeat first
      | refine LOps.pure (Pure.fieldH rfl) rfl ?_
      | refine LOps.pure (Pure.loadH (c := .atom _) rfl (List.Mem.head _) rfl) rfl ?_
      | refine LOps.pure (Pure.loadH (c := .atom _) rfl (List.Mem.tail _ (List.Mem.head _)) rfl) rfl ?_
      | refine LOps.pure (Pure.mv (lv := .atom _) rfl) rfl ?_
      | refine LOps.pure (Pure.eql rfl rfl) rfl ?_
      | refine LOps.pure (Pure.pickT (lv := .atom _) rfl rfl) rfl ?_
      | refine LOps.want rfl rfl ?_
    refine LOps.bcase 17 rfl (fun h2 => ?_) (fun h2 => ?_)
    · rw [h2, Bool.true_and] at hpt
      repeat first
        | refine LOps.pure (Pure.fieldH rfl) rfl ?_
        | refine LOps.pure (Pure.loadH (c := .atom _) rfl (List.Mem.head _) rfl) rfl ?_
        | refine LOps.pure (Pure.loadH (c := .atom _) rfl (List.Mem.tail _ (List.Mem.head _)) rfl) rfl ?_
        | refine LOps.pure (Pure.seq rfl rfl) rfl ?_
        | refine LOps.pure (Pure.mv (lv := .atom _) rfl) rfl ?_
        | refine LOps.pure (Pure.pickT (lv := .atom _) rfl rfl) rfl ?_
        | refine LOps.want rfl rfl ?_
      refine LOps.bcase 24 rfl (fun h3 => ?_) (fun h3 => ?_)
      · rw [h3, Bool.true_and] at hpt
        repeat first
          | refine LOps.pure (Pure.fieldH rfl) rfl ?_
          | refine LOps.pure (Pure.loadH (c := .list _) rfl (List.Mem.head _) rfl) rfl ?_
          | refine LOps.pure (Pure.loadH (c := .list _) rfl (List.Mem.tail _ (List.Mem.head _)) rfl) rfl ?_
          | refine LOps.want rfl rfl ?_
        refine LOps.step (S.fn [_, _, _] rfl h ?_) rfl
        repeat first
          | refine LOps.nil ?_
          | refine LCode.ret ?_
          | refine QThen.normal ?_
          | refine LOps.pure (Pure.as (lv := .atom _) rfl) rfl ?_
          | refine LOps.pure (Pure.pickT (lv := .atom _) rfl rfl) rfl ?_
        exact retRet rfl (AllRes.cons (ResIs.tmp (v := .atom _) rfl (LV.Sub.refl _)) AllRes.nil) (bool_eq (by rw [hpt]))
      · repeat first
          | refine LOps.nil ?_
          | refine LCode.ret ?_
          | refine QThen.normal ?_
          | refine LOps.pure (Pure.as (lv := .atom _) rfl) rfl ?_
          | refine LOps.pure (Pure.pickF (lv := .atom _) rfl rfl) rfl ?_
          | refine LOps.skip rfl rfl rfl rfl ?_
        exact retRet rfl (AllRes.cons (ResIs.tmp (v := .atom _) rfl (LV.Sub.refl _)) AllRes.nil) (bool_eq (by rw [hpt, h3]; rfl))
    · repeat first
        | refine LOps.nil ?_
        | refine LCode.ret ?_
        | refine QThen.normal ?_
        | refine LOps.pure (Pure.as (lv := .atom _) rfl) rfl ?_
        | refine LOps.pure (Pure.mv (lv := .atom _) rfl) rfl ?_
        | refine LOps.pure (Pure.pickF (lv := .atom _) rfl rfl) rfl ?_
        | refine LOps.skip rfl rfl rfl rfl ?_
      exact retRet rfl (AllRes.cons (ResIs.tmp (v := .atom _) rfl (LV.Sub.refl _)) AllRes.nil) (bool_eq (by rw [hpt, h2]; rfl))
  · repeat first
      | refine LOps.nil ?_
      | refine LCode.ret ?_
      | refine QThen.normal ?_
      | refine LOps.pure (Pure.as (lv := .atom _) rfl) rfl ?_
      | refine LOps.pure (Pure.mv (lv := .atom _) rfl) rfl ?_
      | refine LOps.pure (Pure.pickF (lv := .atom _) rfl rfl) rfl ?_
      | refine LOps.skip rfl rfl rfl rfl ?_
    exact retRet rfl (AllRes.cons (ResIs.tmp (v := .atom _) rfl (LV.Sub.refl _)) AllRes.nil) (bool_eq (by rw [hpt, h1]; rfl))
theorem eqEs_spec : ∀ (n : Nat) (a b : List Ex), nExs a ≤ n → n ≤ 4611686018427387904 → LCalls (KC B0 w0) 108 [.list (a.map encE), .list (b.map encE), .atom (.func (.func 109) #[] #[])] [] (Ret (bool (eqExs a b))) := by
  intro n
  induction n using Nat.strongRecOn with
  | _ n ih =>
  intro a b hn hb
  have ha := nExs_len a
  have hrec : ∀ (i : Nat) (h : i < a.length) (y : Ex), LCalls (KC B0 w0) 109 [encE a[i], encE y] [] (Ret (bool (eqEx a[i] y))) := fun i h y => by
    have h1 := nExs_mem (List.getElem_mem h)
    have h2 := nEx_eq a[i]
    exact eqE_spec a[i] y (ih _ (by omega) (exArgs a[i]) (exArgs y) (Nat.le_refl _) (by omega))
  rw [eqExs_list]
  refine LCalls.intro Tryz.func108 rfl (n := 32) rfl rfl rfl ?_
  have hla : (a.map encE).length = a.length := List.length_map _
  have hlb : (b.map encE).length = b.length := List.length_map _
  repeat first
    | refine LOps.nil ?_
    | refine LCode.seq ?_
    | refine LCode.region ?_
    | refine QThen.normal ?_
    | refine LOps.pure (Pure.as (lv := .atom _) rfl) rfl ?_
    | refine LOps.pure (Pure.mv (lv := .list _) rfl) rfl ?_
    | refine LOps.pure (Pure.llen rfl) rfl ?_
    | refine LOps.pure (Pure.neq rfl rfl) rfl ?_
  refine LCode.cond rfl (fun hc => ?_) (fun hc => ?_)
  · have hne : a.length ≠ b.length := by
      have : ¬ ((a.map encE).length : Int) = (b.map encE).length := by simpa using hc
      omega
    repeat first
      | refine LOps.nil ?_
      | refine LCode.seq ?_
      | refine LCode.region ?_
      | refine LCode.ret ?_
      | refine QThen.normal ?_
      | refine QThen.ret ?_
      | refine LOps.pure (Pure.as (lv := .atom _) rfl) rfl ?_
    exact retRet rfl (AllRes.cons (ResIs.tmp (v := .atom _) rfl (LV.Sub.refl _)) AllRes.nil) (bool_eq (eqList_len a b hne).symm)
  · have hle : a.length = b.length := by
      have : ((a.map encE).length : Int) = (b.map encE).length := by simpa using hc
      omega
    repeat first
      | refine LOps.nil ?_
      | refine LCode.seq ?_
      | refine LCode.region ?_
      | refine LCode.skip ?_
      | refine LCode.block ?_
      | refine QThen.normal ?_
      | refine LOps.pure (Pure.mv (lv := .list _) rfl) rfl ?_
      | refine LOps.pure (Pure.mv (lv := .atom _) rfl) rfl ?_
      | refine LOps.pure (Pure.llen rfl) rfl ?_
    refine LCode.loopI (fun k ls H => ∃ i, k = a.length - i ∧ i ≤ a.length ∧ ls = [(0, .list (a.map encE)), (1, .list (b.map encE)), (2, .atom (.func (.func 109) #[] #[])), (15, .list (a.map encE)), (16, int .i64 a.length), (17, int .i64 i)] ∧ H = [] ∧ eqList eqEx a b = eqList eqEx (a.drop i) (b.drop i))
      ⟨_, _, _, ⟨0, rfl, Nat.zero_le _, rfl, rfl, rfl⟩, ⟨rfl, rfl, rfl, rfl, int_eq (by omega), rfl, trivial⟩, HSub.refl _⟩ ?_
    rintro k ls H ⟨i, rfl, hi, rfl, rfl, hE⟩ j hj
    repeat first
      | refine LOps.nil ?_
      | refine LCode.seq ?_
      | refine LCode.region ?_
      | refine QThen.normal ?_
      | refine LOps.pure (Pure.lss rfl rfl) rfl ?_
    refine LCode.cond rfl (fun hc => ?_) (fun hc => ?_)
    · have hlt : i < a.length := by have := of_decide_eq_true hc; omega
      have hlt2 : i < b.length := by omega
      repeat first
        | refine LCode.seq ?_
        | refine LCode.region ?_
        | refine LCode.skip ?_
        | refine LCode.block ?_
        | refine QThen.normal ?_
        | refine LOps.pure (Pure.mv (lv := .atom _) rfl) rfl ?_
      refine LOps.pure (Pure.ixRef (el' := encE a[i]) (cs := [_, _, _, _]) rfl rfl (by omega) (map_get _ _ _ hlt) rfl rfl) rfl ?_
      repeat first
        | refine LOps.pure (Pure.ldRefAgg (cs' := [_, _, _, _]) rfl rfl rfl) rfl ?_
      refine LOps.step (S.alloc fun b8 => ?_) rfl
      repeat first
        | refine LOps.nil ?_
        | refine LCode.seq ?_
        | refine LCode.region ?_
        | refine QThen.normal ?_
        | refine LOps.pure (Pure.as (lv := .atom _) rfl) rfl ?_
        | refine LOps.pure (Pure.mv (lv := .list _) rfl) rfl ?_
        | refine LOps.pure (Pure.mv (lv := .atom _) rfl) rfl ?_
        | refine LOps.step (S.store (cs' := [_, _, _, _]) rfl Pick.here rfl rfl rfl rfl rfl ?_) rfl
      refine LOps.pure (Pure.ixRef (el' := encE b[i]) (cs := [_, _, _, _]) rfl rfl (by omega) (map_get _ _ _ hlt2) rfl rfl) rfl ?_
      repeat first
        | refine LOps.pure (Pure.ldRefAgg (cs' := [_, _, _, _]) rfl rfl rfl) rfl ?_
      refine LOps.step (S.alloc fun b9 => ?_) rfl
      repeat first
        | refine LOps.nil ?_
        | refine LCode.seq ?_
        | refine LCode.region ?_
        | refine QThen.normal ?_
        | refine LOps.pure (Pure.mv (lv := .atom _) rfl) rfl ?_
        | refine LOps.pure (Pure.ldHAgg (cs' := [_, _, _, _]) rfl (List.Mem.head _) rfl rfl) rfl ?_
        | refine LOps.pure (Pure.ldHAgg (cs' := [_, _, _, _]) rfl (List.Mem.tail _ (List.Mem.head _)) rfl rfl) rfl ?_
        | refine LOps.step (S.store (cs' := [_, _, _, _]) rfl Pick.here rfl rfl rfl rfl rfl ?_) rfl
      refine LOps.step (S.fnV [_, _] rfl rfl (hrec i hlt b[i]) ?_) rfl
      repeat first
        | refine LOps.nil ?_
        | refine QThen.normal ?_
        | refine LOps.pure (Pure.not rfl) rfl ?_
      rw [eqList_drop hlt hlt2] at hE
      refine LCode.cond rfl (fun hd => ?_) (fun hd => ?_)
      · repeat first
          | refine LOps.nil ?_
          | refine LCode.seq ?_
          | refine LCode.region ?_
          | refine LCode.ret ?_
          | refine QThen.normal ?_
          | refine QThen.ret ?_
          | refine QBlock.ret ?_
          | refine LOps.pure (Pure.as (lv := .atom _) rfl) rfl ?_
        exact retRet hj (AllRes.cons (ResIs.tmp (v := .atom _) rfl (LV.Sub.refl _)) AllRes.nil) (bool_eq (by rw [hE, not_t hd]; rfl))
      · rw [not_f hd, Bool.true_and] at hE
        repeat first
          | refine LOps.nil ?_
          | refine LCode.region ?_
          | refine LCode.skip ?_
          | refine QThen.normal ?_
          | refine QBlock.normal ?_
          | refine LOps.pure (Pure.mv (lv := .atom _) rfl) rfl ?_
          | refine LOps.pure (Pure.add rfl rfl (by omega)) rfl ?_
        exact ⟨_, _, _, by omega, ⟨i + 1, rfl, by omega, rfl, rfl, hE⟩, ⟨rfl, rfl, rfl, rfl, rfl, int_eq (by omega), trivial⟩, HSub.nil _, hj⟩
    · have hge : a.length ≤ i := by have := of_decide_eq_false hc; omega
      rw [eqList_end hge (by omega)] at hE
      repeat first
        | refine LOps.nil ?_
        | refine LCode.seq ?_
        | refine LCode.region ?_
        | refine LCode.ret ?_
        | refine LCode.exit ?_
        | refine QThen.normal ?_
        | refine QThen.exit ?_
        | refine QBlock.hit ?_
        | refine LOps.pure (Pure.as (lv := .atom _) rfl) rfl ?_
      exact retRet hj (AllRes.cons (ResIs.tmp (v := .atom _) rfl (LV.Sub.refl _)) AllRes.nil) (bool_eq hE.symm)
theorem eqS_spec (x y : Sm) (hn : nSm x ≤ 4611686018427387904) (ht : LCalls (KC B0 w0) 69 [.list ((smThen x).map encS), .list ((smThen y).map encS), .atom (.func (.func 70) #[] #[])] [] (Ret (bool (eqSms (smThen x) (smThen y)))))
    (he : LCalls (KC B0 w0) 69 [.list ((smElse x).map encS), .list ((smElse y).map encS), .atom (.func (.func 70) #[] #[])] [] (Ret (bool (eqSms (smElse x) (smElse y))))) :
    LCalls (KC B0 w0) 70 [encS x, encS y] [] (Ret (bool (eqSm x y))) := by
  have hpt := eqSm_parts x y
  have hnn := nSm_eq x
  rw [← encThen_eq, ← encThen_eq] at ht
  rw [← encElse_eq, ← encElse_eq] at he
  refine LCalls.intro Tryz.func70 rfl (n := 45) rfl rfl rfl ?_
  repeat first
    | refine LCode.seq ?_
    | refine LCode.region ?_
  refine LOps.step (S.box (cs := [int .i64 (smKind x), str (smName x), .list ((smIndex x).map encE), .list ((smValue x).map encE), .list (encThen x), .list (encElse x)]) rfl fun b2 => ?_) rfl
  refine LOps.step (S.box (cs := [int .i64 (smKind y), str (smName y), .list ((smIndex y).map encE), .list ((smValue y).map encE), .list (encThen y), .list (encElse y)]) rfl fun b3 => ?_) rfl
  repeat first
    | refine LOps.nil ?_
    | refine LCode.seq ?_
    | refine LCode.region ?_
    | refine QThen.normal ?_
    | refine LOps.pure (Pure.as (lv := .atom _) rfl) rfl ?_
    | refine LOps.pure (Pure.fieldH rfl) rfl ?_
    | refine LOps.pure (Pure.loadH (c := .atom _) rfl (List.Mem.head _) rfl) rfl ?_
    | refine LOps.pure (Pure.loadH (c := .atom _) rfl (List.Mem.tail _ (List.Mem.head _)) rfl) rfl ?_
    | refine LOps.pure (Pure.eql rfl rfl) rfl ?_
    | refine LOps.pure (Pure.mv (lv := .atom _) rfl) rfl ?_
  refine LOps.bcase 10 rfl (fun h0 => ?_) (fun h0 => ?_)
  · rw [h0, Bool.true_and] at hpt
    repeat first
      | refine LOps.pure (Pure.fieldH rfl) rfl ?_
      | refine LOps.pure (Pure.loadH (c := .atom _) rfl (List.Mem.head _) rfl) rfl ?_
      | refine LOps.pure (Pure.loadH (c := .atom _) rfl (List.Mem.tail _ (List.Mem.head _)) rfl) rfl ?_
      | refine LOps.pure (Pure.mv (lv := .atom _) rfl) rfl ?_
      | refine LOps.pure (Pure.seq rfl rfl) rfl ?_
      | refine LOps.pure (Pure.pickT (lv := .atom _) rfl rfl) rfl ?_
      | refine LOps.want rfl rfl ?_
    refine LOps.bcase 17 rfl (fun h1 => ?_) (fun h1 => ?_)
    · rw [h1, Bool.true_and] at hpt
      repeat first
        | refine LOps.pure (Pure.fieldH rfl) rfl ?_
        | refine LOps.pure (Pure.loadH (c := .list _) rfl (List.Mem.head _) rfl) rfl ?_
        | refine LOps.pure (Pure.loadH (c := .list _) rfl (List.Mem.tail _ (List.Mem.head _)) rfl) rfl ?_
        | refine LOps.want rfl rfl ?_
      refine LOps.step (S.fn [_, _, _] rfl (eqEs_spec _ (smIndex x) (smIndex y) (Nat.le_refl _) (by omega)) ?_) rfl
      repeat first
        | refine LOps.pure (Pure.mv (lv := .atom _) rfl) rfl ?_
        | refine LOps.pure (Pure.pickT (lv := .atom _) rfl rfl) rfl ?_
      refine LOps.bcase 24 rfl (fun h2 => ?_) (fun h2 => ?_)
      · rw [h2, Bool.true_and] at hpt
        repeat first
          | refine LOps.pure (Pure.fieldH rfl) rfl ?_
          | refine LOps.pure (Pure.loadH (c := .list _) rfl (List.Mem.head _) rfl) rfl ?_
          | refine LOps.pure (Pure.loadH (c := .list _) rfl (List.Mem.tail _ (List.Mem.head _)) rfl) rfl ?_
          | refine LOps.want rfl rfl ?_
        refine LOps.step (S.fn [_, _, _] rfl (eqEs_spec _ (smValue x) (smValue y) (Nat.le_refl _) (by omega)) ?_) rfl
        repeat first
          | refine LOps.pure (Pure.mv (lv := .atom _) rfl) rfl ?_
          | refine LOps.pure (Pure.pickT (lv := .atom _) rfl rfl) rfl ?_
        refine LOps.bcase 31 rfl (fun h3 => ?_) (fun h3 => ?_)
        · rw [h3, Bool.true_and] at hpt
          repeat first
            | refine LOps.pure (Pure.fieldH rfl) rfl ?_
            | refine LOps.pure (Pure.loadH (c := .list _) rfl (List.Mem.head _) rfl) rfl ?_
            | refine LOps.pure (Pure.loadH (c := .list _) rfl (List.Mem.tail _ (List.Mem.head _)) rfl) rfl ?_
            | refine LOps.want rfl rfl ?_
          refine LOps.step (S.fn [_, _, _] rfl ht ?_) rfl
          repeat first
            | refine LOps.pure (Pure.mv (lv := .atom _) rfl) rfl ?_
            | refine LOps.pure (Pure.pickT (lv := .atom _) rfl rfl) rfl ?_
          refine LOps.bcase 38 rfl (fun h4 => ?_) (fun h4 => ?_)
          · rw [h4, Bool.true_and] at hpt
            repeat first
              | refine LOps.pure (Pure.fieldH rfl) rfl ?_
              | refine LOps.pure (Pure.loadH (c := .list _) rfl (List.Mem.head _) rfl) rfl ?_
              | refine LOps.pure (Pure.loadH (c := .list _) rfl (List.Mem.tail _ (List.Mem.head _)) rfl) rfl ?_
              | refine LOps.want rfl rfl ?_
            refine LOps.step (S.fn [_, _, _] rfl he ?_) rfl
            repeat first
              | refine LOps.nil ?_
              | refine LCode.ret ?_
              | refine QThen.normal ?_
              | refine LOps.pure (Pure.as (lv := .atom _) rfl) rfl ?_
              | refine LOps.pure (Pure.pickT (lv := .atom _) rfl rfl) rfl ?_
            exact retRet rfl (AllRes.cons (ResIs.tmp (v := .atom _) rfl (LV.Sub.refl _)) AllRes.nil) (bool_eq (by rw [hpt]))
          · repeat first
              | refine LOps.nil ?_
              | refine LCode.ret ?_
              | refine QThen.normal ?_
              | refine LOps.pure (Pure.as (lv := .atom _) rfl) rfl ?_
              | refine LOps.pure (Pure.pickF (lv := .atom _) rfl rfl) rfl ?_
              | refine LOps.skip rfl rfl rfl rfl ?_
            exact retRet rfl (AllRes.cons (ResIs.tmp (v := .atom _) rfl (LV.Sub.refl _)) AllRes.nil) (bool_eq (by rw [hpt, h4]; rfl))
        · repeat first
            | refine LOps.nil ?_
            | refine LCode.ret ?_
            | refine QThen.normal ?_
            | refine LOps.pure (Pure.as (lv := .atom _) rfl) rfl ?_
            | refine LOps.pure (Pure.mv (lv := .atom _) rfl) rfl ?_
            | refine LOps.pure (Pure.pickF (lv := .atom _) rfl rfl) rfl ?_
            | refine LOps.skip rfl rfl rfl rfl ?_
          exact retRet rfl (AllRes.cons (ResIs.tmp (v := .atom _) rfl (LV.Sub.refl _)) AllRes.nil) (bool_eq (by rw [hpt, h3]; rfl))
      · repeat first
          | refine LOps.nil ?_
          | refine LCode.ret ?_
          | refine QThen.normal ?_
          | refine LOps.pure (Pure.as (lv := .atom _) rfl) rfl ?_
          | refine LOps.pure (Pure.mv (lv := .atom _) rfl) rfl ?_
          | refine LOps.pure (Pure.pickF (lv := .atom _) rfl rfl) rfl ?_
          | refine LOps.skip rfl rfl rfl rfl ?_
        exact retRet rfl (AllRes.cons (ResIs.tmp (v := .atom _) rfl (LV.Sub.refl _)) AllRes.nil) (bool_eq (by rw [hpt, h2]; rfl))
    · repeat first
        | refine LOps.nil ?_
        | refine LCode.ret ?_
        | refine QThen.normal ?_
        | refine LOps.pure (Pure.as (lv := .atom _) rfl) rfl ?_
        | refine LOps.pure (Pure.mv (lv := .atom _) rfl) rfl ?_
        | refine LOps.pure (Pure.pickF (lv := .atom _) rfl rfl) rfl ?_
        | refine LOps.skip rfl rfl rfl rfl ?_
      exact retRet rfl (AllRes.cons (ResIs.tmp (v := .atom _) rfl (LV.Sub.refl _)) AllRes.nil) (bool_eq (by rw [hpt, h1]; rfl))
  · repeat first
      | refine LOps.nil ?_
      | refine LCode.ret ?_
      | refine QThen.normal ?_
      | refine LOps.pure (Pure.as (lv := .atom _) rfl) rfl ?_
      | refine LOps.pure (Pure.mv (lv := .atom _) rfl) rfl ?_
      | refine LOps.pure (Pure.pickF (lv := .atom _) rfl rfl) rfl ?_
      | refine LOps.skip rfl rfl rfl rfl ?_
    exact retRet rfl (AllRes.cons (ResIs.tmp (v := .atom _) rfl (LV.Sub.refl _)) AllRes.nil) (bool_eq (by rw [hpt, h0]; rfl))
theorem eqSs_spec : ∀ (n : Nat) (a b : List Sm), nSms a ≤ n → n ≤ 4611686018427387904 → LCalls (KC B0 w0) 69 [.list (a.map encS), .list (b.map encS), .atom (.func (.func 70) #[] #[])] [] (Ret (bool (eqSms a b))) := by
  intro n
  induction n using Nat.strongRecOn with
  | _ n ih =>
  intro a b hn hb
  have ha := nSms_len a
  have hrec : ∀ (i : Nat) (h : i < a.length) (y : Sm), LCalls (KC B0 w0) 70 [encS a[i], encS y] [] (Ret (bool (eqSm a[i] y))) := fun i h y => by
    have h1 := nSms_mem (List.getElem_mem h)
    have h2 := nSm_eq a[i]
    exact eqS_spec a[i] y (by omega) (ih _ (by omega) (smThen a[i]) (smThen y) (Nat.le_refl _) (by omega)) (ih _ (by omega) (smElse a[i]) (smElse y) (Nat.le_refl _) (by omega))
  rw [eqSms_list]
  refine LCalls.intro Tryz.func69 rfl (n := 32) rfl rfl rfl ?_
  have hla : (a.map encS).length = a.length := List.length_map _
  have hlb : (b.map encS).length = b.length := List.length_map _
  repeat first
    | refine LOps.nil ?_
    | refine LCode.seq ?_
    | refine LCode.region ?_
    | refine QThen.normal ?_
    | refine LOps.pure (Pure.as (lv := .atom _) rfl) rfl ?_
    | refine LOps.pure (Pure.mv (lv := .list _) rfl) rfl ?_
    | refine LOps.pure (Pure.llen rfl) rfl ?_
    | refine LOps.pure (Pure.neq rfl rfl) rfl ?_
  refine LCode.cond rfl (fun hc => ?_) (fun hc => ?_)
  · have hne : a.length ≠ b.length := by
      have : ¬ ((a.map encS).length : Int) = (b.map encS).length := by simpa using hc
      omega
    repeat first
      | refine LOps.nil ?_
      | refine LCode.seq ?_
      | refine LCode.region ?_
      | refine LCode.ret ?_
      | refine QThen.normal ?_
      | refine QThen.ret ?_
      | refine LOps.pure (Pure.as (lv := .atom _) rfl) rfl ?_
    exact retRet rfl (AllRes.cons (ResIs.tmp (v := .atom _) rfl (LV.Sub.refl _)) AllRes.nil) (bool_eq (eqList_len a b hne).symm)
  · have hle : a.length = b.length := by
      have : ((a.map encS).length : Int) = (b.map encS).length := by simpa using hc
      omega
    repeat first
      | refine LOps.nil ?_
      | refine LCode.seq ?_
      | refine LCode.region ?_
      | refine LCode.skip ?_
      | refine LCode.block ?_
      | refine QThen.normal ?_
      | refine LOps.pure (Pure.mv (lv := .list _) rfl) rfl ?_
      | refine LOps.pure (Pure.mv (lv := .atom _) rfl) rfl ?_
      | refine LOps.pure (Pure.llen rfl) rfl ?_
    refine LCode.loopI (fun k ls H => ∃ i, k = a.length - i ∧ i ≤ a.length ∧ ls = [(0, .list (a.map encS)), (1, .list (b.map encS)), (2, .atom (.func (.func 70) #[] #[])), (15, .list (a.map encS)), (16, int .i64 a.length), (17, int .i64 i)] ∧ H = [] ∧ eqList eqSm a b = eqList eqSm (a.drop i) (b.drop i))
      ⟨_, _, _, ⟨0, rfl, Nat.zero_le _, rfl, rfl, rfl⟩, ⟨rfl, rfl, rfl, rfl, int_eq (by omega), rfl, trivial⟩, HSub.refl _⟩ ?_
    rintro k ls H ⟨i, rfl, hi, rfl, rfl, hE⟩ j hj
    repeat first
      | refine LOps.nil ?_
      | refine LCode.seq ?_
      | refine LCode.region ?_
      | refine QThen.normal ?_
      | refine LOps.pure (Pure.lss rfl rfl) rfl ?_
    refine LCode.cond rfl (fun hc => ?_) (fun hc => ?_)
    · have hlt : i < a.length := by have := of_decide_eq_true hc; omega
      have hlt2 : i < b.length := by omega
      repeat first
        | refine LCode.seq ?_
        | refine LCode.region ?_
        | refine LCode.skip ?_
        | refine LCode.block ?_
        | refine QThen.normal ?_
        | refine LOps.pure (Pure.mv (lv := .atom _) rfl) rfl ?_
      refine LOps.pure (Pure.ixRef (el' := encS a[i]) (cs := [_, _, _, _, _, _]) rfl rfl (by omega) (map_get _ _ _ hlt) rfl rfl) rfl ?_
      repeat first
        | refine LOps.pure (Pure.ldRefAgg (cs' := [_, _, _, _, _, _]) rfl rfl rfl) rfl ?_
      refine LOps.step (S.alloc fun b8 => ?_) rfl
      repeat first
        | refine LOps.nil ?_
        | refine LCode.seq ?_
        | refine LCode.region ?_
        | refine QThen.normal ?_
        | refine LOps.pure (Pure.as (lv := .atom _) rfl) rfl ?_
        | refine LOps.pure (Pure.mv (lv := .list _) rfl) rfl ?_
        | refine LOps.pure (Pure.mv (lv := .atom _) rfl) rfl ?_
        | refine LOps.step (S.store (cs' := [_, _, _, _, _, _]) rfl Pick.here rfl rfl rfl rfl rfl ?_) rfl
      refine LOps.pure (Pure.ixRef (el' := encS b[i]) (cs := [_, _, _, _, _, _]) rfl rfl (by omega) (map_get _ _ _ hlt2) rfl rfl) rfl ?_
      repeat first
        | refine LOps.pure (Pure.ldRefAgg (cs' := [_, _, _, _, _, _]) rfl rfl rfl) rfl ?_
      refine LOps.step (S.alloc fun b9 => ?_) rfl
      repeat first
        | refine LOps.nil ?_
        | refine LCode.seq ?_
        | refine LCode.region ?_
        | refine QThen.normal ?_
        | refine LOps.pure (Pure.mv (lv := .atom _) rfl) rfl ?_
        | refine LOps.pure (Pure.ldHAgg (cs' := [_, _, _, _, _, _]) rfl (List.Mem.head _) rfl rfl) rfl ?_
        | refine LOps.pure (Pure.ldHAgg (cs' := [_, _, _, _, _, _]) rfl (List.Mem.tail _ (List.Mem.head _)) rfl rfl) rfl ?_
        | refine LOps.step (S.store (cs' := [_, _, _, _, _, _]) rfl Pick.here rfl rfl rfl rfl rfl ?_) rfl
      refine LOps.step (S.fnV [_, _] rfl rfl (hrec i hlt b[i]) ?_) rfl
      repeat first
        | refine LOps.nil ?_
        | refine QThen.normal ?_
        | refine LOps.pure (Pure.not rfl) rfl ?_
      rw [eqList_drop hlt hlt2] at hE
      refine LCode.cond rfl (fun hd => ?_) (fun hd => ?_)
      · repeat first
          | refine LOps.nil ?_
          | refine LCode.seq ?_
          | refine LCode.region ?_
          | refine LCode.ret ?_
          | refine QThen.normal ?_
          | refine QThen.ret ?_
          | refine QBlock.ret ?_
          | refine LOps.pure (Pure.as (lv := .atom _) rfl) rfl ?_
        exact retRet hj (AllRes.cons (ResIs.tmp (v := .atom _) rfl (LV.Sub.refl _)) AllRes.nil) (bool_eq (by rw [hE, not_t hd]; rfl))
      · rw [not_f hd, Bool.true_and] at hE
        repeat first
          | refine LOps.nil ?_
          | refine LCode.region ?_
          | refine LCode.skip ?_
          | refine QThen.normal ?_
          | refine QBlock.normal ?_
          | refine LOps.pure (Pure.mv (lv := .atom _) rfl) rfl ?_
          | refine LOps.pure (Pure.add rfl rfl (by omega)) rfl ?_
        exact ⟨_, _, _, by omega, ⟨i + 1, rfl, by omega, rfl, rfl, hE⟩, ⟨rfl, rfl, rfl, rfl, rfl, int_eq (by omega), trivial⟩, HSub.nil _, hj⟩
    · have hge : a.length ≤ i := by have := of_decide_eq_false hc; omega
      rw [eqList_end hge (by omega)] at hE
      repeat first
        | refine LOps.nil ?_
        | refine LCode.seq ?_
        | refine LCode.region ?_
        | refine LCode.ret ?_
        | refine LCode.exit ?_
        | refine QThen.normal ?_
        | refine QThen.exit ?_
        | refine QBlock.hit ?_
        | refine LOps.pure (Pure.as (lv := .atom _) rfl) rfl ?_
      exact retRet hj (AllRes.cons (ResIs.tmp (v := .atom _) rfl (LV.Sub.refl _)) AllRes.nil) (bool_eq hE.symm)
theorem eqStrs_spec (a b : List (List UInt8)) (ha : a.length ≤ 4611686018427387904) : LCalls (KC B0 w0) 41 [.list (a.map str), .list (b.map str)] [] (Ret (bool (eqList (fun a b => decide (a = b)) a b))) := by
  have hla : (a.map str).length = a.length := List.length_map _
  have hlb : (b.map str).length = b.length := List.length_map _
  refine LCalls.intro Tryz.func41 rfl (n := 26) rfl rfl rfl ?_
  repeat first
    | refine LOps.nil ?_
    | refine LCode.seq ?_
    | refine LCode.region ?_
    | refine QThen.normal ?_
    | refine LOps.pure (Pure.as (lv := .atom _) rfl) rfl ?_
    | refine LOps.pure (Pure.mv (lv := .list _) rfl) rfl ?_
    | refine LOps.pure (Pure.llen rfl) rfl ?_
    | refine LOps.pure (Pure.neq rfl rfl) rfl ?_
  refine LCode.cond rfl (fun hc => ?_) (fun hc => ?_)
  · have hne : a.length ≠ b.length := by
      have : ¬ ((a.map str).length : Int) = (b.map str).length := by simpa using hc
      omega
    repeat first
      | refine LOps.nil ?_
      | refine LCode.seq ?_
      | refine LCode.region ?_
      | refine LCode.ret ?_
      | refine QThen.normal ?_
      | refine QThen.ret ?_
      | refine LOps.pure (Pure.as (lv := .atom _) rfl) rfl ?_
    exact retRet rfl (AllRes.cons (ResIs.tmp (v := .atom _) rfl (LV.Sub.refl _)) AllRes.nil) (bool_eq (eqList_len a b hne).symm)
  · have hle : a.length = b.length := by
      have : ((a.map str).length : Int) = (b.map str).length := by simpa using hc
      omega
    repeat first
      | refine LOps.nil ?_
      | refine LCode.seq ?_
      | refine LCode.region ?_
      | refine LCode.skip ?_
      | refine LCode.block ?_
      | refine QThen.normal ?_
      | refine LOps.pure (Pure.mv (lv := .list _) rfl) rfl ?_
      | refine LOps.pure (Pure.mv (lv := .atom _) rfl) rfl ?_
      | refine LOps.pure (Pure.llen rfl) rfl ?_
    refine LCode.loopI (fun k ls H => ∃ i, k = a.length - i ∧ i ≤ a.length ∧ ls = [(0, .list (a.map str)), (1, .list (b.map str)), (12, int .i64 a.length), (13, int .i64 i)] ∧ H = [] ∧ eqList (fun a b => decide (a = b)) a b = eqList (fun a b => decide (a = b)) (a.drop i) (b.drop i))
      ⟨_, _, _, ⟨0, rfl, Nat.zero_le _, rfl, rfl, rfl⟩, ⟨rfl, rfl, int_eq (by omega), rfl, trivial⟩, HSub.refl _⟩ ?_
    rintro k ls H ⟨i, rfl, hi, rfl, rfl, hE⟩ j hj
    repeat first
      | refine LOps.nil ?_
      | refine LCode.seq ?_
      | refine LCode.region ?_
      | refine QThen.normal ?_
      | refine LOps.pure (Pure.lss rfl rfl) rfl ?_
    refine LCode.cond rfl (fun hc => ?_) (fun hc => ?_)
    · have hlt : i < a.length := by have := of_decide_eq_true hc; omega
      have hlt2 : i < b.length := by omega
      repeat first
        | refine LOps.nil ?_
        | refine LCode.seq ?_
        | refine LCode.region ?_
        | refine LCode.skip ?_
        | refine LCode.block ?_
        | refine QThen.normal ?_
        | refine LOps.pure (Pure.as (lv := .atom _) rfl) rfl ?_
        | refine LOps.pure (Pure.mv (lv := .atom _) rfl) rfl ?_
      refine LCode.cut [(0, .list (a.map str)), (1, .list (b.map str)), (12, int .i64 a.length), (13, int .i64 i), (24, bool (!decide (a[i] = b[i])))] ?_ (fun j2 hj2 => ?_)
      · refine LCode.quiet (by kernel_rfl) ?_
        repeat first
          | refine LQ.pure (Pure.mv (lv := .list _) rfl) rfl ?_
          | refine LQ.pure (Pure.mv (lv := .atom _) rfl) rfl ?_
        refine LQ.pure (Pure.ixRef (el' := str a[i]) (cs := [_]) rfl rfl (by omega) (map_get _ _ _ hlt) rfl rfl) rfl ?_
        repeat first
          | refine LQ.pure (Pure.mv (lv := .list _) rfl) rfl ?_
          | refine LQ.pure (Pure.mv (lv := .atom _) rfl) rfl ?_
          | refine LQ.pure (Pure.loadRef (c := .atom _) rfl rfl) rfl ?_
        refine LQ.pure (Pure.ixRef (el' := str b[i]) (cs := [_]) rfl rfl (by omega) (map_get _ _ _ hlt2) rfl rfl) rfl ?_
        repeat first
          | refine LQ.pure (Pure.loadRef (c := .atom _) rfl rfl) rfl ?_
          | refine LQ.pure (Pure.sneq rfl rfl) rfl ?_
          | refine LQ.nil ?_
          | refine QThen.normal ?_
        exact ⟨⟨rfl, rfl, rfl, rfl, rfl, trivial⟩, rfl, rfl⟩
      · rw [eqList_drop hlt hlt2] at hE
        refine LCode.cond rfl (fun hd => ?_) (fun hd => ?_)
        · repeat first
            | refine LOps.nil ?_
            | refine LCode.seq ?_
            | refine LCode.region ?_
            | refine LCode.ret ?_
            | refine QThen.normal ?_
            | refine QThen.ret ?_
            | refine QBlock.ret ?_
            | refine LOps.pure (Pure.as (lv := .atom _) rfl) rfl ?_
          exact retRet (hj2.trans hj) (AllRes.cons (ResIs.tmp (v := .atom _) rfl (LV.Sub.refl _)) AllRes.nil) (bool_eq (by rw [hE, not_t hd]; rfl))
        · rw [not_f hd, Bool.true_and] at hE
          repeat first
            | refine LOps.nil ?_
            | refine LCode.region ?_
            | refine LCode.skip ?_
            | refine QThen.normal ?_
            | refine QBlock.normal ?_
            | refine LOps.pure (Pure.mv (lv := .atom _) rfl) rfl ?_
            | refine LOps.pure (Pure.add rfl rfl (by omega)) rfl ?_
          exact ⟨_, _, _, by omega, ⟨i + 1, rfl, by omega, rfl, rfl, hE⟩, ⟨rfl, rfl, rfl, int_eq (by omega), trivial⟩, HSub.refl _, hj2.trans hj⟩
    · have hge : a.length ≤ i := by have := of_decide_eq_false hc; omega
      rw [eqList_end hge (by omega)] at hE
      repeat first
        | refine LOps.nil ?_
        | refine LCode.seq ?_
        | refine LCode.region ?_
        | refine LCode.ret ?_
        | refine LCode.exit ?_
        | refine QThen.normal ?_
        | refine QThen.exit ?_
        | refine QBlock.hit ?_
        | refine LOps.pure (Pure.as (lv := .atom _) rfl) rfl ?_
      exact retRet hj (AllRes.cons (ResIs.tmp (v := .atom _) rfl (LV.Sub.refl _)) AllRes.nil) (bool_eq hE.symm)
theorem eqArs_spec (a b : List Ar) (ha : a.length ≤ 4611686018427387904) (h1 : ∀ x ∈ a, x.name.length ≤ 1000000000 ∧ x.size ≤ 4294967296) (h2 : ∀ x ∈ b, x.name.length ≤ 1000000000 ∧ x.size ≤ 4294967296) : LCalls (KC B0 w0) 42 [.list (a.map encAr), .list (b.map encAr)] [] (Ret (bool (eqList eqAr a b))) := by
  have hla : (a.map encAr).length = a.length := List.length_map _
  have hlb : (b.map encAr).length = b.length := List.length_map _
  refine LCalls.intro Tryz.func42 rfl (n := 26) rfl rfl rfl ?_
  repeat first
    | refine LOps.nil ?_
    | refine LCode.seq ?_
    | refine LCode.region ?_
    | refine QThen.normal ?_
    | refine LOps.pure (Pure.as (lv := .atom _) rfl) rfl ?_
    | refine LOps.pure (Pure.mv (lv := .list _) rfl) rfl ?_
    | refine LOps.pure (Pure.llen rfl) rfl ?_
    | refine LOps.pure (Pure.neq rfl rfl) rfl ?_
  refine LCode.cond rfl (fun hc => ?_) (fun hc => ?_)
  · have hne : a.length ≠ b.length := by
      have : ¬ ((a.map encAr).length : Int) = (b.map encAr).length := by simpa using hc
      omega
    repeat first
      | refine LOps.nil ?_
      | refine LCode.seq ?_
      | refine LCode.region ?_
      | refine LCode.ret ?_
      | refine QThen.normal ?_
      | refine QThen.ret ?_
      | refine LOps.pure (Pure.as (lv := .atom _) rfl) rfl ?_
    exact retRet rfl (AllRes.cons (ResIs.tmp (v := .atom _) rfl (LV.Sub.refl _)) AllRes.nil) (bool_eq (eqList_len a b hne).symm)
  · have hle : a.length = b.length := by
      have : ((a.map encAr).length : Int) = (b.map encAr).length := by simpa using hc
      omega
    repeat first
      | refine LOps.nil ?_
      | refine LCode.seq ?_
      | refine LCode.region ?_
      | refine LCode.skip ?_
      | refine LCode.block ?_
      | refine QThen.normal ?_
      | refine LOps.pure (Pure.mv (lv := .list _) rfl) rfl ?_
      | refine LOps.pure (Pure.mv (lv := .atom _) rfl) rfl ?_
      | refine LOps.pure (Pure.llen rfl) rfl ?_
    refine LCode.loopI (fun k ls H => ∃ i, k = a.length - i ∧ i ≤ a.length ∧ ls = [(0, .list (a.map encAr)), (1, .list (b.map encAr)), (12, int .i64 a.length), (13, int .i64 i)] ∧ H = [] ∧ eqList eqAr a b = eqList eqAr (a.drop i) (b.drop i))
      ⟨_, _, _, ⟨0, rfl, Nat.zero_le _, rfl, rfl, rfl⟩, ⟨rfl, rfl, int_eq (by omega), rfl, trivial⟩, HSub.refl _⟩ ?_
    rintro k ls H ⟨i, rfl, hi, rfl, rfl, hE⟩ j hj
    repeat first
      | refine LOps.nil ?_
      | refine LCode.seq ?_
      | refine LCode.region ?_
      | refine QThen.normal ?_
      | refine LOps.pure (Pure.lss rfl rfl) rfl ?_
    refine LCode.cond rfl (fun hc => ?_) (fun hc => ?_)
    · have hlt : i < a.length := by have := of_decide_eq_true hc; omega
      have hlt2 : i < b.length := by omega
      repeat first
        | refine LOps.nil ?_
        | refine LCode.seq ?_
        | refine LCode.region ?_
        | refine LCode.skip ?_
        | refine LCode.block ?_
        | refine QThen.normal ?_
        | refine LOps.pure (Pure.as (lv := .atom _) rfl) rfl ?_
        | refine LOps.pure (Pure.mv (lv := .atom _) rfl) rfl ?_
      refine LCode.cut [(0, .list (a.map encAr)), (1, .list (b.map encAr)), (12, int .i64 a.length), (13, int .i64 i), (24, bool (!eqAr a[i] b[i]))] ?_ (fun j2 hj2 => ?_)
      · refine LCode.quiet (by kernel_rfl) ?_
        repeat first
          | refine LQ.pure (Pure.mv (lv := .list _) rfl) rfl ?_
          | refine LQ.pure (Pure.mv (lv := .atom _) rfl) rfl ?_
        refine LQ.pure (Pure.ixRef (el' := encAr a[i]) (cs := [_, _]) rfl rfl (by omega) (map_get _ _ _ hlt) rfl rfl) rfl ?_
        repeat first
          | refine LQ.pure (Pure.mv (lv := .list _) rfl) rfl ?_
          | refine LQ.pure (Pure.mv (lv := .atom _) rfl) rfl ?_
          | refine LQ.pure (Pure.ldRefAgg (cs' := [_, _]) rfl rfl rfl) rfl ?_
        refine LQ.pure (Pure.ixRef (el' := encAr b[i]) (cs := [_, _]) rfl rfl (by omega) (map_get _ _ _ hlt2) rfl rfl) rfl ?_
        repeat first
          | refine LQ.pure (Pure.ldRefAgg (cs' := [_, _]) rfl rfl rfl) rfl ?_
        refine LQ.pure (Pure.pairNeq rfl rfl (h1 _ (List.getElem_mem hlt)).1 (h2 _ (List.getElem_mem hlt2)).1 (by have := (h1 _ (List.getElem_mem hlt)).2; omega) (by have := (h2 _ (List.getElem_mem hlt2)).2; omega)) rfl ?_
        repeat first
          | refine LQ.nil ?_
          | refine QThen.normal ?_
        exact ⟨⟨rfl, rfl, rfl, rfl, rfl, trivial⟩, rfl, rfl⟩
      · rw [eqList_drop hlt hlt2] at hE
        refine LCode.cond rfl (fun hd => ?_) (fun hd => ?_)
        · repeat first
            | refine LOps.nil ?_
            | refine LCode.seq ?_
            | refine LCode.region ?_
            | refine LCode.ret ?_
            | refine QThen.normal ?_
            | refine QThen.ret ?_
            | refine QBlock.ret ?_
            | refine LOps.pure (Pure.as (lv := .atom _) rfl) rfl ?_
          exact retRet (hj2.trans hj) (AllRes.cons (ResIs.tmp (v := .atom _) rfl (LV.Sub.refl _)) AllRes.nil) (bool_eq (by rw [hE, not_t hd]; rfl))
        · rw [not_f hd, Bool.true_and] at hE
          repeat first
            | refine LOps.nil ?_
            | refine LCode.region ?_
            | refine LCode.skip ?_
            | refine QThen.normal ?_
            | refine QBlock.normal ?_
            | refine LOps.pure (Pure.mv (lv := .atom _) rfl) rfl ?_
            | refine LOps.pure (Pure.add rfl rfl (by omega)) rfl ?_
          exact ⟨_, _, _, by omega, ⟨i + 1, rfl, by omega, rfl, rfl, hE⟩, ⟨rfl, rfl, rfl, int_eq (by omega), trivial⟩, HSub.refl _, hj2.trans hj⟩
    · have hge : a.length ≤ i := by have := of_decide_eq_false hc; omega
      rw [eqList_end hge (by omega)] at hE
      repeat first
        | refine LOps.nil ?_
        | refine LCode.seq ?_
        | refine LCode.region ?_
        | refine LCode.ret ?_
        | refine LCode.exit ?_
        | refine QThen.normal ?_
        | refine QThen.exit ?_
        | refine QBlock.hit ?_
        | refine LOps.pure (Pure.as (lv := .atom _) rfl) rfl ?_
      exact retRet hj (AllRes.cons (ResIs.tmp (v := .atom _) rfl (LV.Sub.refl _)) AllRes.nil) (bool_eq hE.symm)
theorem eqNs_spec (a b : List (List UInt8)) (ha : a.length ≤ 4611686018427387904) : LCalls (KC B0 w0) 41 [.list (a.map str), .list (b.map str)] [] (Ret (bool (eqNames a b))) := eqStrs_spec a b ha
theorem eqF_spec (x y : FnD) (hn : nFn x ≤ 1000000000) : LCalls (KC B0 w0) 44 [encFn x, encFn y] [] (Ret (bool (eqFn x y))) := by
  have hpt := eqFn_parts x y
  unfold nFn at hn
  refine LCalls.intro Tryz.func44 rfl (n := 31) rfl rfl rfl ?_
  repeat first
    | refine LCode.seq ?_
    | refine LCode.region ?_
  refine LOps.step (S.box (cs := [str x.name, .list (x.params.map str), .list (x.locals.map str), .list (x.body.map encS)]) rfl fun b2 => ?_) rfl
  refine LOps.step (S.box (cs := [str y.name, .list (y.params.map str), .list (y.locals.map str), .list (y.body.map encS)]) rfl fun b3 => ?_) rfl
  repeat first
    | refine LOps.nil ?_
    | refine LCode.seq ?_
    | refine LCode.region ?_
    | refine QThen.normal ?_
    | refine LOps.pure (Pure.as (lv := .atom _) rfl) rfl ?_
    | refine LOps.pure (Pure.fieldH rfl) rfl ?_
    | refine LOps.pure (Pure.loadH (c := .atom _) rfl (List.Mem.head _) rfl) rfl ?_
    | refine LOps.pure (Pure.loadH (c := .atom _) rfl (List.Mem.tail _ (List.Mem.head _)) rfl) rfl ?_
    | refine LOps.pure (Pure.seq rfl rfl) rfl ?_
    | refine LOps.pure (Pure.mv (lv := .atom _) rfl) rfl ?_
  refine LOps.bcase 10 rfl (fun h0 => ?_) (fun h0 => ?_)
  · rw [h0, Bool.true_and] at hpt
    repeat first
      | refine LOps.pure (Pure.fieldH rfl) rfl ?_
      | refine LOps.pure (Pure.loadH (c := .list _) rfl (List.Mem.head _) rfl) rfl ?_
      | refine LOps.pure (Pure.loadH (c := .list _) rfl (List.Mem.tail _ (List.Mem.head _)) rfl) rfl ?_
      | refine LOps.want rfl rfl ?_
    refine LOps.step (S.fn [_, _] rfl (eqNs_spec x.params y.params (by omega)) ?_) rfl
    repeat first
      | refine LOps.pure (Pure.mv (lv := .atom _) rfl) rfl ?_
      | refine LOps.pure (Pure.pickT (lv := .atom _) rfl rfl) rfl ?_
    refine LOps.bcase 17 rfl (fun h1 => ?_) (fun h1 => ?_)
    · rw [h1, Bool.true_and] at hpt
      repeat first
        | refine LOps.pure (Pure.fieldH rfl) rfl ?_
        | refine LOps.pure (Pure.loadH (c := .list _) rfl (List.Mem.head _) rfl) rfl ?_
        | refine LOps.pure (Pure.loadH (c := .list _) rfl (List.Mem.tail _ (List.Mem.head _)) rfl) rfl ?_
        | refine LOps.want rfl rfl ?_
      refine LOps.step (S.fn [_, _] rfl (eqNs_spec x.locals y.locals (by omega)) ?_) rfl
      repeat first
        | refine LOps.pure (Pure.mv (lv := .atom _) rfl) rfl ?_
        | refine LOps.pure (Pure.pickT (lv := .atom _) rfl rfl) rfl ?_
      refine LOps.bcase 24 rfl (fun h2 => ?_) (fun h2 => ?_)
      · rw [h2, Bool.true_and] at hpt
        repeat first
          | refine LOps.pure (Pure.fieldH rfl) rfl ?_
          | refine LOps.pure (Pure.loadH (c := .list _) rfl (List.Mem.head _) rfl) rfl ?_
          | refine LOps.pure (Pure.loadH (c := .list _) rfl (List.Mem.tail _ (List.Mem.head _)) rfl) rfl ?_
          | refine LOps.want rfl rfl ?_
        refine LOps.step (S.fn [_, _, _] rfl (eqSs_spec _ x.body y.body (Nat.le_refl _) (by omega)) ?_) rfl
        repeat first
          | refine LOps.nil ?_
          | refine LCode.ret ?_
          | refine QThen.normal ?_
          | refine LOps.pure (Pure.as (lv := .atom _) rfl) rfl ?_
          | refine LOps.pure (Pure.pickT (lv := .atom _) rfl rfl) rfl ?_
        exact retRet rfl (AllRes.cons (ResIs.tmp (v := .atom _) rfl (LV.Sub.refl _)) AllRes.nil) (bool_eq (by rw [hpt]))
      · repeat first
          | refine LOps.nil ?_
          | refine LCode.ret ?_
          | refine QThen.normal ?_
          | refine LOps.pure (Pure.as (lv := .atom _) rfl) rfl ?_
          | refine LOps.pure (Pure.pickF (lv := .atom _) rfl rfl) rfl ?_
          | refine LOps.skip rfl rfl rfl rfl ?_
        exact retRet rfl (AllRes.cons (ResIs.tmp (v := .atom _) rfl (LV.Sub.refl _)) AllRes.nil) (bool_eq (by rw [hpt, h2]; rfl))
    · repeat first
        | refine LOps.nil ?_
        | refine LCode.ret ?_
        | refine QThen.normal ?_
        | refine LOps.pure (Pure.as (lv := .atom _) rfl) rfl ?_
        | refine LOps.pure (Pure.mv (lv := .atom _) rfl) rfl ?_
        | refine LOps.pure (Pure.pickF (lv := .atom _) rfl rfl) rfl ?_
        | refine LOps.skip rfl rfl rfl rfl ?_
      exact retRet rfl (AllRes.cons (ResIs.tmp (v := .atom _) rfl (LV.Sub.refl _)) AllRes.nil) (bool_eq (by rw [hpt, h1]; rfl))
  · repeat first
      | refine LOps.nil ?_
      | refine LCode.ret ?_
      | refine QThen.normal ?_
      | refine LOps.pure (Pure.as (lv := .atom _) rfl) rfl ?_
      | refine LOps.pure (Pure.mv (lv := .atom _) rfl) rfl ?_
      | refine LOps.pure (Pure.pickF (lv := .atom _) rfl rfl) rfl ?_
      | refine LOps.skip rfl rfl rfl rfl ?_
    exact retRet rfl (AllRes.cons (ResIs.tmp (v := .atom _) rfl (LV.Sub.refl _)) AllRes.nil) (bool_eq (by rw [hpt, h0]; rfl))
theorem eqFs_spec (a b : List FnD) (hn : nFns a ≤ 1000000000) : LCalls (KC B0 w0) 43 [.list (a.map encFn), .list (b.map encFn), .atom (.func (.func 44) #[] #[])] [] (Ret (bool (eqList eqFn a b))) := by
  have ha := nFns_len a
  have hrec : ∀ (i : Nat) (h : i < a.length) (y : FnD), LCalls (KC B0 w0) 44 [encFn a[i], encFn y] [] (Ret (bool (eqFn a[i] y))) := fun i h y => eqF_spec a[i] y (by have := nFns_mem (List.getElem_mem h); omega)
  refine LCalls.intro Tryz.func43 rfl (n := 32) rfl rfl rfl ?_
  have hla : (a.map encFn).length = a.length := List.length_map _
  have hlb : (b.map encFn).length = b.length := List.length_map _
  repeat first
    | refine LOps.nil ?_
    | refine LCode.seq ?_
    | refine LCode.region ?_
    | refine QThen.normal ?_
    | refine LOps.pure (Pure.as (lv := .atom _) rfl) rfl ?_
    | refine LOps.pure (Pure.mv (lv := .list _) rfl) rfl ?_
    | refine LOps.pure (Pure.llen rfl) rfl ?_
    | refine LOps.pure (Pure.neq rfl rfl) rfl ?_
  refine LCode.cond rfl (fun hc => ?_) (fun hc => ?_)
  · have hne : a.length ≠ b.length := by
      have : ¬ ((a.map encFn).length : Int) = (b.map encFn).length := by simpa using hc
      omega
    repeat first
      | refine LOps.nil ?_
      | refine LCode.seq ?_
      | refine LCode.region ?_
      | refine LCode.ret ?_
      | refine QThen.normal ?_
      | refine QThen.ret ?_
      | refine LOps.pure (Pure.as (lv := .atom _) rfl) rfl ?_
    exact retRet rfl (AllRes.cons (ResIs.tmp (v := .atom _) rfl (LV.Sub.refl _)) AllRes.nil) (bool_eq (eqList_len a b hne).symm)
  · have hle : a.length = b.length := by
      have : ((a.map encFn).length : Int) = (b.map encFn).length := by simpa using hc
      omega
    repeat first
      | refine LOps.nil ?_
      | refine LCode.seq ?_
      | refine LCode.region ?_
      | refine LCode.skip ?_
      | refine LCode.block ?_
      | refine QThen.normal ?_
      | refine LOps.pure (Pure.mv (lv := .list _) rfl) rfl ?_
      | refine LOps.pure (Pure.mv (lv := .atom _) rfl) rfl ?_
      | refine LOps.pure (Pure.llen rfl) rfl ?_
    refine LCode.loopI (fun k ls H => ∃ i, k = a.length - i ∧ i ≤ a.length ∧ ls = [(0, .list (a.map encFn)), (1, .list (b.map encFn)), (2, .atom (.func (.func 44) #[] #[])), (15, .list (a.map encFn)), (16, int .i64 a.length), (17, int .i64 i)] ∧ H = [] ∧ eqList eqFn a b = eqList eqFn (a.drop i) (b.drop i))
      ⟨_, _, _, ⟨0, rfl, Nat.zero_le _, rfl, rfl, rfl⟩, ⟨rfl, rfl, rfl, rfl, int_eq (by omega), rfl, trivial⟩, HSub.refl _⟩ ?_
    rintro k ls H ⟨i, rfl, hi, rfl, rfl, hE⟩ j hj
    repeat first
      | refine LOps.nil ?_
      | refine LCode.seq ?_
      | refine LCode.region ?_
      | refine QThen.normal ?_
      | refine LOps.pure (Pure.lss rfl rfl) rfl ?_
    refine LCode.cond rfl (fun hc => ?_) (fun hc => ?_)
    · have hlt : i < a.length := by have := of_decide_eq_true hc; omega
      have hlt2 : i < b.length := by omega
      repeat first
        | refine LCode.seq ?_
        | refine LCode.region ?_
        | refine LCode.skip ?_
        | refine LCode.block ?_
        | refine QThen.normal ?_
        | refine LOps.pure (Pure.mv (lv := .atom _) rfl) rfl ?_
      refine LOps.pure (Pure.ixRef (el' := encFn a[i]) (cs := [_, _, _, _]) rfl rfl (by omega) (map_get _ _ _ hlt) rfl rfl) rfl ?_
      repeat first
        | refine LOps.pure (Pure.ldRefAgg (cs' := [_, _, _, _]) rfl rfl rfl) rfl ?_
      refine LOps.step (S.alloc fun b8 => ?_) rfl
      repeat first
        | refine LOps.nil ?_
        | refine LCode.seq ?_
        | refine LCode.region ?_
        | refine QThen.normal ?_
        | refine LOps.pure (Pure.as (lv := .atom _) rfl) rfl ?_
        | refine LOps.pure (Pure.mv (lv := .list _) rfl) rfl ?_
        | refine LOps.pure (Pure.mv (lv := .atom _) rfl) rfl ?_
        | refine LOps.step (S.store (cs' := [_, _, _, _]) rfl Pick.here rfl rfl rfl rfl rfl ?_) rfl
      refine LOps.pure (Pure.ixRef (el' := encFn b[i]) (cs := [_, _, _, _]) rfl rfl (by omega) (map_get _ _ _ hlt2) rfl rfl) rfl ?_
      repeat first
        | refine LOps.pure (Pure.ldRefAgg (cs' := [_, _, _, _]) rfl rfl rfl) rfl ?_
      refine LOps.step (S.alloc fun b9 => ?_) rfl
      repeat first
        | refine LOps.nil ?_
        | refine LCode.seq ?_
        | refine LCode.region ?_
        | refine QThen.normal ?_
        | refine LOps.pure (Pure.mv (lv := .atom _) rfl) rfl ?_
        | refine LOps.pure (Pure.ldHAgg (cs' := [_, _, _, _]) rfl (List.Mem.head _) rfl rfl) rfl ?_
        | refine LOps.pure (Pure.ldHAgg (cs' := [_, _, _, _]) rfl (List.Mem.tail _ (List.Mem.head _)) rfl rfl) rfl ?_
        | refine LOps.step (S.store (cs' := [_, _, _, _]) rfl Pick.here rfl rfl rfl rfl rfl ?_) rfl
      refine LOps.step (S.fnV [_, _] rfl rfl (hrec i hlt b[i]) ?_) rfl
      repeat first
        | refine LOps.nil ?_
        | refine QThen.normal ?_
        | refine LOps.pure (Pure.not rfl) rfl ?_
      rw [eqList_drop hlt hlt2] at hE
      refine LCode.cond rfl (fun hd => ?_) (fun hd => ?_)
      · repeat first
          | refine LOps.nil ?_
          | refine LCode.seq ?_
          | refine LCode.region ?_
          | refine LCode.ret ?_
          | refine QThen.normal ?_
          | refine QThen.ret ?_
          | refine QBlock.ret ?_
          | refine LOps.pure (Pure.as (lv := .atom _) rfl) rfl ?_
        exact retRet hj (AllRes.cons (ResIs.tmp (v := .atom _) rfl (LV.Sub.refl _)) AllRes.nil) (bool_eq (by rw [hE, not_t hd]; rfl))
      · rw [not_f hd, Bool.true_and] at hE
        repeat first
          | refine LOps.nil ?_
          | refine LCode.region ?_
          | refine LCode.skip ?_
          | refine QThen.normal ?_
          | refine QBlock.normal ?_
          | refine LOps.pure (Pure.mv (lv := .atom _) rfl) rfl ?_
          | refine LOps.pure (Pure.add rfl rfl (by omega)) rfl ?_
        exact ⟨_, _, _, by omega, ⟨i + 1, rfl, by omega, rfl, rfl, hE⟩, ⟨rfl, rfl, rfl, rfl, rfl, int_eq (by omega), trivial⟩, HSub.nil _, hj⟩
    · have hge : a.length ≤ i := by have := of_decide_eq_false hc; omega
      rw [eqList_end hge (by omega)] at hE
      repeat first
        | refine LOps.nil ?_
        | refine LCode.seq ?_
        | refine LCode.region ?_
        | refine LCode.ret ?_
        | refine LCode.exit ?_
        | refine QThen.normal ?_
        | refine QThen.exit ?_
        | refine QBlock.hit ?_
        | refine LOps.pure (Pure.as (lv := .atom _) rfl) rfl ?_
      exact retRet hj (AllRes.cons (ResIs.tmp (v := .atom _) rfl (LV.Sub.refl _)) AllRes.nil) (bool_eq hE.symm)
theorem pequal_spec (a b : Pr) (ha : PrOk a) (hb : PrOk b) : LCalls (KC B0 w0) 19 [encPr a, encPr b] [] (Ret (bool (eqPr a b))) := by
  have hsz := ha.size
  unfold nPr at hsz
  have hpt : eqPr a b = (eqNames a.vars b.vars && eqList eqAr a.arrays b.arrays && eqList eqFn a.funcs b.funcs) := rfl
  refine LCalls.intro Tryz.func19 rfl (n := 24) rfl rfl rfl ?_
  repeat first
    | refine LCode.seq ?_
    | refine LCode.region ?_
  refine LOps.step (S.box (cs := [.list (a.vars.map str), .list (a.arrays.map encAr), .list (a.funcs.map encFn)]) rfl fun b2 => ?_) rfl
  refine LOps.step (S.box (cs := [.list (b.vars.map str), .list (b.arrays.map encAr), .list (b.funcs.map encFn)]) rfl fun b3 => ?_) rfl
  repeat first
    | refine LOps.nil ?_
    | refine LCode.seq ?_
    | refine LCode.region ?_
    | refine QThen.normal ?_
    | refine LOps.pure (Pure.as (lv := .atom _) rfl) rfl ?_
    | refine LOps.pure (Pure.fieldH rfl) rfl ?_
    | refine LOps.pure (Pure.loadH (c := .list _) rfl (List.Mem.head _) rfl) rfl ?_
    | refine LOps.pure (Pure.loadH (c := .list _) rfl (List.Mem.tail _ (List.Mem.head _)) rfl) rfl ?_
  refine LOps.step (S.fn [_, _] rfl (eqNs_spec a.vars b.vars (by omega)) ?_) rfl
  repeat first
    | refine LOps.pure (Pure.mv (lv := .atom _) rfl) rfl ?_
  refine LOps.bcase 10 rfl (fun h0 => ?_) (fun h0 => ?_)
  · rw [h0, Bool.true_and] at hpt
    repeat first
      | refine LOps.pure (Pure.fieldH rfl) rfl ?_
      | refine LOps.pure (Pure.loadH (c := .list _) rfl (List.Mem.head _) rfl) rfl ?_
      | refine LOps.pure (Pure.loadH (c := .list _) rfl (List.Mem.tail _ (List.Mem.head _)) rfl) rfl ?_
      | refine LOps.want rfl rfl ?_
    refine LOps.step (S.fn [_, _] rfl (eqArs_spec a.arrays b.arrays (by omega) ha.ars hb.ars) ?_) rfl
    repeat first
      | refine LOps.pure (Pure.mv (lv := .atom _) rfl) rfl ?_
      | refine LOps.pure (Pure.pickT (lv := .atom _) rfl rfl) rfl ?_
    refine LOps.bcase 17 rfl (fun h1 => ?_) (fun h1 => ?_)
    · rw [h1, Bool.true_and] at hpt
      repeat first
        | refine LOps.pure (Pure.fieldH rfl) rfl ?_
        | refine LOps.pure (Pure.loadH (c := .list _) rfl (List.Mem.head _) rfl) rfl ?_
        | refine LOps.pure (Pure.loadH (c := .list _) rfl (List.Mem.tail _ (List.Mem.head _)) rfl) rfl ?_
        | refine LOps.want rfl rfl ?_
      refine LOps.step (S.fn [_, _, _] rfl (eqFs_spec a.funcs b.funcs (by omega)) ?_) rfl
      repeat first
        | refine LOps.nil ?_
        | refine LCode.ret ?_
        | refine QThen.normal ?_
        | refine LOps.pure (Pure.as (lv := .atom _) rfl) rfl ?_
        | refine LOps.pure (Pure.pickT (lv := .atom _) rfl rfl) rfl ?_
      exact retRet rfl (AllRes.cons (ResIs.tmp (v := .atom _) rfl (LV.Sub.refl _)) AllRes.nil) (bool_eq (by rw [hpt]))
    · repeat first
        | refine LOps.nil ?_
        | refine LCode.ret ?_
        | refine QThen.normal ?_
        | refine LOps.pure (Pure.as (lv := .atom _) rfl) rfl ?_
        | refine LOps.pure (Pure.pickF (lv := .atom _) rfl rfl) rfl ?_
        | refine LOps.skip rfl rfl rfl rfl ?_
      exact retRet rfl (AllRes.cons (ResIs.tmp (v := .atom _) rfl (LV.Sub.refl _)) AllRes.nil) (bool_eq (by rw [hpt, h1]; rfl))
  · repeat first
      | refine LOps.nil ?_
      | refine LCode.ret ?_
      | refine QThen.normal ?_
      | refine LOps.pure (Pure.as (lv := .atom _) rfl) rfl ?_
      | refine LOps.pure (Pure.mv (lv := .atom _) rfl) rfl ?_
      | refine LOps.pure (Pure.pickF (lv := .atom _) rfl rfl) rfl ?_
      | refine LOps.skip rfl rfl rfl rfl ?_
    exact retRet rfl (AllRes.cons (ResIs.tmp (v := .atom _) rfl (LV.Sub.refl _)) AllRes.nil) (bool_eq (by rw [hpt, h0]; rfl))
end
end Go.Proofs.YtfodkbchknknjaaGreatDoor
namespace Go.GL
open Go.RowKit
section
variable {C : Ctx} {e : Env} {H : Heap} {dst : Option Nat} {ty : TypeId} {pos : String} {aft : Array Edge} {g : Option (Nat × Bool)} {xT yT : TypeId} {x y : Operand} {k k2 : IntKind} {a b : Int}
theorem run_int2 {P : Program} {op : BinOp} {xT yT : TypeId} {x y : Operand} {k k2 : IntKind} {a b : Int} {ρ : Operand → Value} (hx : ρ x = .int k a) (hy : ρ y = .int k2 b) {s : Sem Value}
    (h : (binOp op xT (.int k a) (.int k2 b)) = s) {v : Value} (hv : ∀ w, s.run P w = .ok v w) (w : World) : (execOp ρ ⟨dst, .binOp op xT x y yT, ty, pos, aft, g⟩).run P w = .ok (.value v) w := by
  subst h
  have he : eqGuard op xT x y (.int k a) (.int k2 b) = Pure.pure () := by
    unfold eqGuard
    cases op <;> rfl
  simp only [execOp, hx, hy, he, Sem.run_bind, Sem.run_pure, Result.andThen_ok, hv]
theorem Pure.quoW (hx : e.ev x = int k a) (hy : e.ev y = int k b) (hb : b ≠ 0) : Pure C ⟨dst, .binOp .quo xT x y yT, ty, pos, aft, g⟩ e H (int k (k.wrap (a.tdiv b))) :=
  .of_any fun _ _ _ h => ⟨_, rep_atom, run_int2 (atom_of h hx) (atom_of h hy) (s := Op.intDiv .quo k a b) (by simp only [binOp, ne_eq, not_true_eq_false, if_false]) (fun _ => by simp only [Op.intDiv, if_neg hb, Sem.run_pure])⟩
theorem Pure.remW (hx : e.ev x = int k a) (hy : e.ev y = int k b) (hb : b ≠ 0) : Pure C ⟨dst, .binOp .rem xT x y yT, ty, pos, aft, g⟩ e H (int k (a.tmod b)) :=
  .of_any fun _ _ _ h => ⟨_, rep_atom, run_int2 (atom_of h hx) (atom_of h hy) (s := Op.intDiv .rem k a b) (by simp only [binOp, ne_eq, not_true_eq_false, if_false]) (fun _ => by simp only [Op.intDiv, if_neg hb, Sem.run_pure])⟩
theorem Pure.shr (hx : e.ev x = int k a) (hy : e.ev y = int k2 b) (hb : 0 ≤ b) : Pure C ⟨dst, .binOp .shr xT x y yT, ty, pos, aft, g⟩ e H (int k (a.fdiv (2 ^ min b.toNat k.bits))) :=
  .of_any fun _ _ _ h => ⟨_, rep_atom, run_int2 (atom_of h hx) (atom_of h hy) (s := Op.shift .shr k a k2 b) (by simp only [binOp]) (fun _ => by simp only [Op.shift, if_neg (Int.not_lt.2 hb), Sem.run_pure])⟩
theorem Pure.shlW (hx : e.ev x = int k a) (hy : e.ev y = int k2 b) (hb : 0 ≤ b) : Pure C ⟨dst, .binOp .shl xT x y yT, ty, pos, aft, g⟩ e H (int k (k.wrap (a * 2 ^ min b.toNat k.bits))) :=
  .of_any fun _ _ _ h => ⟨_, rep_atom, run_int2 (atom_of h hx) (atom_of h hy) (s := Op.shift .shl k a k2 b) (by simp only [binOp]) (fun _ => by simp only [Op.shift, if_neg (Int.not_lt.2 hb), Sem.run_pure])⟩
theorem Pure.andW (hx : e.ev x = int k a) (hy : e.ev y = int k b) : Pure C ⟨dst, .binOp .and xT x y yT, ty, pos, aft, g⟩ e H (int k (k.wrap ((BitVec.ofInt k.bits a &&& BitVec.ofInt k.bits b).toNat : Nat))) :=
  .of_any fun _ _ _ h => ⟨_, rep_atom, run_int2 (atom_of h hx) (atom_of h hy) (s := Op.intBits .and k a b) (by simp only [binOp, ne_eq, not_true_eq_false, if_false]) (fun _ => rfl)⟩
theorem Pure.orW (hx : e.ev x = int k a) (hy : e.ev y = int k b) : Pure C ⟨dst, .binOp .or xT x y yT, ty, pos, aft, g⟩ e H (int k (k.wrap ((BitVec.ofInt k.bits a ||| BitVec.ofInt k.bits b).toNat : Nat))) :=
  .of_any fun _ _ _ h => ⟨_, rep_atom, run_int2 (atom_of h hx) (atom_of h hy) (s := Op.intBits .or k a b) (by simp only [binOp, ne_eq, not_true_eq_false, if_false]) (fun _ => rfl)⟩
theorem Pure.xorW (hx : e.ev x = int k a) (hy : e.ev y = int k b) : Pure C ⟨dst, .binOp .xor xT x y yT, ty, pos, aft, g⟩ e H (int k (k.wrap ((BitVec.ofInt k.bits a ^^^ BitVec.ofInt k.bits b).toNat : Nat))) :=
  .of_any fun _ _ _ h => ⟨_, rep_atom, run_int2 (atom_of h hx) (atom_of h hy) (s := Op.intBits .xor k a b) (by simp only [binOp, ne_eq, not_true_eq_false, if_false]) (fun _ => rfl)⟩
/-- The address of an element of an array. -/
theorem Pure.indexArr {t el len : Nat} {i : TypeInfo} (hu : C.P.underlying t = some (.array len el)) (hi : C.P.info? el = some i) {bl off : Nat} {n : Int} (hx : e.ev x = ptr bl off) (hy : e.ev y = int k n) (h0 : 0 ≤ n) (hn : n < len) :
    Pure C ⟨dst, .indexAddr t x y, ty, pos, aft, g⟩ e H (ptr bl (off + n.toNat * i.size)) := .of_any fun ρ w L h => ⟨_, rep_atom, fun w' => by
  have h3 : execOp ρ ⟨dst, .indexAddr t x y, ty, pos, aft, g⟩ = (do Pure.pure (.value (← Instr.indexAt t (ρ x) (ρ y)))) := rfl
  rw [h3, atom_of h hx, atom_of h hy]
  have hc : 0 ≤ n ∧ n < (len : Int) := ⟨h0, hn⟩
  simp [Instr.indexAt, asIntOf, run_underlying' hu, Instr.sureAddr, hc, run_sizeOf' hi, add_mk]⟩
end
theorem wpAnyH_weakS {P : Program} {md : Region.Mode} {ops : Array Oper} {Q : Exit → Act → World → Prop} {S S' : World → Prop} (hS : ∀ w, S' w → S w) : ∀ (fuel : Nat) (listed : Array Bool) (a : Act) (w : World),
    wpAnyH P md ops Q S' fuel listed a w → wpAnyH P md ops Q S fuel listed a w
  | 0, _, _, _, k => k
  | fuel + 1, _, _, _, k => ⟨k.1, fun i hi => wpOp_mono (fun a' w' h => ⟨hS _ h.1, wpAnyH_weakS hS fuel _ a' w' h.2⟩) (k.2 i hi)⟩
/-- Behind an acting operation what only computes or reads HF' may be taken first, again. -/
theorem LLate.any {C : Ctx} {n : Nat} {ops : Array Oper} {Q : Post} {HF : Heap} {fuel : Nat} {listed : Array Bool} {e : Env} {H : Heap} (HF' : Heap) (hs : ∀ p ∈ HF, p ∈ HF') (h : LAny C n ops Q HF' fuel listed e H) : LLate C n ops Q HF fuel listed e H := fun w0 L0 a w L hL hA _ hE hH =>
  wpAnyH_weakS (fun w' hw' => ⟨fun p hp => (hw'.1 p (hs p hp)).trans (hA.1 p hp), fun b i hi => (hw'.2 b i (Nat.lt_of_lt_of_le hi (hL b))).trans (hA.2 b i hi)⟩) _ _ _ _ (h a w L hE hH)
/-! ### A drawn region whose last operations stand in a row: what is ahead of them only computes or reads. -/
def LS (C : Ctx) (n : Nat) (ops : Array Oper) (K : Env → Prop) (rest : List Oper) (e : Env) (H : Heap) : Prop :=
  ∀ a w L, RelE n a e w L → RelH C w L H → wpStill C.P ops w (fun a' => ∃ e', RelE n a' e' w L ∧ K e') rest a
section still
variable {C : Ctx} {n : Nat} {ops : Array Oper} {K : Env → Prop} {e : Env} {H : Heap} {dst : Option Nat} {op : Op} {ty : TypeId} {pos : String} {aft : Array Edge} {rest : List Oper}
theorem LS.nil (h : K e) : LS C n ops K [] e H := fun _ _ _ hE _ => ⟨e, hE, h⟩
theorem still_one {P : Program} {Q : Act → Prop} {a : Act} {w : World} {o : Oper} (hg : Region.wanted o (yielded ops a.tmps) = true) {v : Value} (h : (execOp a.eval o).run P w = .ok (.value v) w) (k : wpStill P ops w Q rest (a.put o.dst v)) : wpStill P ops w Q (o :: rest) a := by
  unfold wpStill
  rw [if_pos hg]
  unfold Oper.still
  rw [h]
  exact ⟨rfl, k⟩
theorem LS.pure {lv : LV} (h : Pure C ⟨dst, op, ty, pos, aft, none⟩ e H lv) (hd : dstOk n dst) (k : LS C n ops K rest (e.put dst lv) H) : LS C n ops K (⟨dst, op, ty, pos, aft, none⟩ :: rest) e H := fun a w L hE hH => by
  obtain ⟨v, hv, hr⟩ := h a.eval w L hE.ev hH
  exact still_one (by simp [Region.wanted]) (hr w (Agree.refl _ _ _)) (k _ w L (hE.put hd hv) hH)
theorem LS.want {j d : Nat} {b : Bool} (hj : (ops[j]?).bind (·.dst) = some d) (hb : e.s d = .atom (.bool b))
    (k : LS C n ops K (⟨dst, op, ty, pos, aft, none⟩ :: rest) e H) : LS C n ops K (⟨dst, op, ty, pos, aft, some (j, b)⟩ :: rest) e H := fun a w L hE hH => by
  have := k a w L hE hH
  unfold wpStill at this ⊢
  rw [if_pos (by simp [Region.wanted])] at this
  rw [if_pos (by simp [Region.wanted, yielded_env hE hj hb])]
  exact this
theorem LS.skip {j d : Nat} {b c : Bool} (hj : (ops[j]?).bind (·.dst) = some d) (hb : e.s d = .atom (.bool b)) (hne : b = !c) (hd : dstOk n dst)
    (k : LS C n ops K rest (e.put dst (.atom undef)) H) : LS C n ops K (⟨dst, op, ty, pos, aft, some (j, c)⟩ :: rest) e H := fun a w L hE hH => by
  unfold wpStill
  rw [if_neg (by subst hne; cases c <;> simp [Region.wanted, yielded_env hE hj hb])]
  exact k _ w L (hE.put hd rep_atom) hH
theorem LS.skipU {j d : Nat} {c : Bool} (hj : (ops[j]?).bind (·.dst) = some d) (hb : e.s d = .atom undef) (hd : dstOk n dst)
    (k : LS C n ops K rest (e.put dst (.atom undef)) H) : LS C n ops K (⟨dst, op, ty, pos, aft, some (j, c)⟩ :: rest) e H := fun a w L hE hH => by
  unfold wpStill
  rw [if_neg (by simp [Region.wanted, yielded_undef hE hj hb])]
  exact k _ w L (hE.put hd rep_atom) hH
theorem LS.bcase (d : Nat) {b : Bool} (hb : e.s d = bool b) (ht : b = true → LS C n ops K rest (e.upd d (bool true)) H) (hf : b = false → LS C n ops K rest (e.upd d (bool false)) H) : LS C n ops K rest e H := by
  cases b
  · have := hf rfl; rwa [Env.upd_self hb] at this
  · have := ht rfl; rwa [Env.upd_self hb] at this
theorem wpStill_mono {P : Program} {w : World} {Q Q' : Act → Prop} (h : ∀ a, Q a → Q' a) : ∀ (l : List Oper) (a : Act), wpStill P ops w Q l a → wpStill P ops w Q' l a
  | [], a, k => h a k
  | o :: l, a, k => by
    unfold wpStill at k ⊢
    split at k
    · rename_i hw
      rw [if_pos hw]
      exact Oper.still_mono (fun a => wpStill_mono h l a) k
    · rename_i hw
      rw [if_neg hw]
      exact wpStill_mono h l _ k
theorem LCode.tail [hm : TMixed C.P] {id : Nat} {l : List Oper} {Q : Post} (m : Nat) (hB : Region.lexTailB .any l.toArray m = true) (h : LS C n l.toArray (fun e' => LOps C n l.toArray Q (l.drop m) e' H) (l.take m) e H) : LCode C n (.region id l.toArray true) Q e H := fun a w L hE hH => by
  refine wp_region_still_tail m hm.out hB ?_
  refine wpStill_mono (fun a' h' => ?_) _ _ (h a w.drew L (hE.mono (ext_drew w L)) hH.drew)
  obtain ⟨e', hE', hk⟩ := h'
  refine wpList_mono (fun x a2 w' hq => ?_) _ _ _ (hk a' w.drew L hE' hH.drew)
  obtain ⟨e2, H', L', h1, h2, h3, h4⟩ := hq
  exact ⟨e2, H', L', h1.of_drew, h2, h3, h4⟩
end still
end Go.GL
namespace Go.Proofs.YtfodkbchknknjaaGreatDoor
open Go.GL Go.RowKit Go.Stele
set_option maxRecDepth 100000
set_option maxHeartbeats 4000000
section
variable {C : Ctx} {e : Env} {dst : Option Nat} {ty : TypeId} {pos : String} {aft : Array Edge} {g : Option (Nat × Bool)} {K : LV → Heap → Prop} {X : List PanicEntry → Heap → Prop}
/-- A call that turns the builder; a block ahead of it stays. -/
theorem S.callBH {f : FuncId} [TEnter C.P f] (args : List Operand) {ats : Array TypeId} {avs : List LV} {R : Heap → Prop} {q : Nat × LObj} {H1 : Heap} (has : args.map e.ev = avs)
    (hc : LCalls C f avs H1 (fun r H' => (∃ x, r = .ret x) ∧ R H')) (hk : ∀ v H', R H' → K v (q :: H')) :
    LStep C ⟨dst, .call { callee := .value (.func f), args := args.toArray, argTypes := ats }, ty, pos, aft, g⟩ e (q :: H1) K X := by
  refine LStep.conseq (K := fun lv H' => ∃ H2, H' = H2 ++ [q] ∧ R H2) (S.callH (H1 := H1) (F := [q]) args has (List.perm_append_singleton _ _).symm hc (fun v H' h => ⟨H', rfl, h.2⟩) (fun ch H' h => by
    obtain ⟨⟨x, hx⟩, _⟩ := h
    cases hx)) ?_
  rintro lv H' ⟨H2, rfl, h⟩
  exact ⟨lv, [q] ++ H2, LV.Sub.refl _, ⟨[], by simpa using List.perm_append_comm⟩, hk _ _ h⟩
end
attribute [local irreducible] LOps LCode LStep LCalls Go.GL.Pure QThen QBlock RetPost LQ LAny LLate LLateOp
section
variable {B0 : Nat} {w0 : World}
theorem one_spec (l : List Ex) (hn : l.length ≤ 1000000000) (hl : (fOne l).length ≤ 1000000000) (he : ∀ e ∈ l, LCalls (KC B0 w0) 118 [encE e] [] (Ret (str (fE e)))) :
    LCalls (KC B0 w0) 86 [.list (l.map encE)] [] (Ret (str (fOne l))) := by
  refine LCalls.intro Tryz.func86 rfl (n := 5) rfl rfl rfl ?_
  repeat first
    | refine LOps.nil ?_
    | refine LCode.seq ?_
    | refine LCode.region ?_
    | refine QThen.normal ?_
    | refine LOps.pure (Pure.as (lv := .atom _) rfl) rfl ?_
    | refine LOps.pure (Pure.mv (lv := .list _) rfl) rfl ?_
  refine LOps.step (S.fn [_] rfl (list_spec l hn hl he) ?_) rfl
  repeat first
    | refine LOps.nil ?_
    | refine LCode.ret ?_
    | refine QThen.normal ?_
    | refine LOps.pure (Pure.as (lv := .atom _) rfl) rfl ?_
  exact retRet rfl (AllRes.cons (ResIs.tmp (v := .atom _) rfl (LV.Sub.refl _)) AllRes.nil) rfl
theorem nExs_lens : ∀ l : List Ex, l.length ≤ nExs l
  | [] => Nat.zero_le _
  | e :: r => by
    have h1 := nExs_lens r
    obtain ⟨op, num, name, args⟩ := e
    rw [nExs, nEx, List.length_cons]
    omega
theorem one_ok (hG : GW B0 w0) (l : List Ex) (hk : okEs l) (hn : nExs l ≤ 1000000000) (hl : (fOne l).length ≤ 1000000000) : LCalls (KC B0 w0) 86 [.list (l.map encE)] [] (Ret (str (fOne l))) :=
  one_spec l (by have := nExs_lens l; omega) hl fun e he => fexpr_spec hG _ e (Nat.le_refl _) (okEs_mem hk he) (by
    have := join_mem comSp (List.mem_map_of_mem (f := fE) he)
    have h2 : (Go.Lib.join (l.map fE) comSp).length ≤ 1000000000 := hl
    omega)
mutual
def okS : Sm → Prop
  | .mk _ _ index value thn els => okEs index ∧ okEs value ∧ okSs thn ∧ okSs els
def okSs : List Sm → Prop
  | [] => True
  | s :: r => okS s ∧ okSs r
end
theorem okSs_mem : ∀ {l : List Sm} {s : Sm}, okSs l → s ∈ l → okS s
  | s :: r, x, h, hx => by
    rw [okSs] at h
    rcases List.mem_cons.mp hx with hx | hx
    · exact hx ▸ h.1
    · exact okSs_mem h.2 hx
theorem fSs_mem (ind : List UInt8) : ∀ {l : List Sm} {i : Nat} (h : i < l.length), (fSs ind (l.take i)).length + (fS ind l[i]).length ≤ (fSs ind l).length := by
  intro l i h
  have h1 := fSs_take ind h
  have h2 : fSs ind l = fSs ind (l.take (i + 1)) ++ fSs ind (l.drop (i + 1)) := by rw [← fSs_append, List.take_append_drop]
  rw [h2, h1]
  simp only [List.length_append]
  omega
theorem nSms_lens : ∀ l : List Sm, l.length ≤ nSms l
  | [] => Nat.zero_le _
  | s :: r => by
    have h1 := nSms_lens r
    obtain ⟨k, name, i, v, t, e⟩ := s
    rw [nSms, nSm, List.length_cons]
    omega
theorem lines_step (hG : GW B0 w0) (n : Nat) (ih : ∀ (l : List Sm) (ind acc : List UInt8) (b : Nat) (H : Heap), nSms l < n → okSs l → acc.length + (fSs ind l).length ≤ 1000000000 → BH b acc H →
      LCalls (KC B0 w0) 52 [ptr b 0, .list (l.map encS), str ind] H (fun r H' => (∃ x, r = .ret x) ∧ BH b (acc ++ fSs ind l) H'))
    (l : List Sm) (ind acc : List UInt8) (b : Nat) (H : Heap) (hn : nSms l ≤ n) (hn2 : n ≤ 1000000000) (hk : okSs l) (hl : acc.length + (fSs ind l).length ≤ 1000000000) (hB : BH b acc H) :
    LCalls (KC B0 w0) 52 [ptr b 0, .list (l.map encS), str ind] H (fun r H' => (∃ x, r = .ret x) ∧ BH b (acc ++ fSs ind l) H') := by
  have hla : (l.map encS).length = l.length := List.length_map _
  have hlen := nSms_lens l
  refine LCalls.intro Tryz.func52 rfl (n := 116) rfl rfl rfl ?_
  repeat first
    | refine LOps.nil ?_
    | refine LCode.seq ?_
    | refine LCode.region ?_
    | refine LCode.block ?_
    | refine QThen.normal ?_
    | refine LOps.pure (Pure.as (lv := .atom _) rfl) rfl ?_
    | refine LOps.pure (Pure.mv (lv := .list _) rfl) rfl ?_
    | refine LOps.pure (Pure.mv (lv := .atom _) rfl) rfl ?_
    | refine LOps.pure (Pure.llen rfl) rfl ?_
  refine LCode.loopI (fun k ls H => ∃ i, i ≤ l.length ∧ k = l.length - i ∧ ls = [(0, ptr b 0), (2, str ind), (6, .atom (.func (.func 86) #[] #[])), (10, .list (l.map encS)), (11, int .i64 l.length), (12, int .i64 i)] ∧ BH b (acc ++ fSs ind (l.take i)) H)
    ⟨_, _, _, ⟨0, Nat.zero_le _, rfl, rfl, by simpa [fSs] using hB⟩, ⟨rfl, rfl, rfl, rfl, int_eq (by omega), rfl, trivial⟩, HSub.refl _⟩ ?_
  rintro k ls H ⟨i, hi, rfl, rfl, hB⟩ j hj
  repeat first
    | refine LOps.nil ?_
    | refine LCode.seq ?_
    | refine LCode.region ?_
    | refine QThen.normal ?_
    | refine LOps.pure (Pure.lss rfl rfl) rfl ?_
  refine LCode.cond rfl (fun hc => ?_) (fun hc => ?_)
  · have hlt : i < l.length := by have := of_decide_eq_true hc; omega
    have hm := fSs_mem ind hlt
    have hke := okSs_mem hk (List.getElem_mem hlt)
    have hne := nSms_mem (List.getElem_mem hlt)
    have hta := fSs_take ind hlt
    repeat first
      | refine LCode.seq ?_
      | refine LCode.region ?_
      | refine LCode.skip ?_
      | refine LCode.block ?_
      | refine QThen.normal ?_
    refine LOps.pure (Pure.ixRef (el' := encS l[i]) (cs := [_, _, _, _, _, _]) rfl rfl (by omega) (map_get _ _ _ hlt) rfl rfl) rfl ?_
    repeat first
      | refine LOps.pure (Pure.ldRefAgg (cs' := [_, _, _, _, _, _]) rfl rfl rfl) rfl ?_
    refine LOps.step (S.alloc fun b8 => ?_) rfl
    repeat first
      | refine LOps.nil ?_
      | refine LCode.seq ?_
      | refine LCode.region ?_
      | refine QThen.normal ?_
      | refine LOps.pure (Pure.mv (lv := .atom _) rfl) rfl ?_
      | refine LOps.step (S.store (cs' := [_, _, _, _, _, _]) rfl Pick.here rfl rfl rfl rfl rfl ?_) rfl
    generalize l[i] = s at hm hke hne hta ⊢
    obtain ⟨kind, name, index, value, thn, els⟩ := s
    rw [fS_mk] at hm hta
    simp only [List.length_append] at hm
    rw [okS] at hke
    rw [nSm] at hne
    obtain ⟨hk1, hk2, hk3, hk4⟩ := hke
    refine LOps.step (S.callBH [_, _] rfl (writeString_spec b _ ind H hB (by simp only [List.length_append]; omega)) fun v H2 hB2 => ?_) rfl
    repeat first
      | refine LOps.nil ?_
      | refine LCode.seq ?_
      | refine LCode.region ?_
      | refine LCode.block ?_
      | refine QThen.normal ?_
      | refine LOps.pure (Pure.as (lv := .atom _) rfl) rfl ?_
      | refine LOps.pure (Pure.fieldH rfl) rfl ?_
      | refine LOps.pure (Pure.loadH (c := .atom _) rfl (List.Mem.head _) rfl) rfl ?_
      | refine LOps.pure (Pure.eql rfl rfl) rfl ?_
    refine LCode.cond rfl (fun h1 => ?_) (fun h1 => ?_)
    · have e1 : kind = 1 := of_decide_eq_true h1
      rw [fLine, if_pos e1] at hm hta
      simp only [List.length_append, List.length_cons, List.length_nil] at hm
      refine LCode.draw (m := 11) rfl [(b8, .cells 80 [int .i64 kind, str name, .list (index.map encE), .list (value.map encE), .list (encThen (.mk kind name index value thn els)), .list (encElse (.mk kind name index value thn els))])] ?_
      refine LAny.take (i := 0) (by first | exact HSub.nil _ | exact HSub.refl _ | exact HSub.drop (HSub.refl _) | exact HSub.pick Pick.here (HSub.nil _) | exact HSub.pick (Pick.there Pick.here) (HSub.nil _) | exact HSub.pick (Pick.there (Pick.there Pick.here)) (HSub.nil _)) rfl (by kernel_rfl) (by kernel_rfl) (by kernel_rfl) rfl (Pure.mv (lv := .atom _) rfl) ?_
      refine LAny.take (i := 1) (by first | exact HSub.nil _ | exact HSub.refl _ | exact HSub.drop (HSub.refl _) | exact HSub.pick Pick.here (HSub.nil _) | exact HSub.pick (Pick.there Pick.here) (HSub.nil _) | exact HSub.pick (Pick.there (Pick.there Pick.here)) (HSub.nil _)) rfl (by kernel_rfl) (by kernel_rfl) (by kernel_rfl) rfl (Pure.fieldH rfl) ?_
      refine LAny.take (i := 2) (by first | exact HSub.nil _ | exact HSub.refl _ | exact HSub.drop (HSub.refl _) | exact HSub.pick Pick.here (HSub.nil _) | exact HSub.pick (Pick.there Pick.here) (HSub.nil _) | exact HSub.pick (Pick.there (Pick.there Pick.here)) (HSub.nil _)) rfl (by kernel_rfl) (by kernel_rfl) (by kernel_rfl) rfl (Pure.loadH (c := .atom _) rfl (List.Mem.head _) rfl) ?_
      refine LAny.take (i := 3) (by first | exact HSub.nil _ | exact HSub.refl _ | exact HSub.drop (HSub.refl _) | exact HSub.pick Pick.here (HSub.nil _) | exact HSub.pick (Pick.there Pick.here) (HSub.nil _) | exact HSub.pick (Pick.there (Pick.there Pick.here)) (HSub.nil _)) rfl (by kernel_rfl) (by kernel_rfl) (by kernel_rfl) rfl (Pure.sadd rfl rfl (by simp only [List.length_append, List.length_cons, List.length_nil]; omega)) ?_
      refine LAny.take (i := 4) (by first | exact HSub.nil _ | exact HSub.refl _ | exact HSub.drop (HSub.refl _) | exact HSub.pick Pick.here (HSub.nil _) | exact HSub.pick (Pick.there Pick.here) (HSub.nil _) | exact HSub.pick (Pick.there (Pick.there Pick.here)) (HSub.nil _)) rfl (by kernel_rfl) (by kernel_rfl) (by kernel_rfl) rfl (Pure.mv (lv := .atom _) rfl) ?_
      refine LAny.take (i := 5) (by first | exact HSub.nil _ | exact HSub.refl _ | exact HSub.drop (HSub.refl _) | exact HSub.pick Pick.here (HSub.nil _) | exact HSub.pick (Pick.there Pick.here) (HSub.nil _) | exact HSub.pick (Pick.there (Pick.there Pick.here)) (HSub.nil _)) rfl (by kernel_rfl) (by kernel_rfl) (by kernel_rfl) rfl (Pure.fieldH rfl) ?_
      refine LAny.take (i := 6) (by first | exact HSub.nil _ | exact HSub.refl _ | exact HSub.drop (HSub.refl _) | exact HSub.pick Pick.here (HSub.nil _) | exact HSub.pick (Pick.there Pick.here) (HSub.nil _) | exact HSub.pick (Pick.there (Pick.there Pick.here)) (HSub.nil _)) rfl (by kernel_rfl) (by kernel_rfl) (by kernel_rfl) rfl (Pure.loadH (c := .list _) rfl (List.Mem.head _) rfl) ?_
      refine LAny.late ?_ (HSub.pick Pick.here (HSub.nil _))
      refine LLate.one (i := 7) (by kernel_rfl) (LLateOp.step (H1 := []) rfl (.inl rfl) rfl (List.Perm.refl _) (HSub.pick Pick.here (HSub.nil _)) (S.fnV [_] rfl rfl (one_ok hG value hk2 (by omega) (by omega)) ?_))
      refine LLate.one (i := 8) (by kernel_rfl) (LLateOp.pureH rfl rfl (Pure.sadd rfl rfl (by simp only [List.length_append, List.length_cons, List.length_nil]; omega)) ?_)
      refine LLate.one (i := 9) (by kernel_rfl) (LLateOp.pureH rfl rfl (Pure.sadd rfl rfl (by simp only [List.length_append, List.length_cons, List.length_nil]; omega)) ?_)
      refine LLate.one (i := 10) (by kernel_rfl) (LLateOp.step (H1 := H2) (F := [(b8, .cells 80 [int .i64 kind, str name, .list (index.map encE), .list (value.map encE), .list (encThen (.mk kind name index value thn els)), .list (encElse (.mk kind name index value thn els))])]) rfl (.inl rfl) rfl (List.perm_append_singleton _ _).symm (HSub.refl _) (LStep.call (args := [_, _]) (writeString_spec b _ (name ++ [32, 61, 32] ++ fOne value ++ [59, 10]) H2 hB2 (by simp only [List.length_append, List.length_cons, List.length_nil]; omega)) (fun v3 H3 h3 => ?_) (fun ch H3 h3 => ?_)))
      rotate_left
      · obtain ⟨⟨x, hx⟩, _⟩ := h3
        cases hx
      obtain ⟨_, hB3⟩ := h3
      refine LLate.done (by kernel_rfl) ?_
      repeat first
        | refine QThen.normal ?_
        | refine QBlock.normal ?_
      repeat first
        | refine LOps.nil ?_
        | refine LCode.region ?_
        | refine QThen.normal ?_
        | refine LOps.pure (Pure.mv (lv := .atom _) rfl) rfl ?_
        | refine LOps.pure (Pure.add rfl rfl (by omega)) rfl ?_
      exact ⟨_, _, _, by omega, ⟨i + 1, by omega, rfl, rfl, by rw [hta]; simpa only [List.append_assoc] using hB3⟩, ⟨rfl, rfl, rfl, rfl, rfl, int_eq (by omega), trivial⟩, ⟨_, List.Perm.refl _⟩, hj⟩
    have e1 : ¬ kind = 1 := of_decide_eq_false h1
    repeat first
      | refine LOps.nil ?_
      | refine LCode.seq ?_
      | refine LCode.region ?_
      | refine QThen.normal ?_
      | refine LOps.pure (Pure.as (lv := .atom _) rfl) rfl ?_
      | refine LOps.pure (Pure.eql rfl rfl) rfl ?_
    refine LCode.cond rfl (fun h2 => ?_) (fun h2 => ?_)
    · have e2 : kind = 2 := of_decide_eq_true h2
      rw [fLine, if_neg e1, if_pos e2] at hm hta
      simp only [List.length_append, List.length_cons, List.length_nil] at hm
      refine LCode.draw (m := 17) rfl [(b8, .cells 80 [int .i64 kind, str name, .list (index.map encE), .list (value.map encE), .list (encThen (.mk kind name index value thn els)), .list (encElse (.mk kind name index value thn els))])] ?_
      refine LAny.take (i := 0) (by first | exact HSub.nil _ | exact HSub.refl _ | exact HSub.drop (HSub.refl _) | exact HSub.pick Pick.here (HSub.nil _) | exact HSub.pick (Pick.there Pick.here) (HSub.nil _) | exact HSub.pick (Pick.there (Pick.there Pick.here)) (HSub.nil _)) rfl (by kernel_rfl) (by kernel_rfl) (by kernel_rfl) rfl (Pure.mv (lv := .atom _) rfl) ?_
      refine LAny.take (i := 1) (by first | exact HSub.nil _ | exact HSub.refl _ | exact HSub.drop (HSub.refl _) | exact HSub.pick Pick.here (HSub.nil _) | exact HSub.pick (Pick.there Pick.here) (HSub.nil _) | exact HSub.pick (Pick.there (Pick.there Pick.here)) (HSub.nil _)) rfl (by kernel_rfl) (by kernel_rfl) (by kernel_rfl) rfl (Pure.fieldH rfl) ?_
      refine LAny.take (i := 2) (by first | exact HSub.nil _ | exact HSub.refl _ | exact HSub.drop (HSub.refl _) | exact HSub.pick Pick.here (HSub.nil _) | exact HSub.pick (Pick.there Pick.here) (HSub.nil _) | exact HSub.pick (Pick.there (Pick.there Pick.here)) (HSub.nil _)) rfl (by kernel_rfl) (by kernel_rfl) (by kernel_rfl) rfl (Pure.loadH (c := .atom _) rfl (List.Mem.head _) rfl) ?_
      refine LAny.take (i := 3) (by first | exact HSub.nil _ | exact HSub.refl _ | exact HSub.drop (HSub.refl _) | exact HSub.pick Pick.here (HSub.nil _) | exact HSub.pick (Pick.there Pick.here) (HSub.nil _) | exact HSub.pick (Pick.there (Pick.there Pick.here)) (HSub.nil _)) rfl (by kernel_rfl) (by kernel_rfl) (by kernel_rfl) rfl (Pure.sadd rfl rfl (by simp only [List.length_append, List.length_cons, List.length_nil]; omega)) ?_
      refine LAny.take (i := 4) (by first | exact HSub.nil _ | exact HSub.refl _ | exact HSub.drop (HSub.refl _) | exact HSub.pick Pick.here (HSub.nil _) | exact HSub.pick (Pick.there Pick.here) (HSub.nil _) | exact HSub.pick (Pick.there (Pick.there Pick.here)) (HSub.nil _)) rfl (by kernel_rfl) (by kernel_rfl) (by kernel_rfl) rfl (Pure.mv (lv := .atom _) rfl) ?_
      refine LAny.take (i := 5) (by first | exact HSub.nil _ | exact HSub.refl _ | exact HSub.drop (HSub.refl _) | exact HSub.pick Pick.here (HSub.nil _) | exact HSub.pick (Pick.there Pick.here) (HSub.nil _) | exact HSub.pick (Pick.there (Pick.there Pick.here)) (HSub.nil _)) rfl (by kernel_rfl) (by kernel_rfl) (by kernel_rfl) rfl (Pure.fieldH rfl) ?_
      refine LAny.take (i := 6) (by first | exact HSub.nil _ | exact HSub.refl _ | exact HSub.drop (HSub.refl _) | exact HSub.pick Pick.here (HSub.nil _) | exact HSub.pick (Pick.there Pick.here) (HSub.nil _) | exact HSub.pick (Pick.there (Pick.there Pick.here)) (HSub.nil _)) rfl (by kernel_rfl) (by kernel_rfl) (by kernel_rfl) rfl (Pure.loadH (c := .list _) rfl (List.Mem.head _) rfl) ?_
      refine LAny.take (i := 10) (by first | exact HSub.nil _ | exact HSub.refl _ | exact HSub.drop (HSub.refl _) | exact HSub.pick Pick.here (HSub.nil _) | exact HSub.pick (Pick.there Pick.here) (HSub.nil _) | exact HSub.pick (Pick.there (Pick.there Pick.here)) (HSub.nil _)) rfl (by kernel_rfl) (by kernel_rfl) (by kernel_rfl) rfl (Pure.mv (lv := .atom _) rfl) ?_
      refine LAny.take (i := 11) (by first | exact HSub.nil _ | exact HSub.refl _ | exact HSub.drop (HSub.refl _) | exact HSub.pick Pick.here (HSub.nil _) | exact HSub.pick (Pick.there Pick.here) (HSub.nil _) | exact HSub.pick (Pick.there (Pick.there Pick.here)) (HSub.nil _)) rfl (by kernel_rfl) (by kernel_rfl) (by kernel_rfl) rfl (Pure.fieldH rfl) ?_
      refine LAny.take (i := 12) (by first | exact HSub.nil _ | exact HSub.refl _ | exact HSub.drop (HSub.refl _) | exact HSub.pick Pick.here (HSub.nil _) | exact HSub.pick (Pick.there Pick.here) (HSub.nil _) | exact HSub.pick (Pick.there (Pick.there Pick.here)) (HSub.nil _)) rfl (by kernel_rfl) (by kernel_rfl) (by kernel_rfl) rfl (Pure.loadH (c := .list _) rfl (List.Mem.head _) rfl) ?_
      refine LAny.late ?_ (HSub.pick Pick.here (HSub.nil _))
      refine LLate.one (i := 7) (by kernel_rfl) (LLateOp.step (H1 := []) rfl (.inl rfl) rfl (List.Perm.refl _) (HSub.pick Pick.here (HSub.nil _)) (S.fnV [_] rfl rfl (one_ok hG index hk1 (by omega) (by omega)) ?_))
      refine LLate.any [(b8, .cells 80 [int .i64 kind, str name, .list (index.map encE), .list (value.map encE), .list (encThen (.mk kind name index value thn els)), .list (encElse (.mk kind name index value thn els))])] (fun _ h => h) ?_
      refine LAny.take (i := 8) (by first | exact HSub.nil _ | exact HSub.refl _ | exact HSub.drop (HSub.refl _) | exact HSub.pick Pick.here (HSub.nil _) | exact HSub.pick (Pick.there Pick.here) (HSub.nil _) | exact HSub.pick (Pick.there (Pick.there Pick.here)) (HSub.nil _)) rfl (by kernel_rfl) (by kernel_rfl) (by kernel_rfl) rfl (Pure.sadd rfl rfl (by simp only [List.length_append, List.length_cons, List.length_nil]; omega)) ?_
      refine LAny.take (i := 9) (by first | exact HSub.nil _ | exact HSub.refl _ | exact HSub.drop (HSub.refl _) | exact HSub.pick Pick.here (HSub.nil _) | exact HSub.pick (Pick.there Pick.here) (HSub.nil _) | exact HSub.pick (Pick.there (Pick.there Pick.here)) (HSub.nil _)) rfl (by kernel_rfl) (by kernel_rfl) (by kernel_rfl) rfl (Pure.sadd rfl rfl (by simp only [List.length_append, List.length_cons, List.length_nil]; omega)) ?_
      refine LAny.late ?_ (HSub.pick Pick.here (HSub.nil _))
      refine LLate.one (i := 13) (by kernel_rfl) (LLateOp.step (H1 := []) rfl (.inl rfl) rfl (List.Perm.refl _) (HSub.pick Pick.here (HSub.nil _)) (S.fnV [_] rfl rfl (one_ok hG value hk2 (by omega) (by omega)) ?_))
      refine LLate.one (i := 14) (by kernel_rfl) (LLateOp.pureH rfl rfl (Pure.sadd rfl rfl (by simp only [List.length_append, List.length_cons, List.length_nil]; omega)) ?_)
      refine LLate.one (i := 15) (by kernel_rfl) (LLateOp.pureH rfl rfl (Pure.sadd rfl rfl (by simp only [List.length_append, List.length_cons, List.length_nil]; omega)) ?_)
      refine LLate.one (i := 16) (by kernel_rfl) (LLateOp.step (H1 := H2) (F := [(b8, .cells 80 [int .i64 kind, str name, .list (index.map encE), .list (value.map encE), .list (encThen (.mk kind name index value thn els)), .list (encElse (.mk kind name index value thn els))])]) rfl (.inl rfl) rfl (List.perm_append_singleton _ _).symm (HSub.refl _) (LStep.call (args := [_, _]) (writeString_spec b _ (name ++ [91] ++ fOne index ++ [93, 32, 61, 32] ++ fOne value ++ [59, 10]) H2 hB2 (by simp only [List.length_append, List.length_cons, List.length_nil]; omega)) (fun v3 H3 h3 => ?_) (fun ch H3 h3 => ?_)))
      rotate_left
      · obtain ⟨⟨x, hx⟩, _⟩ := h3
        cases hx
      obtain ⟨_, hB3⟩ := h3
      refine LLate.done (by kernel_rfl) ?_
      repeat first
        | refine QThen.normal ?_
        | refine QBlock.normal ?_
      repeat first
        | refine LOps.nil ?_
        | refine LCode.region ?_
        | refine QThen.normal ?_
        | refine LOps.pure (Pure.mv (lv := .atom _) rfl) rfl ?_
        | refine LOps.pure (Pure.add rfl rfl (by omega)) rfl ?_
      exact ⟨_, _, _, by omega, ⟨i + 1, by omega, rfl, rfl, by rw [hta]; simpa only [List.append_assoc] using hB3⟩, ⟨rfl, rfl, rfl, rfl, rfl, int_eq (by omega), trivial⟩, ⟨_, List.Perm.refl _⟩, hj⟩
    have e2 : ¬ kind = 2 := of_decide_eq_false h2
    repeat first
      | refine LOps.nil ?_
      | refine LCode.seq ?_
      | refine LCode.region ?_
      | refine QThen.normal ?_
      | refine LOps.pure (Pure.as (lv := .atom _) rfl) rfl ?_
      | refine LOps.pure (Pure.eql rfl rfl) rfl ?_
    refine LCode.cond rfl (fun h3 => ?_) (fun h3 => ?_)
    · have e3 : kind = 6 := of_decide_eq_true h3
      rw [fLine, if_neg e1, if_neg e2, if_pos e3] at hm hta
      simp only [List.length_append, List.length_cons, List.length_nil] at hm
      repeat first
        | refine LCode.region ?_
        | refine LOps.pure (Pure.mv (lv := .atom _) rfl) rfl ?_
        | refine LOps.pure (Pure.fieldH rfl) rfl ?_
        | refine LOps.pure (Pure.loadH (c := .list _) rfl (List.Mem.head _) rfl) rfl ?_
      refine LOps.step (S.fnV [_] rfl rfl (one_ok hG value hk2 (by omega) (by omega)) ?_) rfl
      repeat first
        | refine LOps.pure (Pure.sadd rfl rfl (by simp only [List.length_append, List.length_cons, List.length_nil]; omega)) rfl ?_
      refine LOps.step (S.callBH [_, _] rfl (writeString_spec b _ (fOne value ++ [59, 10]) H2 hB2 (by simp only [List.length_append, List.length_cons, List.length_nil]; omega)) fun v3 H3 hB3 => ?_) rfl
      repeat first
        | refine LOps.nil ?_
        | refine LCode.region ?_
        | refine QThen.normal ?_
        | refine QBlock.normal ?_
        | refine LOps.pure (Pure.mv (lv := .atom _) rfl) rfl ?_
        | refine LOps.pure (Pure.add rfl rfl (by omega)) rfl ?_
      exact ⟨_, _, _, by omega, ⟨i + 1, by omega, rfl, rfl, by rw [hta]; simpa only [List.append_assoc] using hB3⟩, ⟨rfl, rfl, rfl, rfl, rfl, int_eq (by omega), trivial⟩, HSub.drop (HSub.refl _), hj⟩
    have e3 : ¬ kind = 6 := of_decide_eq_false h3
    repeat first
      | refine LOps.nil ?_
      | refine LCode.seq ?_
      | refine LCode.region ?_
      | refine QThen.normal ?_
      | refine LOps.pure (Pure.as (lv := .atom _) rfl) rfl ?_
      | refine LOps.pure (Pure.eql rfl rfl) rfl ?_
    refine LCode.cond rfl (fun h4 => ?_) (fun h4 => ?_)
    · have e4 : kind = 5 := of_decide_eq_true h4
      rw [fLine, if_neg e1, if_neg e2, if_neg e3, if_pos e4] at hm hta
      simp only [List.length_append, List.length_cons, List.length_nil] at hm
      repeat first
        | refine LCode.region ?_
        | refine LOps.pure (Pure.mv (lv := .atom _) rfl) rfl ?_
        | refine LOps.pure (Pure.fieldH rfl) rfl ?_
        | refine LOps.pure (Pure.loadH (c := .list _) rfl (List.Mem.head _) rfl) rfl ?_
      refine LOps.step (S.fnV [_] rfl rfl (one_ok hG value hk2 (by omega) (by omega)) ?_) rfl
      repeat first
        | refine LOps.pure (Pure.sadd rfl rfl (by simp only [List.length_append, List.length_cons, List.length_nil]; omega)) rfl ?_
      refine LOps.step (S.callBH [_, _] rfl (writeString_spec b _ ([114, 101, 116, 117, 114, 110, 32] ++ fOne value ++ [59, 10]) H2 hB2 (by simp only [List.length_append, List.length_cons, List.length_nil]; omega)) fun v3 H3 hB3 => ?_) rfl
      repeat first
        | refine LOps.nil ?_
        | refine LCode.region ?_
        | refine QThen.normal ?_
        | refine QBlock.normal ?_
        | refine LOps.pure (Pure.mv (lv := .atom _) rfl) rfl ?_
        | refine LOps.pure (Pure.add rfl rfl (by omega)) rfl ?_
      exact ⟨_, _, _, by omega, ⟨i + 1, by omega, rfl, rfl, by rw [hta]; simpa only [List.append_assoc] using hB3⟩, ⟨rfl, rfl, rfl, rfl, rfl, int_eq (by omega), trivial⟩, HSub.drop (HSub.refl _), hj⟩
    have e4 : ¬ kind = 5 := of_decide_eq_false h4
    repeat first
      | refine LOps.nil ?_
      | refine LCode.seq ?_
      | refine LCode.region ?_
      | refine QThen.normal ?_
      | refine LOps.pure (Pure.as (lv := .atom _) rfl) rfl ?_
      | refine LOps.pure (Pure.eql rfl rfl) rfl ?_
    refine LCode.cond rfl (fun h5 => ?_) (fun h5 => ?_)
    · have e5 : kind = 7 := of_decide_eq_true h5
      rw [fLine, if_neg e1, if_neg e2, if_neg e3, if_neg e4, if_pos e5] at hm hta
      simp only [List.length_append, List.length_cons, List.length_nil] at hm
      repeat first
        | refine LCode.region ?_
        | refine LOps.pure (Pure.mv (lv := .atom _) rfl) rfl ?_
      refine LOps.step (S.callBH [_, _] rfl (writeString_spec b _ ([104, 97, 108, 116, 59, 10]) H2 hB2 (by simp only [List.length_append, List.length_cons, List.length_nil]; omega)) fun v3 H3 hB3 => ?_) rfl
      repeat first
        | refine LOps.nil ?_
        | refine LCode.region ?_
        | refine QThen.normal ?_
        | refine QBlock.normal ?_
        | refine LOps.pure (Pure.mv (lv := .atom _) rfl) rfl ?_
        | refine LOps.pure (Pure.add rfl rfl (by omega)) rfl ?_
      exact ⟨_, _, _, by omega, ⟨i + 1, by omega, rfl, rfl, by rw [hta]; simpa only [List.append_assoc] using hB3⟩, ⟨rfl, rfl, rfl, rfl, rfl, int_eq (by omega), trivial⟩, HSub.drop (HSub.refl _), hj⟩
    have e5 : ¬ kind = 7 := of_decide_eq_false h5
    repeat first
      | refine LOps.nil ?_
      | refine LCode.seq ?_
      | refine LCode.region ?_
      | refine QThen.normal ?_
      | refine LOps.pure (Pure.as (lv := .atom _) rfl) rfl ?_
      | refine LOps.pure (Pure.eql rfl rfl) rfl ?_
    refine LCode.cut [(0, ptr b 0), (2, str ind), (6, .atom (.func (.func 86) #[] #[])), (8, ptr b8 0), (10, .list (l.map encS)), (11, int .i64 l.length), (12, int .i64 i), (76, bool (decide (kind = 3 ∨ kind = 4)))] ?_ (fun j2 hj2 => ?_)
    · refine LCode.cond rfl (fun h6 => ?_) (fun h6 => ?_)
      · have e6 : kind = 3 := of_decide_eq_true h6
        repeat first
          | refine LCode.skip ?_
          | refine QThen.normal ?_
        exact ⟨⟨rfl, rfl, rfl, rfl, rfl, rfl, rfl, bool_eq (by simp [e6]; rfl), trivial⟩, rfl, rfl⟩
      · have e6 : ¬ kind = 3 := of_decide_eq_false h6
        repeat first
          | refine LOps.nil ?_
          | refine LCode.region ?_
          | refine QThen.normal ?_
          | refine LOps.pure (Pure.as (lv := .atom _) rfl) rfl ?_
          | refine LOps.pure (Pure.eql rfl rfl) rfl ?_
        exact ⟨⟨rfl, rfl, rfl, rfl, rfl, rfl, rfl, bool_eq (by simp [e6]; exact Iff.rfl), trivial⟩, rfl, rfl⟩
    refine LCode.cond rfl (fun h6 => ?_) (fun h6 => ?_)
    · have e6 : kind = 3 ∨ kind = 4 := of_decide_eq_true h6
      rw [fLine, if_neg e1, if_neg e2, if_neg e3, if_neg e4, if_neg e5, if_pos e6] at hm hta
      obtain ⟨word, hw⟩ : ∃ w : List UInt8, w = (if kind = 4 then [119, 104, 105, 108, 101, 32] else [105, 102, 32]) := ⟨_, rfl⟩
      rw [← hw] at hm hta
      simp only [List.length_append, List.length_cons, List.length_nil] at hm
      repeat first
        | refine LOps.nil ?_
        | refine LCode.seq ?_
        | refine LCode.region ?_
        | refine QThen.normal ?_
        | refine LOps.pure (Pure.as (lv := .atom _) rfl) rfl ?_
        | refine LOps.pure (Pure.fieldH rfl) rfl ?_
        | refine LOps.pure (Pure.loadH (c := .atom _) rfl (List.Mem.head _) rfl) rfl ?_
        | refine LOps.pure (Pure.eql rfl rfl) rfl ?_
      refine LCode.cut [(0, ptr b 0), (2, str ind), (6, .atom (.func (.func 86) #[] #[])), (8, ptr b8 0), (9, str word), (10, .list (l.map encS)), (11, int .i64 l.length), (12, int .i64 i)] ?_ (fun j3 hj3 => ?_)
      · refine LCode.cond rfl (fun h7 => ?_) (fun h7 => ?_)
        · have e7 : kind = 4 := of_decide_eq_true h7
          repeat first
            | refine LOps.nil ?_
            | refine LCode.region ?_
            | refine QThen.normal ?_
            | refine LOps.pure (Pure.as (lv := .atom _) rfl) rfl ?_
          exact ⟨⟨rfl, rfl, rfl, rfl, str_eq (by rw [hw, if_pos e7]), rfl, rfl, rfl, trivial⟩, rfl, rfl⟩
        · have e7 : ¬ kind = 4 := of_decide_eq_false h7
          repeat first
            | refine LCode.skip ?_
            | refine QThen.normal ?_
          exact ⟨⟨rfl, rfl, rfl, rfl, str_eq (by rw [hw, if_neg e7]), rfl, rfl, rfl, trivial⟩, rfl, rfl⟩
      repeat first
        | refine LCode.seq ?_
        | refine LCode.region ?_
        | refine LOps.pure (Pure.mv (lv := .atom _) rfl) rfl ?_
        | refine LOps.pure (Pure.fieldH rfl) rfl ?_
        | refine LOps.pure (Pure.loadH (c := .list _) rfl (List.Mem.head _) rfl) rfl ?_
      refine LOps.step (S.fnV [_] rfl rfl (one_ok hG value hk2 (by omega) (by omega)) ?_) rfl
      refine LOps.pure (Pure.sadd rfl rfl (by omega)) rfl ?_
      repeat first
        | refine LOps.pure (Pure.sadd rfl rfl (by simp only [List.length_append, List.length_cons, List.length_nil]; omega)) rfl ?_
      refine LOps.step (S.callBH [_, _] rfl (writeString_spec b _ (word ++ fOne value ++ [32, 123, 10]) H2 hB2 (by simp only [List.length_append, List.length_cons, List.length_nil]; omega)) fun v3 H3 hB3 => ?_) rfl
      repeat first
        | refine LOps.nil ?_
        | refine LCode.seq ?_
        | refine LCode.region ?_
        | refine QThen.normal ?_
        | refine LOps.pure (Pure.mv (lv := .atom _) rfl) rfl ?_
        | refine LOps.pure (Pure.fieldH rfl) rfl ?_
        | refine LOps.pure (Pure.sadd rfl rfl (by simp only [List.length_append, List.length_cons, List.length_nil]; omega)) rfl ?_
        | refine LOps.pure (Pure.loadH (c := .list _) rfl (List.Mem.head _) rfl) rfl ?_
      refine LOps.step (S.callBH [_, _, _] (show _ = [ptr b 0, .list (encThen (.mk kind name index value thn els)), str (ind2 ind)] from rfl) (by
        rw [encThen_eq]
        exact ih thn (ind2 ind) _ b H3 (by omega) hk3 (by simp only [List.length_append, List.length_cons, List.length_nil]; omega) hB3) fun v4 H4 hB4 => ?_) rfl
      repeat first
        | refine LOps.nil ?_
        | refine LCode.seq ?_
        | refine LCode.region ?_
        | refine QThen.normal ?_
        | refine LOps.pure (Pure.llen rfl) rfl ?_
        | refine LOps.pure (Pure.fieldH rfl) rfl ?_
        | refine LOps.pure (Pure.loadH (c := .list _) rfl (List.Mem.head _) rfl) rfl ?_
        | refine LOps.pure (Pure.gtr rfl rfl) rfl ?_
      have hel : (encElse (.mk kind name index value thn els)).length = els.length := by
        rw [encElse_eq, List.length_map]
        rfl
      refine LCode.cond rfl (fun h8 => ?_) (fun h8 => ?_)
      · have hne : els.isEmpty = false := by
          have := of_decide_eq_true h8
          cases els with
          | nil => simp only [List.length_nil] at hel; omega
          | cons _ _ => rfl
        rw [hne, if_neg (by decide)] at hm hta
        simp only [List.length_append, List.length_cons, List.length_nil] at hm
        repeat first
          | refine LCode.seq ?_
          | refine LCode.region ?_
          | refine LOps.pure (Pure.mv (lv := .atom _) rfl) rfl ?_
          | refine LOps.pure (Pure.sadd rfl rfl (by simp only [List.length_append, List.length_cons, List.length_nil]; omega)) rfl ?_
        refine LOps.step (S.callBH [_, _] rfl (writeString_spec b _ (ind ++ [125, 32, 101, 108, 115, 101, 32, 123, 10]) H4 hB4 (by simp only [List.length_append, List.length_cons, List.length_nil]; omega)) fun v5 H5 hB5 => ?_) rfl
        repeat first
          | refine LOps.nil ?_
          | refine LCode.region ?_
          | refine QThen.normal ?_
          | refine LOps.pure (Pure.mv (lv := .atom _) rfl) rfl ?_
          | refine LOps.pure (Pure.fieldH rfl) rfl ?_
          | refine LOps.pure (Pure.sadd rfl rfl (by simp only [List.length_append, List.length_cons, List.length_nil]; omega)) rfl ?_
          | refine LOps.pure (Pure.loadH (c := .list _) rfl (List.Mem.head _) rfl) rfl ?_
        refine LOps.step (S.callBH [_, _, _] (show _ = [ptr b 0, .list (encElse (.mk kind name index value thn els)), str (ind2 ind)] from rfl) (by
          rw [encElse_eq]
          exact ih els (ind2 ind) _ b H5 (by omega) hk4 (by simp only [List.length_append, List.length_cons, List.length_nil]; omega) hB5) fun v6 H6 hB6 => ?_) rfl
        repeat first
          | refine LOps.nil ?_
          | refine LCode.region ?_
          | refine QThen.normal ?_
          | refine LOps.pure (Pure.mv (lv := .atom _) rfl) rfl ?_
          | refine LOps.pure (Pure.sadd rfl rfl (by simp only [List.length_append, List.length_cons, List.length_nil]; omega)) rfl ?_
        refine LOps.step (S.callBH [_, _] rfl (writeString_spec b _ (ind ++ [125, 10]) H6 hB6 (by simp only [List.length_append, List.length_cons, List.length_nil]; omega)) fun v7 H7 hB7 => ?_) rfl
        repeat first
          | refine LOps.nil ?_
          | refine LCode.region ?_
          | refine QThen.normal ?_
          | refine QBlock.normal ?_
          | refine LOps.pure (Pure.mv (lv := .atom _) rfl) rfl ?_
          | refine LOps.pure (Pure.add rfl rfl (by omega)) rfl ?_
        exact ⟨_, _, _, by omega, ⟨i + 1, by omega, rfl, rfl, by rw [hta]; simpa only [List.append_assoc] using hB7⟩, ⟨rfl, rfl, rfl, rfl, rfl, int_eq (by omega), trivial⟩, HSub.drop (HSub.refl _), hj3.trans (hj2.trans hj)⟩
      · have hne : els.isEmpty = true := by
          have := of_decide_eq_false h8
          cases els with
          | nil => rfl
          | cons _ _ => simp only [List.length_cons] at hel; omega
        rw [hne, if_pos rfl] at hm hta
        simp only [List.length_append, List.length_cons, List.length_nil] at hm
        repeat first
          | refine LCode.region ?_
          | refine LCode.skip ?_
          | refine QThen.normal ?_
          | refine LOps.pure (Pure.mv (lv := .atom _) rfl) rfl ?_
          | refine LOps.pure (Pure.sadd rfl rfl (by simp only [List.length_append, List.length_cons, List.length_nil]; omega)) rfl ?_
        refine LOps.step (S.callBH [_, _] rfl (writeString_spec b _ (ind ++ [125, 10]) H4 hB4 (by simp only [List.length_append, List.length_cons, List.length_nil]; omega)) fun v7 H7 hB7 => ?_) rfl
        repeat first
          | refine LOps.nil ?_
          | refine LCode.region ?_
          | refine QThen.normal ?_
          | refine QBlock.normal ?_
          | refine LOps.pure (Pure.mv (lv := .atom _) rfl) rfl ?_
          | refine LOps.pure (Pure.add rfl rfl (by omega)) rfl ?_
        exact ⟨_, _, _, by omega, ⟨i + 1, by omega, rfl, rfl, by rw [hta]; simpa only [List.append_assoc, List.append_nil, List.nil_append] using hB7⟩, ⟨rfl, rfl, rfl, rfl, rfl, int_eq (by omega), trivial⟩, HSub.drop (HSub.refl _), hj3.trans (hj2.trans hj)⟩
    · have e6 : ¬ (kind = 3 ∨ kind = 4) := of_decide_eq_false h6
      rw [fLine, if_neg e1, if_neg e2, if_neg e3, if_neg e4, if_neg e5, if_neg e6] at hm hta
      repeat first
        | refine LOps.nil ?_
        | refine LCode.region ?_
        | refine LCode.skip ?_
        | refine QThen.normal ?_
        | refine QBlock.normal ?_
        | refine LOps.pure (Pure.mv (lv := .atom _) rfl) rfl ?_
        | refine LOps.pure (Pure.add rfl rfl (by omega)) rfl ?_
      exact ⟨_, _, _, by omega, ⟨i + 1, by omega, rfl, rfl, by rw [hta]; simpa only [List.append_assoc, List.append_nil] using hB2⟩, ⟨rfl, rfl, rfl, rfl, rfl, int_eq (by omega), trivial⟩, HSub.drop (HSub.refl _), hj2.trans hj⟩
  · have hi' : i = l.length := by have := of_decide_eq_false hc; omega
    subst hi'
    rw [List.take_length] at hB
    repeat first
      | refine LCode.exit ?_
      | refine QThen.exit ?_
      | refine QBlock.hit ?_
    exact RetPost.normal hj AllRes.nil (HSub.refl _) ⟨⟨_, rfl⟩, hB⟩
theorem lines_spec (hG : GW B0 w0) : ∀ (n : Nat) (l : List Sm) (ind acc : List UInt8) (b : Nat) (H : Heap), nSms l ≤ n → n ≤ 1000000000 → okSs l → acc.length + (fSs ind l).length ≤ 1000000000 → BH b acc H →
      LCalls (KC B0 w0) 52 [ptr b 0, .list (l.map encS), str ind] H (fun r H' => (∃ x, r = .ret x) ∧ BH b (acc ++ fSs ind l) H') := by
  intro n
  induction n with
  | zero => exact fun l ind acc b H hn hn2 hk hl hB => lines_step hG 0 (fun _ _ _ _ _ h => by omega) l ind acc b H hn hn2 hk hl hB
  | succ n ih => exact fun l ind acc b H hn hn2 hk hl hB => lines_step hG (n + 1) (fun l ind acc b H h hk hl hB => ih l ind acc b H (by omega) (by omega) hk hl hB) l ind acc b H hn hn2 hk hl hB
end
end Go.Proofs.YtfodkbchknknjaaGreatDoor
namespace Go.Stele
theorem skip_white {c : UInt8} (hc : isWhite c = true) (b : List UInt8) : skipLen (c :: b) = (b.takeWhile isWhite).length + 1 := by
  have h47 : ([47, 47] : List UInt8).isPrefixOf (c :: b) = false := by
    cases h : ([47, 47] : List UInt8).isPrefixOf (c :: b) with
    | false => rfl
    | true =>
      simp only [List.isPrefixOf, Bool.and_eq_true, beq_iff_eq] at h
      rw [← h.1] at hc
      exact absurd hc (by decide)
  unfold skipLen
  rw [h47, if_neg (by decide), List.takeWhile_cons_of_pos hc]
  rfl
theorem skip_zero {s : List UInt8} (h : skipLen s = 0) : ([47, 47] : List UInt8).isPrefixOf s = false ∧ s.takeWhile isWhite = [] := by
  unfold skipLen at h
  split at h
  · rename_i hp
    obtain ⟨r, rfl⟩ := List.isPrefixOf_iff_prefix.1 hp
    rw [List.cons_append, List.takeWhile_cons_of_pos (by decide)] at h
    cases h
  · rename_i hp
    exact ⟨Bool.eq_false_iff.2 hp, List.eq_nil_of_length_eq_zero h⟩
theorem lexP_fuel : ∀ (f g : Nat) (s : List UInt8) (line : Int), s.length ≤ f → s.length ≤ g → lexP f s line = lexP g s line
  | 0, g, s, line, hf, _ => by
    have : s = [] := List.eq_nil_of_length_eq_zero (by omega)
    subst this
    cases g with
    | zero => rfl
    | succ g => rw [lexP, lexP, if_pos rfl]
  | f + 1, 0, s, line, _, hg => by
    have : s = [] := List.eq_nil_of_length_eq_zero (by omega)
    subst this
    rw [lexP, lexP, if_pos rfl]
  | f + 1, g + 1, s, line, hf, hg => by
    rw [lexP, lexP]
    by_cases h0 : s = []
    · rw [if_pos h0, if_pos h0]
    rw [if_neg h0, if_neg h0]
    by_cases hk : skipLen s = 0
    · rw [if_pos hk, if_pos hk]
      by_cases he : (lexToken s).2.2 ≠ 0
      · rw [if_pos he, if_pos he]
      · rw [if_neg he, if_neg he]
        obtain ⟨h1, h2⟩ := lexToken_size s (by simpa using he)
        rw [lexP_fuel f g _ _ (by rw [List.length_drop]; omega) (by rw [List.length_drop]; omega)]
    · rw [if_neg hk, if_neg hk]
      exact lexP_fuel f g _ _ (by rw [List.length_drop]; omega) (by rw [List.length_drop]; omega)
/-- The tokens of s, as many as there are. -/
def lexAt (s : List UInt8) (line : Int) : Except (Int × Int) (List Tok) := lexP s.length s line
theorem lexAt_eq {f : Nat} {s : List UInt8} (h : s.length ≤ f) (line : Int) : lexP f s line = lexAt s line := lexP_fuel _ _ _ _ h (Nat.le_refl _)
theorem lexAt_nil (line : Int) : lexAt [] line = .ok [] := rfl
theorem lexAt_white {c : UInt8} (hc : isWhite c = true) (b : List UInt8) (line : Int) : lexAt (c :: b) line = lexAt b (line + (([c] : List UInt8).count 10 : Nat)) := by
  rw [← lexAt_eq (f := b.length + 1) (by simp), lexP, if_neg (by simp), if_neg (by rw [skip_white hc]; omega), skip_white hc, List.drop_succ_cons, List.take_succ_cons, lexAt_eq (by rw [List.length_drop]; omega)]
  cases b with
  | nil => simp [lexAt_nil]
  | cons d b =>
    by_cases hd : isWhite d = true
    · rw [← lexAt_eq (f := b.length + 1) (s := d :: b) (by simp), lexP, if_neg (by simp), if_neg (by rw [skip_white hd]; omega), skip_white hd, List.takeWhile_cons_of_pos hd, List.length_cons, List.drop_succ_cons, List.take_succ_cons, lexAt_eq (by rw [List.length_drop]; omega)]
      congr 1
      rw [List.count_cons, List.count_singleton, List.count_cons]
      omega
    · rw [List.takeWhile_cons_of_neg hd]
      simp
theorem tw_app {p : UInt8 → Bool} (hp : p 10 = false) (b : List UInt8) : ∀ s : List UInt8, (s ++ 10 :: b).takeWhile p = s.takeWhile p
  | [] => by rw [List.nil_append, List.takeWhile_cons_of_neg (by simp [hp])]; rfl
  | c :: s => by
    rw [List.cons_append]
    by_cases h : p c = true
    · rw [List.takeWhile_cons_of_pos h, List.takeWhile_cons_of_pos h, tw_app hp b s]
    · rw [List.takeWhile_cons_of_neg h, List.takeWhile_cons_of_neg h]
theorem pre_app (b : List UInt8) : ∀ (x s : List UInt8), (10 : UInt8) ∉ x → x.isPrefixOf (s ++ 10 :: b) = x.isPrefixOf s
  | [], s, _ => by simp
  | c :: x, [], h => by
    have : ¬ c = 10 := fun hc => h (by rw [hc]; exact List.mem_cons_self ..)
    simp [List.isPrefixOf, this]
  | c :: x, d :: s, h => by
    have := pre_app b x s fun hx => h (List.mem_cons_of_mem _ hx)
    simp only [List.cons_append, List.isPrefixOf, this]
theorem find_app (b s : List UInt8) : ∀ L : List (List UInt8), (∀ x ∈ L, (10 : UInt8) ∉ x) → L.find? (fun x => x.isPrefixOf (s ++ 10 :: b)) = L.find? (fun x => x.isPrefixOf s)
  | [], _ => rfl
  | x :: L, h => by
    rw [List.find?_cons, List.find?_cons, pre_app b x s (h x (List.mem_cons_self ..)), find_app b s L fun y hy => h y (List.mem_cons_of_mem _ hy)]
theorem wordNext_app (b s : List UInt8) {n : Nat} (hn : n ≤ s.length) : wordNext (s ++ 10 :: b) n = wordNext s n := by
  unfold wordNext
  rcases Nat.lt_or_ge n s.length with h | h
  · rw [List.getElem?_append_left h]
  · have : n = s.length := by omega
    subst this
    rw [List.getElem?_append_right (Nat.le_refl _), List.getElem?_eq_none (Nat.le_refl _)]
    rw [Nat.sub_self, List.getElem?_cons_zero]
    rfl
theorem lexToken_app (b s : List UInt8) (h : (lexToken s).2.2 = 0) : lexToken (s ++ 10 :: b) = lexToken s := by
  match s with
  | [] => simp [lexToken, tokErr] at h
  | c :: r =>
    simp only [List.cons_append, lexToken] at h ⊢
    by_cases hc : isDigit c = true
    · rw [if_pos hc, if_pos hc]
      unfold lexNumber
      have e1 : (c :: (r ++ 10 :: b)).takeWhile isDigit = (c :: r).takeWhile isDigit := tw_app (by decide) b (c :: r)
      have e2 := wordNext_app b (c :: r) (takeWhile_le isDigit (c :: r))
      rw [List.cons_append] at e2
      rw [e1, e2]
    rw [if_neg hc] at h ⊢
    rw [if_neg hc]
    by_cases hl : isLetter c = true
    · rw [if_pos hl, if_pos hl]
      unfold lexName
      have e1 : (c :: (r ++ 10 :: b)).takeWhile isInner = (c :: r).takeWhile isInner := tw_app (by decide) b (c :: r)
      rw [e1]
    rw [if_neg hl] at h ⊢
    rw [if_neg hl]
    by_cases hq : decide (cv c = 39) = true
    · rw [if_pos hq] at h ⊢
      rw [if_pos hq]
      match r with
      | [] => simp [lexLiteral, tokErr] at h
      | [d] => simp [lexLiteral, tokErr] at h
      | d :: e :: r => rfl
    · rw [if_neg hq, if_neg hq]
      unfold lexSign
      have e1 := find_app b (c :: r) signs (by decide)
      rw [List.cons_append] at e1
      rw [e1]
theorem lexAt_app (b : List UInt8) : ∀ (n : Nat) (s : List UInt8) (line : Int) (A : List Tok), s.length ≤ n → lexAt s line = .ok A → lexAt (s ++ 10 :: b) line = (lexAt b (line + (s.count 10 : Nat) + 1)).map (A ++ ·)
  | n, [], line, A, _, h => by
    rw [lexAt_nil] at h
    cases h
    rw [List.nil_append, lexAt_white (by decide)]
    simp
    cases lexAt b (line + 1) <;> rfl
  | 0, c :: r, _, _, hn, _ => by simp at hn
  | n + 1, c :: r, line, A, hn, h => by
    by_cases hw : isWhite c = true
    · rw [lexAt_white hw] at h
      rw [List.cons_append, lexAt_white hw, lexAt_app b n r _ A (by simpa using hn) h]
      rw [List.count_cons (l := r), List.count_singleton]
      congr 2
      omega
    have hkeep : (c :: r).takeWhile isWhite = [] := List.takeWhile_cons_of_neg hw
    have hp : ([47, 47] : List UInt8).isPrefixOf (c :: r ++ 10 :: b) = ([47, 47] : List UInt8).isPrefixOf (c :: r) := pre_app b [47, 47] (c :: r) (by decide)
    have hk : skipLen (c :: r ++ 10 :: b) = skipLen (c :: r) := by
      unfold skipLen
      rw [hp, tw_app (by decide), hkeep, List.cons_append, List.takeWhile_cons_of_neg hw]
    rw [← lexAt_eq (f := n + 1) hn, lexP, if_neg (by simp)] at h
    rw [← lexAt_eq (f := (r ++ 10 :: b).length + 1) (by simp), lexP, if_neg (by simp), hk]
    by_cases hz : skipLen (c :: r) = 0
    · rw [if_pos hz] at h ⊢
      by_cases he : (lexToken (c :: r)).2.2 ≠ 0
      · rw [if_pos he] at h
        cases h
      have he' : (lexToken (c :: r)).2.2 = 0 := by simpa using he
      rw [if_neg he] at h
      obtain ⟨h1, h2⟩ := lexToken_size _ he'
      rw [lexToken_app b _ he', if_neg he, List.drop_append_of_le_length h2, List.take_append_of_le_length h2]
      rw [lexAt_eq (by rw [List.length_drop]; omega)] at h
      rw [lexAt_eq (by simp only [List.length_append, List.length_drop, List.length_cons] at h2 ⊢; omega)]
      cases hx : lexAt ((c :: r).drop (lexToken (c :: r)).2.1) (line + (((c :: r).take (lexToken (c :: r)).2.1).count 10 : Nat)) with
      | error e => rw [hx] at h; cases h
      | ok A2 =>
        rw [hx] at h
        cases h
        rw [lexAt_app b n _ _ A2 (by rw [List.length_drop]; omega) hx]
        have hc : (c :: r).count 10 = ((c :: r).take (lexToken (c :: r)).2.1).count 10 + ((c :: r).drop (lexToken (c :: r)).2.1).count 10 := by rw [← List.count_append, List.take_append_drop]
        rw [show line + (((c :: r).take (lexToken (c :: r)).2.1).count 10 : Nat) + (((c :: r).drop (lexToken (c :: r)).2.1).count 10 : Nat) + 1 = line + ((c :: r).count 10 : Nat) + 1 by rw [hc]; omega]
        cases lexAt b (line + ((c :: r).count 10 : Nat) + 1) <;> rfl
    · rw [if_neg hz] at h ⊢
      have h2 := skipLen_le (c :: r)
      rw [List.drop_append_of_le_length h2, List.take_append_of_le_length h2]
      rw [lexAt_eq (by rw [List.length_drop]; omega)] at h
      rw [lexAt_eq (by simp only [List.length_append, List.length_drop, List.length_cons] at h2 ⊢; omega)]
      rw [lexAt_app b n _ _ A (by rw [List.length_drop]; omega) h]
      have hc : (c :: r).count 10 = ((c :: r).take (skipLen (c :: r))).count 10 + ((c :: r).drop (skipLen (c :: r))).count 10 := by rw [← List.count_append, List.take_append_drop]
      congr 2
      rw [hc]
      omega
def kt (t : Tok) : Int × List UInt8 := (t.kind, t.text)
/-- The number of the first line changes nothing but the lines. -/
theorem lexP_line : ∀ (f : Nat) (s : List UInt8) (l1 l2 : Int) (A : List Tok), lexP f s l1 = .ok A → ∃ B, lexP f s l2 = .ok B ∧ B.map kt = A.map kt
  | 0, _, _, _, _, h => by
    cases h
    exact ⟨[], rfl, rfl⟩
  | f + 1, s, l1, l2, A, h => by
    rw [lexP] at h ⊢
    split at h
    · rename_i h0
      cases h
      rw [if_pos h0]
      exact ⟨[], rfl, rfl⟩
    rename_i h0
    rw [if_neg h0]
    split at h
    · rename_i hk
      rw [if_pos hk]
      split at h
      · cases h
      · rename_i he
        rw [if_neg he]
        cases hx : lexP f (s.drop (lexToken s).2.1) (l1 + ((s.take (lexToken s).2.1).count 10 : Nat)) with
        | error e => rw [hx] at h; cases h
        | ok A2 =>
          rw [hx] at h
          cases h
          obtain ⟨B, h1, h2⟩ := lexP_line f _ _ (l2 + ((s.take (lexToken s).2.1).count 10 : Nat)) A2 hx
          rw [h1]
          exact ⟨_, rfl, by rw [List.map_cons, List.map_cons, h2]; rfl⟩
    · rename_i hk
      rw [if_neg hk]
      exact lexP_line f _ _ _ A h
end Go.Stele
namespace Go.Stele
open Go.Lib
/-- A token's text is read as that token. -/
def Again (t : Tok) : Prop := t.text.length ≤ 24 ∧ t.text ≠ [] ∧ skipLen t.text = 0 ∧ (10 : UInt8) ∉ t.text ∧ lexToken t.text = (⟨t.kind, t.text, 0⟩, t.text.length, 0)
theorem skip_head {c : UInt8} {r : List UInt8} (hw : isWhite c = false) (h47 : c ≠ 47) : skipLen (c :: r) = 0 := by
  have h : ([47, 47] : List UInt8).isPrefixOf (c :: r) = false := by
    cases h : ([47, 47] : List UInt8).isPrefixOf (c :: r) with
    | false => rfl
    | true =>
      simp only [List.isPrefixOf, Bool.and_eq_true, beq_iff_eq] at h
      exact absurd h.1.symm h47
  unfold skipLen
  rw [h, if_neg (by decide), List.takeWhile_cons_of_neg (by rw [hw]; decide)]
  rfl
theorem digit_of {d : Nat} (h : d < 10) : isDigit (UInt8.ofNat (48 + d)) = true := by
  have h1 : (UInt8.ofNat (48 + d)).toNat = 48 + d := digit_toNat h
  unfold isDigit cv
  rw [h1]
  simp
  omega
theorem dec_digits (u : Nat) : ∀ c ∈ decDigits u, isDigit c = true := by
  induction u using Nat.strongRecOn with
  | ind u ih =>
    intro c hc
    by_cases h : u < 10
    · rw [decDigits_one h] at hc
      rw [List.mem_singleton.1 hc]
      exact digit_of h
    · rw [decDigits, dif_neg h] at hc
      rcases List.mem_append.1 hc with hc | hc
      · exact ih (u / 10) (by omega) c hc
      · rw [List.mem_singleton.1 hc]
        exact digit_of (by omega)
theorem digit_white {c : UInt8} (h : isDigit c = true) : isWhite c = false ∧ c ≠ 47 := by
  unfold isDigit at h
  rw [Bool.and_eq_true, decide_eq_true_eq, decide_eq_true_eq] at h
  refine ⟨?_, fun hc => ?_⟩
  · unfold isWhite
    simp only [Bool.or_eq_false_iff, decide_eq_false_iff_not]
    omega
  · subst hc
    exact absurd h.1 (by decide)
theorem letter_white {c : UInt8} (h : isLetter c = true) : isWhite c = false ∧ c ≠ 47 := by
  unfold isLetter at h
  rw [Bool.and_eq_true, decide_eq_true_eq, decide_eq_true_eq] at h
  refine ⟨?_, fun hc => ?_⟩
  · unfold isWhite
    simp only [Bool.or_eq_false_iff, decide_eq_false_iff_not]
    omega
  · subst hc
    exact absurd h.1 (by decide)
theorem tw_self {p : UInt8 → Bool} : ∀ {s : List UInt8}, (∀ c ∈ s, p c = true) → s.takeWhile p = s
  | [], _ => rfl
  | c :: s, h => by rw [List.takeWhile_cons_of_pos (h c (List.mem_cons_self ..)), tw_self fun d hd => h d (List.mem_cons_of_mem _ hd)]
theorem tw_mem {p : UInt8 → Bool} : ∀ {s : List UInt8} {c : UInt8}, c ∈ s.takeWhile p → p c = true
  | [], _, h => by cases h
  | d :: s, c, h => by
    by_cases hd : p d = true
    · rw [List.takeWhile_cons_of_pos hd] at h
      rcases List.mem_cons.1 h with rfl | h
      · exact hd
      · exact tw_mem h
    · rw [List.takeWhile_cons_of_neg hd] at h
      cases h
theorem again_dec {u : Nat} (hu : u < 4294967296) (l : Int) : Again ⟨1, decDigits u, l⟩ := by
  have hd := dec_digits u
  have hne := decDigits_ne u
  refine ⟨by have := dec_len hu; simp only; omega, hne, ?_, fun h => by have := hd _ h; exact absurd this (by decide), ?_⟩
  · show skipLen (decDigits u) = 0
    cases hD : decDigits u with
    | nil => exact absurd hD hne
    | cons c r =>
      have := digit_white (hd c (by rw [hD]; exact List.mem_cons_self ..))
      exact skip_head this.1 this.2
  · show lexToken (decDigits u) = (⟨1, decDigits u, 0⟩, (decDigits u).length, 0)
    have h1 : lexToken (decDigits u) = lexNumber (decDigits u) := by
      cases hD : decDigits u with
      | nil => exact absurd hD hne
      | cons c r => rw [lexToken, if_pos (hd c (by rw [hD]; exact List.mem_cons_self ..))]
    rw [h1]
    unfold lexNumber
    rw [tw_self hd, pu32_dec u hu, if_neg]
    unfold wordNext
    rw [List.getElem?_eq_none (Nat.le_refl _)]
    decide
theorem again_sign : ∀ x ∈ signs, x.length ≤ 24 ∧ x ≠ [] ∧ skipLen x = 0 ∧ (10 : UInt8) ∉ x ∧ lexToken x = (⟨4, x, 0⟩, x.length, 0) := by decide +kernel
theorem lexToken_again (s : List UInt8) (h : (lexToken s).2.2 = 0) : Again (lexToken s).1 := by
  match s with
  | [] => simp [lexToken, tokErr] at h
  | c :: r =>
    simp only [lexToken] at h ⊢
    split at h <;> rename_i hc
    · rw [if_pos hc]
      unfold lexNumber at h ⊢
      split at h
      · simp [tokErr] at h
      · rename_i hw
        rw [if_neg hw]
        split at h
        · rename_i u hu
          exact again_dec (pu32_lt hu) 0
        · simp [tokErr] at h
    · rw [if_neg hc]
      split at h <;> rename_i hl
      · rw [if_pos hl]
        unfold lexName at h ⊢
        split at h
        · simp [tokErr] at h
        · rename_i hw
          rw [if_neg hw]
          have hin : isInner c = true := by simp [isInner, hl]
          have hW : (c :: r).takeWhile isInner = c :: r.takeWhile isInner := List.takeWhile_cons_of_pos hin
          have hall : ∀ d ∈ (c :: r).takeWhile isInner, isInner d = true := fun d hd => tw_mem hd
          have hww := letter_white hl
          refine ⟨by simp only; omega, by simp only; rw [hW]; simp, by simp only; rw [hW]; exact skip_head hww.1 hww.2, fun h10 => absurd (hall _ h10) (by decide), ?_⟩
          simp only
          have h1 : lexToken ((c :: r).takeWhile isInner) = lexName ((c :: r).takeWhile isInner) := by
            rw [hW, lexToken, if_neg hc, if_pos hl]
          rw [h1]
          unfold lexName
          rw [tw_self hall, if_neg hw]
      · rw [if_neg hl]
        split at h <;> rename_i hq
        · rw [if_pos hq]
          unfold lexLiteral at h ⊢
          split at h
          · split at h
            · simp [tokErr] at h
            · rename_i hx
              rename_i heq
              rename_i b _ _
              rw [if_neg hx]
              exact again_dec (Nat.lt_trans (UInt8.toNat_lt b) (by decide)) 0
          · simp [tokErr] at h
        · rw [if_neg hq]
          unfold lexSign at h ⊢
          split at h
          · rename_i x hx
            exact again_sign x (List.mem_of_find?_eq_some hx)
          · simp [tokErr] at h
theorem lexP_again : ∀ (f : Nat) (s : List UInt8) (line : Int) (T : List Tok), lexP f s line = .ok T → ∀ t ∈ T, Again t
  | 0, s, line, T, h => by
    rw [lexP] at h
    cases h
    simp
  | f + 1, s, line, T, h => by
    rw [lexP] at h
    split at h
    · cases h
      simp
    · split at h
      · split at h
        · cases h
        · rename_i he
          obtain ⟨T', h1, rfl⟩ := map_ok h
          have k2 := lexP_again f _ _ _ h1
          intro t ht
          rcases List.mem_cons.1 ht with rfl | ht
          · exact lexToken_again s (by omega)
          · exact k2 t ht
      · exact lexP_again f _ _ _ h
theorem lexAt_tok {t : Tok} (h : Again t) (line : Int) : lexAt t.text line = .ok [⟨t.kind, t.text, line⟩] := by
  obtain ⟨_, hne, hs, _, ht⟩ := h
  have hlen : 0 < t.text.length := List.length_pos_iff.2 hne
  rw [← lexAt_eq (f := t.text.length + 1) (by omega), lexP, if_neg hne, if_pos hs, ht, if_neg (by simp)]
  simp only [List.drop_length]
  rw [lexAt_eq (by simp), lexAt_nil]
  rfl
/-- The tokens, one on each line, from this line on. -/
def reline : List Tok → Int → List Tok
  | [], _ => []
  | t :: r, l => ⟨t.kind, t.text, l⟩ :: reline r (l + 1)
theorem reline_kt : ∀ (T : List Tok) (l : Int), (reline T l).map kt = T.map kt
  | [], _ => rfl
  | t :: r, l => by rw [reline, List.map_cons, List.map_cons, reline_kt r]; rfl
theorem reline_len (T : List Tok) (l : Int) : (reline T l).length = T.length := by simpa using congrArg List.length (reline_kt T l)
theorem reline_line : ∀ (T : List Tok) (l : Int) (j : Nat) (t : Tok), (reline T l)[j]? = some t → t.line = l + j
  | [], _, _, _, h => by simp [reline] at h
  | u :: r, l, 0, t, h => by
    simp [reline] at h
    rw [← h]
    simp
  | u :: r, l, j + 1, t, h => by
    rw [reline, List.getElem?_cons_succ] at h
    rw [reline_line r _ j t h]
    omega
theorem join_cons (x y : List UInt8) (r : List (List UInt8)) : join (x :: y :: r) [10] = x ++ 10 :: join (y :: r) [10] := by
  simp [join, List.intercalate, List.intersperse]
theorem lexAt_join : ∀ (T : List Tok) (l : Int), (∀ t ∈ T, Again t) → lexAt (join (T.map (·.text)) [10]) l = .ok (reline T l)
  | [], l, _ => by
    rw [show join (([] : List Tok).map (·.text)) [10] = [] by simp [join, List.intercalate], lexAt_nil]
    rfl
  | [t], l, h => by
    rw [show join (([t] : List Tok).map (·.text)) [10] = t.text by simp [join, List.intercalate], lexAt_tok (h t (List.mem_cons_self ..))]
    rfl
  | t :: u :: r, l, h => by
    have ht := h t (List.mem_cons_self ..)
    have ih := lexAt_join (u :: r) (l + 1) fun v hv => h v (List.mem_cons_of_mem _ hv)
    rw [List.map_cons, List.map_cons, join_cons, lexAt_app _ t.text.length _ _ _ (Nat.le_refl _) (lexAt_tok ht l), List.count_eq_zero.2 ht.2.2.2.1]
    rw [List.map_cons] at ih
    simp only [Int.natCast_zero, Int.add_zero]
    rw [ih]
    rfl
theorem join_len : ∀ (T : List Tok), (∀ t ∈ T, Again t) → (join (T.map (·.text)) [10]).length ≤ 25 * T.length
  | [], _ => by simp [join, List.intercalate]
  | [t], h => by
    rw [show join (([t] : List Tok).map (·.text)) [10] = t.text by simp [join, List.intercalate]]
    have := (h t (List.mem_cons_self ..)).1
    simp
    omega
  | t :: u :: r, h => by
    have ht := (h t (List.mem_cons_self ..)).1
    have ih := join_len (u :: r) fun v hv => h v (List.mem_cons_of_mem _ hv)
    rw [List.map_cons] at ih
    rw [List.map_cons, List.map_cons, join_cons, List.length_append, List.length_cons]
    simp only [List.length_cons] at ih ⊢
    omega
end Go.Stele
