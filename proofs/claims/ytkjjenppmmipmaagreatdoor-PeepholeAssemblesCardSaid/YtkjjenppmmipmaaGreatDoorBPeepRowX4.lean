/- Texts joined: PeepG, PeepH, PeepI, PeepJ, PeepK, PeepM, PeepL, PeepWords, PeepOpt, PeepRef, PeepN, PeepO. -/
import Derived.Lib.Split
import Derived.Lib.Join
import Derived.Lib.SplitLaws
import Derived.Test.YtkjjenppmmipmaaGreatDoorBPeepRowX2
import Derived.Test.YtkjjenppmmipmaaGreatDoorBPeepRowX3
set_option linter.unusedVariables false
set_option linter.unusedSimpArgs false
namespace Go.Proofs.YtkjjenppmmipmaaGreatDoor
open Go.GL Go.RowKit Go.Stele
set_option maxRecDepth 100000
set_option maxHeartbeats 4000000
attribute [local irreducible] LOps LCode LStep LCalls Go.GL.Pure QThen QBlock RetPost LQ LAny LLate LLateOp
section
variable {B0 : Nat} {w0 : World}
theorem same_spec (hG : GW B0 w0) (v : List Wd) (m : Nat) (hv : Small v) : LCalls (KC B0 w0) 27 [viewLV v m] [] (Ret (ruleLV (rSame v))) := by
  have k0 := word_spec (B0 := B0) (w0 := w0) v m 0 (by have := hv.1; omega)
  have kn := number_spec hG (wdAt v 0) (by have := hv.at 0; omega)
  have ki := is_spec (B0 := B0) (w0 := w0) v m 1 [[64], wdAt v 0, [33]] hv (by omega) (by simp only [List.length_cons, List.length_nil]; omega)
  have hF : rSame v = if (numW (wdAt v 0)).isSome = true ∧ isW v 1 [[64], wdAt v 0, [33]] = true then (4, []) else (0, []) := by
    simp only [rSame, isW, Bool.and_eq_true, decide_eq_true_eq, and_true]
  unfold viewLV at k0 ki ⊢
  generalize numW (wdAt v 0) = on at kn hF
  generalize isW v 1 [[64], wdAt v 0, [33]] = q at ki hF
  generalize wdAt v 0 = a at k0 kn ki
  refine LCalls.intro Tryz.func27 rfl (n := 20) rfl rfl rfl ?_
  repeat first
    | refine LCode.seq ?_
    | refine LCode.region ?_
  refine LOps.step (S.box (cs := [.list (v.map str), .atom (.map (some m))]) rfl fun b1 => ?_) rfl
  repeat first
    | refine LOps.nil ?_
    | refine LCode.seq ?_
    | refine LCode.region ?_
    | refine QThen.normal ?_
    | refine LOps.pure (Pure.as (lv := .atom _) rfl) rfl ?_
    | refine LOps.pure (Pure.ldHAgg (cs' := [_, _]) rfl (List.Mem.head _) rfl rfl) rfl ?_
  refine LOps.step (S.fn [_, _] rfl k0 ?_) rfl
  refine LOps.step (S.fn [_] rfl kn ?_) rfl
  repeat first
    | refine LOps.nil ?_
    | refine LCode.seq ?_
    | refine QThen.normal ?_
    | refine LOps.pure (Pure.as (lv := .atom _) rfl) rfl ?_
    | refine LOps.pure (Pure.mv (lv := .tuple _) rfl) rfl ?_
    | refine LOps.pure (Pure.extract (c := .atom _) rfl rfl) rfl ?_
  cases on with
  | none =>
    refine LCode.draw (m := 8) rfl [(b1, .cells 53 [.list (v.map str), .atom (.map (some m))])] ?_
    refine LAny.take (i := 0) (by first | exact HSub.nil _ | exact HSub.refl _ | exact HSub.drop (HSub.refl _) | exact HSub.pick Pick.here (HSub.nil _) | exact HSub.pick (Pick.there Pick.here) (HSub.nil _) | exact HSub.pick (Pick.there (Pick.there Pick.here)) (HSub.nil _)) rfl (by kernel_rfl) (by kernel_rfl) (by kernel_rfl) rfl (Pure.mv (lv := .atom _) rfl) ?_
    refine LAny.take (i := 1) (by first | exact HSub.nil _ | exact HSub.refl _ | exact HSub.drop (HSub.refl _) | exact HSub.pick Pick.here (HSub.nil _) | exact HSub.pick (Pick.there Pick.here) (HSub.nil _) | exact HSub.pick (Pick.there (Pick.there Pick.here)) (HSub.nil _)) rfl (by kernel_rfl) (by kernel_rfl) (by kernel_rfl) rfl (Pure.mv (lv := .atom _) rfl) ?_
    refine LAny.takeSkip (i := 2) rfl rfl rfl rfl (by kernel_rfl) (by kernel_rfl) (by kernel_rfl) rfl ?_
    refine LAny.takeSkip (i := 3) rfl rfl rfl rfl (by kernel_rfl) (by kernel_rfl) (by kernel_rfl) rfl ?_
    refine LAny.takeSkip (i := 4) rfl rfl rfl rfl (by kernel_rfl) (by kernel_rfl) (by kernel_rfl) rfl ?_
    refine LAny.takeSkip (i := 5) rfl rfl rfl rfl (by kernel_rfl) (by kernel_rfl) (by kernel_rfl) rfl ?_
    refine LAny.takeSkip (i := 6) rfl rfl rfl rfl (by kernel_rfl) (by kernel_rfl) (by kernel_rfl) rfl ?_
    refine LAny.take (i := 7) (by first | exact HSub.nil _ | exact HSub.refl _ | exact HSub.drop (HSub.refl _) | exact HSub.pick Pick.here (HSub.nil _) | exact HSub.pick (Pick.there Pick.here) (HSub.nil _) | exact HSub.pick (Pick.there (Pick.there Pick.here)) (HSub.nil _)) rfl (by kernel_rfl) (by kernel_rfl) (by kernel_rfl) rfl (Pure.pickF (lv := .atom _) rfl rfl) ?_
    refine LAny.late ?_ (HSub.refl _)
    refine LLate.done (by kernel_rfl) ?_
    repeat first
      | refine QThen.normal ?_
    refine LCode.cond rfl (fun h => ?_) (fun h => ?_)
    · cases h
    · repeat first
        | refine LOps.nil ?_
        | refine LCode.seq ?_
        | refine LCode.region ?_
        | refine LCode.skip ?_
        | refine LCode.ret ?_
        | refine QThen.normal ?_
        | refine LOps.pure (Pure.as (lv := .atom _) rfl) rfl ?_
      exact retRet rfl (AllRes.cons (ResIs.tmp (v := .atom _) rfl (LV.Sub.refl _)) (AllRes.cons (ResIs.tmp (v := nilSlice) rfl LV.Sub.nil) AllRes.nil)) (by rw [hF]; rfl)
  | some n =>
    refine LCode.draw (m := 8) rfl [(b1, .cells 53 [.list (v.map str), .atom (.map (some m))])] ?_
    refine LAny.take (i := 0) (by first | exact HSub.nil _ | exact HSub.refl _ | exact HSub.drop (HSub.refl _) | exact HSub.pick Pick.here (HSub.nil _) | exact HSub.pick (Pick.there Pick.here) (HSub.nil _) | exact HSub.pick (Pick.there (Pick.there Pick.here)) (HSub.nil _)) rfl (by kernel_rfl) (by kernel_rfl) (by kernel_rfl) rfl (Pure.mv (lv := .atom _) rfl) ?_
    refine LAny.take (i := 1) (by first | exact HSub.nil _ | exact HSub.refl _ | exact HSub.drop (HSub.refl _) | exact HSub.pick Pick.here (HSub.nil _) | exact HSub.pick (Pick.there Pick.here) (HSub.nil _) | exact HSub.pick (Pick.there (Pick.there Pick.here)) (HSub.nil _)) rfl (by kernel_rfl) (by kernel_rfl) (by kernel_rfl) rfl (Pure.mv (lv := .atom _) rfl) ?_
    refine LAny.takeWant (i := 2) (by first | exact HSub.nil _ | exact HSub.refl _ | exact HSub.drop (HSub.refl _) | exact HSub.pick Pick.here (HSub.nil _) | exact HSub.pick (Pick.there Pick.here) (HSub.nil _) | exact HSub.pick (Pick.there (Pick.there Pick.here)) (HSub.nil _)) rfl rfl rfl (by kernel_rfl) (by kernel_rfl) (by kernel_rfl) rfl (Pure.ldHAgg (cs' := [_, _]) rfl (List.Mem.head _) rfl rfl) ?_
    refine LAny.takeWant (i := 3) (by first | exact HSub.nil _ | exact HSub.refl _ | exact HSub.drop (HSub.refl _) | exact HSub.pick Pick.here (HSub.nil _) | exact HSub.pick (Pick.there Pick.here) (HSub.nil _) | exact HSub.pick (Pick.there (Pick.there Pick.here)) (HSub.nil _)) rfl rfl rfl (by kernel_rfl) (by kernel_rfl) (by kernel_rfl) rfl (Pure.ldHAgg (cs' := [_, _]) rfl (List.Mem.head _) rfl rfl) ?_
    refine LAny.late ?_ (HSub.refl _)
    refine LLate.one (i := 4) (by kernel_rfl) (LLateOp.step (H1 := []) rfl (.inr ⟨1, true, 13, rfl, rfl, rfl⟩) rfl (List.Perm.refl _) (HSub.refl _) (S.fn [_, _] rfl k0 ?_))
    refine LLate.one (i := 5) (by kernel_rfl) (LLateOp.step (H1 := []) rfl (.inr ⟨1, true, 13, rfl, rfl, rfl⟩) rfl (List.Perm.refl _) (HSub.refl _) ?_)
    refine S.lit [.const (.string { data := #[64] }), .tmp 16, .const (.string { data := #[33] })] rfl (elemsOk.cons rfl rfl (elemsOk.cons rfl rfl (elemsOk.cons rfl rfl elemsOk.nil))) rfl rfl rfl ?_
    refine LLate.one (i := 6) (by kernel_rfl) (LLateOp.step (H1 := []) rfl (.inr ⟨1, true, 13, rfl, rfl, rfl⟩) rfl (List.Perm.refl _) (HSub.refl _) (S.fn [_, _, _] rfl ki ?_))
    refine LLate.any [(b1, .cells 53 [.list (v.map str), .atom (.map (some m))])] (fun _ h => h) ?_
    refine LAny.take (i := 7) (by first | exact HSub.nil _ | exact HSub.refl _ | exact HSub.drop (HSub.refl _) | exact HSub.pick Pick.here (HSub.nil _) | exact HSub.pick (Pick.there Pick.here) (HSub.nil _) | exact HSub.pick (Pick.there (Pick.there Pick.here)) (HSub.nil _)) rfl (by kernel_rfl) (by kernel_rfl) (by kernel_rfl) rfl (Pure.pickT (lv := .atom _) rfl rfl) ?_
    refine LAny.late ?_ (HSub.refl _)
    refine LLate.done (by kernel_rfl) ?_
    repeat first
      | refine QThen.normal ?_
    refine LCode.cond rfl (fun h => ?_) (fun h => ?_)
    · have hq : q = true := h
      subst hq
      repeat first
        | refine LOps.nil ?_
        | refine LCode.seq ?_
        | refine LCode.region ?_
        | refine LCode.ret ?_
        | refine QThen.normal ?_
        | refine QThen.ret ?_
        | refine LOps.pure (Pure.as (lv := .atom _) rfl) rfl ?_
      exact retRet rfl (AllRes.cons (ResIs.tmp (v := .atom _) rfl (LV.Sub.refl _)) (AllRes.cons (ResIs.tmp (v := nilSlice) rfl LV.Sub.nil) AllRes.nil)) (by rw [hF]; rfl)
    · have hq : q = false := h
      subst hq
      repeat first
        | refine LOps.nil ?_
        | refine LCode.seq ?_
        | refine LCode.region ?_
        | refine LCode.skip ?_
        | refine LCode.ret ?_
        | refine QThen.normal ?_
        | refine LOps.pure (Pure.as (lv := .atom _) rfl) rfl ?_
      exact retRet rfl (AllRes.cons (ResIs.tmp (v := .atom _) rfl (LV.Sub.refl _)) (AllRes.cons (ResIs.tmp (v := nilSlice) rfl LV.Sub.nil) AllRes.nil)) (by rw [hF]; rfl)
end
end Go.Proofs.YtkjjenppmmipmaaGreatDoor
namespace Go.Proofs.YtkjjenppmmipmaaGreatDoor
open Go.GL Go.RowKit Go.Stele
set_option maxRecDepth 100000
set_option maxHeartbeats 4000000
theorem take6_drop4 {v : List Wd} (h : 5 < v.length) : ((v.map str).take 6).drop 4 = [str (wdAt v 4), str (wdAt v 5)] := by
  have e4 : wdAt v 4 = v[4] := by unfold wdAt; rw [List.getElem?_eq_getElem (by omega)]; rfl
  have e5 : wdAt v 5 = v[5] := by unfold wdAt; rw [List.getElem?_eq_getElem h]; rfl
  rw [e4, e5, ← List.map_take, ← List.map_drop]
  have : (v.take 6).drop 4 = [v[4], v[5]] := by
    rw [List.drop_take, List.drop_eq_getElem_cons (by omega : 4 < v.length), List.drop_eq_getElem_cons h]
    rfl
  rw [this]
  rfl
attribute [local irreducible] LOps LCode LStep LCalls Go.GL.Pure QThen QBlock RetPost LQ LAny LLate LLateOp
section
variable {B0 : Nat} {w0 : World}
theorem double_spec (v : List Wd) (m : Nat) (hv : Small v) : LCalls (KC B0 w0) 28 [viewLV v m] [] (Ret (ruleLV (rDouble v))) := by
  have kj := jump_spec (B0 := B0) (w0 := w0) v m 4 hv (by omega)
  have ki := is_spec (B0 := B0) (w0 := w0) v m 0 [[49], [60], [49], [60]] hv (by omega) (by decide)
  have hF : rDouble v = if (jumpW v 4).isSome = true ∧ isW v 0 [[49], [60], [49], [60]] = true then (6, [wdAt v 4, wdAt v 5]) else (0, []) := by
    simp only [rDouble, isW, Bool.and_eq_true, decide_eq_true_eq, and_true]
  have hlen : ∀ l, jumpW v 4 = some l → 5 < v.length := fun l h => jumpW_lt h
  unfold viewLV at kj ki ⊢
  generalize jumpW v 4 = oj at kj hF hlen
  generalize isW v 0 [[49], [60], [49], [60]] = q at ki hF
  refine LCalls.intro Tryz.func28 rfl (n := 20) rfl rfl rfl ?_
  repeat first
    | refine LCode.seq ?_
    | refine LCode.region ?_
  refine LOps.step (S.box (cs := [.list (v.map str), .atom (.map (some m))]) rfl fun b1 => ?_) rfl
  repeat first
    | refine LOps.nil ?_
    | refine LCode.seq ?_
    | refine LCode.region ?_
    | refine QThen.normal ?_
    | refine LOps.pure (Pure.as (lv := .atom _) rfl) rfl ?_
    | refine LOps.pure (Pure.ldHAgg (cs' := [_, _]) rfl (List.Mem.head _) rfl rfl) rfl ?_
  refine LOps.step (S.fnIf [_, _] rfl kj ?_) rfl
  rintro lv ⟨s, rfl, hs⟩
  repeat first
    | refine LOps.nil ?_
    | refine LCode.seq ?_
    | refine LCode.region ?_
    | refine QThen.normal ?_
    | refine LOps.pure (Pure.as (lv := .atom _) rfl) rfl ?_
    | refine LOps.pure (Pure.mv (lv := .tuple _) rfl) rfl ?_
    | refine LOps.pure (Pure.extract (c := .atom _) rfl rfl) rfl ?_
    | refine LOps.pure (Pure.mv (lv := .atom _) rfl) rfl ?_
  cases oj with
  | none =>
    repeat first
      | refine LOps.nil ?_
      | refine QThen.normal ?_
      | refine LOps.pure (Pure.pickF (lv := .atom _) rfl rfl) rfl ?_
      | refine LOps.skip rfl rfl rfl rfl ?_
    refine LCode.cond rfl (fun h => ?_) (fun h => ?_)
    · cases h
    · repeat first
        | refine LOps.nil ?_
        | refine LCode.seq ?_
        | refine LCode.region ?_
        | refine LCode.skip ?_
        | refine LCode.ret ?_
        | refine QThen.normal ?_
        | refine LOps.pure (Pure.as (lv := .atom _) rfl) rfl ?_
      exact retRet rfl (AllRes.cons (ResIs.tmp (v := .atom _) rfl (LV.Sub.refl _)) (AllRes.cons (ResIs.tmp (v := nilSlice) rfl LV.Sub.nil) AllRes.nil)) (by rw [hF]; rfl)
  | some l =>
    have h5 := hlen l rfl
    repeat first
      | refine LOps.pure (Pure.ldHAgg (cs' := [_, _]) rfl (List.Mem.head _) rfl rfl) rfl ?_
      | refine LOps.want rfl rfl ?_
    refine LOps.step (S.lit [.const (.string { data := #[49] }), .const (.string { data := #[60] }), .const (.string { data := #[49] }), .const (.string { data := #[60] })] rfl (elemsOk.cons rfl rfl (elemsOk.cons rfl rfl (elemsOk.cons rfl rfl (elemsOk.cons rfl rfl elemsOk.nil)))) rfl rfl rfl ?_) rfl
    repeat first
      | refine LOps.want rfl rfl ?_
    refine LOps.step (S.fn [_, _, _] rfl ki ?_) rfl
    repeat first
      | refine LOps.nil ?_
      | refine QThen.normal ?_
      | refine LOps.pure (Pure.pickT (lv := .atom _) rfl rfl) rfl ?_
    refine LCode.cond rfl (fun h => ?_) (fun h => ?_)
    · have hq : q = true := h
      subst hq
      repeat first
        | refine LCode.seq ?_
      refine LCode.draw (m := 5) rfl [(b1, .cells 53 [.list (v.map str), .atom (.map (some m))])] ?_
      refine LAny.take (i := 0) (by first | exact HSub.nil _ | exact HSub.refl _ | exact HSub.drop (HSub.refl _) | exact HSub.pick Pick.here (HSub.nil _) | exact HSub.pick (Pick.there Pick.here) (HSub.nil _) | exact HSub.pick (Pick.there (Pick.there Pick.here)) (HSub.nil _)) rfl (by kernel_rfl) (by kernel_rfl) (by kernel_rfl) rfl (Pure.fieldH rfl) ?_
      refine LAny.take (i := 1) (by first | exact HSub.nil _ | exact HSub.refl _ | exact HSub.drop (HSub.refl _) | exact HSub.pick Pick.here (HSub.nil _) | exact HSub.pick (Pick.there Pick.here) (HSub.nil _) | exact HSub.pick (Pick.there (Pick.there Pick.here)) (HSub.nil _)) rfl (by kernel_rfl) (by kernel_rfl) (by kernel_rfl) rfl (Pure.loadH (c := .list _) rfl (List.Mem.head _) rfl) ?_
      refine LAny.take (i := 2) (HSub.refl _) rfl (by kernel_rfl) (by kernel_rfl) (by kernel_rfl) rfl (Pure.lslice (es := v.map str) (i := 4) (j := 6) rfl ⟨_, rfl⟩ ⟨_, rfl⟩ (by omega) (by omega) (by rw [List.length_map]; omega) (strs_len v)) ?_
      refine LAny.take (i := 3) (by first | exact HSub.nil _ | exact HSub.refl _ | exact HSub.drop (HSub.refl _) | exact HSub.pick Pick.here (HSub.nil _) | exact HSub.pick (Pick.there Pick.here) (HSub.nil _) | exact HSub.pick (Pick.there (Pick.there Pick.here)) (HSub.nil _)) rfl (by kernel_rfl) (by kernel_rfl) (by kernel_rfl) rfl (Pure.as (lv := .atom _) rfl) ?_
      refine LAny.take (i := 4) (by first | exact HSub.nil _ | exact HSub.refl _ | exact HSub.drop (HSub.refl _) | exact HSub.pick Pick.here (HSub.nil _) | exact HSub.pick (Pick.there Pick.here) (HSub.nil _) | exact HSub.pick (Pick.there (Pick.there Pick.here)) (HSub.nil _)) rfl (by kernel_rfl) (by kernel_rfl) (by kernel_rfl) rfl (Pure.as (lv := .list _) rfl) ?_
      refine LAny.late ?_ (HSub.refl _)
      refine LLate.done (by kernel_rfl) ?_
      repeat first
        | refine LCode.ret ?_
        | refine QThen.normal ?_
        | refine QThen.ret ?_
      exact retRet rfl (AllRes.cons (ResIs.tmp (v := .atom _) rfl (LV.Sub.refl _)) (AllRes.cons (ResIs.tmp (v := .list _) rfl (LV.Sub.refl _)) AllRes.nil)) (by rw [hF]; exact congrArg (fun x => LV.tuple [int .i64 6, .list x]) (take6_drop4 h5))
    · have hq : q = false := h
      subst hq
      repeat first
        | refine LOps.nil ?_
        | refine LCode.seq ?_
        | refine LCode.region ?_
        | refine LCode.skip ?_
        | refine LCode.ret ?_
        | refine QThen.normal ?_
        | refine LOps.pure (Pure.as (lv := .atom _) rfl) rfl ?_
      exact retRet rfl (AllRes.cons (ResIs.tmp (v := .atom _) rfl (LV.Sub.refl _)) (AllRes.cons (ResIs.tmp (v := nilSlice) rfl LV.Sub.nil) AllRes.nil)) (by rw [hF]; rfl)
end
end Go.Proofs.YtkjjenppmmipmaaGreatDoor
namespace Go.Proofs.YtkjjenppmmipmaaGreatDoor
open Go.GL Go.RowKit Go.Stele
set_option maxRecDepth 100000
set_option maxHeartbeats 4000000
attribute [local irreducible] LOps LCode LStep LCalls Go.GL.Pure QThen QBlock RetPost LQ LAny LLate LLateOp
section
variable {B0 : Nat} {w0 : World}
theorem regroup_spec (hG : GW B0 w0) (v : List Wd) (m : Nat) (hv : Small v) : LCalls (KC B0 w0) 26 [viewLV v m] [] (Ret (ruleLV (rRegroup v))) := by
  have k0 := word_spec (B0 := B0) (w0 := w0) v m 0 (by have := hv.1; omega)
  have k1 := word_spec (B0 := B0) (w0 := w0) v m 1 (by have := hv.1; omega)
  have k2 := word_spec (B0 := B0) (w0 := w0) v m 2 (by have := hv.1; omega)
  have k3 := word_spec (B0 := B0) (w0 := w0) v m 3 (by have := hv.1; omega)
  have kj := joined_spec hG (wdAt v 0) (wdAt v 1) (wdAt v 2) (hv.at 0) (hv.at 2)
  have hF : rRegroup v = if (wdAt v 1 = [43] ∨ wdAt v 1 = [42] ∨ wdAt v 1 = [94]) ∧ wdAt v 3 = wdAt v 1 then
    (match joinedW (wdAt v 0) (wdAt v 1) (wdAt v 2) with
    | some s => (4, [s, wdAt v 1])
    | none => (0, []))
  else (0, []) := rfl
  unfold viewLV at k0 k1 k2 k3 ⊢
  generalize joinedW (wdAt v 0) (wdAt v 1) (wdAt v 2) = o at kj hF
  generalize wdAt v 1 = b at k1 kj hF
  generalize wdAt v 3 = d at k3 hF
  refine LCalls.intro Tryz.func26 rfl (n := 38) rfl rfl rfl ?_
  repeat first
    | refine LCode.seq ?_
    | refine LCode.region ?_
  refine LOps.step (S.box (cs := [.list (v.map str), .atom (.map (some m))]) rfl fun b1 => ?_) rfl
  repeat first
    | refine LOps.nil ?_
    | refine LCode.seq ?_
    | refine LCode.region ?_
    | refine QThen.normal ?_
    | refine LOps.pure (Pure.as (lv := .atom _) rfl) rfl ?_
    | refine LOps.pure (Pure.ldHAgg (cs' := [_, _]) rfl (List.Mem.head _) rfl rfl) rfl ?_
  refine LOps.step (S.fn [_, _] rfl k1 ?_) rfl
  repeat first
    | refine LOps.nil ?_
    | refine LCode.seq ?_
    | refine LCode.region ?_
    | refine QThen.normal ?_
    | refine LOps.pure (Pure.as (lv := .atom _) rfl) rfl ?_
    | refine LOps.pure (Pure.mv (lv := .atom _) rfl) rfl ?_
    | refine LOps.pure (Pure.sneq rfl rfl) rfl ?_
  refine LOps.cut [(1, ptr b1 0), (4, str b), (24, bool (!decide ((b = [43] ∨ b = [42] ∨ b = [94]) ∧ d = b)))] ?_ (fun j hj => ?_)
  · refine LOps.bcase 11 rfl (fun h1 => ?_) (fun h1 => ?_)
    · have e1 : ¬ b = [43] := by simpa using h1
      repeat first
        | refine LOps.pure (Pure.mv (lv := .atom _) rfl) rfl ?_
        | refine LOps.pure (Pure.sneq rfl rfl) rfl ?_
        | refine LOps.pure (Pure.pickT (lv := .atom _) rfl rfl) rfl ?_
        | refine LOps.want rfl rfl ?_
      refine LOps.bcase 15 rfl (fun h2 => ?_) (fun h2 => ?_)
      · have e2 : ¬ b = [42] := by simpa using h2
        repeat first
          | refine LOps.pure (Pure.mv (lv := .atom _) rfl) rfl ?_
          | refine LOps.pure (Pure.sneq rfl rfl) rfl ?_
          | refine LOps.pure (Pure.pickT (lv := .atom _) rfl rfl) rfl ?_
          | refine LOps.want rfl rfl ?_
        refine LOps.bcase 19 rfl (fun h3 => ?_) (fun h3 => ?_)
        · have e3 : ¬ b = [94] := by simpa using h3
          repeat first
            | refine LOps.nil ?_
            | refine QThen.normal ?_
            | refine LOps.pure (Pure.pickT (lv := .atom _) rfl rfl) rfl ?_
            | refine LOps.skip rfl rfl rfl rfl ?_
          exact ⟨⟨rfl, rfl, bool_eq (by simp [e1, e2, e3]), trivial⟩, rfl, rfl⟩
        · have e3 : b = [94] := by simpa using h3
          repeat first
            | refine LOps.pure (Pure.ldHAgg (cs' := [_, _]) rfl (List.Mem.head _) rfl rfl) rfl ?_
            | refine LOps.want rfl rfl ?_
          refine LOps.step (S.fn [_, _] rfl k3 ?_) rfl
          repeat first
            | refine LOps.nil ?_
            | refine QThen.normal ?_
            | refine LOps.pure (Pure.mv (lv := .atom _) rfl) rfl ?_
            | refine LOps.pure (Pure.sneq rfl rfl) rfl ?_
            | refine LOps.pure (Pure.pickF (lv := .atom _) rfl rfl) rfl ?_
            | refine LOps.want rfl rfl ?_
          exact ⟨⟨rfl, rfl, bool_eq (by simp [e3]), trivial⟩, rfl, rfl⟩
      · have e2 : b = [42] := by simpa using h2
        repeat first
          | refine LOps.pure (Pure.ldHAgg (cs' := [_, _]) rfl (List.Mem.head _) rfl rfl) rfl ?_
          | refine LOps.pure (Pure.mv (lv := .atom _) rfl) rfl ?_
          | refine LOps.pure (Pure.pickF (lv := .atom _) rfl rfl) rfl ?_
          | refine LOps.want rfl rfl ?_
          | refine LOps.skip rfl rfl rfl rfl ?_
        refine LOps.step (S.fn [_, _] rfl k3 ?_) rfl
        repeat first
          | refine LOps.nil ?_
          | refine QThen.normal ?_
          | refine LOps.pure (Pure.mv (lv := .atom _) rfl) rfl ?_
          | refine LOps.pure (Pure.sneq rfl rfl) rfl ?_
          | refine LOps.pure (Pure.pickF (lv := .atom _) rfl rfl) rfl ?_
          | refine LOps.want rfl rfl ?_
        exact ⟨⟨rfl, rfl, bool_eq (by simp [e2]), trivial⟩, rfl, rfl⟩
    · have e1 : b = [43] := by simpa using h1
      repeat first
        | refine LOps.pure (Pure.ldHAgg (cs' := [_, _]) rfl (List.Mem.head _) rfl rfl) rfl ?_
        | refine LOps.pure (Pure.mv (lv := .atom _) rfl) rfl ?_
        | refine LOps.pure (Pure.pickF (lv := .atom _) rfl rfl) rfl ?_
        | refine LOps.want rfl rfl ?_
        | refine LOps.skip rfl rfl rfl rfl ?_
      refine LOps.step (S.fn [_, _] rfl k3 ?_) rfl
      repeat first
        | refine LOps.nil ?_
        | refine QThen.normal ?_
        | refine LOps.pure (Pure.mv (lv := .atom _) rfl) rfl ?_
        | refine LOps.pure (Pure.sneq rfl rfl) rfl ?_
        | refine LOps.pure (Pure.pickF (lv := .atom _) rfl rfl) rfl ?_
        | refine LOps.want rfl rfl ?_
      exact ⟨⟨rfl, rfl, bool_eq (by simp [e1]), trivial⟩, rfl, rfl⟩
  refine LCode.cond rfl (fun h => ?_) (fun h => ?_)
  · have hn : ¬ ((b = [43] ∨ b = [42] ∨ b = [94]) ∧ d = b) := of_decide_eq_false (Bool.not_eq_true' _ ▸ h)
    rw [if_neg hn] at hF
    repeat first
      | refine LOps.nil ?_
      | refine LCode.seq ?_
      | refine LCode.region ?_
      | refine LCode.ret ?_
      | refine QThen.normal ?_
      | refine QThen.ret ?_
      | refine LOps.pure (Pure.as (lv := .atom _) rfl) rfl ?_
    exact retRet hj (AllRes.cons (ResIs.tmp (v := .atom _) rfl (LV.Sub.refl _)) (AllRes.cons (ResIs.tmp (v := nilSlice) rfl LV.Sub.nil) AllRes.nil)) (by rw [hF]; rfl)
  · have hn : (b = [43] ∨ b = [42] ∨ b = [94]) ∧ d = b := by
      by_cases hc : (b = [43] ∨ b = [42] ∨ b = [94]) ∧ d = b
      · exact hc
      · rw [decide_eq_false hc] at h
        cases h
    rw [if_pos hn] at hF
    repeat first
      | refine LCode.seq ?_
      | refine LCode.skip ?_
      | refine QThen.normal ?_
    refine LCode.draw (m := 11) rfl [(b1, .cells 53 [.list (v.map str), .atom (.map (some m))])] ?_
    refine LAny.take (i := 0) (by first | exact HSub.nil _ | exact HSub.refl _ | exact HSub.drop (HSub.refl _) | exact HSub.pick Pick.here (HSub.nil _) | exact HSub.pick (Pick.there Pick.here) (HSub.nil _) | exact HSub.pick (Pick.there (Pick.there Pick.here)) (HSub.nil _)) rfl (by kernel_rfl) (by kernel_rfl) (by kernel_rfl) rfl (Pure.ldHAgg (cs' := [_, _]) rfl (List.Mem.head _) rfl rfl) ?_
    refine LAny.take (i := 2) (by first | exact HSub.nil _ | exact HSub.refl _ | exact HSub.drop (HSub.refl _) | exact HSub.pick Pick.here (HSub.nil _) | exact HSub.pick (Pick.there Pick.here) (HSub.nil _) | exact HSub.pick (Pick.there (Pick.there Pick.here)) (HSub.nil _)) rfl (by kernel_rfl) (by kernel_rfl) (by kernel_rfl) rfl (Pure.mv (lv := .atom _) rfl) ?_
    refine LAny.take (i := 3) (by first | exact HSub.nil _ | exact HSub.refl _ | exact HSub.drop (HSub.refl _) | exact HSub.pick Pick.here (HSub.nil _) | exact HSub.pick (Pick.there Pick.here) (HSub.nil _) | exact HSub.pick (Pick.there (Pick.there Pick.here)) (HSub.nil _)) rfl (by kernel_rfl) (by kernel_rfl) (by kernel_rfl) rfl (Pure.ldHAgg (cs' := [_, _]) rfl (List.Mem.head _) rfl rfl) ?_
    refine LAny.late ?_ (HSub.refl _)
    refine LLate.one (i := 1) (by kernel_rfl) (LLateOp.step (H1 := []) rfl (.inl rfl) rfl (List.Perm.refl _) (HSub.refl _) (S.fn [_, _] rfl k0 ?_))
    refine LLate.one (i := 4) (by kernel_rfl) (LLateOp.step (H1 := []) rfl (.inl rfl) rfl (List.Perm.refl _) (HSub.refl _) (S.fn [_, _] rfl k2 ?_))
    refine LLate.one (i := 5) (by kernel_rfl) (LLateOp.step (H1 := []) rfl (.inl rfl) rfl (List.Perm.refl _) (HSub.refl _) (S.fnIf [_, _, _] rfl kj ?_))
    rintro lv ⟨s, rfl, hs⟩
    refine LLate.any [(b1, .cells 53 [.list (v.map str), .atom (.map (some m))])] (fun _ h => h) ?_
    refine LAny.take (i := 6) (by first | exact HSub.nil _ | exact HSub.refl _ | exact HSub.drop (HSub.refl _) | exact HSub.pick Pick.here (HSub.nil _) | exact HSub.pick (Pick.there Pick.here) (HSub.nil _) | exact HSub.pick (Pick.there (Pick.there Pick.here)) (HSub.nil _)) rfl (by kernel_rfl) (by kernel_rfl) (by kernel_rfl) rfl (Pure.mv (lv := .tuple _) rfl) ?_
    refine LAny.take (i := 7) (by first | exact HSub.nil _ | exact HSub.refl _ | exact HSub.drop (HSub.refl _) | exact HSub.pick Pick.here (HSub.nil _) | exact HSub.pick (Pick.there Pick.here) (HSub.nil _) | exact HSub.pick (Pick.there (Pick.there Pick.here)) (HSub.nil _)) rfl (by kernel_rfl) (by kernel_rfl) (by kernel_rfl) rfl (Pure.extract (c := .atom _) rfl rfl) ?_
    refine LAny.take (i := 8) (by first | exact HSub.nil _ | exact HSub.refl _ | exact HSub.drop (HSub.refl _) | exact HSub.pick Pick.here (HSub.nil _) | exact HSub.pick (Pick.there Pick.here) (HSub.nil _) | exact HSub.pick (Pick.there (Pick.there Pick.here)) (HSub.nil _)) rfl (by kernel_rfl) (by kernel_rfl) (by kernel_rfl) rfl (Pure.extract (c := .atom _) rfl rfl) ?_
    refine LAny.take (i := 9) (by first | exact HSub.nil _ | exact HSub.refl _ | exact HSub.drop (HSub.refl _) | exact HSub.pick Pick.here (HSub.nil _) | exact HSub.pick (Pick.there Pick.here) (HSub.nil _) | exact HSub.pick (Pick.there (Pick.there Pick.here)) (HSub.nil _)) rfl (by kernel_rfl) (by kernel_rfl) (by kernel_rfl) rfl (Pure.as (lv := .atom _) rfl) ?_
    refine LAny.take (i := 10) (by first | exact HSub.nil _ | exact HSub.refl _ | exact HSub.drop (HSub.refl _) | exact HSub.pick Pick.here (HSub.nil _) | exact HSub.pick (Pick.there Pick.here) (HSub.nil _) | exact HSub.pick (Pick.there (Pick.there Pick.here)) (HSub.nil _)) rfl (by kernel_rfl) (by kernel_rfl) (by kernel_rfl) rfl (Pure.as (lv := .atom _) rfl) ?_
    refine LAny.late ?_ (HSub.refl _)
    refine LLate.done (by kernel_rfl) ?_
    repeat first
      | refine QThen.normal ?_
    repeat first
      | refine LOps.nil ?_
      | refine LCode.seq ?_
      | refine LCode.region ?_
      | refine QThen.normal ?_
      | refine LOps.pure (Pure.mv (lv := .atom _) rfl) rfl ?_
    refine LCode.cond rfl (fun h => ?_) (fun h => ?_)
    · obtain ⟨l, rfl⟩ := Option.isSome_iff_exists.1 h
      obtain rfl := hs l rfl
      repeat first
        | refine LCode.seq ?_
        | refine LCode.region ?_
        | refine LOps.pure (Pure.mv (lv := .atom _) rfl) rfl ?_
      refine LOps.step (S.lit [.tmp 35, .tmp 36] rfl (elemsOk.cons rfl rfl (elemsOk.cons rfl rfl elemsOk.nil)) rfl rfl rfl ?_) rfl
      repeat first
        | refine LOps.nil ?_
        | refine LCode.ret ?_
        | refine QThen.normal ?_
        | refine QThen.ret ?_
        | refine LOps.pure (Pure.as (lv := .atom _) rfl) rfl ?_
        | refine LOps.pure (Pure.as (lv := .list _) rfl) rfl ?_
      exact retRet hj (AllRes.cons (ResIs.tmp (v := .atom _) rfl (LV.Sub.refl _)) (AllRes.cons (ResIs.tmp (v := .list _) rfl (LV.Sub.refl _)) AllRes.nil)) (by rw [hF]; rfl)
    · obtain rfl : o = none := by
        cases o with
        | none => rfl
        | some l => cases h
      repeat first
        | refine LOps.nil ?_
        | refine LCode.seq ?_
        | refine LCode.region ?_
        | refine LCode.skip ?_
        | refine LCode.ret ?_
        | refine QThen.normal ?_
        | refine LOps.pure (Pure.as (lv := .atom _) rfl) rfl ?_
      exact retRet hj (AllRes.cons (ResIs.tmp (v := .atom _) rfl (LV.Sub.refl _)) (AllRes.cons (ResIs.tmp (v := nilSlice) rfl LV.Sub.nil) AllRes.nil)) (by rw [hF]; rfl)
end
end Go.Proofs.YtkjjenppmmipmaaGreatDoor
namespace Go.Proofs.YtkjjenppmmipmaaGreatDoor
open Go.GL Go.RowKit Go.Stele
set_option maxRecDepth 100000
set_option maxHeartbeats 4000000
theorem deadLen_stop {v : List Wd} {i : Nat} (h : v.length ≤ i) : deadLen (v.drop i) = 0 := by
  rw [List.drop_eq_nil_of_le h]
  rfl
theorem deadLen_def {v : List Wd} {i : Nat} (h : i < v.length) (hd : (defW v[i]).isSome = true) : deadLen (v.drop i) = 0 := by
  unfold deadLen
  rw [List.drop_eq_getElem_cons h, List.takeWhile_cons_of_neg (fun hc => absurd (show (defW v[i]).isNone = true from hc) (by
    cases hx : defW v[i] with
    | none => rw [hx] at hd; cases hd
    | some d => simp))]
  rfl
theorem deadLen_step {v : List Wd} {i : Nat} (h : i < v.length) (hd : (defW v[i]).isSome = false) : deadLen (v.drop i) = deadLen (v.drop (i + 1)) + 1 := by
  unfold deadLen
  rw [List.drop_eq_getElem_cons h, List.takeWhile_cons_of_pos (by simpa using hd)]
  rfl
theorem dead_is {v : List Wd} {n i : Nat} (hn : n = stopW v) (h0 : n = 0 → i = 0) (hi : n ≤ i) (hE : 0 < n → deadLen (v.drop n) = i - n) : rDead v = if n < i then (i, v.take n) else (0, []) := by
  unfold rDead
  rw [← hn]
  by_cases h : 0 < n
  · rw [hE h]
    by_cases hj : n < i
    · rw [if_pos ⟨h, by omega⟩, if_pos hj, show n + (i - n) = i by omega]
    · rw [if_neg (fun hc => hj (by omega)), if_neg hj]
  · rw [if_neg (fun hc => h hc.1), if_neg (by have := h0 (by omega); omega)]
attribute [local irreducible] LOps LCode LStep LCalls Go.GL.Pure QThen QBlock RetPost LQ LAny LLate LLateOp
section
variable {B0 : Nat} {w0 : World}
theorem dead_spec (v : List Wd) (m : Nat) (hv : Small v) : LCalls (KC B0 w0) 31 [viewLV v m] [] (Ret (ruleLV (rDead v))) := by
  have hla : (v.map str).length = v.length := List.length_map _
  have hl := hv.1
  have k0 := word_spec (B0 := B0) (w0 := w0) v m 0 (by have := hv.1; omega)
  have kj := jump_spec (B0 := B0) (w0 := w0) v m 1 hv (by omega)
  have hS : stopW v = if (jumpW v 1).isSome = true ∧ wdAt v 0 = [48] then 3 else if wdAt v 0 = [59] ∨ wdAt v 0 = [36] then 1 else 0 := rfl
  have hD := @dead_is v
  unfold viewLV at k0 kj ⊢
  generalize stopW v = n at hS hD
  generalize jumpW v 1 = oj at kj hS
  generalize wdAt v 0 = a at k0 hS
  have hn3 : n ≤ 3 := by
    rw [hS]
    split
    · omega
    · split <;> omega
  refine LCalls.intro Tryz.func31 rfl (n := 59) rfl rfl rfl ?_
  repeat first
    | refine LCode.seq ?_
    | refine LCode.region ?_
  refine LOps.step (S.box (cs := [.list (v.map str), .atom (.map (some m))]) rfl fun b1 => ?_) rfl
  repeat (first | refine LOps.nil ?_ | refine QThen.normal ?_ | refine LOps.pure (Pure.as (lv := .atom _) rfl) rfl ?_)
  refine LCode.seq ?_
  refine LCode.region ?_
  repeat (first | refine LOps.nil ?_ | refine QThen.normal ?_ | refine LOps.pure (Pure.as (lv := .atom _) rfl) rfl ?_)
  refine LCode.seq ?_
  refine LCode.cut [(1, ptr b1 0), (4, int .i64 (n : Nat))] ?_ (fun j hj => ?_)
  · repeat first
      | refine LCode.seq ?_
      | refine LCode.region ?_
      | refine LOps.pure (Pure.ldHAgg (cs' := [_, _]) rfl (List.Mem.head _) rfl rfl) rfl ?_
    refine LOps.step (S.fnIf [_, _] rfl kj ?_) rfl
    rintro lv ⟨s, rfl, hs⟩
    repeat first
      | refine LOps.nil ?_
      | refine LCode.seq ?_
      | refine LCode.region ?_
      | refine QThen.normal ?_
      | refine LOps.pure (Pure.as (lv := .atom _) rfl) rfl ?_
      | refine LOps.pure (Pure.mv (lv := .tuple _) rfl) rfl ?_
      | refine LOps.pure (Pure.extract (c := .atom _) rfl rfl) rfl ?_
      | refine LOps.pure (Pure.mv (lv := .atom _) rfl) rfl ?_
    refine LOps.cut [(1, ptr b1 0), (4, int .i64 0), (20, bool (decide (oj.isSome = true ∧ a = [48])))] ?_ (fun j2 hj2 => ?_)
    · cases oj with
      | none =>
        repeat first
          | refine LOps.nil ?_
          | refine QThen.normal ?_
          | refine LOps.pure (Pure.pickF (lv := .atom _) rfl rfl) rfl ?_
          | refine LOps.skip rfl rfl rfl rfl ?_
        exact ⟨⟨rfl, rfl, bool_eq (by simp), trivial⟩, rfl, rfl⟩
      | some l =>
        repeat first
          | refine LOps.pure (Pure.ldHAgg (cs' := [_, _]) rfl (List.Mem.head _) rfl rfl) rfl ?_
          | refine LOps.want rfl rfl ?_
        refine LOps.step (S.fn [_, _] rfl k0 ?_) rfl
        repeat first
          | refine LOps.nil ?_
          | refine QThen.normal ?_
          | refine LOps.pure (Pure.seq rfl rfl) rfl ?_
          | refine LOps.pure (Pure.pickT (lv := .atom _) rfl rfl) rfl ?_
          | refine LOps.want rfl rfl ?_
        exact ⟨⟨rfl, rfl, bool_eq (by simp), trivial⟩, rfl, rfl⟩
    refine LCode.cond rfl (fun h => ?_) (fun h => ?_)
    · rw [if_pos (of_decide_eq_true h)] at hS
      subst hS
      repeat first
        | refine LOps.nil ?_
        | refine LCode.region ?_
        | refine QThen.normal ?_
        | refine LOps.pure (Pure.as (lv := .atom _) rfl) rfl ?_
      exact ⟨⟨rfl, rfl, trivial⟩, rfl, hj2⟩
    · rw [if_neg (of_decide_eq_false h)] at hS
      repeat first
        | refine LCode.seq ?_
        | refine LCode.region ?_
        | refine LOps.pure (Pure.ldHAgg (cs' := [_, _]) rfl (List.Mem.head _) rfl rfl) rfl ?_
      refine LOps.step (S.fn [_, _] rfl k0 ?_) rfl
      repeat first
        | refine LOps.pure (Pure.mv (lv := .atom _) rfl) rfl ?_
        | refine LOps.pure (Pure.seq rfl rfl) rfl ?_
      refine LOps.cut [(1, ptr b1 0), (4, int .i64 0), (28, bool (decide (a = [59] ∨ a = [36])))] ?_ (fun j3 hj3 => ?_)
      · refine LOps.bcase 24 rfl (fun h1 => ?_) (fun h1 => ?_)
        · have e1 : a = [59] := of_decide_eq_true h1
          repeat first
            | refine LOps.nil ?_
            | refine QThen.normal ?_
            | refine LOps.pure (Pure.pickT (lv := .atom _) rfl rfl) rfl ?_
            | refine LOps.skip rfl rfl rfl rfl ?_
          exact ⟨⟨rfl, rfl, bool_eq (by simp [e1]), trivial⟩, rfl, rfl⟩
        · have e1 : ¬ a = [59] := of_decide_eq_false h1
          repeat first
            | refine LOps.pure (Pure.ldHAgg (cs' := [_, _]) rfl (List.Mem.head _) rfl rfl) rfl ?_
            | refine LOps.want rfl rfl ?_
          refine LOps.step (S.fn [_, _] rfl k0 ?_) rfl
          repeat first
            | refine LOps.nil ?_
            | refine QThen.normal ?_
            | refine LOps.pure (Pure.seq rfl rfl) rfl ?_
            | refine LOps.pure (Pure.pickF (lv := .atom _) rfl rfl) rfl ?_
            | refine LOps.want rfl rfl ?_
          exact ⟨⟨rfl, rfl, bool_eq (by simp [e1]), trivial⟩, rfl, rfl⟩
      refine LCode.cond rfl (fun h => ?_) (fun h => ?_)
      · rw [if_pos (of_decide_eq_true h)] at hS
        subst hS
        repeat first
          | refine LOps.nil ?_
          | refine LCode.region ?_
          | refine QThen.normal ?_
          | refine LOps.pure (Pure.as (lv := .atom _) rfl) rfl ?_
        exact ⟨⟨rfl, rfl, trivial⟩, rfl, hj3.trans hj2⟩
      · rw [if_neg (of_decide_eq_false h)] at hS
        subst hS
        repeat first
          | refine LCode.skip ?_
          | refine QThen.normal ?_
        exact ⟨⟨rfl, rfl, trivial⟩, rfl, hj3.trans hj2⟩
  repeat first
    | refine LOps.nil ?_
    | refine LCode.seq ?_
    | refine LCode.region ?_
    | refine LCode.block ?_
    | refine QThen.normal ?_
    | refine LOps.pure (Pure.as (lv := .atom _) rfl) rfl ?_
    | refine LOps.pure (Pure.mv (lv := .atom _) rfl) rfl ?_
  refine LCode.loopI (fun k ls H => ∃ i : Nat, n ≤ i ∧ (i ≤ v.length ∨ i = n) ∧ (n = 0 → i = 0) ∧ k = v.length + 4 - i ∧ ls = [(1, ptr b1 0), (4, int .i64 (n : Nat)), (7, int .i64 (i : Nat))] ∧ H = [(b1, .cells 53 [.list (v.map str), .atom (.map (some m))])] ∧ deadLen (v.drop n) = (i - n) + deadLen (v.drop i))
    ⟨_, _, _, ⟨n, Nat.le_refl _, Or.inr rfl, id, rfl, rfl, rfl, by omega⟩, ⟨rfl, rfl, rfl, trivial⟩, HSub.refl _⟩ ?_
  rintro k ls H ⟨i, hni, hi, h0, rfl, rfl, rfl, hE⟩ j1 hj1
  repeat first
    | refine LCode.seq ?_
    | refine LCode.region ?_
    | refine LOps.pure (Pure.mv (lv := .atom _) rfl) rfl ?_
    | refine LOps.pure (Pure.gtr rfl rfl) rfl ?_
  refine LOps.cut [(1, ptr b1 0), (4, int .i64 (n : Nat)), (7, int .i64 (i : Nat)), (38, bool (decide (0 < n ∧ i < v.length)))] ?_ (fun j2 hj2 => ?_)
  · refine LOps.bcase 32 rfl (fun h1 => ?_) (fun h1 => ?_)
    · have e1 : 0 < n := by have := of_decide_eq_true h1; omega
      repeat first
        | refine LOps.nil ?_
        | refine QThen.normal ?_
        | refine LOps.pure (Pure.mv (lv := .atom _) rfl) rfl ?_
        | refine LOps.pure (Pure.pickT (lv := .atom _) rfl rfl) rfl ?_
        | refine LOps.pure (Pure.fieldH rfl) rfl ?_
        | refine LOps.pure (Pure.loadH (c := .list _) rfl (List.Mem.head _) rfl) rfl ?_
        | refine LOps.pure (Pure.llen rfl) rfl ?_
        | refine LOps.pure (Pure.lss rfl rfl) rfl ?_
        | refine LOps.want rfl rfl ?_
      exact ⟨⟨rfl, rfl, rfl, bool_eq (by rw [decide_eq_decide]; omega), trivial⟩, rfl, rfl⟩
    · have e1 : ¬ 0 < n := by have := of_decide_eq_false h1; omega
      repeat first
        | refine LOps.nil ?_
        | refine QThen.normal ?_
        | refine LOps.pure (Pure.pickF (lv := .atom _) rfl rfl) rfl ?_
        | refine LOps.skip rfl rfl rfl rfl ?_
      exact ⟨⟨rfl, rfl, rfl, bool_eq (by simp [e1]), trivial⟩, rfl, rfl⟩
  refine LCode.cond rfl (fun h => ?_) (fun h => ?_)
  · obtain ⟨hn0, hlt⟩ := of_decide_eq_true h
    have kd := definition_spec (B0 := B0) (w0 := w0) v[i] (by have := hv.2 _ (List.getElem_mem hlt); omega)
    repeat first
      | refine LCode.seq ?_
      | refine LCode.region ?_
      | refine LCode.skip ?_
      | refine LCode.block ?_
      | refine QThen.normal ?_
      | refine LOps.pure (Pure.mv (lv := .atom _) rfl) rfl ?_
      | refine LOps.pure (Pure.fieldH rfl) rfl ?_
      | refine LOps.pure (Pure.loadH (c := .list _) rfl (List.Mem.head _) rfl) rfl ?_
    refine LOps.pure (Pure.ixRef (el' := str v[i]) (cs := [str v[i]]) rfl rfl (by omega) (map_get _ _ _ hlt) rfl rfl) rfl ?_
    repeat first
      | refine LOps.pure (Pure.loadRef (c := .atom _) rfl rfl) rfl ?_
    refine LOps.step (S.fnIf [_] rfl kd ?_) rfl
    rintro lv ⟨s, rfl, hs⟩
    repeat first
      | refine LOps.nil ?_
      | refine LCode.seq ?_
      | refine LCode.region ?_
      | refine QThen.normal ?_
      | refine LOps.pure (Pure.as (lv := .atom _) rfl) rfl ?_
      | refine LOps.pure (Pure.mv (lv := .tuple _) rfl) rfl ?_
      | refine LOps.pure (Pure.extract (c := .atom _) rfl rfl) rfl ?_
      | refine LOps.pure (Pure.mv (lv := .atom _) rfl) rfl ?_
    refine LCode.cond rfl (fun h2 => ?_) (fun h2 => ?_)
    · rw [deadLen_def hlt h2] at hE
      replace hD := hD rfl h0 hni (fun _ => by omega)
      repeat first
        | refine LOps.nil ?_
        | refine LCode.seq ?_
        | refine LCode.region ?_
        | refine LCode.exit ?_
        | refine QThen.normal ?_
        | refine QThen.exit ?_
        | refine QBlock.hit ?_
        | refine QBlock.miss (by decide) ?_
        | refine LOps.pure (Pure.mv (lv := .atom _) rfl) rfl ?_
        | refine LOps.pure (Pure.eql rfl rfl) rfl ?_
      refine LCode.cond rfl (fun h3 => ?_) (fun h3 => ?_)
      · have e3 : ¬ n < i := by have := of_decide_eq_true h3; omega
        rw [if_neg e3] at hD
        repeat first
          | refine LOps.nil ?_
          | refine LCode.seq ?_
          | refine LCode.region ?_
          | refine LCode.ret ?_
          | refine QThen.normal ?_
          | refine QThen.ret ?_
          | refine LOps.pure (Pure.as (lv := .atom _) rfl) rfl ?_
        exact retRet (hj2.trans (hj1.trans hj)) (AllRes.cons (ResIs.tmp (v := .atom _) rfl (LV.Sub.refl _)) (AllRes.cons (ResIs.tmp (v := nilSlice) rfl LV.Sub.nil) AllRes.nil)) (by rw [hD]; rfl)
      · have e3 : n < i := by have := of_decide_eq_false h3; omega
        rw [if_pos e3] at hD
        repeat first
          | refine LCode.seq ?_
          | refine LCode.skip ?_
          | refine QThen.normal ?_
        refine LCode.draw (m := 7) rfl [(b1, .cells 53 [.list (v.map str), .atom (.map (some m))])] ?_
        refine LAny.take (i := 0) (by first | exact HSub.nil _ | exact HSub.refl _ | exact HSub.drop (HSub.refl _) | exact HSub.pick Pick.here (HSub.nil _) | exact HSub.pick (Pick.there Pick.here) (HSub.nil _) | exact HSub.pick (Pick.there (Pick.there Pick.here)) (HSub.nil _)) rfl (by kernel_rfl) (by kernel_rfl) (by kernel_rfl) rfl (Pure.mv (lv := .atom _) rfl) ?_
        refine LAny.take (i := 1) (by first | exact HSub.nil _ | exact HSub.refl _ | exact HSub.drop (HSub.refl _) | exact HSub.pick Pick.here (HSub.nil _) | exact HSub.pick (Pick.there Pick.here) (HSub.nil _) | exact HSub.pick (Pick.there (Pick.there Pick.here)) (HSub.nil _)) rfl (by kernel_rfl) (by kernel_rfl) (by kernel_rfl) rfl (Pure.fieldH rfl) ?_
        refine LAny.take (i := 2) (by first | exact HSub.nil _ | exact HSub.refl _ | exact HSub.drop (HSub.refl _) | exact HSub.pick Pick.here (HSub.nil _) | exact HSub.pick (Pick.there Pick.here) (HSub.nil _) | exact HSub.pick (Pick.there (Pick.there Pick.here)) (HSub.nil _)) rfl (by kernel_rfl) (by kernel_rfl) (by kernel_rfl) rfl (Pure.loadH (c := .list _) rfl (List.Mem.head _) rfl) ?_
        refine LAny.take (i := 3) (by first | exact HSub.nil _ | exact HSub.refl _ | exact HSub.drop (HSub.refl _) | exact HSub.pick Pick.here (HSub.nil _) | exact HSub.pick (Pick.there Pick.here) (HSub.nil _) | exact HSub.pick (Pick.there (Pick.there Pick.here)) (HSub.nil _)) rfl (by kernel_rfl) (by kernel_rfl) (by kernel_rfl) rfl (Pure.mv (lv := .atom _) rfl) ?_
        refine LAny.take (i := 4) (HSub.refl _) rfl (by kernel_rfl) (by kernel_rfl) (by kernel_rfl) rfl (Pure.lslice (es := v.map str) (i := 0) (j := (n : Int)) rfl rfl ⟨_, rfl⟩ (by omega) (by omega) (by rw [hla]; omega) (strs_len v)) ?_
        refine LAny.take (i := 5) (by first | exact HSub.nil _ | exact HSub.refl _ | exact HSub.drop (HSub.refl _) | exact HSub.pick Pick.here (HSub.nil _) | exact HSub.pick (Pick.there Pick.here) (HSub.nil _) | exact HSub.pick (Pick.there (Pick.there Pick.here)) (HSub.nil _)) rfl (by kernel_rfl) (by kernel_rfl) (by kernel_rfl) rfl (Pure.as (lv := .atom _) rfl) ?_
        refine LAny.take (i := 6) (by first | exact HSub.nil _ | exact HSub.refl _ | exact HSub.drop (HSub.refl _) | exact HSub.pick Pick.here (HSub.nil _) | exact HSub.pick (Pick.there Pick.here) (HSub.nil _) | exact HSub.pick (Pick.there (Pick.there Pick.here)) (HSub.nil _)) rfl (by kernel_rfl) (by kernel_rfl) (by kernel_rfl) rfl (Pure.as (lv := .list _) rfl) ?_
        refine LAny.late ?_ (HSub.refl _)
        refine LLate.done (by kernel_rfl) ?_
        repeat first
          | refine LCode.ret ?_
          | refine QThen.normal ?_
        exact retRet (hj2.trans (hj1.trans hj)) (AllRes.cons (ResIs.tmp (v := .atom _) rfl (LV.Sub.refl _)) (AllRes.cons (ResIs.tmp (v := .list _) rfl (LV.Sub.refl _)) AllRes.nil)) (by rw [hD]; exact congrArg (fun x => LV.tuple [int .i64 (i : Nat), .list x]) List.map_take.symm)
    · rw [deadLen_step hlt (by simpa using h2)] at hE
      repeat first
        | refine LOps.nil ?_
        | refine LCode.region ?_
        | refine LCode.skip ?_
        | refine QThen.normal ?_
        | refine QBlock.normal ?_
        | refine LOps.pure (Pure.as (lv := .atom _) rfl) rfl ?_
        | refine LOps.pure (Pure.mv (lv := .atom _) rfl) rfl ?_
        | refine LOps.pure (Pure.add rfl rfl (by omega)) rfl ?_
      exact ⟨_, _, _, by omega, ⟨i + 1, by omega, Or.inl (by omega), by omega, rfl, rfl, rfl, by omega⟩, ⟨rfl, rfl, int_eq (by omega), trivial⟩, HSub.refl _, hj2.trans hj1⟩
  · have hc := of_decide_eq_false h
    replace hD := hD rfl h0 hni (fun h => by rw [deadLen_stop (v := v) (i := i) (by omega)] at hE; omega)
    repeat first
      | refine LOps.nil ?_
      | refine LCode.seq ?_
      | refine LCode.region ?_
      | refine LCode.exit ?_
      | refine QThen.normal ?_
      | refine QThen.exit ?_
      | refine QBlock.hit ?_
      | refine LOps.pure (Pure.mv (lv := .atom _) rfl) rfl ?_
      | refine LOps.pure (Pure.eql rfl rfl) rfl ?_
    refine LCode.cond rfl (fun h3 => ?_) (fun h3 => ?_)
    · have e3 : ¬ n < i := by have := of_decide_eq_true h3; omega
      rw [if_neg e3] at hD
      repeat first
        | refine LOps.nil ?_
        | refine LCode.seq ?_
        | refine LCode.region ?_
        | refine LCode.ret ?_
        | refine QThen.normal ?_
        | refine QThen.ret ?_
        | refine LOps.pure (Pure.as (lv := .atom _) rfl) rfl ?_
      exact retRet (hj2.trans (hj1.trans hj)) (AllRes.cons (ResIs.tmp (v := .atom _) rfl (LV.Sub.refl _)) (AllRes.cons (ResIs.tmp (v := nilSlice) rfl LV.Sub.nil) AllRes.nil)) (by rw [hD]; rfl)
    · have e3 : n < i := by have := of_decide_eq_false h3; omega
      rw [if_pos e3] at hD
      repeat first
        | refine LCode.seq ?_
        | refine LCode.skip ?_
        | refine QThen.normal ?_
      refine LCode.draw (m := 7) rfl [(b1, .cells 53 [.list (v.map str), .atom (.map (some m))])] ?_
      refine LAny.take (i := 0) (by first | exact HSub.nil _ | exact HSub.refl _ | exact HSub.drop (HSub.refl _) | exact HSub.pick Pick.here (HSub.nil _) | exact HSub.pick (Pick.there Pick.here) (HSub.nil _) | exact HSub.pick (Pick.there (Pick.there Pick.here)) (HSub.nil _)) rfl (by kernel_rfl) (by kernel_rfl) (by kernel_rfl) rfl (Pure.mv (lv := .atom _) rfl) ?_
      refine LAny.take (i := 1) (by first | exact HSub.nil _ | exact HSub.refl _ | exact HSub.drop (HSub.refl _) | exact HSub.pick Pick.here (HSub.nil _) | exact HSub.pick (Pick.there Pick.here) (HSub.nil _) | exact HSub.pick (Pick.there (Pick.there Pick.here)) (HSub.nil _)) rfl (by kernel_rfl) (by kernel_rfl) (by kernel_rfl) rfl (Pure.fieldH rfl) ?_
      refine LAny.take (i := 2) (by first | exact HSub.nil _ | exact HSub.refl _ | exact HSub.drop (HSub.refl _) | exact HSub.pick Pick.here (HSub.nil _) | exact HSub.pick (Pick.there Pick.here) (HSub.nil _) | exact HSub.pick (Pick.there (Pick.there Pick.here)) (HSub.nil _)) rfl (by kernel_rfl) (by kernel_rfl) (by kernel_rfl) rfl (Pure.loadH (c := .list _) rfl (List.Mem.head _) rfl) ?_
      refine LAny.take (i := 3) (by first | exact HSub.nil _ | exact HSub.refl _ | exact HSub.drop (HSub.refl _) | exact HSub.pick Pick.here (HSub.nil _) | exact HSub.pick (Pick.there Pick.here) (HSub.nil _) | exact HSub.pick (Pick.there (Pick.there Pick.here)) (HSub.nil _)) rfl (by kernel_rfl) (by kernel_rfl) (by kernel_rfl) rfl (Pure.mv (lv := .atom _) rfl) ?_
      refine LAny.take (i := 4) (HSub.refl _) rfl (by kernel_rfl) (by kernel_rfl) (by kernel_rfl) rfl (Pure.lslice (es := v.map str) (i := 0) (j := (n : Int)) rfl rfl ⟨_, rfl⟩ (by omega) (by omega) (by rw [hla]; omega) (strs_len v)) ?_
      refine LAny.take (i := 5) (by first | exact HSub.nil _ | exact HSub.refl _ | exact HSub.drop (HSub.refl _) | exact HSub.pick Pick.here (HSub.nil _) | exact HSub.pick (Pick.there Pick.here) (HSub.nil _) | exact HSub.pick (Pick.there (Pick.there Pick.here)) (HSub.nil _)) rfl (by kernel_rfl) (by kernel_rfl) (by kernel_rfl) rfl (Pure.as (lv := .atom _) rfl) ?_
      refine LAny.take (i := 6) (by first | exact HSub.nil _ | exact HSub.refl _ | exact HSub.drop (HSub.refl _) | exact HSub.pick Pick.here (HSub.nil _) | exact HSub.pick (Pick.there Pick.here) (HSub.nil _) | exact HSub.pick (Pick.there (Pick.there Pick.here)) (HSub.nil _)) rfl (by kernel_rfl) (by kernel_rfl) (by kernel_rfl) rfl (Pure.as (lv := .list _) rfl) ?_
      refine LAny.late ?_ (HSub.refl _)
      refine LLate.done (by kernel_rfl) ?_
      repeat first
        | refine LCode.ret ?_
        | refine QThen.normal ?_
      exact retRet (hj2.trans (hj1.trans hj)) (AllRes.cons (ResIs.tmp (v := .atom _) rfl (LV.Sub.refl _)) (AllRes.cons (ResIs.tmp (v := .list _) rfl (LV.Sub.refl _)) AllRes.nil)) (by rw [hD]; exact congrArg (fun x => LV.tuple [int .i64 (i : Nat), .list x]) List.map_take.symm)
end
end Go.Proofs.YtkjjenppmmipmaaGreatDoor
namespace Go.Proofs.YtkjjenppmmipmaaGreatDoor
open Go.GL Go.RowKit Go.Stele
/-- The nine rules' results, in the order in which a pass tries them. -/
def ruleL (used : Wd → Bool) (v : List Wd) : List RuleW := [rFold v, rNeutral v, rRegroup v, rSame v, rDouble v, rNever v, rNext v, rDead v, rUnused used v]
def firstR : List RuleW → RuleW
  | [] => (0, [])
  | r :: l => if r.1 ≠ 0 then r else firstR l
theorem unused_zero {used : Wd → Bool} {v : List Wd} (h : (rUnused used v).1 = 0) : rUnused used v = (0, []) := by
  unfold rUnused at h ⊢
  revert h
  cases defW (wdAt v 0) with
  | none => exact fun _ => rfl
  | some l =>
    intro h
    simp only at h ⊢
    by_cases hu : used l = true
    · rw [if_pos hu]
    · rw [if_neg hu] at h
      cases h
theorem ruleW_first (used : Wd → Bool) (v : List Wd) : ruleW used v = firstR (ruleL used v) := by
  have hz := @unused_zero used v
  unfold ruleW ruleL
  generalize rFold v = a1
  generalize rNeutral v = a2
  generalize rRegroup v = a3
  generalize rSame v = a4
  generalize rDouble v = a5
  generalize rNever v = a6
  generalize rNext v = a7
  generalize rDead v = a8
  generalize rUnused used v = a9 at hz
  simp only [firstR]
  by_cases h9 : a9.1 ≠ 0
  · rw [if_pos h9]
  · rw [if_neg h9, hz (Decidable.not_not.1 h9)]
theorem firstR_drop {l : List RuleW} {i : Nat} (h : i < l.length) : firstR (l.drop i) = if l[i].1 ≠ 0 then l[i] else firstR (l.drop (i + 1)) := by
  rw [List.drop_eq_getElem_cons h, firstR]
theorem firstR_end {l : List RuleW} {i : Nat} (h : l.length ≤ i) : firstR (l.drop i) = (0, []) := by
  rw [List.drop_eq_nil_of_le h]
  rfl
theorem ruleL_len (used : Wd → Bool) (v : List Wd) : (ruleL used v).length = 9 := rfl
/-- A pass over the words from k on, one step of it. -/
theorem onceF_nil (used : Wd → Bool) (f : Nat) : onceF used f [] = [] := by
  cases f <;> rfl
theorem onceF_cons (used : Wd → Bool) (f : Nat) (w : Wd) (r : List Wd) : onceF used (f + 1) (w :: r) = if (ruleW used (w :: r)).1 = 0 then w :: onceF used f r else (ruleW used (w :: r)).2 ++ onceF used f ((w :: r).drop (ruleW used (w :: r)).1) := rfl
/-- What the first loop has gathered after k words. -/
theorem usedW_take (l : List Wd) (k : Nat) (h : k < l.length) (s : Wd) : usedW (l.take (k + 1)) s = (usedW (l.take k) s || decide (refW l[k] = some s)) := by
  unfold usedW
  rw [List.take_succ_eq_append_getElem h, List.any_append]
  simp
end Go.Proofs.YtkjjenppmmipmaaGreatDoor
namespace Go.GL
variable {C : Ctx} {dst : Option Nat} {ty : TypeId} {pos : String} {aft : Array Edge} {g : Option (Nat × Bool)} {e : Env} {H : Heap} {K : LV → Heap → Prop} {X : List PanicEntry → Heap → Prop}
open Go.Stele
theorem exec_put (ρ : Operand → Value) (t : TypeId) (m x z : Operand) : execOp ρ ⟨dst, .mapUpdate t m x z, ty, pos, aft, g⟩ = execOp ρ ⟨dst, .insert t m x z, ty, pos, aft, g⟩ := rfl
theorem S.setPut {t kt el : TypeId} (ht : C.P.underlying t = some (.map kt el)) (hkt : C.P.underlying kt = some .string) {b clock : Nat} {es : Array MapEntry} {p : List UInt8 → Bool} {F : Heap} {m z : Operand} {x : Operand} {k : List UInt8} (hm : e.ev m = .atom (.map (some b))) (hx : e.ev x = str k) (hz : e.ev z = bool true)
    (hp : Pick (b, .obj (.map es clock)) H F) (hs : SetMap es p) (hk : ∀ es' clock', SetMap es' (fun s => p s || decide (s = k)) → K (.atom undef) ((b, .obj (.map es' clock')) :: F)) : LStep C ⟨dst, .mapUpdate t m x z, ty, pos, aft, g⟩ e H K X :=
  fun ρ w L h hH => (S.setAdd (dst := dst) (ty := ty) (pos := pos) (aft := aft) (g := g) (X := X) ht hkt hm hx hz hp hs hk) ρ w L h hH
end Go.GL
namespace Go.Proofs.YtkjjenppmmipmaaGreatDoor
open Go.GL Go.RowKit Go.Stele
set_option maxRecDepth 100000
set_option maxHeartbeats 4000000
attribute [local irreducible] LOps LCode LStep LCalls Go.GL.Pure QThen QBlock RetPost LQ LAny LLate LLateOp
theorem strs_ok (l : List Wd) : ((l.map str).flatMap LV.cells).all cellOk = true := by
  induction l with
  | nil => rfl
  | cons a l ih =>
    rw [List.map_cons, List.flatMap_cons, List.all_append, ih]
    rfl
theorem tail_list (l : List Wd) (i : Nat) : ((l.map str).take (((l.map str).length : Nat) : Int).toNat).drop ((i : Nat) : Int).toNat = (l.drop i).map str := by
  rw [Int.toNat_natCast, Int.toNat_natCast, List.take_length, List.map_drop]
theorem acc_perm1 {s : Nat} {v : LV} {es : List LV} {H : Heap} {q : Nat × LObj} (h : Acc s v es H [q]) : ∃ F, H.Perm ([q] ++ F) := by
  cases h with
  | nil => exact ⟨[], List.Perm.refl _⟩
  | row => exact ⟨[_], List.Perm.swap ..⟩
theorem Small.drop {l : List Wd} (h : Small l) (i : Nat) : Small (l.drop i) :=
  ⟨by have := h.1; rw [List.length_drop]; omega, fun w hw => h.2 w (List.mem_of_mem_drop hw)⟩
/-- The nine rules, as a pass holds them. -/
def fnLV (k : Nat) : LV := .atom (.func (.func (24 + k)) #[] #[])
section
variable {B0 : Nat} {w0 : World}
theorem once_spec (hG : GW B0 w0) (l : List Wd) (hv : Small l) : LCalls (KC B0 w0) 11 [.list (l.map str)] [] (Ret (.list ((onceP l).map str))) := by
  have hla : (l.map str).length = l.length := List.length_map _
  have hl := hv.1
  refine LCalls.intro Tryz.func11 rfl (n := 73) rfl rfl rfl ?_
  repeat first
    | refine LOps.nil ?_
    | refine LCode.seq ?_
    | refine LCode.region ?_
    | refine QThen.normal ?_
    | refine LOps.pure (Pure.as (lv := .atom _) rfl) rfl ?_
  refine LOps.step (S.makeMap fun m => ?_) rfl
  repeat first
    | refine LOps.nil ?_
    | refine LCode.seq ?_
    | refine LCode.region ?_
    | refine LCode.block ?_
    | refine QThen.normal ?_
    | refine LOps.pure (Pure.as (lv := .atom _) rfl) rfl ?_
    | refine LOps.pure (Pure.mv (lv := .list _) rfl) rfl ?_
    | refine LOps.pure (Pure.mv (lv := .atom _) rfl) rfl ?_
    | refine LOps.pure (Pure.llen rfl) rfl ?_
  refine LCode.loopI (fun k ls H => ∃ (i : Nat) (es : Array MapEntry) (clock : Nat), i ≤ l.length ∧ k = l.length - i ∧ ls = [(0, .list (l.map str)), (3, .atom (.map (some m))), (17, .list (l.map str)), (18, int .i64 l.length), (19, int .i64 (i : Nat))] ∧ H = [(m, .obj (.map es clock))] ∧ SetMap es (usedW (l.take i)))
    ⟨_, _, _, ⟨0, #[], 0, Nat.zero_le _, rfl, rfl, rfl, SetMap.nil⟩, ⟨rfl, rfl, rfl, int_eq (by omega), rfl, trivial⟩, HSub.refl _⟩ ?_
  rintro k ls H ⟨i, es, clock, hi, rfl, rfl, rfl, hM⟩ j1 hj1
  repeat first
    | refine LOps.nil ?_
    | refine LCode.seq ?_
    | refine LCode.region ?_
    | refine QThen.normal ?_
    | refine LOps.pure (Pure.lss rfl rfl) rfl ?_
  refine LCode.cond rfl (fun hc => ?_) (fun hc => ?_)
  · have hlt : i < l.length := by have := of_decide_eq_true hc; omega
    have kr := reference_spec (B0 := B0) (w0 := w0) l[i] (by have := hv.2 _ (List.getElem_mem hlt); omega)
    have hU : usedW (l.take (i + 1)) = fun s => usedW (l.take i) s || decide (refW l[i] = some s) := funext fun s => usedW_take l i hlt s
    repeat first
      | refine LCode.seq ?_
      | refine LCode.region ?_
      | refine LCode.skip ?_
      | refine LCode.block ?_
      | refine QThen.normal ?_
    refine LOps.pure (Pure.ixRef (el' := str l[i]) (cs := [str l[i]]) rfl rfl (by omega) (map_get _ _ _ hlt) rfl rfl) rfl ?_
    repeat first
      | refine LOps.nil ?_
      | refine LCode.seq ?_
      | refine LCode.region ?_
      | refine QThen.normal ?_
      | refine LOps.pure (Pure.as (lv := .atom _) rfl) rfl ?_
      | refine LOps.pure (Pure.mv (lv := .atom _) rfl) rfl ?_
      | refine LOps.pure (Pure.loadRef (c := .atom _) rfl rfl) rfl ?_
    refine LOps.step (S.fnIf [_] rfl kr ?_) rfl
    rintro lv ⟨s, rfl, hs⟩
    repeat first
      | refine LOps.nil ?_
      | refine LCode.seq ?_
      | refine LCode.region ?_
      | refine QThen.normal ?_
      | refine LOps.pure (Pure.as (lv := .atom _) rfl) rfl ?_
      | refine LOps.pure (Pure.mv (lv := .atom _) rfl) rfl ?_
      | refine LOps.pure (Pure.mv (lv := .tuple _) rfl) rfl ?_
      | refine LOps.pure (Pure.extract (c := .atom _) rfl rfl) rfl ?_
    refine LCode.cond rfl (fun h => ?_) (fun h => ?_)
    · obtain ⟨d, hd⟩ := Option.isSome_iff_exists.1 h
      obtain rfl := hs d hd
      repeat first
        | refine LCode.region ?_
        | refine LOps.pure (Pure.mv (lv := .atom _) rfl) rfl ?_
      refine LOps.step (S.setPut (t := 45) (kt := 9) (el := 4) (by kernel_rfl) (by kernel_rfl) rfl rfl rfl Pick.here hM fun es' clock' hM' => ?_) rfl
      repeat first
        | refine LOps.nil ?_
        | refine LCode.region ?_
        | refine QThen.normal ?_
        | refine QBlock.normal ?_
        | refine LOps.pure (Pure.mv (lv := .atom _) rfl) rfl ?_
        | refine LOps.pure (Pure.add rfl rfl (by omega)) rfl ?_
      exact ⟨_, _, _, by omega, ⟨i + 1, es', clock', by omega, rfl, rfl, rfl, by
        rw [hU, hd]
        exact cast (by congr; funext x; simp [eq_comm]) hM'⟩, ⟨rfl, rfl, rfl, rfl, int_eq (by omega), trivial⟩, HSub.refl _, hj1⟩
    · have hn : refW l[i] = none := by
        cases ho : refW l[i] with
        | none => rfl
        | some d => rw [ho] at h; cases h
      repeat first
        | refine LOps.nil ?_
        | refine LCode.region ?_
        | refine LCode.skip ?_
        | refine QThen.normal ?_
        | refine QBlock.normal ?_
        | refine LOps.pure (Pure.mv (lv := .atom _) rfl) rfl ?_
        | refine LOps.pure (Pure.add rfl rfl (by omega)) rfl ?_
      exact ⟨_, _, _, by omega, ⟨i + 1, es, clock, by omega, rfl, rfl, rfl, by
        rw [hU, hn]
        exact cast (by congr; funext x; simp) hM⟩, ⟨rfl, rfl, rfl, rfl, int_eq (by omega), trivial⟩, HSub.refl _, hj1⟩
  · have hi' : i = l.length := by have := of_decide_eq_false hc; omega
    subst hi'
    rw [List.take_length] at hM
    repeat first
      | refine LCode.seq ?_
      | refine LCode.region ?_
      | refine LCode.exit ?_
      | refine QThen.normal ?_
      | refine QThen.exit ?_
      | refine QBlock.hit ?_
    refine LOps.step (S.lit [.func 24, .func 25, .func 26, .func 27, .func 28, .func 29, .func 30, .func 31, .func 32] rfl (elemsOk.cons rfl rfl (elemsOk.cons rfl rfl (elemsOk.cons rfl rfl (elemsOk.cons rfl rfl (elemsOk.cons rfl rfl (elemsOk.cons rfl rfl (elemsOk.cons rfl rfl (elemsOk.cons rfl rfl (elemsOk.cons rfl rfl elemsOk.nil))))))))) rfl rfl rfl ?_) rfl
    repeat first
      | refine LOps.nil ?_
      | refine LCode.seq ?_
      | refine LCode.region ?_
      | refine LCode.block ?_
      | refine QThen.normal ?_
      | refine LOps.pure (Pure.as (lv := .list _) rfl) rfl ?_
      | refine LOps.pure (Pure.as (lv := .atom _) rfl) rfl ?_
    refine LCode.loopI (fun k ls H => ∃ (i f : Nat) (out : List Wd) (v : LV), i ≤ l.length ∧ k = l.length - i ∧ ls = [(0, .list (l.map str)), (3, .atom (.map (some m))), (8, .list ((List.range 9).map fnLV)), (9, v), (10, int .i64 (i : Nat))] ∧ Acc 1 v (out.map str) H [(m, .obj (.map es clock))] ∧ l.length - i ≤ f ∧ out.length ≤ i ∧ out ++ onceF (usedW l) f (l.drop i) = onceP l)
      ⟨_, _, _, ⟨0, l.length, [], nilSlice, Nat.zero_le _, rfl, rfl, Acc.nil, by omega, Nat.zero_le _, rfl⟩, ⟨rfl, rfl, rfl, rfl, rfl, trivial⟩, HSub.refl _⟩ ?_
    rintro k ls H ⟨i, f, out, v, hi, rfl, rfl, hacc, hf, hlen, hE⟩ j2 hj2
    have hol : (out.map str).length = out.length := List.length_map _
    repeat first
      | refine LOps.nil ?_
      | refine LCode.seq ?_
      | refine LCode.region ?_
      | refine QThen.normal ?_
      | refine LOps.pure (Pure.mv (lv := .list _) rfl) rfl ?_
      | refine LOps.pure (Pure.mv (lv := .atom _) rfl) rfl ?_
      | refine LOps.pure (Pure.llen rfl) rfl ?_
      | refine LOps.pure (Pure.lss rfl rfl) rfl ?_
    refine LCode.cond rfl (fun hc => ?_) (fun hc => ?_)
    · have hlt : i < l.length := by have := of_decide_eq_true hc; omega
      obtain ⟨f, rfl⟩ : ∃ g, f = g + 1 := ⟨f - 1, by omega⟩
      have hR : (ruleW (usedW l) (l.drop i)).1 ≠ 0 → (ruleW (usedW l) (l.drop i)).1 ≤ (l.drop i).length ∧ (ruleW (usedW l) (l.drop i)).2.length < (ruleW (usedW l) (l.drop i)).1 := rule_ok (usedW l) (l.drop i)
      have hF := ruleW_first (usedW l) (l.drop i)
      have hl9 := ruleL_len (usedW l) (l.drop i)
      rw [List.drop_eq_getElem_cons hlt, onceF_cons, ← List.drop_eq_getElem_cons hlt, List.drop_drop] at hE
      have hdl : (l.drop i).length = l.length - i := List.length_drop
      repeat (first | refine LOps.nil ?_ | refine QThen.normal ?_ | refine LCode.skip ?_ | refine LCode.block ?_)
      refine LCode.seq ?_
      repeat (first | refine LOps.nil ?_ | refine QThen.normal ?_ | refine LCode.region ?_ | refine LOps.pure (Pure.as (lv := .atom _) rfl) rfl ?_)
      refine LCode.seq ?_
      refine LCode.midC (A := Nat × List Wd × LV × Heap) (fun a => [(0, .list (l.map str)), (3, .atom (.map (some m))), (8, .list ((List.range 9).map fnLV)), (9, a.2.2.1), (10, int .i64 (i : Nat)), (11, int .i64 a.1)]) (fun a => a.2.2.2)
        (fun a => a.1 = (ruleW (usedW l) (l.drop i)).1 ∧ a.2.1 = (if (ruleW (usedW l) (l.drop i)).1 = 0 then out else out ++ (ruleW (usedW l) (l.drop i)).2) ∧ Acc 1 a.2.2.1 (a.2.1.map str) a.2.2.2 [(m, .obj (.map es clock))]) ?_ ?_
      · repeat first
          | refine LOps.nil ?_
          | refine LCode.seq ?_
          | refine LCode.region ?_
          | refine LCode.block ?_
          | refine QThen.normal ?_
          | refine LOps.pure (Pure.mv (lv := .list _) rfl) rfl ?_
          | refine LOps.pure (Pure.mv (lv := .atom _) rfl) rfl ?_
          | refine LOps.pure (Pure.llen rfl) rfl ?_
        refine LCode.loopI (fun k ls H1 => ∃ x : Nat, x ≤ 9 ∧ k = 9 - x ∧ ls = [(0, .list (l.map str)), (3, .atom (.map (some m))), (8, .list ((List.range 9).map fnLV)), (9, v), (10, int .i64 (i : Nat)), (11, int .i64 0), (37, .list ((List.range 9).map fnLV)), (38, int .i64 9), (39, int .i64 (x : Nat))] ∧ H1 = H ∧ ruleW (usedW l) (l.drop i) = firstR ((ruleL (usedW l) (l.drop i)).drop x)) ?_ ?_
        · exact ⟨_, _, _, ⟨0, Nat.zero_le _, rfl, rfl, rfl, hF⟩, ⟨rfl, rfl, rfl, rfl, rfl, rfl, rfl, rfl, rfl, trivial⟩, HSub.refl _⟩
        rintro k ls H1 ⟨x, hx, rfl, rfl, rfl, hX⟩ j3 hj3
        repeat first
          | refine LOps.nil ?_
          | refine LCode.seq ?_
          | refine LCode.region ?_
          | refine QThen.normal ?_
          | refine LOps.pure (Pure.lss rfl rfl) rfl ?_
        refine LCode.cond rfl (fun hc => ?_) (fun hc => ?_)
        · have hx9 : x < 9 := by have := of_decide_eq_true hc; omega
          rw [firstR_drop (by omega)] at hX
          repeat first
            | refine LCode.seq ?_
            | refine LCode.region ?_
            | refine LCode.skip ?_
            | refine LCode.block ?_
            | refine QThen.normal ?_
          refine LOps.pure (Pure.ixRef (el' := fnLV x) (cs := [fnLV x]) rfl rfl (by omega) (by
            have := map_get fnLV (List.range 9) x (by simpa using hx9)
            rw [List.getElem_range] at this
            exact this) rfl rfl) rfl ?_
          repeat first
            | refine LOps.nil ?_
            | refine LCode.seq ?_
            | refine LCode.region ?_
            | refine QThen.normal ?_
            | refine LOps.pure (Pure.as (lv := .atom _) rfl) rfl ?_
            | refine LOps.pure (Pure.mv (lv := .list _) rfl) rfl ?_
            | refine LOps.pure (Pure.mv (lv := .atom _) rfl) rfl ?_
            | refine LOps.pure (Pure.loadRef (c := .atom _) rfl rfl) rfl ?_
          refine LOps.pure (show Go.GL.Pure _ _ _ _ (.list ((l.drop i).map str)) from tail_list l i ▸ Pure.lslice (es := l.map str) (i := ((i : Nat) : Int)) (j := (((l.map str).length : Nat) : Int)) rfl ⟨_, rfl⟩ rfl (by omega) (by omega) (by omega) (strs_len l)) rfl ?_
          repeat first
            | refine LOps.pure (Pure.mv (lv := .atom _) rfl) rfl ?_
            | refine LOps.pure (Pure.bld _ (cs := [_, _]) rfl) rfl ?_
          have hv' := hv.drop i
          have hxl : x < (ruleL (usedW l) (l.drop i)).length := by omega
          generalize hr : (ruleL (usedW l) (l.drop i))[x] = r at hX
          refine LOps.cut [(0, .list (l.map str)), (3, .atom (.map (some m))), (8, .list ((List.range 9).map fnLV)), (9, v), (10, int .i64 (i : Nat)), (11, int .i64 0), (14, int .i64 (r.1 : Nat)), (15, .list (r.2.map str)), (37, .list ((List.range 9).map fnLV)), (38, int .i64 9), (39, int .i64 (x : Nat))] ?_ (fun j4 hj4 => ?_)
          · clear hX
            have h9 : x = 0 ∨ x = 1 ∨ x = 2 ∨ x = 3 ∨ x = 4 ∨ x = 5 ∨ x = 6 ∨ x = 7 ∨ x = 8 := by omega
            rcases h9 with rfl | rfl | rfl | rfl | rfl | rfl | rfl | rfl | rfl
            · obtain rfl : rFold (l.drop i) = r := hr
              refine LOps.step (S.fnV (f := 24) [_] rfl rfl (fold_spec hG (l.drop i) m hv') ?_) rfl
              repeat first
                | refine LOps.nil ?_
                | refine QThen.normal ?_
                | refine LOps.pure (Pure.as (lv := .list _) rfl) rfl ?_
                | refine LOps.pure (Pure.as (lv := .atom _) rfl) rfl ?_
                | refine LOps.pure (Pure.mv (lv := .tuple _) rfl) rfl ?_
                | refine LOps.pure (Pure.extract (c := .atom _) rfl rfl) rfl ?_
                | refine LOps.pure (Pure.extract (c := .list _) rfl rfl) rfl ?_
              exact ⟨⟨rfl, rfl, rfl, rfl, rfl, rfl, rfl, rfl, rfl, rfl, rfl, trivial⟩, rfl, rfl⟩
            · obtain rfl : rNeutral (l.drop i) = r := hr
              refine LOps.step (S.fnV (f := 25) [_] rfl rfl (neutral_spec (B0 := B0) (w0 := w0) (l.drop i) m hv') ?_) rfl
              repeat first
                | refine LOps.nil ?_
                | refine QThen.normal ?_
                | refine LOps.pure (Pure.as (lv := .list _) rfl) rfl ?_
                | refine LOps.pure (Pure.as (lv := .atom _) rfl) rfl ?_
                | refine LOps.pure (Pure.mv (lv := .tuple _) rfl) rfl ?_
                | refine LOps.pure (Pure.extract (c := .atom _) rfl rfl) rfl ?_
                | refine LOps.pure (Pure.extract (c := .list _) rfl rfl) rfl ?_
              exact ⟨⟨rfl, rfl, rfl, rfl, rfl, rfl, rfl, rfl, rfl, rfl, rfl, trivial⟩, rfl, rfl⟩
            · obtain rfl : rRegroup (l.drop i) = r := hr
              refine LOps.step (S.fnV (f := 26) [_] rfl rfl (regroup_spec hG (l.drop i) m hv') ?_) rfl
              repeat first
                | refine LOps.nil ?_
                | refine QThen.normal ?_
                | refine LOps.pure (Pure.as (lv := .list _) rfl) rfl ?_
                | refine LOps.pure (Pure.as (lv := .atom _) rfl) rfl ?_
                | refine LOps.pure (Pure.mv (lv := .tuple _) rfl) rfl ?_
                | refine LOps.pure (Pure.extract (c := .atom _) rfl rfl) rfl ?_
                | refine LOps.pure (Pure.extract (c := .list _) rfl rfl) rfl ?_
              exact ⟨⟨rfl, rfl, rfl, rfl, rfl, rfl, rfl, rfl, rfl, rfl, rfl, trivial⟩, rfl, rfl⟩
            · obtain rfl : rSame (l.drop i) = r := hr
              refine LOps.step (S.fnV (f := 27) [_] rfl rfl (same_spec hG (l.drop i) m hv') ?_) rfl
              repeat first
                | refine LOps.nil ?_
                | refine QThen.normal ?_
                | refine LOps.pure (Pure.as (lv := .list _) rfl) rfl ?_
                | refine LOps.pure (Pure.as (lv := .atom _) rfl) rfl ?_
                | refine LOps.pure (Pure.mv (lv := .tuple _) rfl) rfl ?_
                | refine LOps.pure (Pure.extract (c := .atom _) rfl rfl) rfl ?_
                | refine LOps.pure (Pure.extract (c := .list _) rfl rfl) rfl ?_
              exact ⟨⟨rfl, rfl, rfl, rfl, rfl, rfl, rfl, rfl, rfl, rfl, rfl, trivial⟩, rfl, rfl⟩
            · obtain rfl : rDouble (l.drop i) = r := hr
              refine LOps.step (S.fnV (f := 28) [_] rfl rfl (double_spec (B0 := B0) (w0 := w0) (l.drop i) m hv') ?_) rfl
              repeat first
                | refine LOps.nil ?_
                | refine QThen.normal ?_
                | refine LOps.pure (Pure.as (lv := .list _) rfl) rfl ?_
                | refine LOps.pure (Pure.as (lv := .atom _) rfl) rfl ?_
                | refine LOps.pure (Pure.mv (lv := .tuple _) rfl) rfl ?_
                | refine LOps.pure (Pure.extract (c := .atom _) rfl rfl) rfl ?_
                | refine LOps.pure (Pure.extract (c := .list _) rfl rfl) rfl ?_
              exact ⟨⟨rfl, rfl, rfl, rfl, rfl, rfl, rfl, rfl, rfl, rfl, rfl, trivial⟩, rfl, rfl⟩
            · obtain rfl : rNever (l.drop i) = r := hr
              refine LOps.step (S.fnV (f := 29) [_] rfl rfl (never_spec hG (l.drop i) m hv') ?_) rfl
              repeat first
                | refine LOps.nil ?_
                | refine QThen.normal ?_
                | refine LOps.pure (Pure.as (lv := .list _) rfl) rfl ?_
                | refine LOps.pure (Pure.as (lv := .atom _) rfl) rfl ?_
                | refine LOps.pure (Pure.mv (lv := .tuple _) rfl) rfl ?_
                | refine LOps.pure (Pure.extract (c := .atom _) rfl rfl) rfl ?_
                | refine LOps.pure (Pure.extract (c := .list _) rfl rfl) rfl ?_
              exact ⟨⟨rfl, rfl, rfl, rfl, rfl, rfl, rfl, rfl, rfl, rfl, rfl, trivial⟩, rfl, rfl⟩
            · obtain rfl : rNext (l.drop i) = r := hr
              refine LOps.step (S.fnV (f := 30) [_] rfl rfl (next_spec (B0 := B0) (w0 := w0) (l.drop i) m hv') ?_) rfl
              repeat first
                | refine LOps.nil ?_
                | refine QThen.normal ?_
                | refine LOps.pure (Pure.as (lv := .list _) rfl) rfl ?_
                | refine LOps.pure (Pure.as (lv := .atom _) rfl) rfl ?_
                | refine LOps.pure (Pure.mv (lv := .tuple _) rfl) rfl ?_
                | refine LOps.pure (Pure.extract (c := .atom _) rfl rfl) rfl ?_
                | refine LOps.pure (Pure.extract (c := .list _) rfl rfl) rfl ?_
              exact ⟨⟨rfl, rfl, rfl, rfl, rfl, rfl, rfl, rfl, rfl, rfl, rfl, trivial⟩, rfl, rfl⟩
            · obtain rfl : rDead (l.drop i) = r := hr
              refine LOps.step (S.fnV (f := 31) [_] rfl rfl (dead_spec (B0 := B0) (w0 := w0) (l.drop i) m hv') ?_) rfl
              repeat first
                | refine LOps.nil ?_
                | refine QThen.normal ?_
                | refine LOps.pure (Pure.as (lv := .list _) rfl) rfl ?_
                | refine LOps.pure (Pure.as (lv := .atom _) rfl) rfl ?_
                | refine LOps.pure (Pure.mv (lv := .tuple _) rfl) rfl ?_
                | refine LOps.pure (Pure.extract (c := .atom _) rfl rfl) rfl ?_
                | refine LOps.pure (Pure.extract (c := .list _) rfl rfl) rfl ?_
              exact ⟨⟨rfl, rfl, rfl, rfl, rfl, rfl, rfl, rfl, rfl, rfl, rfl, trivial⟩, rfl, rfl⟩
            · obtain rfl : rUnused (usedW l) (l.drop i) = r := hr
              obtain ⟨F, hp⟩ := acc_perm1 hacc
              refine LOps.step (S.callV (f := 32) (H1 := [(m, .obj (.map es clock))]) (F := F) [_] rfl rfl hp (unused_spec (B0 := B0) (w0 := w0) (l.drop i) m hv' hM) (fun v' H' hh => ?_) (by rintro ch H' ⟨h, _⟩; cases h)) rfl
              obtain ⟨hv1, rfl⟩ := hh
              cases hv1
              refine LOps.weak ⟨[], by simpa using hp.symm⟩ ?_
              repeat first
                | refine LOps.nil ?_
                | refine QThen.normal ?_
                | refine LOps.pure (Pure.as (lv := .list _) rfl) rfl ?_
                | refine LOps.pure (Pure.as (lv := .atom _) rfl) rfl ?_
                | refine LOps.pure (Pure.mv (lv := .tuple _) rfl) rfl ?_
                | refine LOps.pure (Pure.extract (c := .atom _) rfl rfl) rfl ?_
                | refine LOps.pure (Pure.extract (c := .list _) rfl rfl) rfl ?_
              exact ⟨⟨rfl, rfl, rfl, rfl, rfl, rfl, rfl, rfl, rfl, rfl, rfl, trivial⟩, rfl, rfl⟩
          repeat first
            | refine LOps.nil ?_
            | refine LCode.seq ?_
            | refine LCode.region ?_
            | refine QThen.normal ?_
            | refine LOps.pure (Pure.mv (lv := .atom _) rfl) rfl ?_
            | refine LOps.pure (Pure.gtr rfl rfl) rfl ?_
          refine LCode.cond rfl (fun hn => ?_) (fun hn => ?_)
          · have hn0 : r.1 ≠ 0 := by have := of_decide_eq_true hn; omega
            rw [if_pos hn0] at hX
            rw [hX] at hR
            obtain ⟨hR1, hR2⟩ := hR hn0
            have hrl : (r.2.map str).length = r.2.length := List.length_map _
            repeat first
              | refine LOps.nil ?_
              | refine LCode.seq ?_
              | refine LCode.region ?_
              | refine QThen.normal ?_
              | refine LOps.pure (Pure.as (lv := .atom _) rfl) rfl ?_
              | refine LOps.pure (Pure.mv (lv := .atom _) rfl) rfl ?_
            refine LOps.pure (Pure.mv (lv := v) rfl) rfl ?_
            repeat first
              | refine LOps.pure (Pure.mv (lv := .list _) rfl) rfl ?_
            refine LOps.step (S.acc rfl hacc rfl (strs_len _) (strs_ok _) (by omega) fun v' H' hacc' => ?_) rfl
            refine LOps.pure (Pure.as (lv := v') rfl) rfl ?_
            repeat first
              | refine LOps.nil ?_
              | refine LCode.exit ?_
              | refine QThen.normal ?_
              | refine QThen.exit ?_
              | refine QBlock.hit ?_
              | refine QBlock.miss (by decide) ?_
            exact ⟨(r.1, out ++ r.2, v', H'), ⟨by rw [hX], by rw [hX, if_neg hn0], by rw [List.map_append]; exact hacc'⟩, ⟨rfl, rfl, rfl, rfl, rfl, rfl, trivial⟩, HSub.refl _, hj4.trans hj3⟩
          · have hn0 : r.1 = 0 := by have := of_decide_eq_false hn; omega
            rw [if_neg (by omega)] at hX
            repeat first
              | refine LOps.nil ?_
              | refine LCode.region ?_
              | refine LCode.skip ?_
              | refine QThen.normal ?_
              | refine QBlock.normal ?_
              | refine LOps.pure (Pure.mv (lv := .atom _) rfl) rfl ?_
              | refine LOps.pure (Pure.add rfl rfl (by omega)) rfl ?_
            exact ⟨_, _, _, by omega, ⟨x + 1, by omega, rfl, rfl, rfl, hX⟩, ⟨rfl, rfl, rfl, rfl, rfl, rfl, rfl, rfl, int_eq (by omega), trivial⟩, HSub.refl _, hj4.trans hj3⟩
        · have hx9 : x = 9 := by have := of_decide_eq_false hc; omega
          subst hx9
          rw [firstR_end (by omega)] at hX
          repeat first
            | refine LCode.exit ?_
            | refine QThen.normal ?_
            | refine QThen.exit ?_
            | refine QBlock.hit ?_
          exact ⟨(0, out, v, H1), ⟨by rw [hX], by rw [hX]; rfl, hacc⟩, ⟨rfl, rfl, rfl, rfl, rfl, rfl, trivial⟩, HSub.refl _, hj3⟩
      · rintro ⟨n, out', v', H'⟩ ⟨hn1, ho1, hacc'⟩ j5 hj5
        simp only at hn1 ho1 hacc'
        have hol' : (out'.map str).length = out'.length := List.length_map _
        rw [← hn1] at hR ho1 hE
        repeat first
          | refine LOps.nil ?_
          | refine LCode.seq ?_
          | refine LCode.region ?_
          | refine QThen.normal ?_
          | refine LOps.pure (Pure.mv (lv := .atom _) rfl) rfl ?_
          | refine LOps.pure (Pure.eql rfl rfl) rfl ?_
        refine LCode.cond rfl (fun hn => ?_) (fun hn => ?_)
        · have hn0 : n = 0 := by have := of_decide_eq_true hn; omega
          rw [if_pos hn0] at ho1 hE
          subst ho1
          repeat first
            | refine LOps.nil ?_
            | refine LCode.seq ?_
            | refine LCode.region ?_
            | refine QThen.normal ?_
            | refine LOps.pure (Pure.as (lv := .atom _) rfl) rfl ?_
          refine LOps.pure (Pure.mv (lv := v') rfl) rfl ?_
          repeat first
            | refine LOps.pure (Pure.mv (lv := .list _) rfl) rfl ?_
            | refine LOps.pure (Pure.mv (lv := .atom _) rfl) rfl ?_
          refine LOps.pure (Pure.ixRef (el' := str l[i]) (cs := [str l[i]]) rfl rfl (by omega) (map_get _ _ _ hlt) rfl rfl) rfl ?_
          repeat first
            | refine LOps.pure (Pure.loadRef (c := .atom _) rfl rfl) rfl ?_
          refine LOps.step (S.lit [_] rfl (elemsOk.cons rfl rfl elemsOk.nil) rfl rfl rfl ?_) rfl
          refine LOps.step (S.acc rfl hacc' rfl (by simp; rfl) rfl (by simp; omega) fun v2 H2 hacc2 => ?_) rfl
          refine LOps.pure (Pure.as (lv := v2) rfl) rfl ?_
          repeat first
            | refine LOps.nil ?_
            | refine LCode.region ?_
            | refine QThen.normal ?_
            | refine QBlock.normal ?_
            | refine LOps.pure (Pure.as (lv := .atom _) rfl) rfl ?_
            | refine LOps.pure (Pure.mv (lv := .atom _) rfl) rfl ?_
            | refine LOps.pure (Pure.add rfl rfl (by omega)) rfl ?_
          exact ⟨_, _, _, by omega, ⟨i + 1, f, out' ++ [l[i]], v2, by omega, rfl, rfl, by rw [List.map_append]; exact hacc2, by omega, by simp; omega, by rw [List.append_assoc]; exact hE⟩, ⟨rfl, rfl, rfl, rfl, int_eq (by omega), trivial⟩, HSub.refl _, hj5.trans hj2⟩
        · have hn0 : n ≠ 0 := by have := of_decide_eq_false hn; omega
          rw [if_neg hn0] at ho1 hE
          obtain ⟨hR1, hR2⟩ := hR hn0
          have hlo : out'.length = out.length + (ruleW (usedW l) (l.drop i)).2.length := by rw [ho1, List.length_append]
          repeat first
            | refine LOps.nil ?_
            | refine LCode.region ?_
            | refine LCode.skip ?_
            | refine QThen.normal ?_
            | refine QBlock.normal ?_
            | refine LOps.pure (Pure.as (lv := .atom _) rfl) rfl ?_
            | refine LOps.pure (Pure.mv (lv := .atom _) rfl) rfl ?_
            | refine LOps.pure (Pure.add rfl rfl (by omega)) rfl ?_
          exact ⟨_, _, _, by omega, ⟨i + n, f, out', v', by omega, rfl, rfl, hacc', by omega, by omega, by rw [ho1, List.append_assoc]; exact hE⟩, ⟨rfl, rfl, rfl, rfl, int_eq (by omega), trivial⟩, HSub.refl _, hj5.trans hj2⟩
    · have hi' : i = l.length := by have := of_decide_eq_false hc; omega
      subst hi'
      rw [List.drop_length, onceF_nil, List.append_nil] at hE
      subst hE
      refine LCode.sub (d := 9) (v := v) rfl hacc.sub ?_
      refine LCode.weak (HSub.nil _) ?_
      repeat first
        | refine LOps.nil ?_
        | refine LCode.seq ?_
        | refine LCode.region ?_
        | refine LCode.ret ?_
        | refine LCode.exit ?_
        | refine QThen.normal ?_
        | refine QThen.exit ?_
        | refine QBlock.hit ?_
        | refine LOps.pure (Pure.as (lv := .list _) rfl) rfl ?_
        | refine LOps.pure (Pure.mv (lv := .list _) rfl) rfl ?_
      exact retRet (hj2.trans hj1) (AllRes.cons (ResIs.tmp (v := .list _) rfl (LV.Sub.refl _)) AllRes.nil) rfl
end
end Go.Proofs.YtkjjenppmmipmaaGreatDoor
namespace Go.Stele
open Go.Lib
/-- A text, cut at every c. -/
def pieces (c : UInt8) : List UInt8 → List (List UInt8)
  | [] => [[]]
  | d :: r => if d = c then [] :: pieces c r else match pieces c r with
    | p :: ps => (d :: p) :: ps
    | [] => [[d]]
theorem pieces_ne (c : UInt8) : ∀ s, ∃ p ps, pieces c s = p :: ps
  | [] => ⟨_, _, rfl⟩
  | d :: r => by
    obtain ⟨p, ps, h⟩ := pieces_ne c r
    rw [pieces, h]
    split
    · exact ⟨_, _, rfl⟩
    · exact ⟨_, _, rfl⟩
theorem pieces_hit (c : UInt8) (r : List UInt8) : pieces c (c :: r) = [] :: pieces c r := by rw [pieces, if_pos rfl]
theorem pieces_miss {c d : UInt8} (h : d ≠ c) (r : List UInt8) : ∃ p ps, pieces c r = p :: ps ∧ pieces c (d :: r) = (d :: p) :: ps := by
  obtain ⟨p, ps, hp⟩ := pieces_ne c r
  exact ⟨p, ps, hp, by rw [pieces, if_neg h, hp]⟩
theorem pieces_one {c : UInt8} : ∀ {s : List UInt8}, c ∉ s → pieces c s = [s]
  | [], _ => rfl
  | d :: r, h => by
    have hd : d ≠ c := fun e => h (by rw [e]; exact List.mem_cons_self ..)
    have hr : c ∉ r := fun e => h (List.mem_cons_of_mem _ e)
    rw [pieces, if_neg hd, pieces_one hr]
theorem pieces_cut {c : UInt8} : ∀ {a b : List UInt8}, c ∉ a → pieces c (a ++ c :: b) = a :: pieces c b
  | [], b, _ => pieces_hit c b
  | d :: a, b, h => by
    have hd : d ≠ c := fun e => h (by rw [e]; exact List.mem_cons_self ..)
    have ha : c ∉ a := fun e => h (List.mem_cons_of_mem _ e)
    rw [List.cons_append, pieces, if_neg hd, pieces_cut ha]
/-! ### The library's words for it -/
theorem index_miss {c : UInt8} : ∀ {s : List UInt8}, c ∉ s → index s [c] = -1
  | [], _ => rfl
  | d :: r, h => by
    have hd : ¬ c = d := fun e => h (by rw [e]; exact List.mem_cons_self ..)
    have hr : c ∉ r := fun e => h (List.mem_cons_of_mem _ e)
    have hp : ([c] : List UInt8).isPrefixOf (d :: r) = false := by simp [List.isPrefixOf, hd]
    rw [index, hp, index_miss hr]
    rfl
theorem index_hit {c : UInt8} : ∀ {a b : List UInt8}, c ∉ a → index (a ++ c :: b) [c] = (a.length : Int)
  | [], b, _ => by
    have hp : ([c] : List UInt8).isPrefixOf (c :: b) = true := by simp [List.isPrefixOf]
    rw [List.nil_append, index, hp]
    rfl
  | d :: a, b, h => by
    have hd : ¬ c = d := fun e => h (by rw [e]; exact List.mem_cons_self ..)
    have ha : c ∉ a := fun e => h (List.mem_cons_of_mem _ e)
    have hp : ([c] : List UInt8).isPrefixOf (d :: (a ++ c :: b)) = false := by simp [List.isPrefixOf, hd]
    rw [List.cons_append, index, hp, index_hit ha, if_neg (by decide), if_neg (by
      intro h
      have := eq_of_beq h
      omega)]
    simp
theorem first_cut {c : UInt8} {s : List UInt8} (h : c ∈ s) : ∃ a b, s = a ++ c :: b ∧ c ∉ a := List.eq_append_cons_of_mem h
theorem cut_one (c : UInt8) (s : List UInt8) : (cut s [c]).1 = s.takeWhile (fun d => decide (d ≠ c)) := by
  by_cases h : c ∈ s
  · obtain ⟨a, b, rfl, ha⟩ := first_cut h
    have h1 : ∀ x ∈ a, decide (x ≠ c) = true := fun x hx => by
      simp only [decide_eq_true_eq]
      rintro rfl
      exact ha hx
    rw [cut, index_hit ha, if_pos (by omega), List.takeWhile_append_of_pos h1, List.takeWhile_cons_of_neg (by simp)]
    simp
  · have h1 : ∀ x ∈ s, decide (x ≠ c) = true := fun x hx => by
      simp only [decide_eq_true_eq]
      rintro rfl
      exact h hx
    rw [cut, index_miss h, if_neg (by decide)]
    have := List.takeWhile_append_of_pos (l₂ := []) h1
    simpa using this.symm
theorem countFrom_one (c : UInt8) : ∀ (f : Nat) (s : List UInt8), s.length < f → countFrom [c] f s = s.count c
  | 0, s, h => by omega
  | f + 1, s, h => by
    rw [countFrom]
    by_cases hc : c ∈ s
    · obtain ⟨a, b, rfl, ha⟩ := first_cut hc
      rw [index_hit ha, if_neg (by
        intro h
        have := eq_of_beq h
        omega)]
      have hd : (a ++ c :: b).drop ((a.length : Int).toNat + [c].length) = b := by
        rw [show (a.length : Int).toNat + [c].length = a.length + 1 by simp]
        rw [← List.drop_drop, List.drop_left]
        rfl
      rw [hd, countFrom_one c f b (by simp only [List.length_append, List.length_cons] at h; omega)]
      rw [List.count_append, List.count_cons_self, List.count_eq_zero.2 ha]
      omega
    · rw [index_miss hc, if_pos (by decide), List.count_eq_zero.2 hc]
theorem splitK_one (c : UInt8) : ∀ (k : Nat) (s : List UInt8), s.count c ≤ k → splitK [c] 0 k s = pieces c s
  | 0, s, h => by
    have hc : c ∉ s := List.count_eq_zero.1 (by omega)
    rw [splitK, pieces_one hc]
  | k + 1, s, h => by
    rw [splitK]
    by_cases hc : c ∈ s
    · obtain ⟨a, b, rfl, ha⟩ := first_cut hc
      rw [index_hit ha, if_neg (by
        intro h
        have := eq_of_beq h
        omega), pieces_cut ha]
      have hd : (a ++ c :: b).drop ((a.length : Int).toNat + [c].length) = b := by
        rw [show (a.length : Int).toNat + [c].length = a.length + 1 by simp]
        rw [← List.drop_drop, List.drop_left]
        rfl
      rw [hd, show (a.length : Int).toNat + 0 = a.length by simp, List.take_left, splitK_one c k b (by
        rw [List.count_append, List.count_cons_self] at h
        omega)]
    · rw [index_miss hc, if_pos (by decide), pieces_one hc]
theorem split_one (c : UInt8) (s : List UInt8) : split s [c] = pieces c s := by
  rw [split, count, splitK_one c _ s (by rw [countFrom_one c _ s (by omega)]; exact Nat.le_refl _)]
/-! ### Words -/
def full (l : List (List UInt8)) : List Wd := l.filter fun w => decide (w ≠ [])
/-- The words of a line. -/
def lineW (s : List UInt8) : List Wd := full (pieces 32 (s.takeWhile fun d => decide (d ≠ 35)))
/-- The words of assembly. -/
def wordsP (s : List UInt8) : List Wd := (pieces 10 s).flatMap lineW
def flush (cur : List UInt8) : List Wd := if cur = [] then [] else [cur]
/-- Character by character: the word begun, and whether a comment goes on. -/
def scanW : List UInt8 → Bool → List UInt8 → List Wd
  | cur, _, [] => flush cur
  | cur, com, c :: r =>
    if c = 10 then flush cur ++ scanW [] false r
    else if com = true then scanW cur true r
    else if c = 35 then flush cur ++ scanW [] true r
    else if c = 32 then flush cur ++ scanW [] false r
    else scanW (cur ++ [c]) false r
/-- What is left of a line, a word having begun. -/
def restW (cur : List UInt8) (com : Bool) (l : List UInt8) : List Wd := if com = true then flush cur else lineW (cur ++ l)
theorem full_app (a b : List (List UInt8)) : full (a ++ b) = full a ++ full b := List.filter_append ..
theorem full_one (a : List UInt8) : full [a] = flush a := by
  unfold full flush
  by_cases h : a = [] <;> simp [h]
/-- No character that ends a word. -/
def Plain (cur : List UInt8) : Prop := ∀ c ∈ cur, c ≠ 10 ∧ c ≠ 32 ∧ c ≠ 35
theorem line_stop {cur : List UInt8} (h : Plain cur) (l : List UInt8) : lineW (cur ++ 35 :: l) = flush cur := by
  have h1 : ∀ x ∈ cur, decide (x ≠ 35) = true := fun x hx => by simp only [decide_eq_true_eq]; exact (h x hx).2.2
  have h2 : (32 : UInt8) ∉ cur := fun hx => (h 32 hx).2.1 rfl
  unfold lineW
  rw [List.takeWhile_append_of_pos h1, List.takeWhile_cons_of_neg (by simp), List.append_nil, pieces_one h2, full_one]
theorem line_end {cur : List UInt8} (h : Plain cur) : lineW cur = flush cur := by
  have h1 : ∀ x ∈ cur, decide (x ≠ 35) = true := fun x hx => by simp only [decide_eq_true_eq]; exact (h x hx).2.2
  have h2 : (32 : UInt8) ∉ cur := fun hx => (h 32 hx).2.1 rfl
  have h3 := List.takeWhile_append_of_pos (l₂ := []) h1
  rw [List.append_nil, List.takeWhile_nil, List.append_nil] at h3
  unfold lineW
  rw [h3, pieces_one h2, full_one]
theorem line_space {cur : List UInt8} (h : Plain cur) (l : List UInt8) : lineW (cur ++ 32 :: l) = flush cur ++ lineW l := by
  have h1 : ∀ x ∈ cur, decide (x ≠ 35) = true := fun x hx => by simp only [decide_eq_true_eq]; exact (h x hx).2.2
  have h2 : (32 : UInt8) ∉ cur := fun hx => (h 32 hx).2.1 rfl
  unfold lineW
  rw [List.takeWhile_append_of_pos h1, List.takeWhile_cons_of_pos (by decide), pieces_cut h2, ← List.singleton_append, full_app, full_one]
theorem scan_eq : ∀ (s cur : List UInt8) (com : Bool) (p : List UInt8) (ps : List (List UInt8)), Plain cur → (com = true → cur = []) → pieces 10 s = p :: ps → scanW cur com s = restW cur com p ++ ps.flatMap lineW
  | [], cur, com, p, ps, hc, hcom, hp => by
    cases hp
    rw [scanW, restW]
    cases com with
    | true => simp
    | false => simp [line_end hc]
  | c :: r, cur, com, p, ps, hc, hcom, hp => by
    obtain ⟨q, qs, hq⟩ := pieces_ne 10 r
    rw [scanW]
    by_cases h10 : c = 10
    · subst h10
      rw [pieces_hit, hq] at hp
      cases hp
      rw [if_pos rfl, scan_eq r [] false q qs (fun x hx => by cases hx) (by simp) hq]
      have : restW cur com [] = flush cur := by
        unfold restW
        cases com with
        | true => rfl
        | false => rw [if_neg (by decide), List.append_nil, line_end hc]
      rw [this]
      simp [restW]
    · clear hq
      obtain ⟨q, qs, hq, hp'⟩ := pieces_miss h10 r
      rw [hp'] at hp
      cases hp
      rw [if_neg h10]
      cases com with
      | true =>
        obtain rfl := hcom rfl
        rw [if_pos rfl, scan_eq r [] true q ps (fun x hx => by cases hx) (fun _ => rfl) hq]
        simp [restW]
      | false =>
        rw [if_neg (by decide)]
        by_cases h35 : c = 35
        · subst h35
          rw [if_pos rfl, scan_eq r [] true q ps (fun x hx => by cases hx) (fun _ => rfl) hq]
          have : restW cur false (35 :: q) = flush cur := by unfold restW; rw [if_neg (by decide), line_stop hc]
          rw [this]
          simp [restW, flush]
        · rw [if_neg h35]
          by_cases h32 : c = 32
          · subst h32
            rw [if_pos rfl, scan_eq r [] false q ps (fun x hx => by cases hx) (by simp) hq]
            have : restW cur false (32 :: q) = flush cur ++ lineW q := by unfold restW; rw [if_neg (by decide), line_space hc]
            rw [this, List.append_assoc]
            simp [restW]
          · rw [if_neg h32, scan_eq r (cur ++ [c]) false q ps (fun x hx => by
              rcases List.mem_append.1 hx with h | h
              · exact hc x h
              · obtain rfl := List.mem_singleton.1 h
                exact ⟨h10, h32, h35⟩) (by simp) hq]
            simp [restW]
/-- Character by character, the words are the same. -/
theorem scan_words (s : List UInt8) : scanW [] false s = wordsP s := by
  obtain ⟨p, ps, hp⟩ := pieces_ne 10 s
  rw [scan_eq s [] false p ps (fun x hx => by cases hx) (by simp) hp]
  unfold wordsP
  rw [hp]
  simp [restW]
end Go.Stele
namespace Go.Stele
open Go.Lib
theorem onceF_or (used : Wd → Bool) : ∀ (f : Nat) (l : List Wd), l.length ≤ f → onceF used f l = l ∨ (onceF used f l).length < l.length
  | 0, l, h => by
    have : l = [] := List.eq_nil_of_length_eq_zero (by omega)
    subst this
    exact .inl rfl
  | f + 1, [], _ => .inl rfl
  | f + 1, w :: r, h => by
    rw [onceF]
    split
    · rcases onceF_or used f r (by simp only [List.length_cons] at h; omega) with h1 | h1
      · rw [h1]; exact .inl rfl
      · right
        simp only [List.length_cons]
        omega
    · rename_i h0
      obtain ⟨h1, h2⟩ := rule_ok used (w :: r) h0
      have := onceF_len used f ((w :: r).drop (ruleW used (w :: r)).1)
      rw [List.length_drop] at this
      right
      rw [List.length_append]
      omega
theorem onceP_or (l : List Wd) : onceP l = l ∨ (onceP l).length < l.length := onceF_or _ _ l (Nat.le_refl _)
theorem onceP_len_eq {l : List Wd} (h : (onceP l).length = l.length) : onceP l = l := by
  rcases onceP_or l with h1 | h1
  · exact h1
  · omega
def optF : Nat → List Wd → List Wd
  | 0, l => l
  | f + 1, l => if onceP l = l then l else optF f (onceP l)
/-- Passes until nothing changes. -/
def optP (l : List Wd) : List Wd := optF l.length l
theorem optF_fuel : ∀ (f g : Nat) (l : List Wd), l.length ≤ f → l.length ≤ g → optF f l = optF g l
  | 0, 0, _, _, _ => rfl
  | 0, g + 1, l, h, _ => by
    have : l = [] := List.eq_nil_of_length_eq_zero (by omega)
    subst this
    rw [optF, optF, if_pos (by rfl)]
  | f + 1, 0, l, _, h => by
    have : l = [] := List.eq_nil_of_length_eq_zero (by omega)
    subst this
    rw [optF, optF, if_pos (by rfl)]
  | f + 1, g + 1, l, h1, h2 => by
    rw [optF, optF]
    split
    · rfl
    · rename_i h
      rcases onceP_or l with h3 | h3
      · exact absurd h3 h
      · exact optF_fuel f g (onceP l) (by omega) (by omega)
theorem optP_eq {l : List Wd} (h : onceP l = l) : optP l = l := by
  unfold optP
  cases l with
  | nil => rfl
  | cons w r => rw [List.length_cons, optF, if_pos h]
theorem optP_step {l : List Wd} (h : onceP l ≠ l) : optP l = optP (onceP l) := by
  rcases onceP_or l with h3 | h3
  · exact absurd h3 h
  · have h4 : ∃ k, l.length = k + 1 := ⟨l.length - 1, by omega⟩
    obtain ⟨k, hk⟩ := h4
    unfold optP
    rw [hk, optF, if_neg h]
    exact optF_fuel _ _ _ (by omega) (Nat.le_refl _)
theorem optF_fix : ∀ (f : Nat) (l : List Wd), l.length ≤ f → onceP (optF f l) = optF f l
  | 0, l, h => by
    have : l = [] := List.eq_nil_of_length_eq_zero (by omega)
    subst this
    rfl
  | f + 1, l, h => by
    rw [optF]
    split
    · assumption
    · rename_i h1
      rcases onceP_or l with h3 | h3
      · exact absurd h3 h1
      · exact optF_fix f (onceP l) (by omega)
/-- The end of the passes is a fixed point. -/
theorem optP_fix (l : List Wd) : onceP (optP l) = optP l := optF_fix _ l (Nat.le_refl _)
theorem optP_again (l : List Wd) : optP (optP l) = optP l := optP_eq (optP_fix l)
theorem optF_len : ∀ (f : Nat) (l : List Wd), (optF f l).length ≤ l.length
  | 0, l => Nat.le_refl _
  | f + 1, l => by
    rw [optF]
    split
    · exact Nat.le_refl _
    · exact Nat.le_trans (optF_len f _) (onceP_len l)
theorem optP_len (l : List Wd) : (optP l).length ≤ l.length := optF_len _ l
/-! ### What holds of all words goes on holding -/
theorem wdAt_mem {v : List Wd} {i : Nat} (h : i < v.length) : wdAt v i ∈ v := by
  unfold wdAt
  rw [List.getElem?_eq_getElem h]
  exact List.getElem_mem h
theorem joined_dec {x op y s : Wd} (h : joinedW x op y = some s) : ∃ c, c < 4294967296 ∧ s = decDigits c := by
  unfold joinedW at h
  split at h
  · rename_i a b ha hb
    split at h
    · rename_i c hc
      split at h
      · cases h
        exact ⟨c, comp_lt (numW_lt ha) (numW_lt hb) hc, rfl⟩
      · cases h
    · cases h
  · cases h
theorem rule_all {P : Wd → Prop} (hd : ∀ n, n < 4294967296 → P (decDigits n)) (used : Wd → Bool) (v : List Wd) (hv : ∀ w ∈ v, P w) : ∀ w ∈ (ruleW used v).2, P w := by
  have none : ∀ n : Nat, ∀ w ∈ ((n, []) : RuleW).2, P w := fun _ w hw => by cases hw
  by_cases h1 : ∃ s, dFold v = some s
  · obtain ⟨s, h1⟩ := h1
    rw [rule1 h1]
    obtain ⟨c, hc, rfl⟩ := joined_dec h1
    intro w hw
    rcases List.mem_singleton.1 hw with rfl
    exact hd c hc
  have h1 : dFold v = Option.none := by
    cases h : dFold v with
    | none => rfl
    | some s => exact absurd ⟨s, h⟩ h1
  by_cases h2 : cNeutral v
  · rw [rule2 h1 h2]; exact none _
  by_cases h3 : cRegroup v ∧ ∃ s, dRegroup v = some s
  · obtain ⟨h3, s, h4⟩ := h3
    rw [rule3 h1 h2 h3 h4]
    obtain ⟨c, hc, rfl⟩ := joined_dec h4
    have h5 := wdAt_lt (joined_ne h4).2.1
    intro w hw
    simp only [List.mem_cons, List.not_mem_nil, or_false] at hw
    rcases hw with rfl | rfl
    · exact hd c hc
    · exact hv _ (wdAt_mem h5)
  have h3 : ¬ cRegroup v ∨ dRegroup v = Option.none := by
    by_cases hc : cRegroup v
    · right
      cases h : dRegroup v with
      | none => rfl
      | some s => exact absurd ⟨hc, s, h⟩ h3
    · exact .inl hc
  by_cases h4 : cSame v
  · rw [rule4 h1 h2 h3 h4]; exact none _
  by_cases h5 : cDouble v
  · rw [rule5 h1 h2 h3 h4 h5]
    obtain ⟨l, hl⟩ := Option.isSome_iff_exists.1 h5.1
    have h6 := jumpW_lt hl
    intro w hw
    simp only [List.mem_cons, List.not_mem_nil, or_false] at hw
    rcases hw with rfl | rfl
    · exact hv _ (wdAt_mem (by omega))
    · exact hv _ (wdAt_mem (by omega))
  cases h6 : cNever v with
  | true => rw [rule6 h1 h2 h3 h4 h5 h6]; exact none _
  | false =>
    cases h7 : cNext v with
    | true => rw [rule7 h1 h2 h3 h4 h5 h6 h7]; exact none _
    | false =>
      by_cases h8 : cDead v
      · rw [rule8 h1 h2 h3 h4 h5 h6 h7 h8]
        exact fun w hw => hv w (List.mem_of_mem_take hw)
      · rw [rule9 h1 h2 h3 h4 h5 h6 h7 h8]
        unfold rUnused
        split
        · split <;> exact none _
        · exact none _
theorem onceF_all {P : Wd → Prop} (hd : ∀ n, n < 4294967296 → P (decDigits n)) (used : Wd → Bool) : ∀ (f : Nat) (l : List Wd), (∀ w ∈ l, P w) → ∀ w ∈ onceF used f l, P w
  | 0, _, _ => fun w hw => by cases hw
  | f + 1, [], _ => fun w hw => by cases hw
  | f + 1, a :: r, hl => by
    rw [onceF]
    split
    · intro w hw
      rcases List.mem_cons.1 hw with rfl | hw
      · exact hl _ (List.mem_cons_self ..)
      · exact onceF_all hd used f r (fun x hx => hl x (List.mem_cons_of_mem _ hx)) w hw
    · intro w hw
      rcases List.mem_append.1 hw with hw | hw
      · exact rule_all hd used (a :: r) hl w hw
      · exact onceF_all hd used f _ (fun x hx => hl x (List.mem_of_mem_drop hx)) w hw
theorem optF_all {P : Wd → Prop} (hd : ∀ n, n < 4294967296 → P (decDigits n)) : ∀ (f : Nat) (l : List Wd), (∀ w ∈ l, P w) → ∀ w ∈ optF f l, P w
  | 0, l, h => h
  | f + 1, l, h => by
    rw [optF]
    split
    · exact h
    · exact optF_all hd f _ (onceF_all hd _ _ l h)
theorem optP_all {P : Wd → Prop} (hd : ∀ n, n < 4294967296 → P (decDigits n)) {l : List Wd} (h : ∀ w ∈ l, P w) : ∀ w ∈ optP l, P w := optF_all hd _ l h
/-! ### Words joined and cut again -/
def CleanW (w : Wd) : Prop := w ≠ [] ∧ Plain w
theorem dec_clean (n : Nat) : CleanW (decDigits n) := ⟨decDigits_ne n, fun c hc => by
  have := dec_digits n c hc
  refine ⟨?_, ?_, ?_⟩ <;> (rintro rfl; exact absurd this (by decide))⟩
theorem pieces_clean {c : UInt8} {l : List UInt8} : ∀ p ∈ pieces c l, c ∉ p ∧ ∀ x ∈ p, x ∈ l := by
  induction l with
  | nil =>
    intro p hp
    obtain rfl := List.mem_singleton.1 hp
    exact ⟨by simp, by simp⟩
  | cons d r ih =>
    intro p hp
    by_cases h : d = c
    · subst h
      rw [pieces_hit] at hp
      rcases List.mem_cons.1 hp with rfl | hp
      · exact ⟨by simp, by simp⟩
      · exact ⟨(ih p hp).1, fun x hx => List.mem_cons_of_mem _ ((ih p hp).2 x hx)⟩
    · obtain ⟨q, qs, h1, h2⟩ := pieces_miss h r
      rw [h2] at hp
      rw [h1] at ih
      rcases List.mem_cons.1 hp with rfl | hp
      · have := ih q (List.mem_cons_self ..)
        refine ⟨fun hm => ?_, fun x hx => ?_⟩
        · rcases List.mem_cons.1 hm with e | hm
          · exact h e.symm
          · exact this.1 hm
        · rcases List.mem_cons.1 hx with rfl | hx
          · exact List.mem_cons_self ..
          · exact List.mem_cons_of_mem _ (this.2 x hx)
      · have := ih p (List.mem_cons_of_mem _ hp)
        exact ⟨this.1, fun x hx => List.mem_cons_of_mem _ (this.2 x hx)⟩
theorem lineW_clean {l : List UInt8} (h : (10 : UInt8) ∉ l) : ∀ w ∈ lineW l, CleanW w := by
  intro w hw
  obtain ⟨h1, h2⟩ := List.mem_filter.1 hw
  obtain ⟨h3, h4⟩ := pieces_clean w h1
  refine ⟨of_decide_eq_true h2, fun c hc => ⟨?_, ?_, ?_⟩⟩
  · rintro rfl
    exact h ((List.takeWhile_prefix _).subset (h4 _ hc))
  · rintro rfl
    exact h3 hc
  · rintro rfl
    have : ∀ (l : List UInt8), (35 : UInt8) ∉ l.takeWhile fun d => decide (d ≠ 35) := by
      intro l
      induction l with
      | nil => simp
      | cons d r ih =>
        rw [List.takeWhile_cons]
        split
        · rename_i hd
          intro hm
          rcases List.mem_cons.1 hm with e | hm
          · rw [← e] at hd; simp at hd
          · exact ih hm
        · simp
    exact this _ (h4 _ hc)
theorem wordsP_clean (s : List UInt8) : ∀ w ∈ wordsP s, CleanW w := by
  intro w hw
  obtain ⟨p, hp, hw⟩ := List.mem_flatMap.1 hw
  exact lineW_clean (pieces_clean p hp).1 w hw
theorem join_two' (x y : Wd) (r : List Wd) : join (x :: y :: r) [32] = x ++ 32 :: join (y :: r) [32] := by simp [join]
theorem join_noNl : ∀ (l : List Wd), (∀ w ∈ l, CleanW w) → (10 : UInt8) ∉ join l [32]
  | [], _ => by simp [join]
  | [a], h => by
    rw [join_one]
    exact fun hm => ((h a (List.mem_cons_self ..)).2 10 hm).1 rfl
  | a :: b :: r, h => by
    rw [join_two']
    intro hm
    rcases List.mem_append.1 hm with hm | hm
    · exact ((h a (List.mem_cons_self ..)).2 10 hm).1 rfl
    · rcases List.mem_cons.1 hm with e | hm
      · exact absurd e (by decide)
      · exact join_noNl (b :: r) (fun x hx => h x (List.mem_cons_of_mem _ hx)) hm
theorem line_join : ∀ (l : List Wd), (∀ w ∈ l, CleanW w) → lineW (join l [32]) = l
  | [], _ => rfl
  | [a], h => by
    obtain ⟨h1, h2⟩ := h a (List.mem_cons_self ..)
    rw [join_one, line_end h2]
    simp [flush, h1]
  | a :: b :: r, h => by
    obtain ⟨h1, h2⟩ := h a (List.mem_cons_self ..)
    rw [join_two', line_space h2, line_join (b :: r) fun x hx => h x (List.mem_cons_of_mem _ hx)]
    simp [flush, h1]
/-- Clean words, joined by spaces, are cut into the same words. -/
theorem words_join {l : List Wd} (h : ∀ w ∈ l, CleanW w) : wordsP (join l [32]) = l := by
  unfold wordsP
  rw [pieces_one (join_noNl l h)]
  simp [line_join l h]
theorem join_inj {a b : List Wd} (ha : ∀ w ∈ a, CleanW w) (hb : ∀ w ∈ b, CleanW w) (h : join a [32] = join b [32]) : a = b := by
  rw [← words_join ha, ← words_join hb, h]
theorem once_clean {l : List Wd} (h : ∀ w ∈ l, CleanW w) : ∀ w ∈ onceP l, CleanW w := onceF_all (fun n _ => dec_clean n) _ _ l h
theorem opt_clean {l : List Wd} (h : ∀ w ∈ l, CleanW w) : ∀ w ∈ optP l, CleanW w := optP_all (fun n _ => dec_clean n) h
/-- What Optimize returns. -/
def optimizeP (s : List UInt8) : List UInt8 × Int := if 400000 < s.length then ([], 6) else (join (optP (wordsP s)) [32], 0)
theorem join_size {m : Nat} : ∀ (l : List Wd), (∀ w ∈ l, w.length ≤ m) → (join l [32]).length ≤ l.length * (m + 1)
  | [], _ => Nat.zero_le _
  | [a], h => by
    rw [join_one]
    have := h a (List.mem_cons_self ..)
    simp only [List.length_cons, List.length_nil]
    omega
  | a :: b :: r, h => by
    rw [join_two']
    have h1 := h a (List.mem_cons_self ..)
    have h2 := join_size (b :: r) fun x hx => h x (List.mem_cons_of_mem _ hx)
    simp only [List.length_append, List.length_cons, Nat.add_mul, Nat.one_mul] at h2 ⊢
    omega
/-! ### The text does not grow -/
def tot (l : List Wd) : Nat := (l.map fun w => w.length + 1).sum
theorem tot_cons (w : Wd) (l : List Wd) : tot (w :: l) = w.length + 1 + tot l := by simp [tot]
theorem tot_nil : tot [] = 0 := rfl
theorem tot_app (a b : List Wd) : tot (a ++ b) = tot a + tot b := by simp [tot]
theorem tot_split (l : List Wd) (n : Nat) : tot l = tot (l.take n) + tot (l.drop n) := by rw [← tot_app, List.take_append_drop]
theorem join_tot : ∀ l : List Wd, (join l [32]).length ≤ tot l
  | [] => Nat.zero_le _
  | [a] => by
    rw [join_one, tot_cons]
    omega
  | a :: b :: r => by
    have := join_tot (b :: r)
    rw [join_two', tot_cons]
    simp only [List.length_append, List.length_cons]
    omega
theorem joined_len {x op y s : Wd} (h : joinedW x op y = some s) : s.length ≤ x.length + y.length + 1 := by
  unfold joinedW at h
  split at h
  · split at h
    · split at h
      · rename_i hle
        cases h
        exact hle
      · cases h
    · cases h
  · cases h
theorem rule_tot (used : Wd → Bool) (v : List Wd) : tot (ruleW used v).2 ≤ tot (v.take (ruleW used v).1) := by
  by_cases h1 : ∃ s, dFold v = some s
  · obtain ⟨s, h1⟩ := h1
    rw [rule1 h1]
    have hl := joined_len h1
    have hlt := wdAt_lt (joined_ne h1).2.1
    match v, hlt, hl with
    | a :: b :: c :: r, _, hl =>
      simp only [wdAt, List.getElem?_cons_zero, List.getElem?_cons_succ, Option.getD_some] at hl
      simp only [List.take_succ_cons, List.take_zero, tot_cons, tot_nil]
      omega
  have h1 : dFold v = Option.none := by
    cases h : dFold v with
    | none => rfl
    | some s => exact absurd ⟨s, h⟩ h1
  by_cases h2 : cNeutral v
  · rw [rule2 h1 h2]; exact Nat.zero_le _
  by_cases h3 : cRegroup v ∧ ∃ s, dRegroup v = some s
  · obtain ⟨h3, s, h4⟩ := h3
    rw [rule3 h1 h2 h3 h4]
    have hl := joined_len h4
    have h5 : wdAt v 3 ≠ [] := by rw [h3.2]; exact (joined_ne h4).2.1
    have hlt := wdAt_lt h5
    match v, hlt, hl with
    | a :: b :: c :: d :: r, _, hl =>
      simp only [wdAt, List.getElem?_cons_zero, List.getElem?_cons_succ, Option.getD_some] at hl ⊢
      simp only [List.take_succ_cons, List.take_zero, tot_cons, tot_nil]
      omega
  have h3 : ¬ cRegroup v ∨ dRegroup v = Option.none := by
    by_cases hc : cRegroup v
    · right
      cases h : dRegroup v with
      | none => rfl
      | some s => exact absurd ⟨hc, s, h⟩ h3
    · exact .inl hc
  by_cases h4 : cSame v
  · rw [rule4 h1 h2 h3 h4]; exact Nat.zero_le _
  by_cases h5 : cDouble v
  · rw [rule5 h1 h2 h3 h4 h5]
    obtain ⟨l, hl⟩ := Option.isSome_iff_exists.1 h5.1
    have h6 := jumpW_lt hl
    match v, h6 with
    | a :: b :: c :: d :: e :: f :: r, _ =>
      simp only [wdAt, List.getElem?_cons_zero, List.getElem?_cons_succ, Option.getD_some]
      simp only [List.take_succ_cons, List.take_zero, tot_cons, tot_nil]
      omega
  cases h6 : cNever v with
  | true => rw [rule6 h1 h2 h3 h4 h5 h6]; exact Nat.zero_le _
  | false =>
    cases h7 : cNext v with
    | true => rw [rule7 h1 h2 h3 h4 h5 h6 h7]; exact Nat.zero_le _
    | false =>
      by_cases h8 : cDead v
      · rw [rule8 h1 h2 h3 h4 h5 h6 h7 h8]
        simp only
        have := tot_split (v.take (stopW v + deadLen (v.drop (stopW v)))) (stopW v)
        rw [List.take_take, Nat.min_eq_left (by omega)] at this
        omega
      · rw [rule9 h1 h2 h3 h4 h5 h6 h7 h8]
        unfold rUnused
        split
        · split <;> exact Nat.zero_le _
        · exact Nat.zero_le _
theorem onceF_tot (used : Wd → Bool) : ∀ (f : Nat) (l : List Wd), tot (onceF used f l) ≤ tot l
  | 0, _ => Nat.zero_le _
  | f + 1, [] => Nat.le_refl _
  | f + 1, a :: r => by
    rw [onceF]
    split
    · rw [tot_cons, tot_cons]
      have := onceF_tot used f r
      omega
    · have h1 := rule_tot used (a :: r)
      have h2 := onceF_tot used f ((a :: r).drop (ruleW used (a :: r)).1)
      have h3 := tot_split (a :: r) (ruleW used (a :: r)).1
      rw [tot_app]
      omega
theorem optF_tot : ∀ (f : Nat) (l : List Wd), tot (optF f l) ≤ tot l
  | 0, l => Nat.le_refl _
  | f + 1, l => by
    rw [optF]
    split
    · exact Nat.le_refl _
    · exact Nat.le_trans (optF_tot f _) (onceF_tot _ _ l)
theorem scan_tot : ∀ (s cur : List UInt8) (com : Bool), tot (scanW cur com s) ≤ cur.length + s.length + 1
  | [], cur, com => by
    rw [scanW]
    unfold flush
    split
    · exact Nat.zero_le _
    · simp [tot]
  | c :: r, cur, com => by
    have hf : tot (flush cur) ≤ cur.length + 1 := by
      unfold flush
      split
      · exact Nat.zero_le _
      · simp [tot]
    rw [scanW]
    simp only [List.length_cons]
    split
    · have := scan_tot r [] false
      rw [tot_app]
      simp only [List.length_nil] at this
      omega
    split
    · have := scan_tot r cur true
      omega
    split
    · have := scan_tot r [] true
      rw [tot_app]
      simp only [List.length_nil] at this
      omega
    split
    · have := scan_tot r [] false
      rw [tot_app]
      simp only [List.length_nil] at this
      omega
    · have := scan_tot r (cur ++ [c]) false
      rw [List.length_append, List.length_singleton] at this
      omega
theorem words_tot (s : List UInt8) : tot (wordsP s) ≤ s.length + 1 := by
  rw [← scan_words]
  have := scan_tot s [] false
  simpa using this
/-- The optimized text is no longer. -/
theorem opt_size (s : List UInt8) : (join (optP (wordsP s)) [32]).length ≤ s.length + 1 :=
  Nat.le_trans (join_tot _) (Nat.le_trans (optF_tot _ _) (words_tot s))
/-- Optimized again, the text stays. -/
theorem optimize_again {s : List UInt8} (hs : s.length ≤ 399999) : optimizeP (optimizeP s).1 = ((optimizeP s).1, 0) ∧ wordsP (optimizeP s).1 = optP (wordsP s) := by
  have h1 := opt_size s
  have h2 : optimizeP s = (join (optP (wordsP s)) [32], 0) := by
    unfold optimizeP
    rw [if_neg (by omega)]
  have h3 := words_join (opt_clean (wordsP_clean s))
  rw [h2]
  refine ⟨?_, h3⟩
  unfold optimizeP
  rw [if_neg (by simp only; omega)]
  simp only
  rw [h3, optP_again]
end Go.Stele
namespace Go.Stele
open Go.Lib
/-! ### Numbers, digit by digit -/
def pvl (a : Nat) (l : List UInt8) : Nat := l.foldl (fun a c => 10 * a + (c.toNat - 48)) a
theorem pvl_append (a : Nat) (l m : List UInt8) : pvl a (l ++ m) = pvl (pvl a l) m := List.foldl_append ..
theorem pvl_dec (u : Nat) : pvl 0 (decDigits u) = u := by
  induction u using Nat.strongRecOn with
  | ind u ih =>
    by_cases h : u < 10
    · rw [decDigits_one h]
      show 10 * 0 + ((UInt8.ofNat (48 + u)).toNat - 48) = u
      rw [digit_toNat h]
      omega
    · rw [decDigits, dif_neg h, pvl_append, ih (u / 10) (by omega)]
      show 10 * (u / 10) + ((UInt8.ofNat (48 + u % 10)).toNat - 48) = u
      rw [digit_toNat (by omega)]
      omega
theorem pvl_lt (s : List UInt8) : ∀ (i : Nat), (∀ c ∈ s.take i, isDigit c = true) → pvl 0 (s.take i) < 10 ^ i
  | 0, _ => by simp [pvl]
  | i + 1, h => by
    rcases Nat.lt_or_ge i s.length with hi | hi
    · rw [List.take_succ_eq_append_getElem hi] at h ⊢
      have h1 := pvl_lt s i fun c hc => h c (List.mem_append_left _ hc)
      have h2 := h s[i] (List.mem_append_right _ (List.mem_singleton.2 rfl))
      rw [pvl_append]
      show 10 * pvl 0 (s.take i) + (s[i].toNat - 48) < _
      unfold isDigit at h2
      rw [Bool.and_eq_true, decide_eq_true_eq, decide_eq_true_eq] at h2
      rw [Nat.pow_succ]
      unfold cv at h2
      omega
    · rw [List.take_of_length_le (by omega)] at h ⊢
      have h1 := pvl_lt s i (by rw [List.take_of_length_le hi]; exact h)
      rw [List.take_of_length_le hi] at h1
      rw [Nat.pow_succ]
      omega
theorem numW_pv (s : List UInt8) : numW s = if pvl 0 s < 4294967296 ∧ decDigits (pvl 0 s) = s then some (pvl 0 s) else none := by
  cases h : numW s with
  | some n =>
    obtain ⟨h1, h2⟩ := (numW_iff s n).1 h
    have h3 : pvl 0 s = n := by rw [← h2, pvl_dec]
    rw [h3, if_pos ⟨h1, h2⟩]
  | none =>
    rw [if_neg]
    intro hc
    rw [(numW_iff s _).2 hc] at h
    cases h
theorem numW_len {s : List UInt8} (h : s.length < 1 ∨ 10 < s.length) : numW s = none := by
  cases hn : numW s with
  | none => rfl
  | some n =>
    obtain ⟨h1, h2⟩ := (numW_iff s n).1 hn
    have h3 := dec_len h1
    have h4 := decDigits_ne n
    rw [h2] at h3 h4
    have := List.length_pos_iff.2 h4
    omega
theorem numW_char {s : List UInt8} {c : UInt8} (hc : c ∈ s) (h : isDigit c = false) : numW s = none := by
  cases hn : numW s with
  | none => rfl
  | some n =>
    obtain ⟨h1, h2⟩ := (numW_iff s n).1 hn
    have := dec_digits n c (by rw [h2]; exact hc)
    rw [this] at h
    cases h
/-! ### Labels -/
theorem nameW_eq (c : UInt8) (r : List UInt8) : nameW (c :: r) = (decide ((c :: r).length ≤ 40) && isLetter c && (c :: r).all isInner) := rfl
theorem nameW_ne {s : Wd} (h : nameW s = true) : s ≠ [] := by
  rintro rfl
  cases h
/-- What the reference returns for a definition or a reference: the label, or nothing. -/
def defR (s : Wd) : Wd := (defW s).getD []
def refR (s : Wd) : Wd := (refW s).getD []
theorem defW_ne {s l : Wd} (h : defW s = some l) : l ≠ [] := by
  unfold defW at h
  split at h
  · rename_i hc
    cases h
    exact nameW_ne hc.2
  · cases h
theorem refW_ne {s l : Wd} (h : refW s = some l) : l ≠ [] := by
  unfold refW at h
  split at h
  · cases h
  · split at h
    · rename_i hc
      cases h
      exact nameW_ne hc.2
    · cases h
theorem defR_nil (s : Wd) : (defR s = []) ↔ defW s = none := by
  unfold defR
  cases h : defW s with
  | none => simp
  | some l => simp [defW_ne h]
theorem refR_nil (s : Wd) : (refR s = []) ↔ refW s = none := by
  unfold refR
  cases h : refW s with
  | none => simp
  | some l => simp [refW_ne h]
theorem defR_some {s l : Wd} (h : defW s = some l) : defR s = l := by unfold defR; rw [h]; rfl
theorem refR_some {s l : Wd} (h : refW s = some l) : refR s = l := by unfold refR; rw [h]; rfl
theorem defR_eq (s : Wd) : defR s = if 1 < s.length ∧ s.getLast? = some 58 ∧ nameW s.dropLast = true then s.dropLast else [] := by
  unfold defR defW
  by_cases h : s.getLast? = some 58 ∧ nameW s.dropLast = true
  · have : 1 < s.length := by
      have h1 := List.length_pos_iff.2 (nameW_ne h.2)
      rw [List.length_dropLast] at h1
      omega
    rw [if_pos h, if_pos ⟨this, h⟩]
    rfl
  · rw [if_neg h, if_neg fun hc => h hc.2]
    rfl
theorem refR_eq (c : UInt8) (r : List UInt8) : refR (c :: r) = if c = 38 ∧ nameW r = true then r else [] := by
  unfold refR refW
  simp only
  split <;> rfl
theorem wdAt_drop (l : List Wd) (i k : Nat) : wdAt (l.drop i) k = wdAt l (i + k) := by
  unfold wdAt
  rw [List.getElem?_drop]
theorem wdAt_get {l : List Wd} {i : Nat} (h : i < l.length) : wdAt l i = l[i] := by
  unfold wdAt
  rw [List.getElem?_eq_getElem h]
  rfl
theorem wdAt_out {l : List Wd} {i : Nat} (h : l.length ≤ i) : wdAt l i = [] := by
  unfold wdAt
  rw [List.getElem?_eq_none h]
  rfl
theorem jumpW_drop (l : List Wd) (i k : Nat) : jumpW (l.drop i) k = jumpW l (i + k) := by
  unfold jumpW
  rw [wdAt_drop, wdAt_drop, Nat.add_assoc]
theorem jumpW_is (l : List Wd) (i : Nat) : (jumpW l i).isSome = decide (refW (wdAt l i) ≠ none ∧ wdAt l (i + 1) = [63]) := by
  unfold jumpW
  cases h : refW (wdAt l i) with
  | none => simp
  | some d =>
    simp only
    by_cases h2 : wdAt l (i + 1) = [63]
    · simp [h2]
    · simp [h2]
/-! ### The words of assembly, with their lines -/
/-- The tokens of lines, n lines having gone before. -/
def toksN : Nat → List (List UInt8) → List (Wd × Nat)
  | _, [] => []
  | n, l :: r => (lineW l).map (fun w => (w, n + 1)) ++ toksN (n + 1) r
def toksP (s : List UInt8) : List (Wd × Nat) := toksN 0 (pieces 10 s)
theorem toksN_fst : ∀ (l : List (List UInt8)) (n : Nat), (toksN n l).map (·.1) = l.flatMap lineW
  | [], _ => rfl
  | a :: r, n => by
    rw [toksN, List.map_append, List.map_map, toksN_fst r]
    simp [Function.comp_def]
theorem toksP_fst (s : List UInt8) : (toksP s).map (·.1) = wordsP s := toksN_fst _ 0
theorem toksN_drop {l : List (List UInt8)} {i : Nat} (h : i < l.length) (n : Nat) : toksN n (l.drop i) = (lineW l[i]).map (fun w => (w, n + 1)) ++ toksN (n + 1) (l.drop (i + 1)) := by
  rw [List.drop_eq_getElem_cons h, toksN]
theorem full_drop {l : List (List UInt8)} {i : Nat} (h : i < l.length) : full (l.drop i) = if l[i] = [] then full (l.drop (i + 1)) else l[i] :: full (l.drop (i + 1)) := by
  rw [List.drop_eq_getElem_cons h]
  unfold full
  rw [List.filter_cons]
  by_cases hc : l[i] = []
  · simp [hc]
  · simp [hc]
theorem pieces_len (c : UInt8) : ∀ s, (pieces c s).length ≤ s.length + 1
  | [] => by simp [pieces]
  | d :: r => by
    have := pieces_len c r
    by_cases h : d = c
    · subst h
      rw [pieces_hit]
      simp only [List.length_cons]
      omega
    · obtain ⟨p, ps, h1, h2⟩ := pieces_miss h r
      rw [h2]
      rw [h1] at this
      simp only [List.length_cons] at this ⊢
      omega
theorem pieces_mem_len {c : UInt8} : ∀ {s p : List UInt8}, p ∈ pieces c s → p.length ≤ s.length
  | [], p, h => by
    obtain rfl := List.mem_singleton.1 h
    exact Nat.le_refl _
  | d :: r, p, h => by
    by_cases hd : d = c
    · subst hd
      rw [pieces_hit] at h
      rcases List.mem_cons.1 h with rfl | h
      · exact Nat.zero_le _
      · have := pieces_mem_len h
        simp only [List.length_cons]
        omega
    · obtain ⟨q, qs, h1, h2⟩ := pieces_miss hd r
      rw [h2] at h
      rcases List.mem_cons.1 h with rfl | h
      · have := pieces_mem_len (c := c) (s := r) (p := q) (by rw [h1]; exact List.mem_cons_self ..)
        simp only [List.length_cons]
        omega
      · have := pieces_mem_len (c := c) (s := r) (p := p) (by rw [h1]; exact List.mem_cons_of_mem _ h)
        simp only [List.length_cons]
        omega
theorem wordsP_len (s : List UInt8) : (wordsP s).length ≤ s.length + 1 := by
  have h1 := words_tot s
  have h2 : (wordsP s).length ≤ tot (wordsP s) := by
    unfold tot
    generalize wordsP s = l
    induction l with
    | nil => exact Nat.le_refl _
    | cons a l ih =>
      simp only [List.length_cons, List.map_cons, List.sum_cons]
      omega
  omega
theorem tot_mem {l : List Wd} {w : Wd} (h : w ∈ l) : w.length + 1 ≤ tot l := by
  induction l with
  | nil => cases h
  | cons a l ih =>
    rw [tot_cons]
    rcases List.mem_cons.1 h with rfl | h
    · omega
    · have := ih h
      omega
theorem tot_len (l : List Wd) : l.length ≤ tot l := by
  induction l with
  | nil => exact Nat.zero_le _
  | cons a l ih =>
    rw [tot_cons, List.length_cons]
    omega
theorem onceP_tot (l : List Wd) : tot (onceP l) ≤ tot l := onceF_tot _ _ _
end Go.Stele
namespace Go.GL
open Go.RowKit
theorem elemsOk_strs : ∀ l : List (List UInt8), elemsOk 1 (l.map str)
  | [] => elemsOk.nil
  | a :: l => elemsOk.cons rfl rfl (elemsOk_strs l)
/-- A call of flat values that hands back a new list of strings, and does nothing else. -/
theorem LCalls.ret_strs {C : Ctx} {f : FuncId} {vs : List Value} {l : List (List UInt8)} {t : TypeId}
    (h : ∀ w, Below C.B0 C.w0 w → Calls C.P f vs.toArray w (fun e w' => e = .returned (.slice (some ⟨w.heap.size, 0, none⟩) l.length l.length) ∧ w' = w.alloc (.cells (l.map fun s => Value.string ⟨s.toArray⟩).toArray t))) : LCalls C f (vs.map .atom) [] (Ret (.list (l.map str))) := fun xs w L hv hH => by
  have hx : xs = vs := by
    clear h hH
    induction vs generalizing xs with
    | nil => simpa [RepL] using hv
    | cons v vs ih =>
      simp only [List.map_cons, RepL, Rep] at hv
      obtain ⟨y, ys, rfl, rfl, hv⟩ := hv
      rw [ih _ hv]
  subst hx
  refine (h w hH.base).mono fun e w' he => ?_
  obtain ⟨rfl, rfl⟩ := he
  have hr : RepL w L (l.map str) (l.map fun s => Value.string ⟨s.toArray⟩) := by
    have := repL_atoms (w := w) (L := L) (l.map fun s => Value.string ⟨s.toArray⟩)
    rw [List.map_map] at this
    exact this
  have hok : elemsOk 1 (l.map str) := elemsOk_strs l
  have hl : (l.map str).length = l.length := List.length_map _
  have := left_newRow (K := fun lv H => ∃ b, lv = .app b l.length 1 (l.map str)) (t := t) (cap := l.length) (rest := []) hH hr hok (by omega) (by simp) fun b => ⟨b, rfl⟩
  have e1 : ((l.map fun s => Value.string ⟨s.toArray⟩).flatMap fun v => v.cells.toList) ++ [] = l.map fun s => Value.string ⟨s.toArray⟩ := by
    rw [List.append_nil]
    clear this hok hr h hv hl
    induction l with
    | nil => rfl
    | cons a l ih => rw [List.map_cons, List.flatMap_cons, ih]; rfl
  rw [e1, hl] at this
  obtain ⟨lv, H', L', r1, r2, r3, b, rfl⟩ := this
  exact ⟨.list (l.map str), [], L', r1.weak (HSub.nil _), r2.weak (HSub.nil _), LV.Sub.app _ _ _ _ _ _ _ r3, rfl, rfl⟩
end Go.GL
namespace Go.Proofs.YtkjjenppmmipmaaGreatDoor
open Go.GL Go.RowKit Go.Stele
set_option maxRecDepth 100000
set_option maxHeartbeats 4000000
theorem cells_rows {w : World} {L : Live} {b : Nat} : ∀ (k off : Nat) (ws : List (List UInt8)), RepRows w L b k off (ws.map str) → ∀ (j : Nat) x, (ws.map fun l => (⟨l.toArray⟩ : ByteArray))[j]? = some x → k = 1 ∧ w.cell? ⟨b, off + j, none⟩ = some (.string x)
  | k, off, [], _, j, x, h => by simp at h
  | k, off, s :: ws, h, 0, x, hx => by
    simp only [List.map_cons, RepRows] at h
    obtain ⟨⟨hk, _, y, hy, hr⟩, _⟩ := h
    simp only [Rep] at hr
    simp at hx
    rw [← hx, Nat.add_zero, hy, hr]
    exact ⟨hk.symm, rfl⟩
  | k, off, s :: ws, h, j + 1, x, hx => by
    simp only [List.map_cons, RepRows] at h
    obtain ⟨⟨hk, _⟩, h2⟩ := h
    have := cells_rows k (off + k) ws h2 j x (by simpa using hx)
    refine ⟨hk.symm, ?_⟩
    rw [← this.2, ← hk, Nat.add_assoc, Nat.add_comm 1 j]
section
variable {B0 : Nat} {w0 : World}
theorem joinS_spec (sep : List UInt8) (ws : List (List UInt8)) (hn : ws.length ≤ 1000000000) (hl : (Go.Lib.join ws sep).length ≤ 1000000000) : LCalls (KC B0 w0) 15 [.list (ws.map str), str sep] [] (Ret (str (Go.Lib.join ws sep))) := fun xs w L hv hH => by
  simp only [RepL] at hv
  obtain ⟨y, ys, rfl, hy, z, zs, rfl, hz, rfl⟩ := hv
  simp only [Rep] at hy hz
  obtain ⟨a, cap, rfl, hcap, hrows⟩ := hy
  subst hz
  rw [List.length_map] at hcap
  have hmap : (ws.map fun l => (⟨l.toArray⟩ : ByteArray)).map (·.data.toList) = ws := by
    rw [List.map_map]
    conv => rhs; rw [← List.map_id ws]
    rfl
  have hc : Calls Tryz.prog 15 #[.slice a ws.length cap, .string ⟨sep.toArray⟩] w fun e w' => e = .returned (.string ⟨(Go.Lib.join ws sep).toArray⟩) ∧ Below w.heap.size w w' := by
    by_cases hne : ws = []
    · subst hne
      exact (Tryz.strings_Join_none a cap ⟨sep.toArray⟩ w).mono fun e w' he => ⟨by rw [he.1]; rfl, by rw [he.2]; exact Below.refl _ _⟩
    · obtain ⟨b, off, k, rfl, hr⟩ := hrows (by simpa using hne)
      have hcells := fun j x hx => (cells_rows k off ws hr j x hx).2
      have hb : b < w.heap.size := by
        obtain ⟨s, r, rfl⟩ := List.exists_cons_of_ne_nil hne
        have := hcells 0 _ rfl
        exact World.block_lt_of_cell? _ _ this
      have := Tryz.strings_Join b off cap (ws.map fun l => (⟨l.toArray⟩ : ByteArray)) ⟨sep.toArray⟩ w hcells hb (by rw [List.length_map]; omega) (by rw [List.length_map]; exact hcap) (by rw [hmap]; show (Go.Lib.join ws sep).length ≤ _; omega)
      rw [List.length_map, hmap] at this
      exact this
  rw [List.length_map]
  refine hc.mono fun e w' he => ?_
  obtain ⟨rfl, hb⟩ := he
  obtain ⟨h1, h2⟩ := fr_below hH hb
  exact ⟨str (Go.Lib.join ws sep), [], L, h1, h2, rep_atom, rfl, rfl⟩
theorem GW.maxAt (h : GW B0 w0) {w : World} (hb : Below B0 w0 w) : ∃ m, w.cell? ⟨0, 0, none⟩ = some (.int .i64 m) := by
  obtain ⟨m, hm⟩ := h.maxLen
  exact ⟨m, (cell_of_heap (hb.block 0 (Nat.lt_of_lt_of_le (by decide) h.big)) 0).trans hm⟩
theorem split_spec (hG : GW B0 w0) (s : List UInt8) (c : UInt8) (hs : s.length ≤ 1000000000) : LCalls (KC B0 w0) 64 [str s, str [c]] [] (Ret (.list ((pieces c s).map str))) := by
  rw [← split_one]
  refine LCalls.ret_strs (vs := [.string ⟨s.toArray⟩, .string ⟨#[c]⟩]) (t := 9) fun w hw => ?_
  obtain ⟨m, hm⟩ := hG.maxAt hw
  have h1 := Tryz.strings_Split ⟨s.toArray⟩ ⟨#[c]⟩ m w (by show s.toArray.size < _; simp; omega) hm (Nat.le_refl 1)
  have e1 : (Go.Lib.splitB ⟨#[c]⟩ 0 (Go.Lib.countB ⟨s.toArray⟩ ⟨#[c]⟩) ⟨s.toArray⟩).map Value.string = (Go.Lib.split s [c]).map fun s => Value.string ⟨s.toArray⟩ := by
    have := Go.Lib.splitB_data ⟨#[c]⟩ 0 (Go.Lib.countB ⟨s.toArray⟩ ⟨#[c]⟩) ⟨s.toArray⟩
    have e2 : Go.Lib.split s [c] = Go.Lib.splitK (⟨#[c]⟩ : ByteArray).data.toList 0 (Go.Lib.countB ⟨s.toArray⟩ ⟨#[c]⟩) (⟨s.toArray⟩ : ByteArray).data.toList := rfl
    rw [e2, ← this, List.map_map]
    rfl
  have e3 : (Go.Lib.split s [c]).length = Go.Lib.countB ⟨s.toArray⟩ ⟨#[c]⟩ + 1 := by
    have := congrArg List.length e1
    rw [List.length_map, List.length_map, Go.Lib.splitB_all ⟨#[c]⟩ (Nat.le_refl 1) 0 _ _ rfl] at this
    exact this.symm
  rw [e1] at h1
  rw [e3]
  exact h1
theorem cut_spec (hG : GW B0 w0) (s : List UInt8) (c : UInt8) (hs : s.length ≤ 1000000000) : LCalls (KC B0 w0) 65 [str s, str [c]] [] (RetIf fun lv => ∃ a b, lv = .tuple [str (s.takeWhile fun d => decide (d ≠ c)), str a, bool b]) := by
  rw [← cut_one]
  refine LCalls.mono (LCalls.of_belowT (vs := [.string ⟨s.toArray⟩, .string ⟨#[c]⟩]) (p := fun us => us = [.string ⟨(Go.Lib.cut s [c]).1.toArray⟩, .string ⟨(Go.Lib.cut s [c]).2.1.toArray⟩, .bool (Go.Lib.cut s [c]).2.2]) fun w hw => ?_) ?_
  · obtain ⟨m, hm⟩ := hG.maxAt hw
    refine (Tryz.strings_Cut ⟨s.toArray⟩ ⟨#[c]⟩ m w (by show s.toArray.size < _; simp; omega) hm).mono fun e w' he => ?_
    obtain ⟨rfl, n, rfl⟩ := he
    exact ⟨_, rfl, rfl, below_drewN (Below.refl _ _) n⟩
  · rintro r H ⟨v, rfl, ⟨us, rfl, rfl⟩, rfl⟩
    exact ⟨_, rfl, ⟨_, _, rfl⟩, rfl⟩
/-- A token of the assembler: its text, its line. -/
def tokLV (p : Wd × Nat) : LV := .agg [str p.1, int .i64 p.2]
end
attribute [local irreducible] LOps LCode LStep LCalls Go.GL.Pure QThen QBlock RetPost LQ LAny LLate LLateOp
section
variable {B0 : Nat} {w0 : World}
theorem toks_len (l : List (Wd × Nat)) : ∀ v ∈ l.map tokLV, v.cells.length = 2 := by
  intro v hv
  obtain ⟨p, _, rfl⟩ := List.mem_map.1 hv
  rfl
theorem tokens_spec (hG : GW B0 w0) (s : List UInt8) (hs : s.length ≤ 1000000) : LCalls (KC B0 w0) 37 [str s] [] (Ret (.list ((toksP s).map tokLV))) := by
  have hP : toksP s = toksN 0 (pieces 10 s) := rfl
  have hpl := pieces_len 10 s
  have hpa : ((pieces 10 s).map str).length = (pieces 10 s).length := List.length_map _
  have htl : (toksP s).length ≤ s.length + 1 := by
    have h1 := wordsP_len s
    rw [← toksP_fst, List.length_map] at h1
    exact h1
  have hsp := split_spec hG s 10 (by omega)
  refine LCalls.intro Tryz.func37 rfl (n := 41) rfl rfl rfl ?_
  repeat first
    | refine LOps.nil ?_
    | refine LCode.seq ?_
    | refine LCode.region ?_
    | refine QThen.normal ?_
    | refine LOps.pure (Pure.as (lv := .atom _) rfl) rfl ?_
    | refine LOps.pure (Pure.mv (lv := .atom _) rfl) rfl ?_
  refine LOps.step (S.fn [_, _] rfl hsp ?_) rfl
  repeat first
    | refine LOps.nil ?_
    | refine LCode.block ?_
    | refine QThen.normal ?_
    | refine LOps.pure (Pure.mv (lv := .atom _) rfl) rfl ?_
    | refine LOps.pure (Pure.llen rfl) rfl ?_
  refine LCode.loopI (fun k ls H => ∃ (i : Nat) (out : List (Wd × Nat)) (v : LV), i ≤ (pieces 10 s).length ∧ k = (pieces 10 s).length - i ∧ ls = [(3, v), (9, .list ((pieces 10 s).map str)), (10, int .i64 (pieces 10 s).length), (11, int .i64 (i : Nat))] ∧ Acc 2 v (out.map tokLV) H [] ∧ out ++ toksN i ((pieces 10 s).drop i) = toksP s)
    ⟨_, _, _, ⟨0, [], nilSlice, Nat.zero_le _, rfl, rfl, Acc.nil, rfl⟩, ⟨rfl, rfl, int_eq (by omega), rfl, trivial⟩, HSub.refl _⟩ ?_
  rintro k ls H ⟨i, out, v, hi, rfl, rfl, hacc, hE⟩ j hj
  repeat first
    | refine LOps.nil ?_
    | refine LCode.seq ?_
    | refine LCode.region ?_
    | refine QThen.normal ?_
    | refine LOps.pure (Pure.lss rfl rfl) rfl ?_
  refine LCode.cond rfl (fun hc => ?_) (fun hc => ?_)
  · have hlt : i < (pieces 10 s).length := by have := of_decide_eq_true hc; omega
    have hlo : out.length ≤ (toksP s).length := by rw [← hE, List.length_append]; omega
    rw [toksN_drop hlt] at hE
    have hll := pieces_mem_len (List.getElem_mem hlt)
    have hc1 := cut_spec hG (pieces 10 s)[i] 35 (by omega)
    have hW : lineW (pieces 10 s)[i] = full (pieces 32 ((pieces 10 s)[i].takeWhile fun d => decide (d ≠ 35))) := rfl
    have htw : ((pieces 10 s)[i].takeWhile fun d => decide (d ≠ 35)).length ≤ (pieces 10 s)[i].length := (List.takeWhile_prefix _).length_le
    have hs2 := split_spec hG ((pieces 10 s)[i].takeWhile fun d => decide (d ≠ 35)) 32 (by omega)
    have hql := pieces_len 32 ((pieces 10 s)[i].takeWhile fun d => decide (d ≠ 35))
    generalize (pieces 10 s)[i].takeWhile (fun d => decide (d ≠ 35)) = line at hc1 hW htw hs2 hql
    generalize hq : pieces 32 line = q at hW hs2 hql
    have hqa : (q.map str).length = q.length := List.length_map _
    repeat (first | refine LOps.nil ?_ | refine QThen.normal ?_ | refine LCode.skip ?_)
    refine LCode.seq ?_
    refine LCode.midC (A := List (Wd × Nat) × LV × Heap) (fun a => [(3, a.2.1), (9, .list ((pieces 10 s).map str)), (10, int .i64 (pieces 10 s).length), (11, int .i64 (i : Nat))]) (fun a => a.2.2) (fun a => a.1 = out ++ (full q).map (fun w => (w, i + 1)) ∧ Acc 2 a.2.1 (a.1.map tokLV) a.2.2 []) ?_ ?_
    · repeat first
        | refine LCode.seq ?_
        | refine LCode.region ?_
        | refine LCode.block ?_
        | refine LOps.pure (Pure.mv (lv := .atom _) rfl) rfl ?_
      refine LOps.pure (Pure.ixRef (el' := str (pieces 10 s)[i]) (cs := [str (pieces 10 s)[i]]) rfl rfl (by omega) (map_get _ _ _ hlt) rfl rfl) rfl ?_
      repeat first
        | refine LOps.nil ?_
        | refine LCode.seq ?_
        | refine LCode.region ?_
        | refine QThen.normal ?_
        | refine LOps.pure (Pure.as (lv := .atom _) rfl) rfl ?_
        | refine LOps.pure (Pure.mv (lv := .atom _) rfl) rfl ?_
        | refine LOps.pure (Pure.loadRef (c := .atom _) rfl rfl) rfl ?_
      refine LOps.step (S.fnIf [_, _] rfl hc1 ?_) rfl
      rintro lv ⟨a, b, rfl⟩
      repeat first
        | refine LOps.nil ?_
        | refine LCode.seq ?_
        | refine LCode.region ?_
        | refine QThen.normal ?_
        | refine LOps.pure (Pure.as (lv := .atom _) rfl) rfl ?_
        | refine LOps.pure (Pure.mv (lv := .atom _) rfl) rfl ?_
        | refine LOps.pure (Pure.mv (lv := .tuple _) rfl) rfl ?_
        | refine LOps.pure (Pure.extract (c := .atom _) rfl rfl) rfl ?_
      refine LOps.step (S.fn [_, _] rfl hs2 ?_) rfl
      repeat first
        | refine LOps.nil ?_
        | refine LCode.block ?_
        | refine QThen.normal ?_
        | refine LOps.pure (Pure.mv (lv := .atom _) rfl) rfl ?_
        | refine LOps.pure (Pure.llen rfl) rfl ?_
      refine LCode.loopI (fun k ls H => ∃ (x : Nat) (out2 : List (Wd × Nat)) (v : LV), x ≤ q.length ∧ k = q.length - x ∧ ls = [(3, v), (4, int .i64 (i : Nat)), (9, .list ((pieces 10 s).map str)), (10, int .i64 (pieces 10 s).length), (11, int .i64 (i : Nat)), (23, .list (q.map str)), (24, int .i64 q.length), (25, int .i64 (x : Nat))] ∧ Acc 2 v (out2.map tokLV) H [] ∧ out2.length ≤ out.length + x ∧ out2 ++ (full (q.drop x)).map (fun w => (w, i + 1)) = out ++ (full q).map (fun w => (w, i + 1)))
        ⟨_, _, _, ⟨0, out, v, Nat.zero_le _, rfl, rfl, hacc, by omega, rfl⟩, ⟨rfl, rfl, rfl, rfl, rfl, rfl, int_eq (by omega), rfl, trivial⟩, HSub.refl _⟩ ?_
      rintro k ls H ⟨x, out2, v2, hx, rfl, rfl, hacc2, hlen2, hE2⟩ j2 hj2
      have hol2 : (out2.map tokLV).length = out2.length := List.length_map _
      repeat first
        | refine LOps.nil ?_
        | refine LCode.seq ?_
        | refine LCode.region ?_
        | refine QThen.normal ?_
        | refine LOps.pure (Pure.lss rfl rfl) rfl ?_
      refine LCode.cond rfl (fun hc => ?_) (fun hc => ?_)
      · have hlt2 : x < q.length := by have := of_decide_eq_true hc; omega
        rw [full_drop hlt2] at hE2
        repeat first
          | refine LCode.seq ?_
          | refine LCode.region ?_
          | refine LCode.skip ?_
          | refine LCode.block ?_
          | refine QThen.normal ?_
        refine LOps.pure (Pure.ixRef (el' := str q[x]) (cs := [str q[x]]) rfl rfl (by omega) (map_get _ _ _ hlt2) rfl rfl) rfl ?_
        repeat first
          | refine LOps.nil ?_
          | refine LCode.seq ?_
          | refine LCode.region ?_
          | refine QThen.normal ?_
          | refine LOps.pure (Pure.as (lv := .atom _) rfl) rfl ?_
          | refine LOps.pure (Pure.mv (lv := .atom _) rfl) rfl ?_
          | refine LOps.pure (Pure.loadRef (c := .atom _) rfl rfl) rfl ?_
          | refine LOps.pure (Pure.sneq rfl rfl) rfl ?_
        refine LCode.cond rfl (fun hn => ?_) (fun hn => ?_)
        · have hne : ¬ q[x] = [] := by simpa using hn
          rw [if_neg hne] at hE2
          repeat first
            | refine LCode.region ?_
          refine LOps.pure (Pure.mv (lv := v2) rfl) rfl ?_
          repeat first
            | refine LOps.pure (Pure.mv (lv := .atom _) rfl) rfl ?_
            | refine LOps.pure (Pure.add rfl rfl (by omega)) rfl ?_
            | refine LOps.pure (Pure.bld _ (cs := [_, _]) rfl) rfl ?_
          refine LOps.step (S.lit [_] rfl (elemsOk.cons rfl rfl elemsOk.nil) rfl rfl rfl ?_) rfl
          refine LOps.step (S.acc rfl hacc2 rfl (by simp; rfl) rfl (by simp; omega) fun v3 H3 hacc3 => ?_) rfl
          refine LOps.pure (Pure.as (lv := v3) rfl) rfl ?_
          repeat first
            | refine LOps.nil ?_
            | refine LCode.region ?_
            | refine QThen.normal ?_
            | refine QBlock.normal ?_
            | refine LOps.pure (Pure.mv (lv := .atom _) rfl) rfl ?_
            | refine LOps.pure (Pure.add rfl rfl (by omega)) rfl ?_
          exact ⟨_, _, _, by omega, ⟨x + 1, out2 ++ [(q[x], i + 1)], v3, by omega, rfl, rfl, by rw [List.map_append]; exact hacc3, by simp; omega, by rw [List.append_assoc]; exact hE2⟩, ⟨rfl, rfl, rfl, rfl, rfl, rfl, rfl, int_eq (by omega), trivial⟩, HSub.refl _, hj2⟩
        · have hne : q[x] = [] := by simpa using hn
          rw [if_pos hne] at hE2
          repeat first
            | refine LOps.nil ?_
            | refine LCode.region ?_
            | refine LCode.skip ?_
            | refine QThen.normal ?_
            | refine QBlock.normal ?_
            | refine LOps.pure (Pure.mv (lv := .atom _) rfl) rfl ?_
            | refine LOps.pure (Pure.add rfl rfl (by omega)) rfl ?_
          exact ⟨_, _, _, by omega, ⟨x + 1, out2, v2, by omega, rfl, rfl, hacc2, by omega, hE2⟩, ⟨rfl, rfl, rfl, rfl, rfl, rfl, rfl, int_eq (by omega), trivial⟩, HSub.refl _, hj2⟩
      · have hx' : x = q.length := by have := of_decide_eq_false hc; omega
        subst hx'
        rw [List.drop_length] at hE2
        repeat first
          | refine LCode.exit ?_
          | refine QThen.normal ?_
          | refine QThen.exit ?_
          | refine QBlock.hit ?_
          | refine QBlock.normal ?_
        exact ⟨(out2, v2, H), ⟨by simpa [full] using hE2, hacc2⟩, ⟨rfl, rfl, rfl, rfl, trivial⟩, HSub.refl _, hj2⟩
    · rintro ⟨out2, v2, H2⟩ ⟨ho, hacc2⟩ j3 hj3
      simp only at ho hacc2
      rw [hW, ← List.append_assoc, ← ho] at hE
      repeat first
        | refine LOps.nil ?_
        | refine LCode.region ?_
        | refine QThen.normal ?_
        | refine LOps.pure (Pure.mv (lv := .atom _) rfl) rfl ?_
        | refine LOps.pure (Pure.add rfl rfl (by omega)) rfl ?_
      exact ⟨_, _, _, by omega, ⟨i + 1, out2, v2, by omega, rfl, rfl, hacc2, by rw [← hE]⟩, ⟨rfl, rfl, rfl, int_eq (by omega), trivial⟩, HSub.refl _, hj3.trans hj⟩
  · have hi' : i = (pieces 10 s).length := by have := of_decide_eq_false hc; omega
    subst hi'
    rw [List.drop_length, toksN, List.append_nil] at hE
    subst hE
    refine LCode.sub (d := 3) (v := v) rfl hacc.sub ?_
    refine LCode.weak (HSub.nil _) ?_
    repeat first
      | refine LOps.nil ?_
      | refine LCode.seq ?_
      | refine LCode.region ?_
      | refine LCode.ret ?_
      | refine LCode.exit ?_
      | refine QThen.normal ?_
      | refine QThen.exit ?_
      | refine QBlock.hit ?_
      | refine LOps.pure (Pure.as (lv := .list _) rfl) rfl ?_
      | refine LOps.pure (Pure.mv (lv := .list _) rfl) rfl ?_
    exact retRet hj (AllRes.cons (ResIs.tmp (v := .list _) rfl (LV.Sub.refl _)) AllRes.nil) rfl
theorem words_spec (hG : GW B0 w0) (s : List UInt8) (hs : s.length ≤ 1000000) : LCalls (KC B0 w0) 16 [str s] [] (Ret (.list ((wordsP s).map str))) := by
  have ht := tokens_spec hG s hs
  have hla : ((toksP s).map tokLV).length = (toksP s).length := List.length_map _
  have htl : (toksP s).length ≤ s.length + 1 := by
    have h1 := wordsP_len s
    rw [← toksP_fst, List.length_map] at h1
    exact h1
  rw [← toksP_fst]
  generalize toksP s = l at ht hla htl
  refine LCalls.intro Tryz.func16 rfl (n := 20) rfl rfl rfl ?_
  repeat first
    | refine LOps.nil ?_
    | refine LCode.seq ?_
    | refine LCode.region ?_
    | refine QThen.normal ?_
    | refine LOps.pure (Pure.as (lv := .atom _) rfl) rfl ?_
    | refine LOps.pure (Pure.mv (lv := .atom _) rfl) rfl ?_
  refine LOps.step (S.fn [_] rfl ht ?_) rfl
  repeat first
    | refine LOps.nil ?_
    | refine LCode.block ?_
    | refine QThen.normal ?_
    | refine LOps.pure (Pure.mv (lv := .atom _) rfl) rfl ?_
    | refine LOps.pure (Pure.llen rfl) rfl ?_
  refine LCode.loopI (fun k ls H => ∃ (v : LV) (i : Nat), i ≤ l.length ∧ k = l.length - i ∧ ls = [(3, v), (7, .list (l.map tokLV)), (8, int .i64 l.length), (9, int .i64 (i : Nat))] ∧ Acc 1 v (((l.take i).map (·.1)).map str) H [])
    ⟨_, _, _, ⟨nilSlice, 0, Nat.zero_le _, rfl, rfl, by simpa using Acc.nil⟩, ⟨rfl, rfl, int_eq (by omega), rfl, trivial⟩, HSub.refl _⟩ ?_
  rintro k ls H ⟨v, i, hi, rfl, rfl, hacc⟩ j hj
  repeat first
    | refine LOps.nil ?_
    | refine LCode.seq ?_
    | refine LCode.region ?_
    | refine QThen.normal ?_
    | refine LOps.pure (Pure.lss rfl rfl) rfl ?_
  refine LCode.cond rfl (fun hc => ?_) (fun hc => ?_)
  · have hlt : i < l.length := by have := of_decide_eq_true hc; omega
    repeat first
      | refine LCode.seq ?_
      | refine LCode.region ?_
      | refine LCode.skip ?_
      | refine LCode.block ?_
      | refine QThen.normal ?_
    refine LOps.pure (Pure.ixRef (el' := tokLV l[i]) (cs := [_, _]) rfl rfl (by omega) (map_get _ _ _ hlt) rfl rfl) rfl ?_
    repeat first
      | refine LOps.pure (Pure.ldRefAgg (cs' := [_, _]) rfl rfl rfl) rfl ?_
    refine LOps.step (S.alloc fun b5 => ?_) rfl
    repeat first
      | refine LOps.nil ?_
      | refine LCode.region ?_
      | refine QThen.normal ?_
      | refine LOps.step (S.store (cs' := [_, _]) rfl Pick.here rfl rfl rfl rfl rfl ?_) rfl
    refine LOps.pure (Pure.mv (lv := v) rfl) rfl ?_
    repeat first
      | refine LOps.pure (Pure.fieldH rfl) rfl ?_
      | refine LOps.pure (Pure.loadH (c := .atom _) rfl (List.Mem.head _) rfl) rfl ?_
    refine LOps.step (S.lit [_] rfl (elemsOk.cons rfl rfl elemsOk.nil) rfl rfl rfl ?_) rfl
    refine LOps.step (S.acc1 rfl hacc rfl (by simp; rfl) rfl (by simp; omega) fun v' H' hacc' => ?_) rfl
    refine LOps.pure (Pure.as (lv := v') rfl) rfl ?_
    repeat first
      | refine LOps.nil ?_
      | refine LCode.region ?_
      | refine QThen.normal ?_
      | refine QBlock.normal ?_
      | refine LOps.pure (Pure.mv (lv := .atom _) rfl) rfl ?_
      | refine LOps.pure (Pure.add rfl rfl (by omega)) rfl ?_
    exact ⟨_, _, _, by omega, ⟨v', i + 1, by omega, rfl, rfl, by
      rw [List.take_succ_eq_append_getElem hlt, List.map_append, List.map_append]
      exact hacc'⟩, ⟨rfl, rfl, rfl, int_eq (by omega), trivial⟩, HSub.drop (HSub.refl _), hj⟩
  · have hi' : i = l.length := by have := of_decide_eq_false hc; omega
    subst hi'
    rw [List.take_length] at hacc
    refine LCode.sub (d := 3) (v := v) rfl hacc.sub ?_
    refine LCode.weak (HSub.nil _) ?_
    repeat first
      | refine LOps.nil ?_
      | refine LCode.seq ?_
      | refine LCode.region ?_
      | refine LCode.ret ?_
      | refine LCode.exit ?_
      | refine QThen.normal ?_
      | refine QThen.exit ?_
      | refine QBlock.hit ?_
      | refine LOps.pure (Pure.as (lv := .list _) rfl) rfl ?_
      | refine LOps.pure (Pure.mv (lv := .list _) rfl) rfl ?_
    exact retRet hj (AllRes.cons (ResIs.tmp (v := .list _) rfl (LV.Sub.refl _)) AllRes.nil) rfl
end
end Go.Proofs.YtkjjenppmmipmaaGreatDoor
namespace Go.Proofs.YtkjjenppmmipmaaGreatDoor
open Go.GL Go.RowKit Go.Stele
set_option maxRecDepth 100000
set_option maxHeartbeats 4000000
theorem small_tot {l : List Wd} (h : tot l ≤ 1000000) : Small l := ⟨by have := tot_len l; omega, fun w hw => by have := tot_mem hw; omega⟩
attribute [local irreducible] LOps LCode LStep LCalls Go.GL.Pure QThen QBlock RetPost LQ LAny LLate LLateOp
section
variable {B0 : Nat} {w0 : World}
theorem optimize_spec (hG : GW B0 w0) (s : List UInt8) (hs : s.length ≤ 1000000) : LCalls (KC B0 w0) 14 [str s] [] (Ret (.tuple [str (optimizeP s).1, int .i64 (optimizeP s).2])) := by
  refine LCalls.intro Tryz.func14 rfl (n := 21) rfl rfl rfl ?_
  repeat first
    | refine LOps.nil ?_
    | refine LCode.seq ?_
    | refine LCode.region ?_
    | refine QThen.normal ?_
    | refine LOps.pure (Pure.as (lv := .atom _) rfl) rfl ?_
    | refine LOps.pure (Pure.mv (lv := .atom _) rfl) rfl ?_
    | refine LOps.pure (Pure.slen rfl) rfl ?_
    | refine LOps.pure (Pure.gtr rfl rfl) rfl ?_
  refine LCode.cond rfl (fun h1 => ?_) (fun h1 => ?_)
  · have hlt : 400000 < s.length := by have := of_decide_eq_true h1; omega
    have hO : optimizeP s = ([], 6) := by unfold optimizeP; rw [if_pos hlt]
    repeat first
      | refine LOps.nil ?_
      | refine LCode.seq ?_
      | refine LCode.region ?_
      | refine LCode.ret ?_
      | refine QThen.normal ?_
      | refine QThen.ret ?_
      | refine LOps.pure (Pure.as (lv := .atom _) rfl) rfl ?_
    exact retRet rfl (AllRes.cons (ResIs.tmp (v := .atom _) rfl (LV.Sub.refl _)) (AllRes.cons (ResIs.tmp (v := .atom _) rfl (LV.Sub.refl _)) AllRes.nil)) (by rw [hO]; rfl)
  have hlt : ¬ 400000 < s.length := by have := of_decide_eq_false h1; omega
  have hO : optimizeP s = (Go.Lib.join (optP (wordsP s)) [32], 0) := by unfold optimizeP; rw [if_neg hlt]
  have ht := words_tot s
  have hc := wordsP_clean s
  repeat first
    | refine LCode.seq ?_
    | refine LCode.region ?_
    | refine LCode.skip ?_
    | refine QThen.normal ?_
    | refine LOps.pure (Pure.mv (lv := .atom _) rfl) rfl ?_
  refine LOps.step (S.fn [_] rfl (words_spec hG s hs) ?_) rfl
  repeat first
    | refine LOps.nil ?_
    | refine LCode.block ?_
    | refine QThen.normal ?_
    | refine LOps.pure (Pure.as (lv := .list _) rfl) rfl ?_
  refine LCode.loopI (fun k ls H => ∃ l : List Wd, k = l.length ∧ ls = [(4, .list (l.map str))] ∧ H = [] ∧ tot l ≤ 400001 ∧ (∀ w ∈ l, CleanW w) ∧ optP (wordsP s) = optP l)
    ⟨_, _, _, ⟨_, rfl, rfl, rfl, by omega, hc, rfl⟩, ⟨rfl, trivial⟩, HSub.refl _⟩ ?_
  rintro k ls H ⟨l, rfl, rfl, rfl, htl, hcl, hE⟩ j hj
  have h1 := once_spec hG l (small_tot (by omega))
  have h2 := onceP_tot l
  have hcl2 := once_clean hcl
  have hjt := join_tot l
  have hjt2 := join_tot (onceP l)
  have hln := tot_len l
  have hln2 := tot_len (onceP l)
  have hor := onceP_or l
  have j1 := joinS_spec (B0 := B0) (w0 := w0) [32] l (by omega) (by omega)
  have j2 := joinS_spec (B0 := B0) (w0 := w0) [32] (onceP l) (by omega) (by omega)
  repeat first
    | refine LCode.seq ?_
    | refine LCode.region ?_
    | refine LCode.block ?_
    | refine LOps.pure (Pure.mv (lv := .list _) rfl) rfl ?_
  refine LOps.step (S.fn [_] rfl h1 ?_) rfl
  repeat first
    | refine LOps.nil ?_
    | refine LCode.seq ?_
    | refine LCode.region ?_
    | refine QThen.normal ?_
    | refine LOps.pure (Pure.as (lv := .list _) rfl) rfl ?_
    | refine LOps.pure (Pure.mv (lv := .list _) rfl) rfl ?_
  refine LOps.step (S.fn [_, _] rfl j2 ?_) rfl
  repeat first
    | refine LOps.pure (Pure.mv (lv := .list _) rfl) rfl ?_
  refine LOps.step (S.fn [_, _] rfl j1 ?_) rfl
  repeat first
    | refine LOps.nil ?_
    | refine QThen.normal ?_
    | refine LOps.pure (Pure.seq rfl rfl) rfl ?_
  refine LCode.cond rfl (fun h3 => ?_) (fun h3 => ?_)
  · have he := join_inj hcl2 hcl (of_decide_eq_true h3)
    rw [optP_eq he] at hE
    rw [hE] at hO
    repeat first
      | refine LCode.seq ?_
      | refine LCode.region ?_
      | refine LOps.pure (Pure.mv (lv := .list _) rfl) rfl ?_
    refine LOps.step (S.fn [_, _] rfl j1 ?_) rfl
    repeat first
      | refine LOps.nil ?_
      | refine LCode.ret ?_
      | refine QThen.normal ?_
      | refine QThen.ret ?_
      | refine QBlock.ret ?_
      | refine LOps.pure (Pure.as (lv := .atom _) rfl) rfl ?_
    exact retRet hj (AllRes.cons (ResIs.tmp (v := .atom _) rfl (LV.Sub.refl _)) (AllRes.cons (ResIs.tmp (v := .atom _) rfl (LV.Sub.refl _)) AllRes.nil)) (by rw [hO]; rfl)
  · have hne : ¬ onceP l = l := fun h => of_decide_eq_false h3 (by rw [h])
    rw [optP_step hne] at hE
    repeat first
      | refine LOps.nil ?_
      | refine LCode.region ?_
      | refine LCode.skip ?_
      | refine QThen.normal ?_
      | refine QBlock.normal ?_
      | refine LOps.pure (Pure.as (lv := .list _) rfl) rfl ?_
      | refine LOps.pure (Pure.mv (lv := .list _) rfl) rfl ?_
    exact ⟨_, _, _, by rcases hor with h | h; exact absurd h hne; exact h, ⟨onceP l, rfl, rfl, rfl, by omega, hcl2, hE⟩, ⟨rfl, trivial⟩, HSub.refl _, hj⟩
end
end Go.Proofs.YtkjjenppmmipmaaGreatDoor
