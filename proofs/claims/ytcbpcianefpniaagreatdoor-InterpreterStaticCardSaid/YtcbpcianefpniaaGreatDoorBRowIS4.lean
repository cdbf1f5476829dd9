/- Texts joined: InpW6, InpW7, InpW8, Shelf, Lex2, FmtUint, Lex3, Lex4, Lex5. -/
import Derived.Shelf.Strings.Builder1
import Derived.Shelf.Strings.Builder2
import Derived.Shelf.Strings.BuilderF
import Derived.Shelf.Strings.BuilderK
import Derived.Shelf.Utf8.RuneCount
import Derived.Shelf.Strings.Builder2Cap
import Derived.Shelf.Strconv.Itoa0
import Derived.Shelf.Strconv.Itoa1
import Derived.Shelf.LaysM
import Derived.Shelf.Strconv.Itoa2
import Derived.Shelf.Strconv.Itoa3
import Derived.Shelf.Strconv.Clone
import Derived.Shelf.Strconv.SyntaxError
import Derived.Shelf.LaysC
import Derived.Shelf.Strconv.ToError
import Derived.Shelf.Strconv.Lower
import Derived.Shelf.Strconv.ParseUint10
import Derived.Shelf.Strconv.ParseUint10Empty
import Derived.Shelf.Strconv.ParseUint10Any
import Derived.Shelf.Strconv.RangeError
import Derived.Shelf.Strconv.ToErrorRange
import Derived.Shelf.Strconv.ParseUintEmpty
import Derived.Shelf.Strconv.ParseUint10b64
import Derived.Shelf.Strconv.ParseUint10b32
import Derived.Shelf.Strconv.ParseUint10b16
import Derived.Shelf.Strconv.ParseUint10b8
import Derived.Shelf.Strconv.ParseUint10At
import Derived.Ground.MpProg
import Derived.Shelf.Pu.ParseUintPublic10
import Derived.Shelf.Pu.ErrVarParseUint
import Derived.Shelf.Strings.Search1
import Derived.Shelf.Strings.Search2
import Derived.Shelf.Strings.Search3
import Derived.Shelf.Strings.Count
import Derived.Shelf.Strings.Shaped
import Derived.Shelf.Strings.Prefix
import Derived.Shelf.Strings.Split
import Derived.Shelf.Strings.Replace
import Derived.Shelf.Strings.SplitShaped
import Derived.Shelf.Unicode.Decode
import Derived.Shelf.Strings.RuneCount
import Derived.Shelf.Unicode.DecodeSlow
import Derived.Shelf.Unicode.DecodeAny
import Derived.Shelf.Strings.BuilderCap
import Derived.Shelf.Slices.Turned
import Derived.Ground.Names2Prog
import Derived.Shelf.Slices.Clone
import Derived.Test.YtcbpcianefpniaaGreatDoorProg
import Derived.Lib.Walk
import Derived.Lib.ItoaMem
import Derived.Lib.AppendIntMem
import Derived.WalkKit
import Derived.BigCall
import Derived.BigGuard
import Derived.Below
import Derived.WalkSmall
import Derived.Test.YtcbpcianefpniaaGreatDoorBRowIS1
import Derived.Test.YtcbpcianefpniaaGreatDoorBRowIS3
set_option linter.unusedVariables false
set_option linter.unusedSimpArgs false
namespace Go.Proofs.YtcbpcianefpniaaGreatDoor.Inp
open Go.GL Go.RowKit Go.Stele
set_option maxRecDepth 100000
set_option maxHeartbeats 4000000
theorem bind_ok {A B : Type} {v : A} {s : IS} {f : A → IS → IR B} : (IR.ok v s).bind f = f v s := rfl
theorem bind_stop {A B : Type} {e : Int} {s : IS} {f : A → IS → IR B} : (IR.stop e s).bind f = .stop e s := rfl
theorem errS_parts {c : CEnv} {kind : Int} {name : List UInt8} {index value : List Ex} {thn els : List Sm} (h : errS c (.mk kind name index value thn els) = 0) :
  formS (.mk kind name index value thn els) = true ∧ errEs c value = 0 ∧ errEs c index = 0 ∧ (if kind = 1 then scalarE c name else if kind = 2 then arrayE c name else 0) = 0 ∧ errSs c thn = 0 ∧ errSs c els = 0 := by
 rw [errS] at h
 split at h
 ·cases h
 ·rename_i hf
  obtain ⟨h1, h⟩ := orE_zero.1 h
  obtain ⟨h2, h⟩ := orE_zero.1 h
  obtain ⟨h3, h⟩ := orE_zero.1 h
  obtain ⟨h4, h5⟩ := orE_zero.1 h
  exact ⟨by simpa using hf, h1, h2, h3, h4, h5⟩
theorem form_value {kind : Int} {name : List UInt8} {index value : List Ex} {thn els : List Sm} (h : formS (.mk kind name index value thn els) = true) (h7 : ¬ kind = 7) : ∃ x, value = [x] := by
 have h1 : value.length = 1 := by
  simp only [formS] at h
  repeat' (split at h)
  all_goals first
   | (simp only [decide_eq_true_eq] at h; omega)
   | cases h
   | contradiction
 cases value with
 | nil => cases h1
 | cons x l =>
  cases l with
  | nil => exact ⟨x, rfl⟩
  | cons y l => simp at h1
theorem form_index {name : List UInt8} {index value : List Ex} {thn els : List Sm} (h : formS (.mk 2 name index value thn els) = true) : ∃ x, index = [x] := by
 have h1 : index.length = 1 := by
  simp only [formS] at h
  simp only [show ¬ ((2 : Int) = 1) by decide, if_false, if_true, decide_eq_true_eq] at h
  exact h.2.1
 cases index with
 | nil => cases h1
 | cons x l =>
  cases l with
  | nil => exact ⟨x, rfl⟩
  | cons y l => simp at h1
/-- One round of a loop. -/
theorem whl_step {P : Pr} {n m v : Nat} {f : FnD} {x : Ex} {thn : List Sm} {s : IS} (hm : s.left ≤ m) (hv : ¬ v = 0) : whlR (evI P n f x) (blkR (stI P n f) thn) m v s = (blkR (stI P n f) thn s).bind fun r s => match r with
  | some y => .ok (some y) s
  | none => (evI P n f x s).bind fun v s => whlR (evI P n f x) (blkR (stI P n f) thn) (m - 1) v s := by
 cases m with
 | succ m => rw [whlR, if_neg hv]; rfl
 | zero =>
  have h0 : s.left = 0 := by omega
  have ht : tick s = .stop 13 s := by rw [tick, if_pos h0]
  have he : evI P n f x s = .stop 13 s := by
   cases n with
   | zero => rw [evI]
   | succ n =>
    obtain ⟨op, num, name, args⟩ := x
    rw [evI, ht, bind_stop]
  rw [whlR, if_neg hv]
  cases thn with
  | nil =>
   rw [blkR, bind_ok]
   show _ = (evI P n f x s).bind _
   rw [he, bind_stop]
  | cons a l =>
   have hs : stI P n f a s = .stop 13 s := by
    cases n with
    | zero => rw [stI]
    | succ n =>
     obtain ⟨k, nm, i, va, t, e⟩ := a
     rw [stI, ht, bind_stop]
   rw [blkR, hs, bind_stop, bind_stop]
section steps
variable {C : Ctx} {n : Nat} {e : Env} {H : Heap} {dst : Option Nat} {ty : TypeId} {pos : String} {aft : Array Edge} {g : Option (Nat × Bool)} {K : LV → Heap → Prop} {X : List PanicEntry → Heap → Prop}
theorem LStep.callI {A : Type} {c : Cfg} {enc : A → LV} {r : IR A} {f : FuncId} [TEnter C.P f] (args : List Operand) {ats : Array TypeId} {av : List LV} (has : args.map e.ev = av)
  (hc : LCalls C f av H (PostI c enc r)) (hk : ∀ v s H', r = .ok v s → St c s H' → K (enc v) H') (hx : ∀ er s H', r = .stop er s → St c s H' → X (panI er) H') :
  LStep C ⟨dst, .call { callee := .value (.func f), args := args.toArray, argTypes := ats }, ty, pos, aft, g⟩ e H K X := by
 refine LStep.conseq (S.callI (F := []) (K := fun lv H' => K lv H') (X := X) args has (by rw [List.append_nil]) hc (fun v s H' h1 h2 => by rw [List.append_nil]; exact hk v s H' h1 h2) (fun er s H' h1 h2 => by rw [List.append_nil]; exact hx er s H' h1 h2)) (fun lv H' h => ⟨lv, H', LV.Sub.refl _, HSub.refl _, h⟩)
end steps
attribute [local irreducible] LOps LCode LStep LCalls Go.GL.Pure QThen QBlock RetPost LQ LAny LLate LLateOp LS
section
variable {B0 : Nat} {w0 : World}
theorem execute_spec {c : Cfg} (hC : CfgOk c) {n : Nat} (hE : EvalH B0 w0 c n) (hB : BlkH B0 w0 c n) : ExecH B0 w0 c (n + 1) := by
 intro f kn x s H hf hk hv hnum hsm hg hs
 obtain ⟨kind, name, index, value, thn, els⟩ := x
 obtain ⟨hform, hval, hidx, hname, hthn, hels⟩ := errS_parts hv
 obtain ⟨hn1, hn2, hn3, hn4⟩ := hnum
 obtain ⟨hm1, hm2, hm3, hm4, hm5, hm6, hm7, hm8⟩ := hsm
 generalize hI : stI c.p (n + 1) f (Sm.mk kind name index value thn els) s = R
 rw [stI] at hI
 rw [encS_mk]
 refine LCalls.intro Tryz.func109 rfl (n := 93) rfl rfl rfl ?_
 repeat first | refine LCode.seq ?_ | refine LCode.region ?_
 refine LOps.step (S.box rfl fun b4 => ?_) rfl
 refine LOps.step (S.box rfl fun b5 => ?_) rfl
 repeat first | refine LOps.nil ?_ | refine LCode.seq ?_ | refine LCode.region ?_ | refine QThen.normal ?_ | refine LOps.pure (Pure.as (lv := .atom _) rfl) rfl ?_ | refine LOps.pure (Pure.mv (lv := .atom _) rfl) rfl ?_
 refine LOps.step (S.callI [_] rfl swap2 (step_spec hC hs) (fun u s1 H1 hr hs1 => ?_) (fun er s1 H1 hr hs1 e' he' => ?_)) rfl
 rotate_left
 ·repeat first | refine QThen.panic ?_
  rw [hr, bind_stop] at hI
  exact panI_ (he'.trans rfl) hI.symm hsub_left hs1
 have hg1 : Good c n s1 := by
  have h1 := tick_less hr
  have h2 := tick_bd hg.1
  rw [hr] at h2
  have h3 : s1.out = s.out := by
   unfold tick at hr
   split at hr
   ·cases hr
   ·cases hr; rfl
  exact ⟨h2.2, by have := hg.2.1; omega, by rw [h3]; have := hg.2.2; omega⟩
 rw [hr, bind_ok] at hI
 refine LOps.perm (swap2 (H := H1)).symm ?_
 repeat first | refine LOps.nil ?_ | refine LCode.seq ?_ | refine LCode.region ?_ | refine QThen.normal ?_ | refine LOps.pure (Pure.fieldH rfl) rfl ?_ | refine LOps.pure (Pure.loadH (c := .atom _) rfl (List.Mem.head _) rfl) rfl ?_ | refine LOps.pure (Pure.eql rfl rfl) rfl ?_
 refine LCode.cond rfl (fun hc => ?_) (fun hc => ?_)
 ·have h7 : kind = 7 := of_decide_eq_true hc
  rw [if_pos h7] at hI
  repeat first | refine LCode.region ?_ | refine LOps.pure (Pure.bld _ (cs := [_]) rfl) rfl ?_ | refine LOps.pure (Pure.makeInterfaceAgg (vs := [_]) rfl) rfl ?_
  refine LOps.step (LStep.panic rfl fun e' he' => ?_) rfl
  repeat first | refine QThen.panic ?_
  exact panI_ (he'.trans rfl) hI.symm (HSub.drop (HSub.drop (HSub.refl _))) hs1
 have h7 : ¬ kind = 7 := of_decide_eq_false hc
 rw [if_neg h7] at hI
 obtain ⟨x0, rfl⟩ := form_value hform h7
 rw [errEs] at hval
 obtain ⟨hv0, _⟩ := orE_zero.1 hval
 repeat first | refine LCode.seq ?_ | refine LCode.skip ?_ | refine QThen.normal ?_
 refine LCode.tail 6 (by kernel_rfl) ?_
 repeat first | refine LS.pure (Pure.mv (lv := .atom _) rfl) rfl ?_ | refine LS.pure (Pure.fieldH rfl) rfl ?_ | refine LS.pure (Pure.ldHAgg (cs' := [_, _, _, _]) rfl (List.Mem.tail _ (List.Mem.head _)) rfl rfl) rfl ?_ | refine LS.pure (Pure.loadH (c := .list _) rfl (List.Mem.head _) rfl) rfl ?_
 refine LS.pure (Pure.ixRef (el' := encE x0) (cs := [_, _, _, _]) rfl rfl (by omega) rfl rfl rfl) rfl ?_
 repeat first | refine LS.pure (Pure.ldRefAgg (cs' := [_, _, _, _]) rfl rfl rfl) rfl ?_ | refine LS.nil ?_
 refine LOps.step (S.callI [_, _, _] rfl swap2 (hE f kn x0 s1 H1 hf hk hv0 hn2.1 hm6.1 hg1 hs1) (fun v s2 H2 hr2 hs2 => ?_) (fun er s2 H2 hr2 hs2 e' he' => ?_)) rfl
 rotate_left
 ·repeat first | refine QThen.panic ?_
  rw [show ([x0] : List Ex).headD default = x0 from rfl, hr2, bind_stop] at hI
  exact panI_ (he'.trans rfl) hI.symm hsub_left hs2
 obtain ⟨hg2, hv2, hlt2⟩ := ev_good hC hn2.1 hg1 hr2
 rw [show ([x0] : List Ex).headD default = x0 from rfl, hr2, bind_ok] at hI
 refine LOps.perm (swap2 (H := H2)).symm ?_
 repeat first | refine LOps.nil ?_ | refine LCode.seq ?_ | refine LCode.region ?_ | refine LCode.block ?_ | refine QThen.normal ?_ | refine LOps.pure (Pure.as (lv := .atom _) rfl) rfl ?_ | refine LOps.pure (Pure.fieldH rfl) rfl ?_ | refine LOps.pure (Pure.loadH (c := .atom _) rfl (List.Mem.head _) rfl) rfl ?_ | refine LOps.pure (Pure.eql rfl rfl) rfl ?_
 by_cases hk1 : kind = 1
 ·subst hk1
  rw [if_pos rfl] at hI
  rw [if_pos rfl] at hname
  have hpl := key_placed hf hname
  obtain ⟨b, hb1, hb2⟩ := hC.block hpl
  obtain ⟨G, hG1, hG2⟩ := st_sc hC hb1 hs2
  obtain ⟨H3, hs3, hp3⟩ := hG2 v
  refine LCode.cond rfl (fun hc => ?_) (fun hc => by cases hc)
  repeat first | refine LCode.region ?_ | refine LOps.pure (Pure.mv (lv := .atom _) rfl) rfl ?_ | refine LOps.pure (Pure.fieldH rfl) rfl ?_ | refine LOps.pure (Pure.loadH (c := .atom _) rfl (List.Mem.head _) rfl) rfl ?_ | refine LOps.pure (Pure.ldHAgg (cs' := [_, _, _, _]) rfl (List.Mem.tail _ (List.Mem.head _)) rfl rfl) rfl ?_
  refine LOps.step (S.callS [_, _, _] rfl swap2 (scalar_spec hC hs2 hf hpl hb2) ?_) rfl
  refine LOps.perm (swap2 (H := H2)).symm ?_
  repeat first | refine LOps.pure (Pure.mv (lv := .atom _) rfl) rfl ?_ | refine LOps.pure (Pure.nilCheckH rfl) rfl ?_
  refine LOps.step (S.store (cs' := [u32 v]) rfl (pick_in (X := [_, _]) hG1) rfl rfl rfl rfl rfl ?_) rfl
  refine LOps.perm (back_in (X := [_, _]) hp3) ?_
  repeat first | refine LOps.nil ?_ | refine LCode.seq ?_ | refine LCode.region ?_ | refine LCode.ret ?_ | refine QThen.normal ?_ | refine QBlock.normal ?_ | refine LOps.pure (Pure.as (lv := .atom _) rfl) rfl ?_
  exact retI (v := none) rfl (AllRes.cons (ResIs.tmp (v := .atom _) rfl (LV.Sub.refl _)) (AllRes.cons (ResIs.tmp (v := .atom _) rfl (LV.Sub.refl _)) AllRes.nil)) hI.symm rfl (HSub.drop (HSub.drop (HSub.refl _))) hs3
 refine LCode.cond rfl (fun hc => absurd (of_decide_eq_true hc) hk1) (fun _ => ?_)
 rw [if_neg hk1] at hI hname
 repeat first | refine LOps.nil ?_ | refine LCode.seq ?_ | refine LCode.region ?_ | refine QThen.normal ?_ | refine LOps.pure (Pure.as (lv := .atom _) rfl) rfl ?_ | refine LOps.pure (Pure.eql rfl rfl) rfl ?_
 by_cases hk2 : kind = 2
 ·subst hk2
  rw [if_pos rfl] at hI hname
  obtain ⟨i0, rfl⟩ := form_index hform
  rw [errEs] at hidx
  obtain ⟨hi0, _⟩ := orE_zero.1 hidx
  have hpl : name ∈ c.p.arrays.map (·.name) := by
   unfold arrayE at hname
   split at hname
   ·rename_i h
    exact h
   ·split at hname <;> cases hname
  obtain ⟨b, m, hb1, hb2⟩ := hC.arr hpl
  refine LCode.cond rfl (fun hc => ?_) (fun hc => by cases hc)
  refine LCode.draw (m := 14) rfl [(b5, .cells 128 [int .i64 2, str name, .list ([i0].map encE), .list ([x0].map encE), .list (thn.map encS), .list (els.map encS)]), (b4, .cells 63 [str f.name, .list (f.params.map str), .list (f.locals.map str), .list (f.body.map encS)])] ?_
  refine LAny.tk 0 rfl rfl (Pure.mv (lv := .atom _) rfl) ?_
  refine LAny.tk 1 rfl rfl (Pure.fieldH rfl) ?_
  refine LAny.tk 2 rfl rfl (Pure.loadH (c := .atom _) rfl (List.Mem.head _) rfl) ?_
  refine LAny.tk 3 rfl rfl (Pure.mv (lv := .atom _) rfl) ?_
  refine LAny.tk 4 rfl rfl (Pure.ldHAgg (cs' := [_, _, _, _]) rfl (List.Mem.tail _ (List.Mem.head _)) rfl rfl) ?_
  refine LAny.tk 5 rfl rfl (Pure.fieldH rfl) ?_
  refine LAny.tk 6 rfl rfl (Pure.loadH (c := .list _) rfl (List.Mem.head _) rfl) ?_
  refine LAny.take (i := 7) (HSub.pick Pick.here (HSub.pick Pick.here (HSub.nil _))) rfl (by kernel_rfl) (by kernel_rfl) (by kernel_rfl) rfl (Pure.ixRef (el' := encE i0) (cs := [_, _, _, _]) rfl rfl (by omega) rfl rfl rfl) ?_
  refine LAny.tk 8 rfl rfl (Pure.ldRefAgg (cs' := [_, _, _, _]) rfl rfl rfl) ?_
  refine LAny.tk 11 rfl rfl (Pure.mv (lv := .atom _) rfl) ?_
  refine LAny.late ?_ (HSub.pick Pick.here (HSub.pick Pick.here (HSub.nil _)))
  refine LLate.o 9 (LLateOp.step (H1 := H2) rfl (.inl rfl) rfl swap2 (HSub.refl _) (LStep.callI [_, _, _] rfl (hE f kn i0 s2 H2 hf hk hi0 hn1.1 hm5.1 hg2 hs2) (fun i s3 H3 hr3 hs3 => ?_) (fun er s3 H3 hr3 hs3 e' he' => ?_)))
  rotate_left
  ·repeat first | refine QThen.panic ?_ | refine QBlock.panic ?_
   rw [show ([i0] : List Ex).headD default = i0 from rfl, hr3, bind_stop] at hI
   exact panI_ (he'.trans rfl) hI.symm hsub_left hs3
  obtain ⟨hg3, hv3, _⟩ := ev_good hC hn1.1 hg2 hr3
  rw [show ([i0] : List Ex).headD default = i0 from rfl, hr3, bind_ok] at hI
  obtain ⟨hlen, G, hG1, hG2⟩ := st_ar hC hb1 hs3
  by_cases hin : i < m
  ·have hget : (s3.ar name)[i]? = some (s3.ar name)[i] := List.getElem?_eq_getElem (by omega)
   rw [hget] at hI
   refine LLate.o 10 (LLateOp.step (H1 := H3) rfl (.inl rfl) rfl (List.Perm.refl _) (HSub.refl _) (LStep.call (args := [_, _, _]) (element_spec hC hs3 hb1 hb2 hv3) ?_ ?_))
   ·rintro lv H' ⟨rfl, h⟩
    rw [if_pos hin] at h
    cases h
    refine LLate.o 12 (LLateOp.pureH rfl rfl (Pure.nilCheckH rfl) ?_)
    obtain ⟨H4, hs4, hp4⟩ := hG2 ((s3.ar name).set i v) (by rw [List.length_set]; exact hlen)
    refine LLate.o 13 (LLateOp.step (H1 := H') rfl (.inl rfl) rfl (List.Perm.refl _) (HSub.refl _) (S.store (cs' := ((s3.ar name).set i v).map u32) rfl hG1 rfl rfl ?_ rfl ?_ ?_))
    ·rw [List.length_map, hlen]
     simp
     omega
    ·rw [setL_one _ _ _ (by rw [List.length_map]; omega), List.map_set]
    ·refine LLate.weakH (H' := H4 ++ _) ⟨[], by rw [List.append_nil]; exact hp4.append_right _⟩ ?_
     refine LLate.done (by kernel_rfl) ?_
     repeat first | refine LOps.nil ?_ | refine LCode.seq ?_ | refine LCode.region ?_ | refine LCode.ret ?_ | refine QThen.normal ?_ | refine QBlock.normal ?_ | refine LOps.pure (Pure.as (lv := .atom _) rfl) rfl ?_
     exact retI (v := none) rfl (AllRes.cons (ResIs.tmp (v := .atom _) rfl (LV.Sub.refl _)) (AllRes.cons (ResIs.tmp (v := .atom _) rfl (LV.Sub.refl _)) AllRes.nil)) hI.symm rfl hsub_left hs4
   ·rintro ch H' ⟨rfl, h⟩
    rw [if_pos hin] at h
    cases h
  ·have hget : (s3.ar name)[i]? = none := List.getElem?_eq_none (by omega)
   rw [hget] at hI
   refine LLate.o 10 (LLateOp.step (H1 := H3) rfl (.inl rfl) rfl (List.Perm.refl _) (HSub.refl _) (LStep.call (args := [_, _, _]) (element_spec hC hs3 hb1 hb2 hv3) ?_ ?_))
   ·rintro lv H' ⟨rfl, h⟩
    rw [if_neg hin] at h
    cases h
   ·rintro ch H' ⟨rfl, h⟩ e' he'
    rw [if_neg hin] at h
    cases h
    repeat first | refine QThen.panic ?_ | refine QBlock.panic ?_
    exact panI_ (he'.trans rfl) hI.symm hsub_left hs3
 refine LCode.cond rfl (fun hc => absurd (of_decide_eq_true hc) hk2) (fun _ => ?_)
 rw [if_neg hk2] at hI
 repeat first | refine LOps.nil ?_ | refine LCode.seq ?_ | refine LCode.region ?_ | refine QThen.normal ?_ | refine LOps.pure (Pure.as (lv := .atom _) rfl) rfl ?_ | refine LOps.pure (Pure.eql rfl rfl) rfl ?_
 by_cases hk5 : kind = 5
 ·subst hk5
  rw [if_pos rfl] at hI
  refine LCode.cond rfl (fun hc => ?_) (fun hc => by cases hc)
  repeat first | refine LOps.nil ?_ | refine LCode.seq ?_ | refine LCode.region ?_ | refine LCode.ret ?_ | refine QThen.normal ?_ | refine QThen.ret ?_ | refine QBlock.ret ?_ | refine LOps.pure (Pure.as (lv := .atom _) rfl) rfl ?_ | refine LOps.pure (Pure.mv (lv := .atom _) rfl) rfl ?_
  exact retI (v := some v) rfl (AllRes.cons (ResIs.tmp (v := .atom _) rfl (LV.Sub.refl _)) (AllRes.cons (ResIs.tmp (v := .atom _) rfl (LV.Sub.refl _)) AllRes.nil)) hI.symm rfl (HSub.drop (HSub.drop (HSub.refl _))) hs2
 refine LCode.cond rfl (fun hc => absurd (of_decide_eq_true hc) hk5) (fun _ => ?_)
 rw [if_neg hk5] at hI
 repeat first | refine LOps.nil ?_ | refine LCode.seq ?_ | refine LCode.region ?_ | refine QThen.normal ?_ | refine LOps.pure (Pure.as (lv := .atom _) rfl) rfl ?_ | refine LOps.pure (Pure.eql rfl rfl) rfl ?_
 by_cases hk3 : kind = 3
 ·subst hk3
  rw [if_pos rfl] at hI
  refine LCode.cond rfl (fun hc => ?_) (fun hc => by cases hc)
  repeat first | refine LOps.nil ?_ | refine LCode.seq ?_ | refine LCode.region ?_ | refine QThen.normal ?_ | refine LOps.pure (Pure.mv (lv := .atom _) rfl) rfl ?_ | refine LOps.pure (Pure.neq rfl rfl) rfl ?_
  refine LCode.cond rfl (fun hd => ?_) (fun hd => ?_)
  ·have hv0' : v ≠ 0 := by
    intro h
    subst h
    cases hd
   rw [if_pos hv0'] at hI
   repeat first | refine LCode.seq ?_ | refine LCode.region ?_ | refine LOps.pure (Pure.mv (lv := .atom _) rfl) rfl ?_ | refine LOps.pure (Pure.fieldH rfl) rfl ?_ | refine LOps.pure (Pure.ldHAgg (cs' := [_, _, _, _]) rfl (List.Mem.tail _ (List.Mem.head _)) rfl rfl) rfl ?_ | refine LOps.pure (Pure.loadH (c := .list _) rfl (List.Mem.head _) rfl) rfl ?_
   refine LOps.step (S.callI [_, _, _] rfl swap2 (hB f kn thn s2 H2 hf hk hthn hn3 hm3 hm7 hg2 hs2) (fun r s3 H3 hr3 hs3 => ?_) (fun er s3 H3 hr3 hs3 e' he' => ?_)) rfl
   ·rw [hr3] at hI
    repeat first | refine LOps.nil ?_ | refine LCode.ret ?_ | refine QThen.normal ?_ | refine QThen.ret ?_ | refine QBlock.ret ?_ | refine LOps.pure (Pure.as (lv := .atom _) rfl) rfl ?_ | refine LOps.pure (Pure.extract (c := .atom _) rfl rfl) rfl ?_
    exact retI (v := r) rfl (AllRes.cons (ResIs.tmp (v := .atom _) rfl (LV.Sub.refl _)) (AllRes.cons (ResIs.tmp (v := .atom _) rfl (LV.Sub.refl _)) AllRes.nil)) hI.symm rfl hsub_left hs3
   ·repeat first | refine QThen.panic ?_ | refine QBlock.panic ?_
    rw [hr3] at hI
    exact panI_ (he'.trans rfl) hI.symm hsub_left hs3
  ·have hv0' : ¬ v ≠ 0 := by
    intro h
    have h2 : (!decide ((v : Int) = 0)) = false := hd
    simp at h2
    omega
   rw [if_neg hv0'] at hI
   repeat first | refine LCode.seq ?_ | refine LCode.region ?_ | refine LCode.skip ?_ | refine QThen.normal ?_ | refine LOps.pure (Pure.mv (lv := .atom _) rfl) rfl ?_ | refine LOps.pure (Pure.fieldH rfl) rfl ?_ | refine LOps.pure (Pure.ldHAgg (cs' := [_, _, _, _]) rfl (List.Mem.tail _ (List.Mem.head _)) rfl rfl) rfl ?_ | refine LOps.pure (Pure.loadH (c := .list _) rfl (List.Mem.head _) rfl) rfl ?_
   refine LOps.step (S.callI [_, _, _] rfl swap2 (hB f kn els s2 H2 hf hk hels hn4 hm4 hm8 hg2 hs2) (fun r s3 H3 hr3 hs3 => ?_) (fun er s3 H3 hr3 hs3 e' he' => ?_)) rfl
   ·rw [hr3] at hI
    repeat first | refine LOps.nil ?_ | refine LCode.ret ?_ | refine QThen.normal ?_ | refine QThen.ret ?_ | refine QBlock.ret ?_ | refine LOps.pure (Pure.as (lv := .atom _) rfl) rfl ?_ | refine LOps.pure (Pure.extract (c := .atom _) rfl rfl) rfl ?_
    exact retI (v := r) rfl (AllRes.cons (ResIs.tmp (v := .atom _) rfl (LV.Sub.refl _)) (AllRes.cons (ResIs.tmp (v := .atom _) rfl (LV.Sub.refl _)) AllRes.nil)) hI.symm rfl hsub_left hs3
   ·repeat first | refine QThen.panic ?_ | refine QBlock.panic ?_
    rw [hr3] at hI
    exact panI_ (he'.trans rfl) hI.symm hsub_left hs3
 refine LCode.cond rfl (fun hc => absurd (of_decide_eq_true hc) hk3) (fun _ => ?_)
 rw [if_neg hk3] at hI
 repeat first | refine LOps.nil ?_ | refine LCode.seq ?_ | refine LCode.region ?_ | refine QThen.normal ?_ | refine LOps.pure (Pure.as (lv := .atom _) rfl) rfl ?_ | refine LOps.pure (Pure.eql rfl rfl) rfl ?_
 by_cases hk4 : kind = 4
 ·subst hk4
  rw [if_pos rfl] at hI
  refine LCode.cond rfl (fun hc => ?_) (fun hc => by cases hc)
  repeat first | refine LCode.block ?_
  refine LCode.loopI (fun k ls H' => ∃ (m : Nat) (v1 : Nat) (s3 : IS) (Hs : Heap), k = s3.left ∧ s3.left ≤ m ∧ v1 < 4294967296 ∧ ls = [(0, ptr c.rb 0), (4, ptr b4 0), (5, ptr b5 0), (8, u32 v1)] ∧ H' = (b5, .cells 128 [int .i64 4, str name, .list (index.map encE), .list ([x0].map encE), .list (thn.map encS), .list (els.map encS)]) :: (b4, .cells 63 [str f.name, .list (f.params.map str), .list (f.locals.map str), .list (f.body.map encS)]) :: Hs ∧ St c s3 Hs ∧ Good c n s3 ∧ whlR (evI c.p n f x0) (blkR (stI c.p n f) thn) m v1 s3 = R)
   ⟨_, _, _, ⟨n, v, s2, H2, rfl, hg2.2.1, hv2, rfl, rfl, hs2, hg2, hI⟩, ⟨rfl, rfl, rfl, rfl, trivial⟩, HSub.refl _⟩ ?_
  rintro k ls H' ⟨m, v1, s3, Hs, rfl, hm, hv1, rfl, rfl, hs3, hg3, hI3⟩ j hj
  repeat first | refine LOps.nil ?_ | refine LCode.seq ?_ | refine LCode.region ?_ | refine QThen.normal ?_ | refine LOps.pure (Pure.mv (lv := .atom _) rfl) rfl ?_ | refine LOps.pure (Pure.neq rfl rfl) rfl ?_
  by_cases hv0' : v1 = 0
  ·subst hv0'
   rw [whlR_zero] at hI3
   refine LCode.cond rfl (fun hc => by cases hc) (fun _ => ?_)
   repeat first | refine LOps.nil ?_ | refine LCode.seq ?_ | refine LCode.region ?_ | refine LCode.ret ?_ | refine LCode.exit ?_ | refine QThen.normal ?_ | refine QThen.exit ?_ | refine QBlock.hit ?_ | refine QBlock.normal ?_ | refine LOps.pure (Pure.as (lv := .atom _) rfl) rfl ?_
   exact retI (v := none) hj (AllRes.cons (ResIs.tmp (v := .atom _) rfl (LV.Sub.refl _)) (AllRes.cons (ResIs.tmp (v := .atom _) rfl (LV.Sub.refl _)) AllRes.nil)) hI3.symm rfl (HSub.drop (HSub.drop (HSub.refl _))) hs3
  ·rw [whl_step hm hv0'] at hI3
   refine LCode.cond rfl (fun _ => ?_) (fun hd => ?_)
   rotate_left
   ·have h2 : (!decide ((v1 : Int) = 0)) = false := hd
    simp at h2
    omega
   repeat first | refine LCode.seq ?_ | refine LCode.region ?_ | refine LCode.skip ?_ | refine LCode.block ?_ | refine QThen.normal ?_ | refine LOps.pure (Pure.mv (lv := .atom _) rfl) rfl ?_ | refine LOps.pure (Pure.fieldH rfl) rfl ?_ | refine LOps.pure (Pure.ldHAgg (cs' := [_, _, _, _]) rfl (List.Mem.tail _ (List.Mem.head _)) rfl rfl) rfl ?_ | refine LOps.pure (Pure.loadH (c := .list _) rfl (List.Mem.head _) rfl) rfl ?_
   refine LOps.step (S.callI [_, _, _] rfl swap2 (hB f kn thn s3 Hs hf hk hthn hn3 hm3 hm7 hg3 hs3) (fun r s4 H4 hr4 hs4 => ?_) (fun er s4 H4 hr4 hs4 e' he' => ?_)) rfl
   rotate_left
   ·repeat first | refine QThen.panic ?_ | refine QBlock.panic ?_
    rw [hr4, bind_stop] at hI3
    exact panI_ (he'.trans hj) hI3.symm hsub_left hs4
   rw [hr4, bind_ok] at hI3
   obtain ⟨hg4, _⟩ := blk_good hC hn3 hg3 hr4
   have hlt4 := (blkR_grow ((grow_all c.p n).2 f) thn s3).2
   rw [hr4] at hlt4
   refine LOps.perm (swap2 (H := H4)).symm ?_
   cases r with
   | some y =>
    repeat first | refine LOps.nil ?_ | refine LCode.seq ?_ | refine LCode.region ?_ | refine QThen.normal ?_ | refine LOps.pure (Pure.as (lv := .atom _) rfl) rfl ?_ | refine LOps.pure (Pure.mv (lv := .atom _) rfl) rfl ?_ | refine LOps.pure (Pure.extract (c := .atom _) rfl rfl) rfl ?_ | refine LOps.pure (Pure.mv (lv := .tuple _) rfl) rfl ?_
    refine LCode.cond rfl (fun _ => ?_) (fun hd => by cases hd)
    repeat first | refine LOps.nil ?_ | refine LCode.seq ?_ | refine LCode.region ?_ | refine LCode.ret ?_ | refine QThen.normal ?_ | refine QThen.ret ?_ | refine QBlock.ret ?_ | refine LOps.pure (Pure.as (lv := .atom _) rfl) rfl ?_ | refine LOps.pure (Pure.mv (lv := .atom _) rfl) rfl ?_
    exact retI (v := some y) hj (AllRes.cons (ResIs.tmp (v := .atom _) rfl (LV.Sub.refl _)) (AllRes.cons (ResIs.tmp (v := .atom _) rfl (LV.Sub.refl _)) AllRes.nil)) hI3.symm rfl (HSub.drop (HSub.drop (HSub.refl _))) hs4
   | none =>
    repeat first | refine LOps.nil ?_ | refine LCode.seq ?_ | refine LCode.region ?_ | refine QThen.normal ?_ | refine LOps.pure (Pure.as (lv := .atom _) rfl) rfl ?_ | refine LOps.pure (Pure.mv (lv := .atom _) rfl) rfl ?_ | refine LOps.pure (Pure.extract (c := .atom _) rfl rfl) rfl ?_ | refine LOps.pure (Pure.mv (lv := .tuple _) rfl) rfl ?_
    refine LCode.cond rfl (fun hd => by cases hd) (fun _ => ?_)
    repeat first | refine LCode.skip ?_ | refine QThen.normal ?_ | refine QBlock.normal ?_
    refine LCode.tail 6 (by kernel_rfl) ?_
    repeat first | refine LS.pure (Pure.mv (lv := .atom _) rfl) rfl ?_ | refine LS.pure (Pure.fieldH rfl) rfl ?_ | refine LS.pure (Pure.ldHAgg (cs' := [_, _, _, _]) rfl (List.Mem.tail _ (List.Mem.head _)) rfl rfl) rfl ?_ | refine LS.pure (Pure.loadH (c := .list _) rfl (List.Mem.head _) rfl) rfl ?_
    refine LS.pure (Pure.ixRef (el' := encE x0) (cs := [_, _, _, _]) rfl rfl (by omega) rfl rfl rfl) rfl ?_
    repeat first | refine LS.pure (Pure.ldRefAgg (cs' := [_, _, _, _]) rfl rfl rfl) rfl ?_ | refine LS.nil ?_
    refine LOps.step (S.callI [_, _, _] rfl swap2 (hE f kn x0 s4 H4 hf hk hv0 hn2.1 hm6.1 hg4 hs4) (fun v5 s5 H5 hr5 hs5 => ?_) (fun er s5 H5 hr5 hs5 e' he' => ?_)) rfl
    ·obtain ⟨hg5, hv5, hlt5⟩ := ev_good hC hn2.1 hg4 hr5
     rw [hr5, bind_ok] at hI3
     repeat first | refine LOps.nil ?_ | refine QThen.normal ?_ | refine LOps.pure (Pure.as (lv := .atom _) rfl) rfl ?_
     have hlt4' : s4.left ≤ s3.left := hlt4
     exact ⟨s5.left, _, _, by omega, ⟨m - 1, v5, s5, H5, rfl, by omega, hv5, rfl, rfl, hs5, hg5, hI3⟩, ⟨rfl, rfl, rfl, rfl, trivial⟩, ⟨[], by rw [List.append_nil]; exact swap2.symm⟩, hj⟩
    ·repeat first | refine QThen.panic ?_ | refine QBlock.panic ?_
     rw [hr5, bind_stop] at hI3
     exact panI_ (he'.trans hj) hI3.symm hsub_left hs5
 refine LCode.cond rfl (fun hc => absurd (of_decide_eq_true hc) hk4) (fun _ => ?_)
 rw [if_neg hk4] at hI
 repeat first | refine LOps.nil ?_ | refine LCode.seq ?_ | refine LCode.region ?_ | refine LCode.skip ?_ | refine LCode.ret ?_ | refine QThen.normal ?_ | refine QBlock.normal ?_ | refine LOps.pure (Pure.as (lv := .atom _) rfl) rfl ?_
 exact retI (v := none) rfl (AllRes.cons (ResIs.tmp (v := .atom _) rfl (LV.Sub.refl _)) (AllRes.cons (ResIs.tmp (v := .atom _) rfl (LV.Sub.refl _)) AllRes.nil)) hI.symm rfl (HSub.drop (HSub.drop (HSub.refl _))) hs2
end
end Go.Proofs.YtcbpcianefpniaaGreatDoor.Inp
namespace Go.Proofs.YtcbpcianefpniaaGreatDoor.Inp
open Go.GL Go.RowKit Go.Stele
set_option maxRecDepth 100000
set_option maxHeartbeats 4000000
section
variable {C : Ctx} {e : Env} {H : Heap} {dst : Option Nat} {ty : TypeId} {pos : String} {aft : Array Edge} {g : Option (Nat × Bool)} {x : Operand}
/-- A list without its first element. -/
theorem Pure.ltail {t el s : Nat} [ht : TSlice C.P t el s] {lo : Operand} {k : IntKind} {a : LV} {es : List LV} (hx : elems (e.ev x) = some (a :: es)) (hlo : e.ev lo = int k 1) (hs : ∀ v ∈ a :: es, v.cells.length = s) : Pure C ⟨dst, .slice t x (some lo) none none, ty, pos, aft, g⟩ e H (.list es) := by
 have := Pure.lslice (t := t) (C := C) (H := H) (dst := dst) (ty := ty) (pos := pos) (aft := aft) (g := g) (lo := some lo) (hi := none) (i := 1) (j := (((a :: es).length : Nat) : Int)) hx ⟨k, hlo⟩ rfl (by decide) (by simp only [List.length_cons]; omega) (Int.le_refl _) hs
 have h2 : ((a :: es).take (((a :: es).length : Nat) : Int).toNat).drop (1 : Int).toNat = es := by
  rw [Int.toNat_natCast, List.take_length]
  rfl
 rwa [h2] at this
end
theorem wrap_u8 (n : Nat) : IntKind.u8.wrap (n : Int) = ((UInt8.ofNat n).toNat : Int) := by
 have h : IntKind.u8.wrap (n : Int) = (n : Int) % 256 := by
  simp only [IntKind.wrap, IntKind.bits, IntKind.signed, Bool.false_and]
  rfl
 rw [h]
 have h2 : (UInt8.ofNat n).toNat = n % 256 := by simp
 rw [h2]
 omega
theorem acc_one {s : Nat} {v : LV} {es : List LV} {H F : Heap} (h : GL.Acc s v es H F) : v.cells? = some [v] ∧ ([v].all cellOk) = true := by
 cases h <;> exact ⟨rfl, rfl⟩
theorem u32_cells (l : List Nat) : ∀ v ∈ l.map u32, v.cells.length = 1 := fun v hv => by
 obtain ⟨a, _, rfl⟩ := List.mem_map.1 hv
 rfl
theorem out_perm (c : Cfg) (s : IS) (v : LV) (Ha : Heap) : (stH c s v Ha).Perm (Ha ++ (hdH c s v ++ (scH c.sb s ++ arH c.ab s))) := by
 rw [stH_eq]
 have : hdH c s v ++ (scH c.sb s ++ (arH c.ab s ++ Ha)) = (hdH c s v ++ (scH c.sb s ++ arH c.ab s)) ++ Ha := by simp only [List.append_assoc]
 rw [this]
 exact List.perm_append_comm
theorem out_eq (c : Cfg) (s : IS) (v : LV) (Ha : Heap) : (hdH c s v ++ (scH c.sb s ++ arH c.ab s)) ++ Ha = stH c s v Ha := by
 rw [stH_eq]
 simp only [List.append_assoc]
theorem own_placed {c : Cfg} (hC : CfgOk c) {f : FnD} (hf : f ∈ c.p.funcs) {p : List UInt8} (hp : p ∈ f.params) : keyI f p ∈ scalarsP c.p.vars c.p.funcs := by
 unfold keyI
 rw [if_pos (.inl hp)]
 exact (own_key hC.valid.names hf p).2 (List.mem_append.2 (.inl hp))
theorem CfgOk.fn {c : Cfg} (hC : CfgOk c) {f : FnD} (hf : f ∈ c.p.funcs) : GL.kvGet (fnKV c.p.funcs) f.name = some (encFn f) :=
 kv_hit (A := FnD) (·.name) encFn (List.nodup_append.1 (fresh_zero _ _ hC.valid.names).1).2.1 hf
attribute [local irreducible] LOps LCode LStep LCalls Go.GL.Pure QThen QBlock RetPost LQ LAny LLate LLateOp LS
section
variable {B0 : Nat} {w0 : World}
theorem call_spec {c : Cfg} (hC : CfgOk c) {n : Nat} (hB : BlkH B0 w0 c n) {f0 : FnD} {kn : List FSum} (hk0 : Known c.p.funcs kn) {name : List UInt8} {vs : List Nat} {s : IS} {H : Heap} (hv : callE (cenv c kn f0) name vs.length = 0) (hvs : ∀ v ∈ vs, Lt v)
  (hbd : Bnd s) (hleft : s.left ≤ n) (hroom : s.out.length + s.left + 1 ≤ c.lim) (hs : St c s H) : LCalls (KC B0 w0) 187 [ptr c.rb 0, str name, .list (vs.map u32)] H (PostI c u32 (callI c.p (stI c.p n) name vs s)) := by
 have hs0 := hs
 have hlim := hC.lim
 generalize hI : callI c.p (stI c.p n) name vs s = R
 unfold callI at hI
 refine LCalls.intro Tryz.func187 rfl (n := 85) rfl rfl rfl ?_
 repeat first | refine LOps.nil ?_ | refine LCode.seq ?_ | refine LCode.region ?_ | refine LCode.block ?_ | refine QThen.normal ?_ | refine LOps.pure (Pure.as (lv := .atom _) rfl) rfl ?_ | refine LOps.pure (Pure.mv (lv := .atom _) rfl) rfl ?_ | refine LOps.pure (Pure.seq rfl rfl) rfl ?_
 by_cases hin : name = [105, 110]
 ·subst hin
  rw [if_pos rfl] at hI
  obtain ⟨hl, hle, v, Ha, hacc, rfl⟩ := hs
  refine LCode.cond rfl (fun hc => ?_) (fun hc => by cases hc)
  repeat first | refine LOps.nil ?_ | refine LCode.seq ?_ | refine LCode.region ?_ | refine QThen.normal ?_ | refine LOps.pure (Pure.mv (lv := .atom _) rfl) rfl ?_ | refine LOps.pure (Pure.nilCheckH rfl) rfl ?_ | refine LOps.pure (Pure.fieldH rfl) rfl ?_ | refine LOps.pure (Pure.loadH (c := .list _) rfl (List.Mem.head _) rfl) rfl ?_ | refine LOps.pure (Pure.llen rfl) rfl ?_ | refine LOps.pure (Pure.eql rfl rfl) rfl ?_
  cases hinp : s.inp with
  | nil =>
   rw [hinp] at hI
   refine LCode.cond rfl (fun hc => ?_) (fun hc => ?_)
   ·repeat first | refine LOps.nil ?_ | refine LCode.seq ?_ | refine LCode.region ?_ | refine LCode.ret ?_ | refine QThen.normal ?_ | refine QThen.ret ?_ | refine QBlock.ret ?_ | refine LOps.pure (Pure.as (lv := .atom _) rfl) rfl ?_
    exact retI (v := 4294967295) rfl (AllRes.cons (ResIs.tmp (v := .atom _) rfl (LV.Sub.refl _)) AllRes.nil) hI.symm rfl (HSub.refl _) hs0
   ·cases hc
  | cons a r =>
   rw [hinp] at hI
   refine LCode.cond rfl (fun hc => ?_) (fun hc => ?_)
   ·have := of_decide_eq_true hc
    simp at this
    omega
   ·repeat first | refine LCode.seq ?_ | refine LCode.region ?_ | refine LCode.skip ?_ | refine QThen.normal ?_ | refine LOps.pure (Pure.mv (lv := .atom _) rfl) rfl ?_ | refine LOps.pure (Pure.nilCheckH rfl) rfl ?_ | refine LOps.pure (Pure.fieldH rfl) rfl ?_ | refine LOps.pure (Pure.loadH (c := .list _) rfl (List.Mem.head _) rfl) rfl ?_
    refine LOps.pure (Pure.ixRef (el' := u32 a) (cs := [u32 a]) rfl rfl (by omega) (by rw [hinp]; rfl) rfl rfl) rfl ?_
    repeat first | refine LOps.nil ?_ | refine LCode.seq ?_ | refine LCode.region ?_ | refine QThen.normal ?_ | refine LOps.pure (Pure.as (lv := .atom _) rfl) rfl ?_ | refine LOps.pure (Pure.mv (lv := .atom _) rfl) rfl ?_ | refine LOps.pure (Pure.nilCheckH rfl) rfl ?_ | refine LOps.pure (Pure.fieldH rfl) rfl ?_ | refine LOps.pure (Pure.loadH (c := .list _) rfl (List.Mem.head _) rfl) rfl ?_ | refine LOps.pure (Pure.loadRef (c := .atom _) rfl rfl) rfl ?_
    refine LOps.pure (Pure.ltail (a := u32 a) (es := r.map u32) (by rw [show elems _ = some (s.inp.map u32) from rfl, hinp]; rfl) rfl (u32_cells (a :: r))) rfl ?_
    repeat first | refine LOps.nil ?_ | refine LCode.seq ?_ | refine LCode.region ?_ | refine LCode.ret ?_ | refine QThen.normal ?_ | refine QThen.ret ?_ | refine QBlock.ret ?_ | refine LOps.pure (Pure.as (lv := .atom _) rfl) rfl ?_ | refine LOps.pure (Pure.mv (lv := .atom _) rfl) rfl ?_ | refine LOps.pure (Pure.nilCheckH rfl) rfl ?_ | refine LOps.pure (Pure.fieldH rfl) rfl ?_ | refine LOps.step (S.store (cs' := [_, _, _, _, _, _, _, _, _, _, _]) rfl Pick.here rfl rfl rfl rfl rfl ?_) rfl
    exact retI (v := a) rfl (AllRes.cons (ResIs.tmp (v := .atom _) rfl (LV.Sub.refl _)) AllRes.nil) hI.symm rfl (HSub.refl _) ⟨hl, hle, v, Ha, hacc, rfl⟩
 refine LCode.cond rfl (fun hc => absurd (of_decide_eq_true hc) hin) (fun _ => ?_)
 rw [if_neg hin] at hI
 unfold callE at hv
 rw [if_neg hin] at hv
 repeat first | refine LOps.nil ?_ | refine LCode.seq ?_ | refine LCode.region ?_ | refine QThen.normal ?_ | refine LOps.pure (Pure.as (lv := .atom _) rfl) rfl ?_ | refine LOps.pure (Pure.seq rfl rfl) rfl ?_
 by_cases hout : name = [111, 117, 116]
 ·subst hout
  rw [if_pos rfl] at hI hv
  obtain ⟨a, rfl⟩ : ∃ a, vs = [a] := by
   match vs, hv with
   | [], hv => cases hv
   | [a], _ => exact ⟨a, rfl⟩
   | _ :: _ :: _, hv =>
    split at hv
    ·rename_i h
     simp at h
    ·cases hv
  obtain ⟨hl, hle, v, Ha, hacc, rfl⟩ := hs
  refine LCode.cond rfl (fun hc => ?_) (fun hc => by cases hc)
  repeat first | refine LCode.seq ?_
  refine LCode.draw (m := 14) rfl [] ?_
  refine LAny.tk 0 rfl rfl (Pure.mv (lv := .atom _) rfl) ?_
  refine LAny.tk 1 rfl rfl (Pure.mv (lv := .atom _) rfl) ?_
  refine LAny.tk 2 rfl rfl (Pure.nilCheckH rfl) ?_
  refine LAny.tk 3 rfl rfl (Pure.fieldH rfl) ?_
  refine LAny.tk 5 rfl rfl (Pure.mv (lv := .list _) rfl) ?_
  refine LAny.take (i := 6) (HSub.nil _) rfl (by kernel_rfl) (by kernel_rfl) (by kernel_rfl) rfl (Pure.ixRef (el' := u32 a) (cs := [u32 a]) rfl rfl (by omega) rfl rfl rfl) ?_
  refine LAny.tk 7 rfl rfl (Pure.loadRef (c := .atom _) rfl rfl) ?_
  refine LAny.tk 8 rfl rfl (Pure.cvt rfl) ?_
  refine LAny.late ?_ (HSub.nil _)
  have e1 : byts s.out ++ [int .u8 (IntKind.u8.wrap (a : Int))] = byts (s.out ++ [UInt8.ofNat a]) := by
   rw [byts_app, wrap_u8]
   rfl
  have hroom2 : ((byts s.out).length + [int .u8 (IntKind.u8.wrap (a : Int))].length) * 1 ≤ 140737488355328 := by
   simp only [byts_len, List.length_cons, List.length_nil]
   omega
  refine LLate.two (i := 4) (j := 9) (by kernel_rfl) ?_ ?_
  ·refine LLateOp.pureH rfl rfl (Pure.loadH (c := v) rfl (List.Mem.head _) rfl) ?_
   refine LLate.one (i := 9) (by kernel_rfl) ?_
   refine LLateOp.whole rfl (.inl rfl) rfl (S.lit (es := [int .u8 (IntKind.u8.wrap (a : Int))]) [_] rfl (elemsOk.cons rfl rfl elemsOk.nil) rfl rfl rfl ?_)
   refine LLate.one (i := 10) (by kernel_rfl) ?_
   refine LLateOp.whole rfl (.inl rfl) rfl (S.accF (out_perm c s v Ha) rfl hacc rfl (fun v hv => by rw [List.mem_singleton.1 hv]; rfl) rfl hroom2 fun v' H' hacc' => ?_)
   rw [out_eq]
   rw [e1] at hacc'
   refine LLate.one (i := 11) (by kernel_rfl) ?_
   refine LLateOp.pureH rfl rfl (Pure.nilCheckH rfl) ?_
   refine LLate.one (i := 12) (by kernel_rfl) ?_
   refine LLateOp.pureH rfl rfl (Pure.fieldH rfl) ?_
   refine LLate.one (i := 13) (by kernel_rfl) ?_
   refine LLateOp.whole rfl (.inl rfl) rfl (S.store (n := 1) (vs := [v']) (cs' := [_, _, _, _, _, v', _, _, _, _, _]) rfl Pick.here (acc_one hacc').1 rfl rfl (acc_one hacc').2 rfl ?_)
   refine LLate.done (by kernel_rfl) ?_
   repeat first | refine LOps.nil ?_ | refine LCode.seq ?_ | refine LCode.region ?_ | refine LCode.ret ?_ | refine QThen.normal ?_ | refine QThen.ret ?_ | refine QBlock.ret ?_ | refine LOps.pure (Pure.as (lv := .atom _) rfl) rfl ?_
   refine RetPost.ret (H' := stH c { s with out := s.out ++ [UInt8.ofNat a] } v' H') rfl (AllRes.cons (ResIs.tmp (v := .atom _) rfl (LV.Sub.refl _)) AllRes.nil) (HSub.refl _) ?_
   rw [← hI]
   exact ⟨rfl, hl, hle, v', H', hacc', rfl⟩
  ·refine LLateOp.whole rfl (.inl rfl) rfl (S.lit (es := [int .u8 (IntKind.u8.wrap (a : Int))]) [_] rfl (elemsOk.cons rfl rfl elemsOk.nil) rfl rfl rfl ?_)
   refine LLate.one (i := 4) (by kernel_rfl) ?_
   refine LLateOp.pureH rfl rfl (Pure.loadH (c := v) rfl (List.Mem.head _) rfl) ?_
   refine LLate.one (i := 10) (by kernel_rfl) ?_
   refine LLateOp.whole rfl (.inl rfl) rfl (S.accF (out_perm c s v Ha) rfl hacc rfl (fun v hv => by rw [List.mem_singleton.1 hv]; rfl) rfl hroom2 fun v' H' hacc' => ?_)
   rw [out_eq]
   rw [e1] at hacc'
   refine LLate.one (i := 11) (by kernel_rfl) ?_
   refine LLateOp.pureH rfl rfl (Pure.nilCheckH rfl) ?_
   refine LLate.one (i := 12) (by kernel_rfl) ?_
   refine LLateOp.pureH rfl rfl (Pure.fieldH rfl) ?_
   refine LLate.one (i := 13) (by kernel_rfl) ?_
   refine LLateOp.whole rfl (.inl rfl) rfl (S.store (n := 1) (vs := [v']) (cs' := [_, _, _, _, _, v', _, _, _, _, _]) rfl Pick.here (acc_one hacc').1 rfl rfl (acc_one hacc').2 rfl ?_)
   refine LLate.done (by kernel_rfl) ?_
   repeat first | refine LOps.nil ?_ | refine LCode.seq ?_ | refine LCode.region ?_ | refine LCode.ret ?_ | refine QThen.normal ?_ | refine QThen.ret ?_ | refine QBlock.ret ?_ | refine LOps.pure (Pure.as (lv := .atom _) rfl) rfl ?_
   refine RetPost.ret (H' := stH c { s with out := s.out ++ [UInt8.ofNat a] } v' H') rfl (AllRes.cons (ResIs.tmp (v := .atom _) rfl (LV.Sub.refl _)) AllRes.nil) (HSub.refl _) ?_
   rw [← hI]
   exact ⟨rfl, hl, hle, v', H', hacc', rfl⟩
 refine LCode.cond rfl (fun hc => absurd (of_decide_eq_true hc) hout) (fun _ => ?_)
 rw [if_neg hout] at hI
 have hcv := call_valid (p := c.p) (f := f0) (kn := kn) hC.valid hk0 (name := name) (n := vs.length) (by unfold callE; rw [if_neg hin]; exact hv) hin hout
 generalize fnI c.p name = gf at hI hcv
 obtain ⟨hgm, hgn, hgl⟩ := hcv
 subst hgn
 obtain ⟨kn2, hvb, hk2⟩ := hC.valid.bodies gf hgm
 have hsm := hC.small.each gf hgm
 have hpl : gf.params.length ≤ 1000000 := hsm.params
 repeat first | refine LCode.seq ?_ | refine LCode.region ?_ | refine LCode.skip ?_ | refine QThen.normal ?_ | refine QBlock.normal ?_ | refine LOps.pure (Pure.mv (lv := .atom _) rfl) rfl ?_ | refine LOps.pure (Pure.nilCheckH rfl) rfl ?_ | refine LOps.pure (Pure.fieldH rfl) rfl ?_
 have hs1 := hs
 obtain ⟨hl, hle, v, Ha, hacc, rfl⟩ := hs
 repeat first | refine LOps.pure (Pure.mv (lv := .atom _) rfl) rfl ?_ | refine LOps.pure (Pure.loadH (c := .atom _) rfl (List.Mem.head _) rfl) rfl ?_
 refine LOps.pure (Pure.kvHit rfl rfl (List.Mem.tail _ (List.Mem.tail _ (List.Mem.tail _ (List.Mem.head _)))) (hC.fn hgm)) rfl ?_
 refine LOps.step (S.alloc fun b8 => ?_) rfl
 repeat first | refine LOps.nil ?_ | refine LCode.seq ?_ | refine LCode.region ?_ | refine LCode.block ?_ | refine QThen.normal ?_ | refine LOps.pure (Pure.mv (lv := .atom _) rfl) rfl ?_ | refine LOps.pure (Pure.fieldH rfl) rfl ?_ | refine LOps.pure (Pure.loadH (c := .list _) rfl (List.Mem.head _) rfl) rfl ?_ | refine LOps.pure (Pure.llen rfl) rfl ?_ | refine LOps.step (S.store (cs' := [_, _, _, _]) rfl Pick.here rfl rfl rfl rfl rfl ?_) rfl
 generalize stH c s v Ha = Hs0 at hs0 hs1 ⊢
 refine LCode.loopI (fun k ls H' => ∃ (pre ps : List (List UInt8)) (vpre vs1 : List Nat) (s1 : IS) (Hs : Heap), gf.params = pre ++ ps ∧ vs = vpre ++ vs1 ∧ vpre.length = pre.length ∧ k = ps.length ∧ ls = [(0, ptr c.rb 0), (2, .list (vs.map u32)), (8, ptr b8 0), (59, .list (gf.params.map str)), (60, int .i64 ((gf.params.map str).length : Int)), (61, int .i64 (pre.length : Int))] ∧ H' = (b8, .cells 63 [str gf.name, .list (gf.params.map str), .list (gf.locals.map str), .list (gf.body.map encS)]) :: Hs ∧ St c s1 Hs ∧ setPs gf gf.params vs s = setPs gf ps vs1 s1)
  ⟨_, _, _, ⟨[], gf.params, [], vs, s, Hs0, rfl, rfl, rfl, rfl, rfl, rfl, hs1, rfl⟩, ⟨rfl, rfl, rfl, rfl, rfl, rfl, trivial⟩, HSub.refl _⟩ ?_
 rintro k ls H' ⟨pre, ps, vpre, vs1, s1, Hs, hps, hvs1, hvl, rfl, rfl, rfl, hst1, hset⟩ j hj
 have hl6 : pre.length ≤ 1000000 := by
  rw [hps, List.length_append] at hpl
  omega
 have hpl2 : ps.length = vs1.length := by
  rw [hps, hvs1, List.length_append, List.length_append] at hgl
  omega
 repeat first | refine LOps.nil ?_ | refine LCode.seq ?_ | refine LCode.region ?_ | refine QThen.normal ?_ | refine LOps.pure (Pure.lss rfl rfl) rfl ?_
 refine LCode.cond rfl (fun hc => ?_) (fun hc => ?_)
 ·have hlen := of_decide_eq_true hc
  rw [List.length_map, hps, List.length_append] at hlen
  obtain ⟨p, ps, rfl⟩ : ∃ a l, ps = a :: l := by
   cases ps with
   | nil => simp at hlen
   | cons a l2 => exact ⟨a, l2, rfl⟩
  obtain ⟨x, vs1, rfl⟩ : ∃ a l, vs1 = a :: l := by
   cases vs1 with
   | nil => simp at hpl2
   | cons a l2 => exact ⟨a, l2, rfl⟩
  rw [setPs] at hset
  have hkp := own_placed hC hgm (p := p) (by rw [hps]; exact List.mem_append_right _ (List.mem_cons_self ..))
  obtain ⟨b, hb1, hb2⟩ := hC.block hkp
  obtain ⟨G, hG1, hG2⟩ := st_sc hC hb1 hst1
  obtain ⟨H3, hs3, hp3⟩ := hG2 x
  repeat first | refine LCode.seq ?_ | refine LCode.region ?_ | refine LCode.skip ?_ | refine LCode.block ?_ | refine QThen.normal ?_ | refine LOps.pure (Pure.mv (lv := .atom _) rfl) rfl ?_
  refine LOps.pure (Pure.ixRef (el' := str p) (cs := [str p]) rfl rfl (by omega) (by rw [hps]; exact get_mid str pre p ps) rfl rfl) rfl ?_
  repeat first | refine LOps.nil ?_ | refine QThen.normal ?_ | refine LOps.pure (Pure.as (lv := .atom _) rfl) rfl ?_ | refine LOps.pure (Pure.loadRef (c := .atom _) rfl rfl) rfl ?_
  refine LCode.draw (m := 10) rfl [(b8, .cells 63 [str gf.name, .list (gf.params.map str), .list (gf.locals.map str), .list (gf.body.map encS)])] ?_
  refine LAny.tk 0 rfl rfl (Pure.mv (lv := .atom _) rfl) ?_
  refine LAny.tk 1 rfl rfl (Pure.ldHAgg (cs' := [_, _, _, _]) rfl (List.Mem.head _) rfl rfl) ?_
  refine LAny.tk 2 rfl rfl (Pure.mv (lv := .atom _) rfl) ?_
  refine LAny.tk 4 rfl rfl (Pure.mv (lv := .list _) rfl) ?_
  refine LAny.tk 5 rfl rfl (Pure.mv (lv := .atom _) rfl) ?_
  refine LAny.take (i := 6) (HSub.pick Pick.here (HSub.nil _)) rfl (by kernel_rfl) (by kernel_rfl) (by kernel_rfl) rfl (Pure.ixRef (el' := u32 x) (cs := [u32 x]) rfl rfl (by omega) (by rw [hvs1, ← hvl]; exact get_mid u32 vpre x vs1) rfl rfl) ?_
  refine LAny.tk 7 rfl rfl (Pure.loadRef (c := .atom _) rfl rfl) ?_
  refine LAny.late ?_ (HSub.pick Pick.here (HSub.nil _))
  refine LLate.o 3 (LLateOp.step (H1 := Hs) rfl (.inl rfl) rfl swap1 (HSub.refl _) (LStep.call (args := [_, _, _]) (scalar_spec hC hst1 hgm hkp hb2) ?_ ?_))
  ·rintro lv H' ⟨h, rfl⟩
   cases h
   refine LLate.o 8 (LLateOp.pureH rfl rfl (Pure.nilCheckH rfl) ?_)
   refine LLate.o 9 (LLateOp.step (H1 := H') rfl (.inl rfl) rfl (List.Perm.refl _) (HSub.refl _) (S.store (cs' := [u32 x]) rfl hG1 rfl rfl rfl rfl rfl ?_))
   refine LLate.weakH (H' := H3 ++ _) ⟨[], by rw [List.append_nil]; exact hp3.append_right _⟩ ?_
   refine LLate.done (by kernel_rfl) ?_
   repeat first | refine LOps.nil ?_ | refine LCode.region ?_ | refine QThen.normal ?_ | refine QBlock.normal ?_ | refine LOps.pure (Pure.mv (lv := .atom _) rfl) rfl ?_ | refine LOps.pure (Pure.add rfl rfl (by omega)) rfl ?_
   exact ⟨ps.length, _, _, Nat.lt_succ_self _, ⟨pre ++ [p], ps, vpre ++ [x], vs1, _, H3, by rw [hps]; simp, by rw [hvs1]; simp, by simp [hvl], rfl, rfl, rfl, hs3, hset⟩, ⟨rfl, rfl, rfl, rfl, rfl, int_eq (by simp), trivial⟩, ⟨[], by rw [List.append_nil]; exact swap1.symm⟩, hj⟩
  ·rintro ch H' ⟨h, rfl⟩
   cases h
 ·have hlen := of_decide_eq_false hc
  rw [List.length_map, hps, List.length_append] at hlen
  obtain rfl : ps = [] := by
   cases ps with
   | nil => rfl
   | cons a l2 => simp at hlen; omega
  obtain rfl : vs1 = [] := List.length_eq_zero_iff.1 hpl2.symm
  replace hset : setPs gf gf.params vs s = s1 := hset.trans rfl
  have hb1 := setPs_bd gf gf.params vs s hvs hbd
  obtain ⟨ho, hlf, _⟩ := setPs_same gf gf.params vs s
  rw [hset] at hI hb1 ho hlf
  have hg1 : Good c n s1 := ⟨hb1, by rw [hlf]; exact hleft, by rw [ho, hlf]; omega⟩
  repeat first | refine LCode.seq ?_ | refine LCode.region ?_ | refine LCode.exit ?_ | refine QThen.normal ?_ | refine QThen.exit ?_ | refine QBlock.hit ?_ | refine LOps.pure (Pure.mv (lv := .atom _) rfl) rfl ?_ | refine LOps.pure (Pure.fieldH rfl) rfl ?_ | refine LOps.pure (Pure.loadH (c := .list _) rfl (List.Mem.head _) rfl) rfl ?_ | refine LOps.pure (Pure.ldHAgg (cs' := [_, _, _, _]) rfl (List.Mem.head _) rfl rfl) rfl ?_
  refine LOps.step (S.callI [_, _, _] rfl swap1 (hB gf kn2 gf.body s1 Hs hgm hk2 hvb (hC.nums gf hgm) hsm.body hsm.stmts hg1 hst1) (fun r s3 H3 hr3 hs3 => ?_) (fun er s3 H3 hr3 hs3 e' he' => ?_)) rfl
  ·rw [hr3, bind_ok] at hI
   repeat first | refine LOps.nil ?_ | refine LCode.seq ?_ | refine LCode.region ?_ | refine LCode.ret ?_ | refine QThen.normal ?_ | refine LOps.pure (Pure.as (lv := .atom _) rfl) rfl ?_ | refine LOps.pure (Pure.mv (lv := .atom _) rfl) rfl ?_ | refine LOps.pure (Pure.mv (lv := .tuple _) rfl) rfl ?_ | refine LOps.pure (Pure.extract (c := .atom _) rfl rfl) rfl ?_
   exact retI (v := r.getD 0) hj (AllRes.cons (ResIs.tmp (v := .atom _) rfl (LV.Sub.refl _)) AllRes.nil) hI.symm rfl hsub_left hs3
  ·repeat first | refine QThen.panic ?_
   rw [hr3, bind_stop] at hI
   exact panI_ (he'.trans hj) hI.symm hsub_left hs3
end
end Go.Proofs.YtcbpcianefpniaaGreatDoor.Inp
namespace Go.Proofs.YtcbpcianefpniaaGreatDoor.Inp
open Go.GL Go.RowKit Go.Stele
set_option maxRecDepth 100000
set_option maxHeartbeats 4000000
theorem errE_parts {c : CEnv} {op : List UInt8} {num : Nat} {name : List UInt8} {args : List Ex} (h : errE c (.mk op num name args) = 0) : (opnds op = -1 ∨ opnds op = args.length) ∧ errEs c args = 0 ∧ useE c op name args.length = 0 := by
 rw [errE] at h
 split at h
 ·rename_i h1
  obtain ⟨h2, h3⟩ := orE_zero.1 h
  exact ⟨h1, h2, h3⟩
 ·cases h
theorem one_of {l : List Nat} (h : l.length = 1) : ∃ a, l = [a] := by
 cases l with
 | nil => cases h
 | cons a l =>
  cases l with
  | nil => exact ⟨a, rfl⟩
  | cons b l => simp at h
theorem two_of {l : List Nat} (h : l.length = 2) : ∃ a b, l = [a, b] := by
 cases l with
 | nil => cases h
 | cons a l =>
  obtain ⟨b, rfl⟩ := one_of (l := l) (by simpa using h)
  exact ⟨a, b, rfl⟩
theorem neg_u32 {a : Nat} (h : a < 4294967296) : IntKind.u32.wrap (0 - (a : Int)) = (((4294967296 - a) % 4294967296 : Nat) : Int) := by
 rw [wrapU]
 omega
theorem set_mid {A : Type} (l r : List A) (x y : A) : (l ++ x :: r).set l.length y = l ++ y :: r := by
 induction l with
 | nil => rfl
 | cons a l ih => simp only [List.cons_append, List.length_cons, List.set_cons_succ, ih]
theorem hsub_perm {H1 H2 X : Heap} (hp : H1.Perm H2) (h : HSub X H2) : HSub X H1 :=
 let ⟨G, hG⟩ := h
 ⟨G, hp.trans hG⟩
attribute [local irreducible] LOps LCode LStep LCalls Go.GL.Pure QThen QBlock RetPost LQ LAny LLate LLateOp LS
section
variable {B0 : Nat} {w0 : World}
theorem eval_spec {c : Cfg} (hC : CfgOk c) {n : Nat} (hE : EvalH B0 w0 c n) (hB : BlkH B0 w0 c n) : EvalH B0 w0 c (n + 1) := by
 intro f kn x s H hf hk hv hnum hsm hg hs
 obtain ⟨op, num, name, args⟩ := x
 obtain ⟨hop, hargs, huse⟩ := errE_parts hv
 obtain ⟨hn1, hn2⟩ := hnum
 obtain ⟨hm1, hm2⟩ := hsm
 have hal : args.length ≤ 1000000 := hm1
 generalize hI : evI c.p (n + 1) f (Ex.mk op num name args) s = R
 rw [evI] at hI
 rw [encE_mk]
 refine LCalls.intro Tryz.func158 rfl (n := 92) rfl rfl rfl ?_
 repeat first | refine LCode.seq ?_ | refine LCode.region ?_
 refine LOps.step (S.box rfl fun b4 => ?_) rfl
 refine LOps.step (S.box rfl fun b5 => ?_) rfl
 repeat first | refine LOps.nil ?_ | refine LCode.seq ?_ | refine LCode.region ?_ | refine QThen.normal ?_ | refine LOps.pure (Pure.as (lv := .atom _) rfl) rfl ?_ | refine LOps.pure (Pure.mv (lv := .atom _) rfl) rfl ?_
 refine LOps.step (S.callI [_] rfl swap2 (step_spec hC hs) (fun u s1 H1 hr hs1 => ?_) (fun er s1 H1 hr hs1 e' he' => ?_)) rfl
 rotate_left
 ·repeat first | refine QThen.panic ?_
  rw [hr, bind_stop] at hI
  exact panI_ (he'.trans rfl) hI.symm hsub_left hs1
 have hg1 : Good c n s1 ∧ s1.out.length + s1.left + 1 ≤ c.lim := by
  have h1 := tick_less hr
  have h2 := tick_bd hg.1
  rw [hr] at h2
  have h3 : s1.out = s.out := by
   unfold tick at hr
   split at hr
   ·cases hr
   ·cases hr; rfl
  have h4 := hg.2.1
  have h5 := hg.2.2
  exact ⟨⟨h2.2, by omega, by rw [h3]; omega⟩, by rw [h3]; omega⟩
 rw [hr, bind_ok] at hI
 refine LOps.perm (swap2 (H := H1)).symm ?_
 repeat first | refine LOps.nil ?_ | refine LCode.seq ?_ | refine LCode.region ?_ | refine QThen.normal ?_ | refine LOps.pure (Pure.fieldH rfl) rfl ?_ | refine LOps.pure (Pure.loadH (c := .list _) rfl (List.Mem.head _) rfl) rfl ?_ | refine LOps.pure (Pure.llen rfl) rfl ?_
 refine LOps.step (S.makeRow (n := args.length) (k := .i64) (k2 := .i64) (int_eq (by rw [List.length_map])) (int_eq (by rw [List.length_map])) (by omega) (by omega) fun b7 => ?_) rfl
 repeat first | refine LOps.nil ?_ | refine LCode.seq ?_ | refine LCode.region ?_ | refine LCode.block ?_ | refine QThen.normal ?_ | refine LOps.pure (Pure.as (lv := .atom _) rfl) rfl ?_ | refine LOps.pure (Pure.mv (lv := .atom _) rfl) rfl ?_ | refine LOps.pure (Pure.fieldH rfl) rfl ?_ | refine LOps.pure (Pure.loadH (c := .list _) rfl (List.Mem.tail _ (List.Mem.head _)) rfl) rfl ?_ | refine LOps.pure (Pure.llen rfl) rfl ?_
 refine LCode.loopI (fun k ls H' => ∃ (pre l1 : List Ex) (vs : List Nat) (s2 : IS) (Hs : Heap), args = pre ++ l1 ∧ vs.length = pre.length ∧ (∀ v ∈ vs, Lt v) ∧ k = l1.length ∧ ls = [(0, ptr c.rb 0), (4, ptr b4 0), (5, ptr b5 0), (7, rowV b7 args.length), (17, .list (args.map encE)), (18, int .i64 ((args.map encE).length : Int)), (19, int .i64 (pre.length : Int))] ∧
   H' = (b7, .cells 43 (vs.map u32 ++ List.replicate l1.length (u32 0))) :: (b5, .cells 170 [str op, u32 num, str name, .list (args.map encE)]) :: (b4, .cells 63 [str f.name, .list (f.params.map str), .list (f.locals.map str), .list (f.body.map encS)]) :: Hs ∧
   St c s2 Hs ∧ Good c n s2 ∧ s2.out.length + s2.left + 1 ≤ c.lim ∧ errEs (cenv c kn f) l1 = 0 ∧ numEs l1 ∧ smEs l1 ∧ (mapR (evI c.p n f) l1 s2).bind (fun vs' s => opI c.p (stI c.p n) f op num name (vs ++ vs') s) = R)
  ⟨args.length, _, _, ⟨[], args, [], s1, H1, rfl, rfl, fun v hv => (List.not_mem_nil hv).elim, rfl, rfl, rfl, hs1, hg1.1, hg1.2, hargs, hn2, hm2, hI⟩, ⟨rfl, rfl, rfl, rfl, rfl, rfl, rfl, trivial⟩, HSub.refl _⟩ ?_
 rintro k ls H' ⟨pre, l1, vs, s2, Hs, hpre, hvl, hvlt, rfl, rfl, rfl, hs2, hg2, hroom, he2, hnn2, hmm2, hI2⟩ j hj
 have hl6 : pre.length ≤ 1000000 := by
  have := hal
  rw [hpre, List.length_append] at this
  omega
 repeat first | refine LOps.nil ?_ | refine LCode.seq ?_ | refine LCode.region ?_ | refine QThen.normal ?_ | refine LOps.pure (Pure.lss rfl rfl) rfl ?_
 refine LCode.cond rfl (fun hc => ?_) (fun hc => ?_)
 ·have hlen := of_decide_eq_true hc
  rw [List.length_map, hpre, List.length_append] at hlen
  obtain ⟨a, l2, rfl⟩ : ∃ a l2, l1 = a :: l2 := by
   cases l1 with
   | nil => simp at hlen
   | cons a l2 => exact ⟨a, l2, rfl⟩
  rw [errEs] at he2
  obtain ⟨hea, hel⟩ := orE_zero.1 he2
  rw [mapR_step] at hI2
  repeat first | refine LCode.seq ?_ | refine LCode.region ?_ | refine LCode.skip ?_ | refine LCode.block ?_ | refine QThen.normal ?_ | refine LOps.pure (Pure.mv (lv := .atom _) rfl) rfl ?_
  refine LOps.pure (Pure.ixRef (el' := encE a) (cs := [_, _, _, _]) rfl rfl (by omega) (by rw [hpre]; exact get_mid encE pre a l2) rfl rfl) rfl ?_
  repeat first | refine LOps.pure (Pure.ldRefAgg (cs' := [_, _, _, _]) rfl rfl rfl) rfl ?_
  refine LOps.step (S.alloc fun b9 => ?_) rfl
  repeat first | refine LOps.nil ?_ | refine LCode.region ?_ | refine QThen.normal ?_ | refine LOps.pure (Pure.as (lv := .atom _) rfl) rfl ?_ | refine LOps.pure (Pure.mv (lv := .atom _) rfl) rfl ?_ | refine LOps.pure (Pure.ldHAgg (cs' := [_, _, _, _]) rfl (List.Mem.head _) rfl rfl) rfl ?_ | refine LOps.pure (Pure.ldHAgg (cs' := [_, _, _, _]) rfl (List.Mem.tail _ (List.Mem.tail _ (List.Mem.tail _ (List.Mem.head _)))) rfl rfl) rfl ?_ | refine LOps.step (S.store (cs' := [_, _, _, _]) rfl Pick.here rfl rfl rfl rfl rfl ?_) rfl
  refine LOps.step (S.callI [_, _, _] rfl (List.perm_append_comm (l₁ := [_, _, _, _])) (hE f kn a s2 Hs hf hk hea hnn2.1 hmm2.1 hg2 hs2) (fun v s3 H3 hr3 hs3 => ?_) (fun er s3 H3 hr3 hs3 e' he' => ?_)) rfl
  rotate_left
  ·repeat first | refine QThen.panic ?_ | refine QBlock.panic ?_
   rw [hr3, bind_stop] at hI2
   exact panI_ (he'.trans hj) hI2.symm hsub_left hs3
  obtain ⟨hg3, hv3, _⟩ := ev_good hC hnn2.1 hg2 hr3
  have hf3 := (few_all c.p n).1 f a s2
  rw [hr3] at hf3
  have hf3' : s3.out.length + s3.left ≤ s2.out.length + s2.left + 0 := hf3
  rw [hr3, bind_ok] at hI2
  refine LOps.perm (List.perm_append_comm (l₂ := [_, _, _, _])) ?_
  have hlt : pre.length < args.length := by
   rw [hpre, List.length_append, List.length_cons]
   omega
  refine LOps.pure (Pure.indexRow rfl rfl (by omega) (by omega)) rfl ?_
  have ecs : vs.map u32 ++ List.replicate (a :: l2).length (u32 0) = vs.map u32 ++ u32 0 :: List.replicate l2.length (u32 0) := rfl
  rw [ecs]
  refine LOps.step (S.store (n := 1) (vs := [u32 v]) (cs' := (vs ++ [v]).map u32 ++ List.replicate l2.length (u32 0)) rfl (Pick.there Pick.here) rfl rfl (by simp [hvl]) rfl (by
   rw [show 0 + ((pre.length : Int)).toNat * 1 = (vs.map u32).length by rw [List.length_map, hvl]; simp, setL_one _ _ _ (by simp), set_mid]
   simp) ?_) rfl
  repeat first | refine LOps.nil ?_ | refine LCode.region ?_ | refine QThen.normal ?_ | refine QBlock.normal ?_ | refine LOps.pure (Pure.mv (lv := .atom _) rfl) rfl ?_ | refine LOps.pure (Pure.add rfl rfl (by omega)) rfl ?_
  exact ⟨l2.length, _, _, Nat.lt_succ_self _, ⟨pre ++ [a], l2, vs ++ [v], s3, H3, by rw [hpre]; simp, by simp [hvl], fun y hy => by
   rcases List.mem_append.1 hy with h1 | h1
   ·exact hvlt y h1
   ·rw [List.mem_singleton.1 h1]; exact hv3, rfl, rfl, rfl, hs3, hg3, by omega, hel, hnn2.2, hmm2.2, by
    rw [← hI2]
    simp only [List.append_assoc, List.singleton_append]⟩, ⟨rfl, rfl, rfl, rfl, rfl, rfl, int_eq (by simp), trivial⟩, HSub.pick Pick.here (HSub.drop (HSub.refl _)), hj⟩
 have hlen := of_decide_eq_false hc
 rw [List.length_map, hpre, List.length_append] at hlen
 obtain rfl : l1 = [] := by
  cases l1 with
  | nil => rfl
  | cons a l2 => simp at hlen; omega
 rw [mapR, bind_ok, List.append_nil] at hI2
 have hvn : vs.length = args.length := by rw [hvl, hpre, List.append_nil]
 have hcs : vs.map u32 ++ List.replicate ([] : List Ex).length (u32 0) = (vs.map fun (v : Nat) => Value.int .u32 (v : Int)).map .atom := by
  rw [List.map_map]
  simp only [List.length_nil, List.replicate_zero, List.append_nil]
  rfl
 have hvn2 : args.length = (vs.map fun (v : Nat) => Value.int .u32 (v : Int)).length := by rw [List.length_map, hvn]
 rw [hcs]
 have hI := hI2
 clear hI2
 repeat first | refine LCode.exit ?_ | refine QThen.normal ?_ | refine QThen.exit ?_ | refine QBlock.hit ?_
 refine LCode.rowShut 7 (vs := vs.map fun (v : Nat) => Value.int .u32 (v : Int)) Pick.here (by rw [← hvn2]; rfl) ?_
 rw [show (vs.map fun (v : Nat) => Value.int .u32 (v : Int)).map LV.atom = vs.map u32 by rw [List.map_map]; rfl]
 rw [← hvn] at hop huse
 unfold opI at hI
 obtain ⟨hb2, hl2, _⟩ := hg2
 repeat first | refine LOps.nil ?_ | refine LCode.seq ?_ | refine LCode.region ?_ | refine LCode.block ?_ | refine QThen.normal ?_ | refine LOps.pure (Pure.as (lv := .atom _) rfl) rfl ?_ | refine LOps.pure (Pure.fieldH rfl) rfl ?_ | refine LOps.pure (Pure.loadH (c := .atom _) rfl (List.Mem.head _) rfl) rfl ?_ | refine LOps.pure (Pure.seq rfl rfl) rfl ?_
 by_cases h1 : op = [110, 117, 109]
 ·subst h1
  rw [if_pos rfl] at hI
  refine LCode.cond rfl (fun hc => ?_) (fun hc => by cases hc)
  repeat first | refine LOps.nil ?_ | refine LCode.seq ?_ | refine LCode.region ?_ | refine LCode.ret ?_ | refine QThen.normal ?_ | refine QThen.ret ?_ | refine QBlock.ret ?_ | refine LOps.pure (Pure.as (lv := .atom _) rfl) rfl ?_ | refine LOps.pure (Pure.fieldH rfl) rfl ?_ | refine LOps.pure (Pure.loadH (c := .atom _) rfl (List.Mem.head _) rfl) rfl ?_
  exact retI (v := num) hj (AllRes.cons (ResIs.tmp (v := .atom _) rfl (LV.Sub.refl _)) AllRes.nil) hI.symm rfl (HSub.drop (HSub.drop (HSub.refl _))) hs2
 refine LCode.cond rfl (fun hc => absurd (of_decide_eq_true hc) h1) (fun _ => ?_)
 rw [if_neg h1] at hI
 repeat first | refine LOps.nil ?_ | refine LCode.seq ?_ | refine LCode.region ?_ | refine QThen.normal ?_ | refine LOps.pure (Pure.as (lv := .atom _) rfl) rfl ?_ | refine LOps.pure (Pure.seq rfl rfl) rfl ?_
 by_cases h2 : op = [118, 97, 114]
 ·subst h2
  rw [if_pos rfl] at hI
  unfold useE at huse
  rw [if_pos (show ([118, 97, 114] : List UInt8) = nVar from rfl)] at huse
  have hpl := key_placed hf huse
  obtain ⟨b, hb1, hb3⟩ := hC.block hpl
  obtain ⟨G, hG1, _⟩ := st_sc hC hb1 hs2
  refine LCode.cond rfl (fun hc => ?_) (fun hc => by cases hc)
  repeat first | refine LCode.seq ?_ | refine LCode.region ?_ | refine LOps.pure (Pure.mv (lv := .atom _) rfl) rfl ?_ | refine LOps.pure (Pure.fieldH rfl) rfl ?_ | refine LOps.pure (Pure.loadH (c := .atom _) rfl (List.Mem.head _) rfl) rfl ?_ | refine LOps.pure (Pure.ldHAgg (cs' := [_, _, _, _]) rfl (List.Mem.tail _ (List.Mem.head _)) rfl rfl) rfl ?_
  refine LOps.step (S.callS [_, _, _] rfl swap2 (scalar_spec hC hs2 hf hpl hb3) ?_) rfl
  refine LOps.perm (swap2 (H := Hs)).symm ?_
  refine LOps.pure (Pure.nilCheckH rfl) rfl ?_
  refine LOps.pure (Pure.loadH (c := u32 (s2.sc (keyI f name))) rfl (List.mem_cons_of_mem _ (List.mem_cons_of_mem _ (hG1.mem_iff.2 (List.mem_cons_self ..)))) rfl) rfl ?_
  repeat first | refine LOps.nil ?_ | refine LCode.ret ?_ | refine QThen.normal ?_ | refine QThen.ret ?_ | refine QBlock.ret ?_ | refine LOps.pure (Pure.as (lv := .atom _) rfl) rfl ?_
  exact retI (v := s2.sc (keyI f name)) hj (AllRes.cons (ResIs.tmp (v := .atom _) rfl (LV.Sub.refl _)) AllRes.nil) hI.symm rfl (HSub.drop (HSub.drop (HSub.refl _))) hs2
 refine LCode.cond rfl (fun hc => absurd (of_decide_eq_true hc) h2) (fun _ => ?_)
 rw [if_neg h2] at hI
 repeat first | refine LOps.nil ?_ | refine LCode.seq ?_ | refine LCode.region ?_ | refine QThen.normal ?_ | refine LOps.pure (Pure.as (lv := .atom _) rfl) rfl ?_ | refine LOps.pure (Pure.seq rfl rfl) rfl ?_
 by_cases h3 : op = [101, 108, 101, 109]
 ·subst h3
  rw [if_pos rfl] at hI
  unfold useE at huse
  rw [if_neg (by decide), if_pos (show ([101, 108, 101, 109] : List UInt8) = nElem from rfl)] at huse
  have hpl : name ∈ c.p.arrays.map (·.name) := by
   unfold arrayE at huse
   split at huse
   ·rename_i h
    exact h
   ·split at huse <;> cases huse
  obtain ⟨b, m, hb1, hb3⟩ := hC.arr hpl
  obtain ⟨hlen2, G, hG1, _⟩ := st_ar hC hb1 hs2
  obtain ⟨a, rfl⟩ : ∃ a, vs = [a] := one_of (by
   rcases hop with h | h
   ·exact absurd h (by decide)
   ·have h9 : (1 : Int) = (vs.length : Int) := h
    omega)
  have ha : a < 4294967296 := hvlt a (List.mem_cons_self ..)
  refine LCode.cond rfl (fun hc => ?_) (fun hc => by cases hc)
  repeat first | refine LCode.seq ?_
  refine LCode.tail 6 (by kernel_rfl) ?_
  repeat first | refine LS.pure (Pure.mv (lv := .atom _) rfl) rfl ?_ | refine LS.pure (Pure.fieldH rfl) rfl ?_ | refine LS.pure (Pure.loadH (c := .atom _) rfl (List.Mem.head _) rfl) rfl ?_ | refine LS.pure (Pure.mv (lv := .list _) rfl) rfl ?_
  refine LS.pure (Pure.ixRef (el' := u32 a) (cs := [u32 a]) rfl rfl (by omega) rfl rfl rfl) rfl ?_
  repeat first | refine LS.pure (Pure.loadRef (c := .atom _) rfl rfl) rfl ?_ | refine LS.nil ?_
  refine LOps.step (S.callH (H1 := Hs) [_, _, _] rfl swap2 (element_spec hC hs2 hb1 hb3 ha) ?_ ?_) rfl
  ·rintro lv H' ⟨rfl, h⟩
   by_cases hin : a < m
   ·rw [if_pos hin] at h
    cases h
    have hget : (s2.ar name)[a]? = some (s2.ar name)[a] := List.getElem?_eq_getElem (by omega)
    have hI' : (match (s2.ar name)[a]? with
     | some v => IR.ok v s2
     | none => .stop 2 s2) = R := hI
    rw [hget] at hI'
    refine LOps.pure (Pure.nilCheckH rfl) rfl ?_
    refine LOps.pure (Pure.loadH (c := u32 (s2.ar name)[a]) rfl (List.mem_append_left _ (hG1.mem_iff.2 (List.mem_cons_self ..))) (by rw [List.getElem?_map, hget]; rfl)) rfl ?_
    repeat first | refine LOps.nil ?_ | refine LCode.ret ?_ | refine QThen.normal ?_ | refine QThen.ret ?_ | refine QBlock.ret ?_ | refine LOps.pure (Pure.as (lv := .atom _) rfl) rfl ?_
    exact retI (v := (s2.ar name)[a]) hj (AllRes.cons (ResIs.tmp (v := .atom _) rfl (LV.Sub.refl _)) AllRes.nil) hI'.symm rfl hsub_left hs2
   ·rw [if_neg hin] at h
    cases h
  ·rintro ch H' ⟨rfl, h⟩ e' he'
   by_cases hin : a < m
   ·rw [if_pos hin] at h
    cases h
   ·rw [if_neg hin] at h
    cases h
    have hget : (s2.ar name)[a]? = none := List.getElem?_eq_none (by omega)
    have hI' : (match (s2.ar name)[a]? with
     | some v => IR.ok v s2
     | none => .stop 2 s2) = R := hI
    rw [hget] at hI'
    repeat first | refine QThen.panic ?_ | refine QBlock.panic ?_
    exact panI_ (he'.trans hj) hI'.symm hsub_left hs2
 refine LCode.cond rfl (fun hc => absurd (of_decide_eq_true hc) h3) (fun _ => ?_)
 rw [if_neg h3] at hI
 repeat first | refine LOps.nil ?_ | refine LCode.seq ?_ | refine LCode.region ?_ | refine QThen.normal ?_ | refine LOps.pure (Pure.as (lv := .atom _) rfl) rfl ?_ | refine LOps.pure (Pure.seq rfl rfl) rfl ?_
 by_cases h4 : op = [110, 101, 103]
 ·subst h4
  rw [if_pos rfl] at hI
  obtain ⟨a, rfl⟩ : ∃ a, vs = [a] := one_of (by
   rcases hop with h | h
   ·exact absurd h (by decide)
   ·have h9 : (1 : Int) = (vs.length : Int) := h
    omega)
  have ha : a < 4294967296 := hvlt a (List.mem_cons_self ..)
  refine LCode.cond rfl (fun hc => ?_) (fun hc => by cases hc)
  repeat first | refine LCode.seq ?_ | refine LCode.region ?_ | refine LOps.pure (Pure.mv (lv := .list _) rfl) rfl ?_
  refine LOps.pure (Pure.ixRef (el' := u32 a) (cs := [u32 a]) rfl rfl (by omega) rfl rfl rfl) rfl ?_
  repeat first | refine LOps.pure (Pure.loadRef (c := .atom _) rfl rfl) rfl ?_
  refine LOps.pure (Pure.negW rfl) rfl ?_
  repeat first | refine LOps.nil ?_ | refine LCode.ret ?_ | refine QThen.normal ?_ | refine QThen.ret ?_ | refine QBlock.ret ?_ | refine LOps.pure (Pure.as (lv := .atom _) rfl) rfl ?_
  exact retI (v := (4294967296 - a) % 4294967296) hj (AllRes.cons (ResIs.tmp (v := .atom _) rfl (LV.Sub.refl _)) AllRes.nil) hI.symm (int_eq (neg_u32 ha)) (HSub.drop (HSub.drop (HSub.refl _))) hs2
 refine LCode.cond rfl (fun hc => absurd (of_decide_eq_true hc) h4) (fun _ => ?_)
 rw [if_neg h4] at hI
 repeat first | refine LOps.nil ?_ | refine LCode.seq ?_ | refine LCode.region ?_ | refine QThen.normal ?_ | refine LOps.pure (Pure.as (lv := .atom _) rfl) rfl ?_ | refine LOps.pure (Pure.seq rfl rfl) rfl ?_
 by_cases h5 : op = [110, 111, 116]
 ·subst h5
  rw [if_pos rfl] at hI
  obtain ⟨a, rfl⟩ : ∃ a, vs = [a] := one_of (by
   rcases hop with h | h
   ·exact absurd h (by decide)
   ·have h9 : (1 : Int) = (vs.length : Int) := h
    omega)
  refine LCode.cond rfl (fun hc => ?_) (fun hc => by cases hc)
  repeat first | refine LCode.seq ?_ | refine LCode.region ?_ | refine LOps.pure (Pure.mv (lv := .list _) rfl) rfl ?_
  refine LOps.pure (Pure.ixRef (el' := u32 a) (cs := [u32 a]) rfl rfl (by omega) rfl rfl rfl) rfl ?_
  repeat first | refine LOps.pure (Pure.loadRef (c := .atom _) rfl rfl) rfl ?_ | refine LOps.pure (Pure.eql rfl rfl) rfl ?_
  refine LOps.step (S.callS (F := []) [_] rfl (by rw [List.append_nil]) (truth_spec _) ?_) rfl
  rw [List.append_nil]
  repeat first | refine LOps.nil ?_ | refine LCode.ret ?_ | refine QThen.normal ?_ | refine QThen.ret ?_ | refine QBlock.ret ?_ | refine LOps.pure (Pure.as (lv := .atom _) rfl) rfl ?_
  exact retI (v := b2n (decide (a = 0))) hj (AllRes.cons (ResIs.tmp (v := .atom _) rfl (LV.Sub.refl _)) AllRes.nil) hI.symm (congrArg u32 (b2n_dec (by omega))) (HSub.drop (HSub.drop (HSub.refl _))) hs2
 refine LCode.cond rfl (fun hc => absurd (of_decide_eq_true hc) h5) (fun _ => ?_)
 rw [if_neg h5] at hI
 repeat first | refine LOps.nil ?_ | refine LCode.seq ?_ | refine LCode.region ?_ | refine QThen.normal ?_ | refine LOps.pure (Pure.as (lv := .atom _) rfl) rfl ?_ | refine LOps.pure (Pure.seq rfl rfl) rfl ?_
 by_cases h6 : op = [99, 97, 108, 108]
 ·subst h6
  rw [if_pos rfl] at hI
  unfold useE at huse
  rw [if_neg (by decide), if_neg (by decide), if_pos (show ([99, 97, 108, 108] : List UInt8) = nCall from rfl)] at huse
  refine LCode.cond rfl (fun hc => ?_) (fun hc => by cases hc)
  repeat first | refine LCode.seq ?_ | refine LCode.region ?_ | refine LOps.pure (Pure.mv (lv := .atom _) rfl) rfl ?_ | refine LOps.pure (Pure.fieldH rfl) rfl ?_ | refine LOps.pure (Pure.loadH (c := .atom _) rfl (List.Mem.head _) rfl) rfl ?_ | refine LOps.pure (Pure.mv (lv := .list _) rfl) rfl ?_
  refine LOps.step (S.callI [_, _, _] rfl swap2 (call_spec hC hB hk huse hvlt hb2 hl2 hroom hs2) (fun v s3 H3 hr3 hs3 => ?_) (fun er s3 H3 hr3 hs3 e' he' => ?_)) rfl
  ·rw [hr3] at hI
   repeat first | refine LOps.nil ?_ | refine LCode.ret ?_ | refine QThen.normal ?_ | refine QThen.ret ?_ | refine QBlock.ret ?_ | refine LOps.pure (Pure.as (lv := .atom _) rfl) rfl ?_
   exact retI (v := v) hj (AllRes.cons (ResIs.tmp (v := .atom _) rfl (LV.Sub.refl _)) AllRes.nil) hI.symm rfl hsub_left hs3
  ·repeat first | refine QThen.panic ?_ | refine QBlock.panic ?_
   rw [hr3] at hI
   exact panI_ (he'.trans hj) hI.symm hsub_left hs3
 refine LCode.cond rfl (fun hc => absurd (of_decide_eq_true hc) h6) (fun _ => ?_)
 rw [if_neg h6] at hI
 repeat first | refine LCode.seq ?_ | refine LCode.skip ?_ | refine QThen.normal ?_ | refine QBlock.normal ?_
 have hbin : op ∈ binOps ∧ vs.length = 2 := by
  unfold opnds at hop
  rw [if_neg (fun h => h.elim h1 h2), if_neg (fun h => h.elim h3 (fun h => h.elim h4 h5)), if_neg (show ¬ op = nCall from h6)] at hop
  split at hop
  ·rename_i h
   refine ⟨h, ?_⟩
   rcases hop with h | h <;> omega
  ·rcases hop with h | h <;> omega
 obtain ⟨hbo, hv2⟩ := hbin
 obtain ⟨a, b2, rfl⟩ := two_of hv2
 have ha : a < 4294967296 := hvlt a (List.mem_cons_self ..)
 have hb : b2 < 4294967296 := hvlt b2 (List.mem_cons_of_mem _ (List.mem_cons_self ..))
 obtain ⟨fi, caps, hkv, hte, hcall⟩ := binop_spec (B0 := B0) (w0 := w0) (db := c.db) hbo ha hb
 have hs3 := hs2
 obtain ⟨hl, hle, v, Ha, hacc, rfl⟩ := hs2
 refine LCode.tail 13 (by kernel_rfl) ?_
 repeat first | refine LS.pure (Pure.mv (lv := .atom _) rfl) rfl ?_ | refine LS.pure (Pure.fieldH rfl) rfl ?_ | refine LS.pure (Pure.loadH (c := .atom _) rfl (List.Mem.head _) rfl) rfl ?_ | refine LS.pure (Pure.loadH (c := .atom _) rfl (List.Mem.tail _ (List.Mem.tail _ (List.Mem.head _))) rfl) rfl ?_ | refine LS.pure (Pure.nilCheckH rfl) rfl ?_
 refine LS.pure (Pure.kvHit rfl rfl (List.Mem.tail _ (List.Mem.tail _ (List.Mem.tail _ (List.Mem.tail _ (List.Mem.tail _ (List.Mem.tail _ (List.Mem.head _))))))) hkv) rfl ?_
 repeat first | refine LS.pure (Pure.mv (lv := .list _) rfl) rfl ?_
 refine LS.pure (Pure.ixRef (el' := u32 a) (cs := [u32 a]) rfl rfl (by omega) rfl rfl rfl) rfl ?_
 repeat first | refine LS.pure (Pure.loadRef (c := .atom _) rfl rfl) rfl ?_ | refine LS.pure (Pure.mv (lv := .list _) rfl) rfl ?_
 refine LS.pure (Pure.ixRef (el' := u32 b2) (cs := [u32 b2]) rfl rfl (by omega) rfl rfl rfl) rfl ?_
 repeat first | refine LS.pure (Pure.loadRef (c := .atom _) rfl rfl) rfl ?_ | refine LS.nil ?_
 have hpick : Pick (divH c.db) ((b5, .cells 170 [str op, u32 num, str name, .list (args.map encE)]) :: (b4, .cells 63 [str f.name, .list (f.params.map str), .list (f.locals.map str), .list (f.body.map encS)]) :: stH c s2 v Ha) _ := Pick.there (Pick.there (Pick.there (Pick.there (Pick.there (Pick.there (Pick.there Pick.here))))))
 refine LOps.step (S.callV (f := fi) (first := #[]) (caps := caps) (H1 := [divH c.db]) [_, _] rfl rfl hpick hcall ?_ ?_) rfl
 ·rintro lv H' ⟨rfl, h⟩
  have hI' : (match binI op a b2 with
   | some v => IR.ok v s2
   | none => .stop 12 s2) = R := hI
  cases hb9 : binI op a b2 with
  | none => rw [hb9] at h; cases h
  | some y =>
   rw [hb9] at h hI'
   cases h
   repeat first | refine LOps.nil ?_ | refine LCode.ret ?_ | refine QThen.normal ?_ | refine LOps.pure (Pure.as (lv := .atom _) rfl) rfl ?_
   exact retI (v := y) hj (AllRes.cons (ResIs.tmp (v := .atom _) rfl (LV.Sub.refl _)) AllRes.nil) hI'.symm rfl (hsub_perm (List.Perm.symm hpick) (HSub.drop (HSub.drop (HSub.refl _)))) hs3
 ·rintro ch H' ⟨rfl, h⟩ e' he'
  have hI' : (match binI op a b2 with
   | some v => IR.ok v s2
   | none => .stop 12 s2) = R := hI
  cases hb9 : binI op a b2 with
  | some y => rw [hb9] at h; cases h
  | none =>
   rw [hb9] at h hI'
   cases h
   repeat first | refine QThen.panic ?_
   exact panI_ (he'.trans hj) hI'.symm (hsub_perm (List.Perm.symm hpick) (HSub.drop (HSub.drop (HSub.refl _)))) hs3
theorem eval_zero {c : Cfg} (hC : CfgOk c) : EvalH B0 w0 c 0 := by
 intro f kn x s H hf hk hv hnum hsm hg hs
 have ht : tick s = .stop 13 s := by rw [tick, if_pos (Nat.le_zero.1 hg.2.1)]
 obtain ⟨op, num, name, args⟩ := x
 rw [encE_mk]
 refine LCalls.intro Tryz.func158 rfl (n := 92) rfl rfl rfl ?_
 repeat first | refine LCode.seq ?_ | refine LCode.region ?_
 refine LOps.step (S.box rfl fun b4 => ?_) rfl
 refine LOps.step (S.box rfl fun b5 => ?_) rfl
 repeat first | refine LOps.nil ?_ | refine LCode.seq ?_ | refine LCode.region ?_ | refine QThen.normal ?_ | refine LOps.pure (Pure.as (lv := .atom _) rfl) rfl ?_ | refine LOps.pure (Pure.mv (lv := .atom _) rfl) rfl ?_
 refine LOps.step (S.callI [_] rfl swap2 (step_spec hC hs) (fun u s1 H1 hr hs1 => ?_) (fun er s1 H1 hr hs1 e' he' => ?_)) rfl
 ·rw [ht] at hr
  cases hr
 ·rw [ht] at hr
  cases hr
  repeat first | refine QThen.panic ?_
  exact panI_ (he'.trans rfl) (by rw [evI]) hsub_left hs1
theorem exec_zero {c : Cfg} (hC : CfgOk c) : ExecH B0 w0 c 0 := by
 intro f kn x s H hf hk hv hnum hsm hg hs
 have ht : tick s = .stop 13 s := by rw [tick, if_pos (Nat.le_zero.1 hg.2.1)]
 obtain ⟨kind, name, index, value, thn, els⟩ := x
 rw [encS_mk]
 refine LCalls.intro Tryz.func109 rfl (n := 93) rfl rfl rfl ?_
 repeat first | refine LCode.seq ?_ | refine LCode.region ?_
 refine LOps.step (S.box rfl fun b4 => ?_) rfl
 refine LOps.step (S.box rfl fun b5 => ?_) rfl
 repeat first | refine LOps.nil ?_ | refine LCode.seq ?_ | refine LCode.region ?_ | refine QThen.normal ?_ | refine LOps.pure (Pure.as (lv := .atom _) rfl) rfl ?_ | refine LOps.pure (Pure.mv (lv := .atom _) rfl) rfl ?_
 refine LOps.step (S.callI [_] rfl swap2 (step_spec hC hs) (fun u s1 H1 hr hs1 => ?_) (fun er s1 H1 hr hs1 e' he' => ?_)) rfl
 ·rw [ht] at hr
  cases hr
 ·rw [ht] at hr
  cases hr
  repeat first | refine QThen.panic ?_
  exact panI_ (he'.trans rfl) (by rw [stI]) hsub_left hs1
/-- All executions, by the steps that are left. -/
theorem run_all {c : Cfg} (hC : CfgOk c) : ∀ n : Nat, EvalH B0 w0 c n ∧ ExecH B0 w0 c n
 | 0 => ⟨eval_zero hC, exec_zero hC⟩
 | n + 1 => by
  obtain ⟨h1, h2⟩ := run_all hC n
  have hB := block_spec hC h2
  exact ⟨eval_spec hC h1 hB, execute_spec hC h1 hB⟩
end
end Go.Proofs.YtcbpcianefpniaaGreatDoor.Inp
namespace Go.Proofs
def Tryz.lays283_ren : Go.Shelf.Ren := ⟨fun | 283 => 114 | n => n, fun | 3 => 3 | 9 => 9 | 4 => 4 | n => n, fun | n => n⟩
theorem Tryz.lays283 : Go.Proofs.Lays.n283 Tryz.prog Tryz.lays283_ren := {
 mixed := by kernel_rfl
 f283 := Tryz.func114.trans (congrArg some (by kernel_rfl))
 t3 := Tryz.underlying3
 a3 := Tryz.isAgg3
 z3 := Tryz.sizeOf3
 v3 := Tryz.zeroValue3
 t4 := Tryz.underlying4
 a4 := Tryz.isAgg4
 z4 := Tryz.sizeOf4
 v4 := Tryz.zeroValue4
 t9 := Tryz.underlying9
 a9 := Tryz.isAgg9
 z9 := Tryz.sizeOf9
 v9 := Tryz.zeroValue9 }
open Go.Lib in
theorem Tryz.internal_strconv_small (i : Nat) (h : i < 100) (w : World) :
  Calls Tryz.prog 114 #[.int .i64 i] w fun e w' => e = .returned (.string ⟨(Lib.decDigits i).toArray⟩) ∧ w' = w := Any.internal_strconv_small Tryz.lays283 i h w
def Tryz.laysM284_ren : Go.Shelf.Ren := ⟨fun | 284 => 115 | 129 => 165 | 317 => 164 | 318 => 166 | n => n, fun | 53 => 84 | 3 => 3 | 212 => 205 | 0 => 0 | 4 => 4 | 46 => 46 | 5 => 5 | 9 => 9 | n => n, fun | 17 => 1 | n => n⟩
theorem Tryz.laysM284 : Go.Proofs.LaysM.n284 Tryz.prog Tryz.laysM284_ren := {
 mixed := by kernel_rfl
 f129 := Tryz.func165.trans (congrArg some (by kernel_rfl))
 f284 := Tryz.func115.trans (congrArg some (by kernel_rfl))
 f317 := Tryz.func164.trans (congrArg some (by kernel_rfl))
 f318 := Tryz.func166.trans (congrArg some (by kernel_rfl))
 t0 := Tryz.underlying0
 a0 := Tryz.isAgg0
 z0 := Tryz.sizeOf0
 v0 := Tryz.zeroValue0
 t3 := Tryz.underlying3
 a3 := Tryz.isAgg3
 z3 := Tryz.sizeOf3
 v3 := Tryz.zeroValue3
 t4 := Tryz.underlying4
 a4 := Tryz.isAgg4
 z4 := Tryz.sizeOf4
 v4 := Tryz.zeroValue4
 t5 := Tryz.underlying5
 a5 := Tryz.isAgg5
 z5 := Tryz.sizeOf5
 v5 := Tryz.zeroValue5
 t9 := Tryz.underlying9
 a9 := Tryz.isAgg9
 z9 := Tryz.sizeOf9
 v9 := Tryz.zeroValue9
 t46 := Tryz.underlying46
 a46 := Tryz.isAgg46
 z46 := Tryz.sizeOf46
 v46 := Tryz.zeroValue46
 t53 := Tryz.underlying84
 a53 := Tryz.isAgg84
 z53 := Tryz.sizeOf84
 v53 := Tryz.zeroValue84
 t212 := Tryz.underlying205
 a212 := Tryz.isAgg205
 z212 := Tryz.sizeOf205
 v212 := Tryz.zeroValue205
 g17 := by kernel_rfl
 i0 := by kernel_rfl
 i3 := by kernel_rfl
 i4 := by kernel_rfl
 i5 := by kernel_rfl
 i9 := by kernel_rfl
 i46 := by kernel_rfl
 i53 := by kernel_rfl
 i212 := by kernel_rfl
 m17 := by kernel_rfl }
open Go.Lib in
theorem Tryz.internal_strconv_numDigits (u : Nat) (h1 : 1 ≤ u) (h2 : u < 18446744073709551616) (w : World) (htab : Lib.TabIs Tryz.prog w "internal/strconv.uint64pow10" .u64 Lib.pow10Tab) :
  Calls Tryz.prog 115 #[.int .u64 u] w fun e w' => e = .returned (.int .i64 (Lib.nDigits u)) ∧ w' = w := Any.internal_strconv_numDigits Tryz.laysM284 u h1 h2 w htab
def Tryz.lays285_ren : Go.Shelf.Ren := ⟨fun | 285 => 116 | n => n, fun | 37 => 42 | 53 => 84 | 3 => 3 | 4 => 4 | 51 => 43 | 9 => 9 | 5 => 5 | 0 => 0 | n => n, fun | n => n⟩
theorem Tryz.lays285 : Go.Proofs.Lays.n285 Tryz.prog Tryz.lays285_ren := {
 mixed := by kernel_rfl
 f285 := Tryz.func116.trans (congrArg some (by kernel_rfl))
 t0 := Tryz.underlying0
 a0 := Tryz.isAgg0
 z0 := Tryz.sizeOf0
 v0 := Tryz.zeroValue0
 t3 := Tryz.underlying3
 a3 := Tryz.isAgg3
 z3 := Tryz.sizeOf3
 v3 := Tryz.zeroValue3
 t4 := Tryz.underlying4
 a4 := Tryz.isAgg4
 z4 := Tryz.sizeOf4
 v4 := Tryz.zeroValue4
 t5 := Tryz.underlying5
 a5 := Tryz.isAgg5
 z5 := Tryz.sizeOf5
 v5 := Tryz.zeroValue5
 t9 := Tryz.underlying9
 a9 := Tryz.isAgg9
 z9 := Tryz.sizeOf9
 v9 := Tryz.zeroValue9
 t37 := Tryz.underlying42
 a37 := Tryz.isAgg42
 z37 := Tryz.sizeOf42
 v37 := Tryz.zeroValue42
 t51 := Tryz.underlying43
 a51 := Tryz.isAgg43
 z51 := Tryz.sizeOf43
 v51 := Tryz.zeroValue43
 t53 := Tryz.underlying84
 a53 := Tryz.isAgg84
 z53 := Tryz.sizeOf84
 v53 := Tryz.zeroValue84 }
open Go.RowKit Go.Sort Go.Lib in
theorem Tryz.internal_strconv_formatBase10 (blk off cap : Nat) (u : Nat) (d : Array UInt8) (w : World) (hH : Holds (fun (b : UInt8) => Value.int .u8 (b.toNat : Int)) w blk off d) (hu : u < 10 ^ d.size) (hu64 : u < 18446744073709551616) (hsz : d.size < 4611686018427387904) :
  Calls Tryz.prog 116 #[.slice (some ⟨blk, off, none⟩) d.size cap, .int .u64 u] w fun e w' =>
   e = .returned (.tuple #[]) ∧ ∃ (n v' : Nat) (dk : Array UInt8), w' = (putRow (fun (b : UInt8) => Value.int .u8 (b.toNat : Int)) w blk off dk).drewN n ∧ FmtInv d.size u 0 v' dk := Any.internal_strconv_formatBase10 Tryz.lays285 blk off cap u d w hH hu hu64 hsz
def Tryz.laysM171_ren : Go.Shelf.Ren := ⟨fun | 171 => 176 | 243 => 193 | 246 => 210 | 283 => 114 | 284 => 115 | 285 => 116 | 286 => 117 | 129 => 165 | 317 => 164 | 318 => 166 | 319 => 167 | 320 => 168 | 337 => 189 | 338 => 190 | n => n, fun | 3 => 3 | 9 => 9 | 2 => 2 | 4 => 4 | 171 => 184 | 0 => 0 | 53 => 84 | 37 => 42 | 5 => 5 | 173 => 187 | 212 => 205 | 51 => 43 | 20 => 20 | 213 => 206 | 46 => 46 | 232 => 231 | 233 => 232 | n => n, fun | 17 => 1 | 18 => 4 | 19 => 5 | n => n⟩
theorem Tryz.laysM171 : Go.Proofs.LaysM.n171 Tryz.prog Tryz.laysM171_ren := {
 mixed := by kernel_rfl
 f129 := Tryz.func165.trans (congrArg some (by kernel_rfl))
 f171 := Tryz.func176.trans (congrArg some (by kernel_rfl))
 f243 := Tryz.func193.trans (congrArg some (by kernel_rfl))
 f246 := Tryz.func210.trans (congrArg some (by kernel_rfl))
 f283 := Tryz.func114.trans (congrArg some (by kernel_rfl))
 f284 := Tryz.func115.trans (congrArg some (by kernel_rfl))
 f285 := Tryz.func116.trans (congrArg some (by kernel_rfl))
 f286 := Tryz.func117.trans (congrArg some (by kernel_rfl))
 f317 := Tryz.func164.trans (congrArg some (by kernel_rfl))
 f318 := Tryz.func166.trans (congrArg some (by kernel_rfl))
 f319 := Tryz.func167.trans (congrArg some (by kernel_rfl))
 f320 := Tryz.func168.trans (congrArg some (by kernel_rfl))
 f337 := Tryz.func189.trans (congrArg some (by kernel_rfl))
 f338 := Tryz.func190.trans (congrArg some (by kernel_rfl))
 t0 := Tryz.underlying0
 a0 := Tryz.isAgg0
 z0 := Tryz.sizeOf0
 v0 := Tryz.zeroValue0
 t2 := Tryz.underlying2
 a2 := Tryz.isAgg2
 z2 := Tryz.sizeOf2
 v2 := Tryz.zeroValue2
 t3 := Tryz.underlying3
 a3 := Tryz.isAgg3
 z3 := Tryz.sizeOf3
 v3 := Tryz.zeroValue3
 t4 := Tryz.underlying4
 a4 := Tryz.isAgg4
 z4 := Tryz.sizeOf4
 v4 := Tryz.zeroValue4
 t5 := Tryz.underlying5
 a5 := Tryz.isAgg5
 z5 := Tryz.sizeOf5
 v5 := Tryz.zeroValue5
 t9 := Tryz.underlying9
 a9 := Tryz.isAgg9
 z9 := Tryz.sizeOf9
 v9 := Tryz.zeroValue9
 t20 := Tryz.underlying20
 a20 := Tryz.isAgg20
 z20 := Tryz.sizeOf20
 v20 := Tryz.zeroValue20
 t37 := Tryz.underlying42
 a37 := Tryz.isAgg42
 z37 := Tryz.sizeOf42
 v37 := Tryz.zeroValue42
 t46 := Tryz.underlying46
 a46 := Tryz.isAgg46
 z46 := Tryz.sizeOf46
 v46 := Tryz.zeroValue46
 t51 := Tryz.underlying43
 a51 := Tryz.isAgg43
 z51 := Tryz.sizeOf43
 v51 := Tryz.zeroValue43
 t53 := Tryz.underlying84
 a53 := Tryz.isAgg84
 z53 := Tryz.sizeOf84
 v53 := Tryz.zeroValue84
 t171 := Tryz.underlying184
 a171 := Tryz.isAgg184
 z171 := Tryz.sizeOf184
 v171 := Tryz.zeroValue184
 t173 := Tryz.underlying187
 a173 := Tryz.isAgg187
 z173 := Tryz.sizeOf187
 v173 := Tryz.zeroValue187
 t212 := Tryz.underlying205
 a212 := Tryz.isAgg205
 z212 := Tryz.sizeOf205
 v212 := Tryz.zeroValue205
 t213 := Tryz.underlying206
 a213 := Tryz.isAgg206
 z213 := Tryz.sizeOf206
 t232 := Tryz.underlying231
 a232 := Tryz.isAgg231
 z232 := Tryz.sizeOf231
 v232 := Tryz.zeroValue231
 t233 := Tryz.underlying232
 a233 := Tryz.isAgg232
 z233 := Tryz.sizeOf232
 v233 := Tryz.zeroValue232
 g17 := by kernel_rfl
 g18 := by kernel_rfl
 g19 := by kernel_rfl
 i0 := by kernel_rfl
 i2 := by kernel_rfl
 i3 := by kernel_rfl
 i4 := by kernel_rfl
 i5 := by kernel_rfl
 i9 := by kernel_rfl
 i20 := by kernel_rfl
 i37 := by kernel_rfl
 i46 := by kernel_rfl
 i51 := by kernel_rfl
 i53 := by kernel_rfl
 i171 := by kernel_rfl
 i173 := by kernel_rfl
 i212 := by kernel_rfl
 i232 := by kernel_rfl
 i233 := by kernel_rfl
 m17 := by kernel_rfl
 m18 := by kernel_rfl
 m19 := by kernel_rfl }
open Go.RowKit Go.Sort Go.Lib in
theorem Tryz.strconv_Itoa (n : Int) (h0 : -9223372036854775808 ≤ n) (h1 : n ≤ 9223372036854775807) (w : World) (htab : Lib.TabIs Tryz.prog w "internal/strconv.uint64pow10" .u64 Lib.pow10Tab) :
  Calls Tryz.prog 176 #[.int .i64 n] w fun e w' => e = .returned (.string ⟨(Lib.itoa n).toArray⟩) ∧ ∃ k os, w' = grow (w.drewN k) os := Any.strconv_Itoa Tryz.laysM171 n h0 h1 w htab
def Tryz.laysPu14_ren : Go.Shelf.Ren := ⟨fun | 14 => 173 | 16 => 191 | 17 => 192 | 19 => 204 | 20 => 205 | 21 => 206 | 22 => 207 | 23 => 208 | 24 => 209 | 25 => 221 | 27 => 176 | 26 => 222 | 28 => 193 | 29 => 210 | 30 => 114 | 31 => 115 | 32 => 116 | 33 => 117 | 35 => 165 | 34 => 164 | 36 => 166 | 37 => 167 | 38 => 168 | 39 => 189 | 40 => 190 | n => n, fun | 9 => 9 | 3 => 3 | 22 => 84 | 24 => 146 | 25 => 217 | 4 => 4 | 34 => 233 | 5 => 5 | 36 => 46 | 37 => 42 | 0 => 0 | 39 => 235 | 21 => 21 | 44 => 247 | 47 => 191 | 50 => 256 | 48 => 254 | 2 => 2 | 52 => 184 | 55 => 187 | 59 => 205 | 60 => 43 | 20 => 20 | 61 => 206 | 65 => 231 | 66 => 232 | 67 => 112 | n => n, fun | 0 => 6 | 1 => 7 | 2 => 1 | 3 => 4 | 4 => 5 | n => n⟩
theorem Tryz.laysPu14 : Go.Proofs.LaysPu.n14 Tryz.prog Tryz.laysPu14_ren := {
 mixed := by kernel_rfl
 f14 := Tryz.func173.trans (congrArg some (by kernel_rfl))
 f16 := Tryz.func191.trans (congrArg some (by kernel_rfl))
 f17 := Tryz.func192.trans (congrArg some (by kernel_rfl))
 f19 := Tryz.func204.trans (congrArg some (by kernel_rfl))
 f20 := Tryz.func205.trans (congrArg some (by kernel_rfl))
 f21 := Tryz.func206.trans (congrArg some (by kernel_rfl))
 f22 := Tryz.func207.trans (congrArg some (by kernel_rfl))
 f23 := Tryz.func208.trans (congrArg some (by kernel_rfl))
 f24 := Tryz.func209.trans (congrArg some (by kernel_rfl))
 f25 := Tryz.func221.trans (congrArg some (by kernel_rfl))
 f26 := Tryz.func222.trans (congrArg some (by kernel_rfl))
 f27 := Tryz.func176.trans (congrArg some (by kernel_rfl))
 f28 := Tryz.func193.trans (congrArg some (by kernel_rfl))
 f29 := Tryz.func210.trans (congrArg some (by kernel_rfl))
 f30 := Tryz.func114.trans (congrArg some (by kernel_rfl))
 f31 := Tryz.func115.trans (congrArg some (by kernel_rfl))
 f32 := Tryz.func116.trans (congrArg some (by kernel_rfl))
 f33 := Tryz.func117.trans (congrArg some (by kernel_rfl))
 f34 := Tryz.func164.trans (congrArg some (by kernel_rfl))
 f35 := Tryz.func165.trans (congrArg some (by kernel_rfl))
 f36 := Tryz.func166.trans (congrArg some (by kernel_rfl))
 f37 := Tryz.func167.trans (congrArg some (by kernel_rfl))
 f38 := Tryz.func168.trans (congrArg some (by kernel_rfl))
 f39 := Tryz.func189.trans (congrArg some (by kernel_rfl))
 f40 := Tryz.func190.trans (congrArg some (by kernel_rfl))
 t0 := Tryz.underlying0
 a0 := Tryz.isAgg0
 z0 := Tryz.sizeOf0
 v0 := Tryz.zeroValue0
 i0 := by kernel_rfl
 t2 := Tryz.underlying2
 a2 := Tryz.isAgg2
 z2 := Tryz.sizeOf2
 v2 := Tryz.zeroValue2
 i2 := by kernel_rfl
 t3 := Tryz.underlying3
 a3 := Tryz.isAgg3
 z3 := Tryz.sizeOf3
 v3 := Tryz.zeroValue3
 i3 := by kernel_rfl
 t4 := Tryz.underlying4
 a4 := Tryz.isAgg4
 z4 := Tryz.sizeOf4
 v4 := Tryz.zeroValue4
 i4 := by kernel_rfl
 t5 := Tryz.underlying5
 a5 := Tryz.isAgg5
 z5 := Tryz.sizeOf5
 v5 := Tryz.zeroValue5
 i5 := by kernel_rfl
 t9 := Tryz.underlying9
 a9 := Tryz.isAgg9
 z9 := Tryz.sizeOf9
 v9 := Tryz.zeroValue9
 i9 := by kernel_rfl
 t20 := Tryz.underlying20
 a20 := Tryz.isAgg20
 z20 := Tryz.sizeOf20
 v20 := Tryz.zeroValue20
 i20 := by kernel_rfl
 t21 := Tryz.underlying21
 a21 := Tryz.isAgg21
 z21 := Tryz.sizeOf21
 v21 := Tryz.zeroValue21
 i21 := by kernel_rfl
 t22 := Tryz.underlying84
 a22 := Tryz.isAgg84
 z22 := Tryz.sizeOf84
 v22 := Tryz.zeroValue84
 i22 := by kernel_rfl
 t24 := Tryz.underlying146
 a24 := Tryz.isAgg146
 z24 := Tryz.sizeOf146
 v24 := Tryz.zeroValue146
 i24 := by kernel_rfl
 t25 := Tryz.underlying217
 a25 := Tryz.isAgg217
 z25 := Tryz.sizeOf217
 v25 := Tryz.zeroValue217
 i25 := by kernel_rfl
 t34 := Tryz.underlying233
 a34 := Tryz.isAgg233
 z34 := Tryz.sizeOf233
 v34 := Tryz.zeroValue233
 i34 := by kernel_rfl
 c34 := by kernel_rfl
 t36 := Tryz.underlying46
 a36 := Tryz.isAgg46
 z36 := Tryz.sizeOf46
 v36 := Tryz.zeroValue46
 i36 := by kernel_rfl
 t37 := Tryz.underlying42
 a37 := Tryz.isAgg42
 z37 := Tryz.sizeOf42
 v37 := Tryz.zeroValue42
 i37 := by kernel_rfl
 t39 := Tryz.underlying235
 a39 := Tryz.isAgg235
 z39 := Tryz.sizeOf235
 v39 := Tryz.zeroValue235
 i39 := by kernel_rfl
 t44 := Tryz.underlying247
 a44 := Tryz.isAgg247
 z44 := Tryz.sizeOf247
 v44 := Tryz.zeroValue247
 i44 := by kernel_rfl
 t47 := Tryz.underlying191
 a47 := Tryz.isAgg191
 z47 := Tryz.sizeOf191
 v47 := Tryz.zeroValue191
 i47 := by kernel_rfl
 t48 := Tryz.underlying254
 a48 := Tryz.isAgg254
 z48 := Tryz.sizeOf254
 v48 := Tryz.zeroValue254
 i48 := by kernel_rfl
 t50 := Tryz.underlying256
 a50 := Tryz.isAgg256
 z50 := Tryz.sizeOf256
 v50 := Tryz.zeroValue256
 i50 := by kernel_rfl
 t52 := Tryz.underlying184
 a52 := Tryz.isAgg184
 z52 := Tryz.sizeOf184
 v52 := Tryz.zeroValue184
 i52 := by kernel_rfl
 t55 := Tryz.underlying187
 a55 := Tryz.isAgg187
 z55 := Tryz.sizeOf187
 v55 := Tryz.zeroValue187
 i55 := by kernel_rfl
 t59 := Tryz.underlying205
 a59 := Tryz.isAgg205
 z59 := Tryz.sizeOf205
 v59 := Tryz.zeroValue205
 i59 := by kernel_rfl
 t60 := Tryz.underlying43
 a60 := Tryz.isAgg43
 z60 := Tryz.sizeOf43
 v60 := Tryz.zeroValue43
 i60 := by kernel_rfl
 t61 := Tryz.underlying206
 a61 := Tryz.isAgg206
 z61 := Tryz.sizeOf206
 t65 := Tryz.underlying231
 a65 := Tryz.isAgg231
 z65 := Tryz.sizeOf231
 v65 := Tryz.zeroValue231
 i65 := by kernel_rfl
 t66 := Tryz.underlying232
 a66 := Tryz.isAgg232
 z66 := Tryz.sizeOf232
 v66 := Tryz.zeroValue232
 i66 := by kernel_rfl
 t67 := Tryz.underlying112
 a67 := Tryz.isAgg112
 z67 := Tryz.sizeOf112
 v67 := Tryz.zeroValue112
 i67 := by kernel_rfl
 g0 := by kernel_rfl
 m0 := by kernel_rfl
 g1 := by kernel_rfl
 m1 := by kernel_rfl
 g2 := by kernel_rfl
 m2 := by kernel_rfl
 g3 := by kernel_rfl
 m3 := by kernel_rfl
 g4 := by kernel_rfl
 m4 := by kernel_rfl }
open Go.RowKit in
theorem Tryz.strconv_ParseUint_10_at32_ok (s : ByteArray) (hmax : s.size ≤ 9223372036854775806) (u : Nat) (h : Lib.parseUintB 32 s.data.toList = .ok u) (w : World) :
  Calls Tryz.prog 173 #[.string s, .int .i64 10, .int .i64 32] w fun e w' => e = .returned (.tuple #[.int .u64 u, .nilIface]) ∧ (w' = w ∨ w' = Lib.bytesWorld w 5 s) := Any.strconv_ParseUint_10_at32_ok Tryz.laysPu14 s hmax u h w
open Go.RowKit in
theorem Tryz.strconv_ParseUint_10_at32_range_var (s : ByteArray) (hlim : s.size ≤ 281474976710656) (h : Lib.parseUintB 32 s.data.toList = .range) (tp : TypeId) (p : Value) (w : World) (hvar : w.var? Tryz.prog "strconv.ErrRange" = some #[.iface tp p]) :
  Calls Tryz.prog 173 #[.string s, .int .i64 10, .int .i64 32] w fun e w' => ∃ N, e = .returned (.tuple #[.int .u64 4294967295, .iface 235 (.pointer (some ⟨N, 0, none⟩))]) ∧ w.heap.size ≤ N ∧ w'.heap[N]? = some (.cells #[.string ⟨#[80, 97, 114, 115, 101, 85, 105, 110, 116]⟩, .string s, .iface tp p] 247 (0, 0)) ∧ Below w.heap.size w w' := Any.strconv_ParseUint_10_at32_range_var Tryz.laysPu14 s hlim h tp p w hvar
def Tryz.lays144_ren : Go.Shelf.Ren := ⟨fun | 144 => 22 | 143 => 35 | 219 => 79 | 217 => 118 | 225 => 119 | 224 => 120 | 267 => 121 | 266 => 169 | 314 => 170 | n => n, fun | 9 => 9 | 4 => 4 | 3 => 3 | 5 => 5 | 46 => 46 | 146 => 208 | 51 => 43 | n => n, fun | 1 => 0 | n => n⟩
def Tryz.lays138_ren : Go.Shelf.Ren := ⟨fun | 138 => 80 | 195 => 122 | 218 => 123 | 143 => 35 | 219 => 79 | 217 => 118 | 225 => 119 | 224 => 120 | 267 => 121 | 266 => 169 | 314 => 170 | n => n, fun | 9 => 9 | 3 => 3 | 4 => 4 | 5 => 5 | 0 => 0 | 46 => 46 | 146 => 208 | 51 => 43 | n => n, fun | 1 => 0 | n => n⟩
theorem Tryz.lays138 : Go.Proofs.Lays.n138 Tryz.prog Tryz.lays138_ren := {
 mixed := by kernel_rfl
 f138 := Tryz.func80.trans (congrArg some (by kernel_rfl))
 f143 := Tryz.func35.trans (congrArg some (by kernel_rfl))
 f195 := Tryz.func122.trans (congrArg some (by kernel_rfl))
 f217 := Tryz.func118.trans (congrArg some (by kernel_rfl))
 f218 := Tryz.func123.trans (congrArg some (by kernel_rfl))
 f219 := Tryz.func79.trans (congrArg some (by kernel_rfl))
 f224 := Tryz.func120.trans (congrArg some (by kernel_rfl))
 f225 := Tryz.func119.trans (congrArg some (by kernel_rfl))
 f266 := Tryz.func169.trans (congrArg some (by kernel_rfl))
 f267 := Tryz.func121.trans (congrArg some (by kernel_rfl))
 f314 := Tryz.func170.trans (congrArg some (by kernel_rfl))
 t0 := Tryz.underlying0
 a0 := Tryz.isAgg0
 z0 := Tryz.sizeOf0
 v0 := Tryz.zeroValue0
 t3 := Tryz.underlying3
 a3 := Tryz.isAgg3
 z3 := Tryz.sizeOf3
 v3 := Tryz.zeroValue3
 t4 := Tryz.underlying4
 a4 := Tryz.isAgg4
 z4 := Tryz.sizeOf4
 v4 := Tryz.zeroValue4
 t5 := Tryz.underlying5
 a5 := Tryz.isAgg5
 z5 := Tryz.sizeOf5
 v5 := Tryz.zeroValue5
 t9 := Tryz.underlying9
 a9 := Tryz.isAgg9
 z9 := Tryz.sizeOf9
 v9 := Tryz.zeroValue9
 t46 := Tryz.underlying46
 a46 := Tryz.isAgg46
 z46 := Tryz.sizeOf46
 v46 := Tryz.zeroValue46
 t51 := Tryz.underlying43
 a51 := Tryz.isAgg43
 z51 := Tryz.sizeOf43
 v51 := Tryz.zeroValue43
 t146 := Tryz.underlying208
 a146 := Tryz.isAgg208
 z146 := Tryz.sizeOf208
 v146 := Tryz.zeroValue208
 g1 := by kernel_rfl }
open Go.RowKit Go.Lib in
theorem Tryz.strings_Count_one (s : ByteArray) (c : UInt8) (w : World) :
  Calls Tryz.prog 80 #[.string s, .string ⟨#[c]⟩] w fun e w' => e = .returned (.int .i64 (Lib.countByte s.data.toList c)) ∧ w' = w := Any.strings_Count_one Tryz.lays138 s c w
def Tryz.lays99_ren : Go.Shelf.Ren := ⟨fun | 99 => 18 | 206 => 33 | n => n, fun | 9 => 9 | 4 => 4 | 3 => 3 | n => n, fun | n => n⟩
theorem Tryz.lays99 : Go.Proofs.Lays.n99 Tryz.prog Tryz.lays99_ren := {
 mixed := by kernel_rfl
 f99 := Tryz.func18.trans (congrArg some (by kernel_rfl))
 f206 := Tryz.func33.trans (congrArg some (by kernel_rfl))
 t3 := Tryz.underlying3
 a3 := Tryz.isAgg3
 z3 := Tryz.sizeOf3
 v3 := Tryz.zeroValue3
 t4 := Tryz.underlying4
 a4 := Tryz.isAgg4
 z4 := Tryz.sizeOf4
 v4 := Tryz.zeroValue4
 t9 := Tryz.underlying9
 a9 := Tryz.isAgg9
 z9 := Tryz.sizeOf9
 v9 := Tryz.zeroValue9 }
open Go.RowKit Go.Lib in
theorem Tryz.strings_HasPrefix (s p : ByteArray) (w : World) :
  Calls Tryz.prog 18 #[.string s, .string p] w fun e w' => e = .returned (.bool (Lib.hasPrefix s.data.toList p.data.toList)) ∧ w' = w := Any.strings_HasPrefix Tryz.lays99 s p w
end Go.Proofs
namespace Go.Proofs.YtcbpcianefpniaaGreatDoor
open Go.GL Go.RowKit Go.Stele
set_option maxRecDepth 100000
set_option maxHeartbeats 4000000
attribute [local irreducible] LOps LCode LStep LCalls Go.GL.Pure QThen QBlock RetPost
section
variable {B0 : Nat} {w0 : World}
theorem run_spec {f : FuncId} [TEnter Tryz.prog f] (p : UInt8 → Bool) (hp : ∀ c : UInt8, LCalls (KC B0 w0) f [int .u8 c.toNat] [] (Ret (bool (p c)))) (s : List UInt8) (hs : s.length ≤ 1000000000) :
  LCalls (KC B0 w0) 127 [str s, .atom (.func (.func f) #[] #[])] [] (Ret (str (s.takeWhile p))) := by
 refine LCalls.intro Tryz.func127 rfl (n := 22) rfl rfl rfl ?_
 repeat first | refine LOps.nil ?_ | refine LCode.seq ?_ | refine LCode.region ?_ | refine LCode.block ?_ | refine QThen.normal ?_ | refine LOps.pure (Pure.as (lv := .atom _) rfl) rfl ?_
 refine LCode.loopI (fun k l H => ∃ m : Nat, k = s.length - m ∧ l = [(0, str s), (1, .atom (.func (.func f) #[] #[])), (5, int .i64 m)] ∧ H = [] ∧ m ≤ s.length ∧ s.takeWhile p = s.take m ++ (s.drop m).takeWhile p)
  ⟨_, _, _, ⟨0, rfl, rfl, rfl, by omega, by simp⟩, ⟨rfl, rfl, rfl, trivial⟩, HSub.refl _⟩ ?_
 rintro k l H ⟨m, rfl, rfl, rfl, hm, hI⟩ j hj
 repeat first | refine LCode.seq ?_ | refine LCode.region ?_ | refine LOps.pure (Pure.mv (lv := .atom _) rfl) rfl ?_ | refine LOps.pure (Pure.slen rfl) rfl ?_ | refine LOps.pure (Pure.lss rfl rfl) rfl ?_
 refine LOps.bcase 10 rfl (fun ht => ?_) (fun ht => ?_)
 ·have hlt : m < s.length := by simpa using ht
  repeat first | refine LOps.pure (Pure.mv (lv := .atom _) rfl) rfl ?_ | refine LOps.want rfl rfl ?_
  refine LOps.pure (Pure.sindex (c := s[m]) rfl rfl (by omega) (by simp)) rfl ?_
  refine LOps.want rfl rfl ?_
  refine LOps.step (S.fnV [_] rfl rfl (hp s[m]) ?_) rfl
  repeat first | refine LOps.nil ?_ | refine QThen.normal ?_ | refine LOps.pure (Pure.pickT (lv := .atom _) rfl rfl) rfl ?_
  refine LCode.cond rfl (fun hc => ?_) (fun hc => ?_)
  ·repeat first | refine LOps.nil ?_ | refine LCode.region ?_ | refine LCode.skip ?_ | refine LCode.block ?_ | refine QThen.normal ?_ | refine QBlock.normal ?_ | refine LOps.pure (Pure.as (lv := .atom _) rfl) rfl ?_ | refine LOps.pure (Pure.mv (lv := .atom _) rfl) rfl ?_ | refine LOps.pure (Pure.add rfl rfl (by omega)) rfl ?_
   exact ⟨_, _, _, by omega, ⟨m + 1, rfl, rfl, rfl, by omega, (takeWhile_step hlt hI).1 (by simpa using hc)⟩, ⟨rfl, rfl, int_eq (by omega), trivial⟩, HSub.refl _, hj⟩
  ·repeat first | refine LCode.seq ?_ | refine LCode.region ?_ | refine LCode.exit ?_ | refine QThen.normal ?_ | refine QThen.exit ?_ | refine QBlock.hit ?_ | refine LOps.pure (Pure.mv (lv := .atom _) rfl) rfl ?_
   refine LOps.pure (Pure.sslice (i := 0) (j := m) rfl rfl ⟨_, rfl⟩ (by omega) (by omega) (by omega)) rfl ?_
   repeat first | refine LOps.nil ?_ | refine LCode.ret ?_ | refine QThen.normal ?_ | refine LOps.pure (Pure.as (lv := .atom _) rfl) rfl ?_
   exact retRet hj (AllRes.cons (ResIs.tmp (v := .atom _) rfl (LV.Sub.refl _)) AllRes.nil) (by
    rw [(takeWhile_step hlt hI).2 (by simpa using hc)]
    simp [resLV])
 ·have hge : s.length ≤ m := by simpa using ht
  repeat first | refine LOps.nil ?_ | refine QThen.normal ?_ | refine LOps.pure (Pure.pickF (lv := .atom _) rfl rfl) rfl ?_ | refine LOps.skip rfl rfl rfl rfl ?_
  refine LCode.cond rfl (fun hc => ?_) (fun hc => ?_)
  ·cases hc
  ·repeat first | refine LCode.seq ?_ | refine LCode.region ?_ | refine LCode.exit ?_ | refine QThen.normal ?_ | refine QThen.exit ?_ | refine QBlock.hit ?_ | refine LOps.pure (Pure.mv (lv := .atom _) rfl) rfl ?_
   refine LOps.pure (Pure.sslice (i := 0) (j := m) rfl rfl ⟨_, rfl⟩ (by omega) (by omega) (by omega)) rfl ?_
   repeat first | refine LOps.nil ?_ | refine LCode.ret ?_ | refine QThen.normal ?_ | refine LOps.pure (Pure.as (lv := .atom _) rfl) rfl ?_
   exact retRet hj (AllRes.cons (ResIs.tmp (v := .atom _) rfl (LV.Sub.refl _)) AllRes.nil) (by
    rw [takeWhile_end hge hI]
    simp [resLV])
/-- strings.HasPrefix. -/
theorem hasPrefix_spec (s p : List UInt8) : LCalls (KC B0 w0) 18 [str s, str p] [] (Ret (bool (p.isPrefixOf s))) :=
 LCalls.ret_of (vs := [.string ⟨s.toArray⟩, .string ⟨p.toArray⟩]) fun w _ => (Go.Proofs.Tryz.strings_HasPrefix _ _ w).mono fun e w' he => by
  obtain ⟨h1, h2⟩ := he
  subst h2
  exact ⟨by simpa [Go.Lib.hasPrefix] using h1, Below.refl _ _⟩
theorem skip_spec (s : List UInt8) (hs : s.length ≤ 1000000000) : LCalls (KC B0 w0) 85 [str s] [] (Ret (int .i64 (skipLen s))) := by
 refine LCalls.intro Tryz.func85 rfl (n := 11) rfl rfl rfl ?_
 repeat first | refine LOps.nil ?_ | refine LCode.seq ?_ | refine LCode.region ?_ | refine QThen.normal ?_ | refine LOps.pure (Pure.as (lv := .atom _) rfl) rfl ?_ | refine LOps.pure (Pure.mv (lv := .atom _) rfl) rfl ?_
 refine LOps.step (S.fn [_, _] rfl (hasPrefix_spec s [47, 47]) ?_) rfl
 repeat first | refine LOps.nil ?_ | refine QThen.normal ?_
 refine LCode.cond rfl (fun hc => ?_) (fun hc => ?_)
 ·repeat first | refine LCode.seq ?_ | refine LCode.region ?_ | refine LOps.pure (Pure.mv (lv := .atom _) rfl) rfl ?_
  refine LOps.step (S.fn [_, _] rfl (run_spec notNl notNl_spec s hs) ?_) rfl
  repeat first | refine LOps.nil ?_ | refine LCode.ret ?_ | refine QThen.normal ?_ | refine QThen.ret ?_ | refine LOps.pure (Pure.as (lv := .atom _) rfl) rfl ?_ | refine LOps.pure (Pure.slen rfl) rfl ?_
  exact retRet rfl (AllRes.cons (ResIs.tmp (v := .atom _) rfl (LV.Sub.refl _)) AllRes.nil) (by simp only [resLV, skipLen, hc, if_true])
 ·repeat first | refine LCode.seq ?_ | refine LCode.region ?_ | refine LCode.skip ?_ | refine QThen.normal ?_ | refine LOps.pure (Pure.mv (lv := .atom _) rfl) rfl ?_
  refine LOps.step (S.fn [_, _] rfl (run_spec isWhite white_spec s hs) ?_) rfl
  repeat first | refine LOps.nil ?_ | refine LCode.ret ?_ | refine QThen.normal ?_ | refine LOps.pure (Pure.as (lv := .atom _) rfl) rfl ?_ | refine LOps.pure (Pure.slen rfl) rfl ?_
  exact retRet rfl (AllRes.cons (ResIs.tmp (v := .atom _) rfl (LV.Sub.refl _)) AllRes.nil) (by simp only [resLV, skipLen, hc, Bool.false_eq_true, if_false])
end
end Go.Proofs.YtcbpcianefpniaaGreatDoor
namespace Go.Proofs.YtcbpcianefpniaaGreatDoor
open Go Go.Shelf Go.RowKit Go.Sort Go.Lib
set_option maxHeartbeats 6400000
set_option maxRecDepth 100000
theorem formatUint_main (u : Nat) (hu64 : u < 18446744073709551616) (w : World) (htab : Lib.TabIs Tryz.prog w "internal/strconv.uint64pow10" .u64 Lib.pow10Tab) :
  Calls Tryz.prog 78 #[.int .u64 u, .int .i64 10] w fun e w' => e = .returned (.string ⟨(Lib.decDigits u).toArray⟩) ∧ Below w.heap.size w w' := by
 have mixed : Tryz.prog.follows .mixedOrders = true := by kernel_rfl
 have t3 := Tryz.underlying3; have a3 := Tryz.isAgg3; have z3 := Tryz.sizeOf3; have v3 := Tryz.zeroValue3
 have t9 := Tryz.underlying9; have a9 := Tryz.isAgg9; have z9 := Tryz.sizeOf9; have v9 := Tryz.zeroValue9
 have t4 := Tryz.underlying4; have a4 := Tryz.isAgg4; have z4 := Tryz.sizeOf4; have v4 := Tryz.zeroValue4
 have t142 := Tryz.underlying184; have a142 := Tryz.isAgg184; have z142 := Tryz.sizeOf184; have v142 := Tryz.zeroValue184
 have t0 := Tryz.underlying0; have a0 := Tryz.isAgg0; have z0 := Tryz.sizeOf0; have v0 := Tryz.zeroValue0
 have t119 := Tryz.underlying84; have a119 := Tryz.isAgg84; have z119 := Tryz.sizeOf84; have v119 := Tryz.zeroValue84
 have t85 := Tryz.underlying42; have a85 := Tryz.isAgg42; have z85 := Tryz.sizeOf42; have v85 := Tryz.zeroValue42
 have t5 := Tryz.underlying5; have a5 := Tryz.isAgg5; have z5 := Tryz.sizeOf5; have v5 := Tryz.zeroValue5
 have e137 : ∀ args w, (callFunc 114 args).run Tryz.prog w = .ok (.enter 114 args) w := enters_of Tryz.func114 (by kernel_rfl) rfl
 have e138 : ∀ args w, (callFunc 115 args).run Tryz.prog w = .ok (.enter 115 args) w := enters_of Tryz.func115 (by kernel_rfl) rfl
 have e139 : ∀ args w, (callFunc 116 args).run Tryz.prog w = .ok (.enter 116 args) w := enters_of Tryz.func116 (by kernel_rfl) rfl
 by_cases hs : u < 100
 ·go_enter Tryz.func78, Tryz.ntmps78
  go_wp2_with (go_at_fn (114); refine (Tryz.internal_strconv_small u hs _).mono ?_; rintro e w' ⟨rfl, rfl⟩)
  go_ret
  exact ⟨rfl, Below.refl _ _⟩
 ·have hu1 : 1 ≤ u := by omega
  have hnd20 : Lib.nDigits u ≤ 20 := by have := Lib.numDigits_eq u hu1 hu64; split at this <;> omega
  have hal : Tryz.prog.arrayLen 184 = 24 := by simp [Program.arrayLen, Tryz.underlying184]
  have hsl : ∀ W, (Instr.sliceAt 184 (.pointer (some ⟨w.heap.size, 0, none⟩)) none (some (.int .i64 (Lib.nDigits u : Int))) none).run Tryz.prog W = .ok (.slice (some ⟨w.heap.size, 0, none⟩) (Lib.nDigits u) 24) W := fun W => by
   rw [run_sliceAt_array_h W 184 ⟨w.heap.size, 0, none⟩ (by simp [Program.arrayLen, Program.elem, Tryz.underlying184]) .i64 (Lib.nDigits u : Int) (by omega) (by rw [hal]; omega)]
   go_simp
  have hH0 := Lib.holds_zero0 w 184 (Lib.nDigits u) (by omega)
  have hfmt := Tryz.internal_strconv_formatBase10 w.heap.size 0 24 u (Array.replicate (Lib.nDigits u) 0) (w.alloc (.cells Lib.zeros24 184)) hH0 (by rw [Array.size_replicate]; exact Lib.lt_pow_nDigits u) hu64 (by rw [Array.size_replicate]; omega)
  rw [Array.size_replicate] at hfmt
  have HH0 := Lib.hid hH0
  clear hH0 hal
  go_enter Tryz.func78, Tryz.ntmps78
  go_wp2_with (first
   | (go_at_fn (115); refine (Tryz.internal_strconv_numDigits u hu1 hu64 _ (Lib.tabIs_alloc htab _)).mono ?_; rintro e w' ⟨rfl, rfl⟩))
  go_at_fn (116)
  refine hfmt.mono ?_
  rintro e w' ⟨rfl, k, v', dk, rfl, hF⟩
  have hcv : (convert 42 9 (.slice (some ⟨w.heap.size, 0, none⟩) (Lib.nDigits u) 24)).run Tryz.prog ((putRow (fun (b : UInt8) => Value.int .u8 (b.toNat : Int)) (w.alloc (.cells Lib.zeros24 184)) w.heap.size 0 dk).drewN k) = .ok (.string ⟨(Lib.decDigits u).toArray⟩) ((putRow (fun (b : UInt8) => Value.int .u8 (b.toNat : Int)) (w.alloc (.cells Lib.zeros24 184)) w.heap.size 0 dk).drewN k) := by
   have h := run_convert_bytes_back (P := Tryz.prog) ((putRow (fun (b : UInt8) => Value.int .u8 (b.toNat : Int)) (w.alloc (.cells Lib.zeros24 184)) w.heap.size 0 dk).drewN k) 42 9 5 ⟨w.heap.size, 0, none⟩ 24 (Lib.decDigits u) Tryz.underlying42 Tryz.underlying5 Tryz.underlying9 (fun j hj => by
    rw [Lib.row_is_numeral hF j hj, Lib.add_plain, World.cell?_drewN]
    exact cell?_putRow (fun (b : UInt8) => Value.int .u8 (b.toNat : Int)) _ w.heap.size 0 _ dk HH0.out (by rw [hF.size, Array.size_replicate]) j (by rw [hF.size]; rw [Lib.decDigits_length] at hj; exact hj))
   rw [Lib.decDigits_length] at h
   exact h
  go_wp2
  go_ret
  refine ⟨rfl, ?_⟩
  obtain ⟨os, eo⟩ := Lib.fin_at w (.cells Lib.zeros24 184) dk k 0
  rw [eo]
  exact Lib.below_grow _ w (Nat.le_refl _) k os
end Go.Proofs.YtcbpcianefpniaaGreatDoor
namespace Go.Proofs.YtcbpcianefpniaaGreatDoor
open Go.GL Go.RowKit Go.Stele
set_option maxRecDepth 100000
set_option maxHeartbeats 4000000
attribute [local irreducible] LOps LCode LStep LCalls Go.GL.Pure QThen QBlock RetPost
/-- What the world before the call holds: the table of powers of ten, the error of the range. -/
structure GW (B0 : Nat) (w0 : World) : Prop where
 pow10 : Go.Lib.TabIs Tryz.prog w0 "internal/strconv.uint64pow10" .u64 Go.Lib.pow10Tab
 errRange : ∃ tp p, w0.var? Tryz.prog "strconv.ErrRange" = some #[.iface tp p]
 big : 8 ≤ B0
section
variable {B0 : Nat} {w0 : World}
theorem GW.tab (h : GW B0 w0) {w : World} (hb : Below B0 w0 w) : Go.Lib.TabIs Tryz.prog w "internal/strconv.uint64pow10" .u64 Go.Lib.pow10Tab := by
 have hg : Tryz.prog.globalNamed "internal/strconv.uint64pow10" = some 1 := by kernel_rfl
 exact var?_below hb hg (Nat.lt_of_lt_of_le (by decide) h.big) h.pow10
theorem GW.err (h : GW B0 w0) {w : World} (hb : Below B0 w0 w) : ∃ tp p, w.var? Tryz.prog "strconv.ErrRange" = some #[.iface tp p] := by
 have hg : Tryz.prog.globalNamed "strconv.ErrRange" = some 7 := by kernel_rfl
 obtain ⟨tp, p, hv⟩ := h.errRange
 exact ⟨tp, p, var?_below hb hg (Nat.lt_of_lt_of_le (by decide) h.big) hv⟩
theorem itoa_spec (hG : GW B0 w0) (u : Nat) (hu : u ≤ 9223372036854775807) : LCalls (KC B0 w0) 176 [int .i64 u] [] (Ret (str (Go.Lib.decDigits u))) :=
 LCalls.ret_of (vs := [.int .i64 u]) fun w hw => (Go.Proofs.Tryz.strconv_Itoa u (by omega) (by omega) w (hG.tab hw)).mono fun e w' he => by
  obtain ⟨h1, k, os, h2⟩ := he
  rw [Go.Lib.itoa_nonneg] at h1
  exact ⟨h1, by rw [h2]; exact Go.Lib.below_grow _ w (Nat.le_refl _) k os⟩
theorem fmtUint_spec (hG : GW B0 w0) (u : Nat) (hu : u < 18446744073709551616) : LCalls (KC B0 w0) 34 [int .u64 u, int .i64 10] [] (Ret (str (Go.Lib.decDigits u))) := by
 refine LCalls.intro Tryz.func34 rfl (n := 8) rfl rfl rfl ?_
 repeat first | refine LOps.nil ?_ | refine LCode.seq ?_ | refine LCode.region ?_ | refine QThen.normal ?_ | refine LOps.pure (Pure.as (lv := .atom _) rfl) rfl ?_ | refine LOps.pure (Pure.mv (lv := .atom _) rfl) rfl ?_
 refine LOps.step (S.fn [_, _] rfl (LCalls.ret_of (vs := [.int .u64 u, .int .i64 10]) fun w hw => formatUint_main u hu w (hG.tab hw)) ?_) rfl
 repeat first | refine LOps.nil ?_ | refine LCode.ret ?_ | refine QThen.normal ?_ | refine LOps.pure (Pure.as (lv := .atom _) rfl) rfl ?_
 exact retRet rfl (AllRes.cons (ResIs.tmp (v := .atom _) rfl (LV.Sub.refl _)) AllRes.nil) rfl
/-- strconv.ParseUint(s, 10, 32) of a row of digits: the number and nil, or an error that is not nil. -/
theorem parseUint_ok (s : List UInt8) (hs : s.length ≤ 1000000000) (u : Nat) (h : Go.Lib.parseUintB 32 s = .ok u) :
  LCalls (KC B0 w0) 173 [str s, int .i64 10, int .i64 32] [] (Ret (.tuple [int .u64 u, .atom .nilIface])) := by
 refine LCalls.mono (LCalls.of_belowT (vs := [.string ⟨s.toArray⟩, .int .i64 10, .int .i64 32]) (p := fun us => us = [.int .u64 u, .nilIface]) fun w hw => ?_) ?_
 ·refine (Go.Proofs.Tryz.strconv_ParseUint_10_at32_ok ⟨s.toArray⟩ ?_ u (by simpa using h) w).mono fun e w' he => ⟨_, he.1, rfl, ?_⟩
  ·show s.toArray.size ≤ _
   simp
   omega
  ·rcases he.2 with h2 | h2
   ·rw [h2]; exact Below.refl _ _
   ·rw [h2]
    exact ⟨rfl, rfl, rfl, by rw [Go.Lib.bytesWorld_size]; omega, fun k hk => Go.Lib.bytesWorld_at_old w 5 _ k hk⟩
 ·rintro r H ⟨v, rfl, ⟨us, rfl, rfl⟩, rfl⟩
  exact ⟨rfl, rfl⟩
theorem parseUint_range (hG : GW B0 w0) (s : List UInt8) (hs : s.length ≤ 1000000000) (h : Go.Lib.parseUintB 32 s = .range) :
  LCalls (KC B0 w0) 173 [str s, int .i64 10, int .i64 32] [] (RetIf fun lv => ∃ v t p, lv = .tuple [int .u64 v, .atom (.iface t p)]) := by
 refine LCalls.mono (LCalls.of_belowT (vs := [.string ⟨s.toArray⟩, .int .i64 10, .int .i64 32]) (p := fun us => ∃ v t p, us = [.int .u64 v, .iface t p]) fun w hw => ?_) ?_
 ·obtain ⟨tp, p, hv⟩ := hG.err hw
  refine (Go.Proofs.Tryz.strconv_ParseUint_10_at32_range_var ⟨s.toArray⟩ ?_ (by simpa using h) tp p w hv).mono fun e w' he => ?_
  ·show s.toArray.size ≤ _
   simp
   omega
  ·obtain ⟨N, h1, _, _, h4⟩ := he
   exact ⟨_, h1, ⟨_, _, _, rfl⟩, h4⟩
 ·rintro r H ⟨v, rfl, ⟨us, ⟨a, t, p, rfl⟩, rfl⟩, rfl⟩
  exact ⟨_, rfl, ⟨a, t, p, rfl⟩, rfl⟩
theorem countNl_spec (s : List UInt8) : LCalls (KC B0 w0) 80 [str s, str [10]] [] (Ret (int .i64 (s.count 10))) :=
 LCalls.ret_of (vs := [.string ⟨s.toArray⟩, .string ⟨#[10]⟩]) fun w _ => (Go.Proofs.Tryz.strings_Count_one _ _ w).mono fun e w' he => by
  obtain ⟨h1, h2⟩ := he
  subst h2
  exact ⟨by simpa [Go.Lib.countByte] using h1, Below.refl _ _⟩
end
end Go.Proofs.YtcbpcianefpniaaGreatDoor
namespace Go.Proofs.YtcbpcianefpniaaGreatDoor
open Go.GL Go.RowKit Go.Stele
set_option maxRecDepth 100000
set_option maxHeartbeats 4000000
attribute [local irreducible] LOps LCode LStep LCalls Go.GL.Pure QThen QBlock RetPost
def encTok (t : Tok) : LV := .agg [int .i64 t.kind, str t.text, int .i64 t.line]
def encTokR (r : TokR) : LV := .tuple [encTok r.1, int .i64 r.2.1, int .i64 r.2.2]
theorem elemsOk_strs (l : List (List UInt8)) : elemsOk 1 (l.map str) := fun v hv => by
 obtain ⟨x, _, rfl⟩ := List.mem_map.1 hv
 exact ⟨rfl, rfl⟩
section
variable {B0 : Nat} {w0 : World}
theorem Keywords_spec : LCalls (KC B0 w0) 175 [] [] (Ret (.list (keywords.map str))) := by
 refine LCalls.intro Tryz.func175 rfl (n := 2) rfl rfl rfl ?_
 repeat first | refine LOps.nil ?_ | refine LCode.seq ?_ | refine LCode.region ?_ | refine QThen.normal ?_ | refine LOps.pure (Pure.as (lv := .atom _) rfl) rfl ?_
 refine LOps.step (S.lit [_, _, _, _, _, _, _, _] rfl (elemsOk_strs keywords) rfl rfl rfl ?_) rfl
 repeat first | refine LOps.nil ?_ | refine LCode.ret ?_ | refine QThen.normal ?_ | refine LOps.pure (Pure.as (lv := .list _) rfl) rfl ?_
 exact retRet rfl (AllRes.cons (ResIs.tmp (v := .list _) rfl (LV.Sub.refl _)) AllRes.nil) rfl
theorem signs_spec : LCalls (KC B0 w0) 135 [] [] (Ret (.list (signs.map str))) := by
 refine LCalls.intro Tryz.func135 rfl (n := 2) rfl rfl rfl ?_
 repeat first | refine LOps.nil ?_ | refine LCode.seq ?_ | refine LCode.region ?_ | refine QThen.normal ?_ | refine LOps.pure (Pure.as (lv := .atom _) rfl) rfl ?_
 refine LOps.step (S.lit [_, _, _, _, _, _, _, _, _, _, _, _, _, _, _, _, _, _, _, _, _, _, _, _] rfl (elemsOk_strs signs) rfl rfl rfl ?_) rfl
 repeat first | refine LOps.nil ?_ | refine LCode.ret ?_ | refine QThen.normal ?_ | refine LOps.pure (Pure.as (lv := .list _) rfl) rfl ?_
 exact retRet rfl (AllRes.cons (ResIs.tmp (v := .list _) rfl (LV.Sub.refl _)) AllRes.nil) rfl
theorem Index_spec (l : List (List UInt8)) (x : List UInt8) (hl : l.length ≤ 1000000000) : LCalls (KC B0 w0) 177 [.list (l.map str), str x] [] (RetIf fun lv => ∃ n : Int, lv = int .i64 n ∧ decide (0 ≤ n) = l.contains x) := by
 refine LCalls.intro Tryz.func177 rfl (n := 19) rfl rfl rfl ?_
 repeat first | refine LOps.nil ?_ | refine LCode.seq ?_ | refine LCode.region ?_ | refine LCode.block ?_ | refine QThen.normal ?_ | refine LOps.pure (Pure.as (lv := .atom _) rfl) rfl ?_ | refine LOps.pure (Pure.mv (lv := .list _) rfl) rfl ?_ | refine LOps.pure (Pure.mv (lv := .atom _) rfl) rfl ?_ | refine LOps.pure (Pure.llen rfl) rfl ?_
 refine LCode.loopI (fun k ls H => ∃ m : Nat, k = l.length - m ∧ ls = [(0, .list (l.map str)), (1, str x), (7, int .i64 (l.map str).length), (8, int .i64 m)] ∧ H = [] ∧ m ≤ l.length ∧ l.contains x = (l.drop m).contains x)
  ⟨_, _, _, ⟨0, rfl, rfl, rfl, by omega, by simp⟩, ⟨rfl, rfl, rfl, rfl, trivial⟩, HSub.refl _⟩ ?_
 rintro k ls H ⟨m, rfl, rfl, rfl, hm, hI⟩ j hj
 repeat first | refine LOps.nil ?_ | refine LCode.seq ?_ | refine LCode.region ?_ | refine QThen.normal ?_ | refine LOps.pure (Pure.lss rfl rfl) rfl ?_
 refine LCode.cond rfl (fun hc => ?_) (fun hc => ?_)
 ·have hlt : m < l.length := by simpa using hc
  repeat first | refine LOps.nil ?_ | refine LCode.seq ?_ | refine LCode.region ?_ | refine LCode.skip ?_ | refine LCode.block ?_ | refine QThen.normal ?_ | refine LOps.pure (Pure.as (lv := .atom _) rfl) rfl ?_ | refine LOps.pure (Pure.mv (lv := .list _) rfl) rfl ?_ | refine LOps.pure (Pure.mv (lv := .atom _) rfl) rfl ?_
  refine LOps.pure (Pure.ixRef (el' := str l[m]) rfl rfl (by omega) (by simp) rfl rfl) rfl ?_
  repeat first | refine LOps.nil ?_ | refine QThen.normal ?_ | refine LOps.pure (Pure.loadRef (c := .atom _) rfl rfl) rfl ?_ | refine LOps.pure (Pure.seq rfl rfl) rfl ?_
  refine LCode.cond rfl (fun he => ?_) (fun he => ?_)
  ·repeat first | refine LOps.nil ?_ | refine LCode.seq ?_ | refine LCode.region ?_ | refine LCode.ret ?_ | refine QThen.normal ?_ | refine QThen.ret ?_ | refine QBlock.ret ?_ | refine LOps.pure (Pure.as (lv := .atom _) rfl) rfl ?_ | refine LOps.pure (Pure.mv (lv := .atom _) rfl) rfl ?_
   have hx : x = l[m] := by simpa using he
   exact retRetIf hj (AllRes.cons (ResIs.tmp (v := .atom _) rfl (LV.Sub.refl _)) AllRes.nil) ⟨m, rfl, by
    rw [hx, decide_eq_true (by omega)]
    simp⟩
  ·repeat first | refine LOps.nil ?_ | refine LCode.region ?_ | refine LCode.skip ?_ | refine QThen.normal ?_ | refine QBlock.normal ?_ | refine LOps.pure (Pure.mv (lv := .atom _) rfl) rfl ?_ | refine LOps.pure (Pure.add rfl rfl (by omega)) rfl ?_
   have hx : ¬ x = l[m] := by simpa using he
   exact ⟨_, _, _, by omega, ⟨m + 1, rfl, rfl, rfl, by omega, by
    rw [hI, List.drop_eq_getElem_cons hlt, List.contains_cons]
    simp [hx]⟩, ⟨rfl, rfl, rfl, int_eq (by omega), trivial⟩, HSub.refl _, hj⟩
 ·have hge : l.length ≤ m := by simpa using hc
  repeat first | refine LOps.nil ?_ | refine LCode.seq ?_ | refine LCode.region ?_ | refine LCode.ret ?_ | refine LCode.exit ?_ | refine QThen.normal ?_ | refine QThen.exit ?_ | refine QBlock.hit ?_ | refine LOps.pure (Pure.as (lv := .atom _) rfl) rfl ?_
  exact retRetIf hj (AllRes.cons (ResIs.tmp (v := .atom _) rfl (LV.Sub.refl _)) AllRes.nil) ⟨-1, rfl, by
   rw [hI, List.drop_eq_nil_of_le hge]
   rfl⟩
theorem Contains_spec (l : List (List UInt8)) (x : List UInt8) (hl : l.length ≤ 1000000000) : LCalls (KC B0 w0) 136 [.list (l.map str), str x] [] (Ret (bool (l.contains x))) := by
 refine LCalls.intro Tryz.func136 rfl (n := 9) rfl rfl rfl ?_
 repeat first | refine LOps.nil ?_ | refine LCode.seq ?_ | refine LCode.region ?_ | refine QThen.normal ?_ | refine LOps.pure (Pure.as (lv := .atom _) rfl) rfl ?_ | refine LOps.pure (Pure.mv (lv := .list _) rfl) rfl ?_ | refine LOps.pure (Pure.mv (lv := .atom _) rfl) rfl ?_
 refine LOps.step (S.fnIf [_, _] rfl (Index_spec l x hl) ?_) rfl
 rintro lv ⟨n, rfl, hn⟩
 repeat first | refine LOps.nil ?_ | refine LCode.ret ?_ | refine QThen.normal ?_ | refine LOps.pure (Pure.as (lv := .atom _) rfl) rfl ?_ | refine LOps.pure (Pure.geq rfl rfl) rfl ?_
 exact retRet rfl (AllRes.cons (ResIs.tmp (v := .atom _) rfl (LV.Sub.refl _)) AllRes.nil) (by rw [← hn]; rfl)
theorem name_spec (s : List UInt8) (hs : s.length ≤ 1000000000) : LCalls (KC B0 w0) 133 [str s] [] (Ret (encTokR (lexName s))) := by
 refine LCalls.intro Tryz.func133 rfl (n := 21) rfl rfl rfl ?_
 repeat first | refine LCode.seq ?_ | refine LCode.region ?_
 refine LOps.step (S.alloc fun b => ?_) rfl
 repeat first | refine LOps.nil ?_ | refine LCode.seq ?_ | refine LCode.region ?_ | refine QThen.normal ?_ | refine LOps.pure (Pure.as (lv := .atom _) rfl) rfl ?_ | refine LOps.pure (Pure.mv (lv := .atom _) rfl) rfl ?_
 refine LOps.step (S.fn [_, _] rfl (run_spec isInner inner_spec s hs) ?_) rfl
 repeat first | refine LOps.nil ?_ | refine LCode.seq ?_ | refine LCode.region ?_ | refine QThen.normal ?_ | refine LOps.pure (Pure.as (lv := .atom _) rfl) rfl ?_ | refine LOps.pure (Pure.mv (lv := .atom _) rfl) rfl ?_ | refine LOps.pure (Pure.slen rfl) rfl ?_ | refine LOps.pure (Pure.gtr rfl rfl) rfl ?_
 refine LCode.cond rfl (fun hc => ?_) (fun hc => ?_)
 ·repeat first | refine LOps.nil ?_ | refine LCode.seq ?_ | refine LCode.region ?_ | refine LCode.ret ?_ | refine QThen.normal ?_ | refine QThen.ret ?_ | refine LOps.pure (Pure.as (lv := .atom _) rfl) rfl ?_ | refine LOps.pure (Pure.bld _ (cs := [_, _, _]) rfl) rfl ?_ | refine LOps.step (S.store (cs' := [_, _, _]) rfl Pick.here rfl rfl rfl rfl rfl ?_) rfl
  exact retRet rfl (AllRes.cons (ResIs.cellAgg rfl (List.Mem.head _) rfl (LV.Sub.refl _)) (AllRes.cons (ResIs.tmp (v := .atom _) rfl (LV.Sub.refl _)) (AllRes.cons (ResIs.tmp (v := .atom _) rfl (LV.Sub.refl _)) AllRes.nil))) (by
   rw [lexName, if_pos (by have := of_decide_eq_true hc; omega)]
   rfl)
 ·repeat first | refine LOps.nil ?_ | refine LCode.seq ?_ | refine LCode.region ?_ | refine LCode.skip ?_ | refine QThen.normal ?_ | refine LOps.pure (Pure.as (lv := .atom _) rfl) rfl ?_
  refine LOps.step (S.fn [] rfl Keywords_spec ?_) rfl
  repeat first | refine LOps.pure (Pure.mv (lv := .atom _) rfl) rfl ?_
  refine LOps.step (S.fn [_, _] rfl (Contains_spec keywords (s.takeWhile isInner) (by decide)) ?_) rfl
  repeat first | refine LOps.nil ?_ | refine QThen.normal ?_
  refine LCode.cond rfl (fun hk => ?_) (fun hk => ?_)
  ·repeat first | refine LOps.nil ?_ | refine LCode.seq ?_ | refine LCode.region ?_ | refine LCode.ret ?_ | refine QThen.normal ?_ | refine LOps.pure (Pure.as (lv := .atom _) rfl) rfl ?_ | refine LOps.pure (Pure.mv (lv := .atom _) rfl) rfl ?_ | refine LOps.pure (Pure.slen rfl) rfl ?_ | refine LOps.pure (Pure.bld _ (cs := [_, _, _]) rfl) rfl ?_ | refine LOps.step (S.store (cs' := [_, _, _]) rfl Pick.here rfl rfl rfl rfl rfl ?_) rfl
   exact retRet rfl (AllRes.cons (ResIs.cellAgg rfl (List.Mem.head _) rfl (LV.Sub.refl _)) (AllRes.cons (ResIs.tmp (v := .atom _) rfl (LV.Sub.refl _)) (AllRes.cons (ResIs.tmp (v := .atom _) rfl (LV.Sub.refl _)) AllRes.nil))) (by
    rw [lexName, if_neg (by have := of_decide_eq_false hc; omega), if_pos hk]
    rfl)
  ·repeat first | refine LOps.nil ?_ | refine LCode.seq ?_ | refine LCode.region ?_ | refine LCode.skip ?_ | refine LCode.ret ?_ | refine QThen.normal ?_ | refine LOps.pure (Pure.as (lv := .atom _) rfl) rfl ?_ | refine LOps.pure (Pure.mv (lv := .atom _) rfl) rfl ?_ | refine LOps.pure (Pure.slen rfl) rfl ?_ | refine LOps.pure (Pure.bld _ (cs := [_, _, _]) rfl) rfl ?_ | refine LOps.step (S.store (cs' := [_, _, _]) rfl Pick.here rfl rfl rfl rfl rfl ?_) rfl
   exact retRet rfl (AllRes.cons (ResIs.cellAgg rfl (List.Mem.head _) rfl (LV.Sub.refl _)) (AllRes.cons (ResIs.tmp (v := .atom _) rfl (LV.Sub.refl _)) (AllRes.cons (ResIs.tmp (v := .atom _) rfl (LV.Sub.refl _)) AllRes.nil))) (by
    rw [lexName, if_neg (by have := of_decide_eq_false hc; omega), if_neg (by rw [hk]; decide)]
    rfl)
end
end Go.Proofs.YtcbpcianefpniaaGreatDoor
namespace Go.Proofs.YtcbpcianefpniaaGreatDoor
open Go.GL Go.RowKit Go.Stele
set_option maxRecDepth 100000
set_option maxHeartbeats 4000000
attribute [local irreducible] LOps LCode LStep LCalls Go.GL.Pure QThen QBlock RetPost
theorem parseUintM_digits (M : Nat) (acc : Nat) (l : List UInt8) (h : ∀ c ∈ l, isDigit c = true) : Go.Lib.parseUintM M acc l = .range ∨ ∃ u, Go.Lib.parseUintM M acc l = .ok u := by
 induction l generalizing acc with
 | nil => exact .inr ⟨acc, rfl⟩
 | cons c r ih =>
  have hc := h c List.mem_cons_self
  simp only [isDigit, Bool.and_eq_true, decide_eq_true_eq, cv] at hc
  rw [Go.Lib.parseUintM, if_pos (by omega)]
  split
  ·exact .inl rfl
  ·split
   ·exact .inl rfl
   ·exact ih _ (fun c hc => h c (List.mem_cons_of_mem _ hc))
theorem parseUintM_bound (M : Nat) (acc : Nat) (l : List UInt8) (ha : acc ≤ M) {u : Nat} (h : Go.Lib.parseUintM M acc l = .ok u) : u ≤ M := by
 induction l generalizing acc with
 | nil => simp only [Go.Lib.parseUintM, Go.Lib.NumEnd.ok.injEq] at h; omega
 | cons c r ih =>
  rw [Go.Lib.parseUintM] at h
  split at h
  ·split at h
   ·cases h
   ·split at h
    ·cases h
    ·exact ih _ (by omega) h
  ·cases h
theorem parseUint_digits (s : List UInt8) (hne : s.takeWhile isDigit ≠ []) : Go.Lib.parseUintB 32 (s.takeWhile isDigit) = .range ∨ ∃ u, u < 18446744073709551616 ∧ Go.Lib.parseUintB 32 (s.takeWhile isDigit) = .ok u := by
 unfold Go.Lib.parseUintB
 rw [if_neg hne]
 have hall : ∀ (s : List UInt8), ∀ c ∈ s.takeWhile isDigit, isDigit c = true := fun s c hc => by
  induction s with
  | nil => cases hc
  | cons a r ih =>
   by_cases ha : isDigit a = true
   ·rw [List.takeWhile_cons_of_pos ha] at hc
    rcases List.mem_cons.1 hc with rfl | hc
    ·exact ha
    ·exact ih hc
   ·rw [List.takeWhile_cons_of_neg ha] at hc
    cases hc
 rcases parseUintM_digits (2 ^ 32 - 1) 0 (s.takeWhile isDigit) (hall s) with h | ⟨u, h⟩
 ·exact .inl h
 ·have := parseUintM_bound _ _ _ (by omega) h
  exact .inr ⟨u, by omega, h⟩
instance : TIface Tryz.prog 146 := .of (by kernel_rfl)
section
variable {B0 : Nat} {w0 : World}
theorem number_spec (hG : GW B0 w0) (s : List UInt8) (hs : s.length ≤ 1000000000) (hne : s.takeWhile isDigit ≠ []) : LCalls (KC B0 w0) 131 [str s] [] (Ret (encTokR (lexNumber s))) := by
 refine LCalls.intro Tryz.func131 rfl (n := 43) rfl rfl rfl ?_
 repeat first | refine LCode.seq ?_ | refine LCode.region ?_
 refine LOps.step (S.alloc fun b => ?_) rfl
 repeat first | refine LOps.nil ?_ | refine LCode.seq ?_ | refine LCode.region ?_ | refine QThen.normal ?_ | refine LOps.pure (Pure.as (lv := .atom _) rfl) rfl ?_ | refine LOps.pure (Pure.mv (lv := .atom _) rfl) rfl ?_
 refine LOps.step (S.fn [_, _] rfl (run_spec isDigit digit_spec s hs) ?_) rfl
 repeat first | refine LOps.nil ?_ | refine LCode.seq ?_ | refine LCode.region ?_ | refine QThen.normal ?_ | refine LOps.pure (Pure.as (lv := .atom _) rfl) rfl ?_ | refine LOps.pure (Pure.mv (lv := .atom _) rfl) rfl ?_ | refine LOps.pure (Pure.slen rfl) rfl ?_ | refine LOps.pure (Pure.lss rfl rfl) rfl ?_
 refine LOps.cut [(0, str s), (2, ptr b 0), (5, str (s.takeWhile isDigit)), (28, bool (wordNext s (s.takeWhile isDigit).length))] ?_ (fun j hj => ?_)
 ·refine LOps.bcase 17 rfl (fun ht => ?_) (fun ht => ?_)
  ·have hlt : (s.takeWhile isDigit).length < s.length := by simpa using ht
   have hw : wordNext s (s.takeWhile isDigit).length = (isLetter s[(s.takeWhile isDigit).length] || decide (cv s[(s.takeWhile isDigit).length] = 95)) := by
    rw [wordNext, List.getElem?_eq_getElem hlt]
   repeat first | refine LOps.pure (Pure.mv (lv := .atom _) rfl) rfl ?_ | refine LOps.want rfl rfl ?_
   refine LOps.pure (Pure.sindex (c := s[(s.takeWhile isDigit).length]) rfl rfl (by omega) (by simp)) rfl ?_
   refine LOps.want rfl rfl ?_
   refine LOps.step (S.fn [_] rfl (letter_spec _) ?_) rfl
   repeat first | refine LOps.pure (Pure.mv (lv := .atom _) rfl) rfl ?_ | refine LOps.want rfl rfl ?_
   refine LOps.bcase 22 rfl (fun hl => ?_) (fun hl => ?_)
   ·repeat first | refine LOps.nil ?_ | refine QThen.normal ?_ | refine LOps.pure (Pure.pickT (lv := .atom _) rfl rfl) rfl ?_ | refine LOps.want rfl rfl ?_ | refine LOps.skip rfl rfl rfl rfl ?_
    exact ⟨⟨rfl, rfl, rfl, bool_eq (by rw [hw, hl]; rfl), trivial⟩, rfl, rfl⟩
   ·repeat first | refine LOps.pure (Pure.mv (lv := .atom _) rfl) rfl ?_ | refine LOps.want rfl rfl ?_
    refine LOps.pure (Pure.sindex (c := s[(s.takeWhile isDigit).length]) rfl rfl (by omega) (by simp)) rfl ?_
    repeat first | refine LOps.nil ?_ | refine QThen.normal ?_ | refine LOps.pure (Pure.eql rfl rfl) rfl ?_ | refine LOps.pure (Pure.pickT (lv := .atom _) rfl rfl) rfl ?_ | refine LOps.pure (Pure.pickF (lv := .atom _) rfl rfl) rfl ?_ | refine LOps.want rfl rfl ?_
    exact ⟨⟨rfl, rfl, rfl, bool_eq (by rw [hw, hl]; rfl), trivial⟩, rfl, rfl⟩
  ·have hge : s.length ≤ (s.takeWhile isDigit).length := by simpa using ht
   repeat first | refine LOps.nil ?_ | refine QThen.normal ?_ | refine LOps.pure (Pure.pickF (lv := .atom _) rfl rfl) rfl ?_ | refine LOps.skip rfl rfl rfl rfl ?_ | refine LOps.skipU rfl rfl rfl ?_
   exact ⟨⟨rfl, rfl, rfl, bool_eq (by rw [wordNext, List.getElem?_eq_none hge]), trivial⟩, rfl, rfl⟩
 ·skip
  refine LCode.cond rfl (fun hc => ?_) (fun hc => ?_)
  ·repeat first | refine LOps.nil ?_ | refine LCode.seq ?_ | refine LCode.region ?_ | refine LCode.ret ?_ | refine QThen.normal ?_ | refine QThen.ret ?_ | refine LOps.pure (Pure.as (lv := .atom _) rfl) rfl ?_ | refine LOps.pure (Pure.bld _ (cs := [_, _, _]) rfl) rfl ?_ | refine LOps.step (S.store (cs' := [_, _, _]) rfl Pick.here rfl rfl rfl rfl rfl ?_) rfl
   exact retRet hj (AllRes.cons (ResIs.cellAgg rfl (List.Mem.head _) rfl (LV.Sub.refl _)) (AllRes.cons (ResIs.tmp (v := .atom _) rfl (LV.Sub.refl _)) (AllRes.cons (ResIs.tmp (v := .atom _) rfl (LV.Sub.refl _)) AllRes.nil))) (by
    rw [lexNumber, if_pos hc]
    rfl)
  ·repeat first | refine LCode.seq ?_ | refine LCode.region ?_ | refine LCode.skip ?_ | refine QThen.normal ?_ | refine LOps.pure (Pure.mv (lv := .atom _) rfl) rfl ?_
   rcases parseUint_digits s hne with hp | ⟨u, hu, hp⟩
   ·refine LOps.step (S.fnIf [_, _, _] rfl (parseUint_range hG (s.takeWhile isDigit) (Nat.le_trans (List.takeWhile_prefix isDigit).length_le hs) hp) ?_) rfl
    rintro lv ⟨v, t, p, rfl⟩
    repeat first | refine LOps.nil ?_ | refine LCode.seq ?_ | refine LCode.region ?_ | refine QThen.normal ?_ | refine LOps.pure (Pure.as (lv := .atom _) rfl) rfl ?_ | refine LOps.pure (Pure.mv (lv := .atom _) rfl) rfl ?_ | refine LOps.pure (Pure.mv (lv := .tuple _) rfl) rfl ?_ | refine LOps.pure (Pure.extract (c := .atom _) rfl rfl) rfl ?_ | refine LOps.pure (Pure.ifaceNeqNil rfl) rfl ?_
    refine LCode.cond rfl (fun hc => ?_) (fun hc => ?_)
    ·repeat first | refine LOps.nil ?_ | refine LCode.seq ?_ | refine LCode.region ?_ | refine LCode.ret ?_ | refine QThen.normal ?_ | refine QThen.ret ?_ | refine LOps.pure (Pure.as (lv := .atom _) rfl) rfl ?_ | refine LOps.pure (Pure.bld _ (cs := [_, _, _]) rfl) rfl ?_ | refine LOps.step (S.store (cs' := [_, _, _]) rfl Pick.here rfl rfl rfl rfl rfl ?_) rfl
     exact retRet hj (AllRes.cons (ResIs.cellAgg rfl (List.Mem.head _) rfl (LV.Sub.refl _)) (AllRes.cons (ResIs.tmp (v := .atom _) rfl (LV.Sub.refl _)) (AllRes.cons (ResIs.tmp (v := .atom _) rfl (LV.Sub.refl _)) AllRes.nil))) (by
      rw [lexNumber, if_neg (by rw [‹wordNext s _ = false›]; decide), hp]
      rfl)
    ·cases hc
   ·refine LOps.step (S.fn [_, _, _] rfl (parseUint_ok (s.takeWhile isDigit) (Nat.le_trans (List.takeWhile_prefix isDigit).length_le hs) u hp) ?_) rfl
    repeat first | refine LOps.nil ?_ | refine LCode.seq ?_ | refine LCode.region ?_ | refine QThen.normal ?_ | refine LOps.pure (Pure.as (lv := .atom _) rfl) rfl ?_ | refine LOps.pure (Pure.mv (lv := .atom _) rfl) rfl ?_ | refine LOps.pure (Pure.mv (lv := .tuple _) rfl) rfl ?_ | refine LOps.pure (Pure.extract (c := .atom _) rfl rfl) rfl ?_ | refine LOps.pure (Pure.nilNeqNil rfl) rfl ?_
    refine LCode.cond rfl (fun hc => ?_) (fun hc => ?_)
    ·cases hc
    ·repeat first | refine LCode.seq ?_ | refine LCode.region ?_ | refine LCode.skip ?_ | refine QThen.normal ?_ | refine LOps.pure (Pure.mv (lv := .atom _) rfl) rfl ?_
     refine LOps.step (S.fn [_, _] rfl (fmtUint_spec hG u hu) ?_) rfl
     repeat first | refine LOps.nil ?_ | refine LCode.ret ?_ | refine QThen.normal ?_ | refine LOps.pure (Pure.as (lv := .atom _) rfl) rfl ?_ | refine LOps.pure (Pure.mv (lv := .atom _) rfl) rfl ?_ | refine LOps.pure (Pure.slen rfl) rfl ?_ | refine LOps.pure (Pure.bld _ (cs := [_, _, _]) rfl) rfl ?_ | refine LOps.step (S.store (cs' := [_, _, _]) rfl Pick.here rfl rfl rfl rfl rfl ?_) rfl
     exact retRet hj (AllRes.cons (ResIs.cellAgg rfl (List.Mem.head _) rfl (LV.Sub.refl _)) (AllRes.cons (ResIs.tmp (v := .atom _) rfl (LV.Sub.refl _)) (AllRes.cons (ResIs.tmp (v := .atom _) rfl (LV.Sub.refl _)) AllRes.nil))) (by
      rw [lexNumber, if_neg (by rw [‹wordNext s _ = false›]; decide), hp]
      rfl)
theorem literal_spec (hG : GW B0 w0) (s : List UInt8) (hs : s.length ≤ 1000000000) : LCalls (KC B0 w0) 134 [str s] [] (Ret (encTokR (lexLiteral s))) := by
 by_cases h3 : s.length < 3
 ·have hl : lexLiteral s = tokErr 3 := by
   match s, h3 with
   | [], _ => rfl
   | [_], _ => rfl
   | [_, _], _ => rfl
  refine LCalls.intro Tryz.func134 rfl (n := 39) rfl rfl rfl ?_
  repeat first | refine LCode.seq ?_ | refine LCode.region ?_
  refine LOps.step (S.alloc fun b => ?_) rfl
  repeat first | refine LOps.nil ?_ | refine LCode.seq ?_ | refine LCode.region ?_ | refine QThen.normal ?_ | refine LOps.pure (Pure.as (lv := .atom _) rfl) rfl ?_ | refine LOps.pure (Pure.mv (lv := .atom _) rfl) rfl ?_ | refine LOps.pure (Pure.slen rfl) rfl ?_ | refine LOps.pure (Pure.lss rfl rfl) rfl ?_
  refine LOps.bcase 8 rfl (fun ht => ?_) (fun ht => ?_)
  ·repeat first | refine LOps.nil ?_ | refine QThen.normal ?_ | refine LOps.pure (Pure.mv (lv := .atom _) rfl) rfl ?_ | refine LOps.pure (Pure.pickT (lv := .atom _) rfl rfl) rfl ?_ | refine LOps.skip rfl rfl rfl rfl ?_
   refine LCode.cond rfl (fun hc => ?_) (fun hc => ?_)
   ·repeat first | refine LOps.nil ?_ | refine LCode.seq ?_ | refine LCode.region ?_ | refine LCode.ret ?_ | refine QThen.normal ?_ | refine QThen.ret ?_ | refine LOps.pure (Pure.as (lv := .atom _) rfl) rfl ?_ | refine LOps.pure (Pure.bld _ (cs := [_, _, _]) rfl) rfl ?_ | refine LOps.step (S.store (cs' := [_, _, _]) rfl Pick.here rfl rfl rfl rfl rfl ?_) rfl
    exact retRet rfl (AllRes.cons (ResIs.cellAgg rfl (List.Mem.head _) rfl (LV.Sub.refl _)) (AllRes.cons (ResIs.tmp (v := .atom _) rfl (LV.Sub.refl _)) (AllRes.cons (ResIs.tmp (v := .atom _) rfl (LV.Sub.refl _)) AllRes.nil))) (by rw [hl]; rfl)
   ·cases hc
  ·exact absurd (of_decide_eq_false ht) (by omega)
 ·match s, h3 with
  | [], h => exact absurd (by simp) h
  | [_], h => exact absurd (by simp) h
  | [_, _], h => exact absurd (by simp) h
  | x :: c1 :: c2 :: r, h =>
   refine LCalls.intro Tryz.func134 rfl (n := 39) rfl rfl rfl ?_
   repeat first | refine LCode.seq ?_ | refine LCode.region ?_
   refine LOps.step (S.alloc fun b => ?_) rfl
   repeat first | refine LOps.nil ?_ | refine LCode.seq ?_ | refine LCode.region ?_ | refine QThen.normal ?_ | refine LOps.pure (Pure.as (lv := .atom _) rfl) rfl ?_ | refine LOps.pure (Pure.mv (lv := .atom _) rfl) rfl ?_ | refine LOps.pure (Pure.slen rfl) rfl ?_ | refine LOps.pure (Pure.lss rfl rfl) rfl ?_ | refine LOps.want rfl rfl ?_
   refine LOps.cut [(0, str (x :: c1 :: c2 :: r)), (2, ptr b 0), (32, bool ((!decide (cv c2 = 39)) || decide (cv c1 < 32) || decide (126 < cv c1) || decide (cv c1 = 39) || decide (cv c1 = 92)))] ?_ (fun j hj => ?_)
   ·refine LOps.bcase 8 rfl (fun ht => ?_) (fun ht0 => ?_)
    ·exact absurd (of_decide_eq_true ht) (by simp only [List.length_cons]; omega)
    ·skip
     refine LOps.pure (Pure.sindex (c := c2) rfl rfl (by decide) rfl) rfl ?_
     repeat first | refine LOps.pure (Pure.mv (lv := .atom _) rfl) rfl ?_ | refine LOps.pure (Pure.neq rfl rfl) rfl ?_ | refine LOps.pure (Pure.pickF (lv := .atom _) rfl rfl) rfl ?_ | refine LOps.want rfl rfl ?_
     refine LOps.bcase 13 rfl (fun ht => ?_) (fun ht1 => ?_)
     ·repeat first | refine LOps.nil ?_ | refine QThen.normal ?_ | refine LOps.pure (Pure.mv (lv := .atom _) rfl) rfl ?_ | refine LOps.pure (Pure.pickT (lv := .atom _) rfl rfl) rfl ?_ | refine LOps.skip rfl rfl rfl rfl ?_
      exact ⟨⟨rfl, rfl, bool_eq (by rw [ht]; rfl), trivial⟩, rfl, rfl⟩
     ·repeat first | refine LOps.pure (Pure.mv (lv := .atom _) rfl) rfl ?_ | refine LOps.want rfl rfl ?_
      refine LOps.pure (Pure.sindex (c := c1) rfl rfl (by decide) rfl) rfl ?_
      repeat first | refine LOps.pure (Pure.mv (lv := .atom _) rfl) rfl ?_ | refine LOps.pure (Pure.lss rfl rfl) rfl ?_ | refine LOps.pure (Pure.pickF (lv := .atom _) rfl rfl) rfl ?_ | refine LOps.want rfl rfl ?_
      refine LOps.bcase 18 rfl (fun ht => ?_) (fun ht2 => ?_)
      ·repeat first | refine LOps.nil ?_ | refine QThen.normal ?_ | refine LOps.pure (Pure.mv (lv := .atom _) rfl) rfl ?_ | refine LOps.pure (Pure.pickT (lv := .atom _) rfl rfl) rfl ?_ | refine LOps.skip rfl rfl rfl rfl ?_
       exact ⟨⟨rfl, rfl, bool_eq (by rw [ht1, ht]; rfl), trivial⟩, rfl, rfl⟩
      ·repeat first | refine LOps.pure (Pure.mv (lv := .atom _) rfl) rfl ?_ | refine LOps.want rfl rfl ?_
       refine LOps.pure (Pure.sindex (c := c1) rfl rfl (by decide) rfl) rfl ?_
       repeat first | refine LOps.pure (Pure.mv (lv := .atom _) rfl) rfl ?_ | refine LOps.pure (Pure.pickF (lv := .atom _) rfl rfl) rfl ?_ | refine LOps.pure (Pure.gtr rfl rfl) rfl ?_ | refine LOps.want rfl rfl ?_
       refine LOps.bcase 23 rfl (fun ht => ?_) (fun ht3 => ?_)
       ·repeat first | refine LOps.nil ?_ | refine QThen.normal ?_ | refine LOps.pure (Pure.mv (lv := .atom _) rfl) rfl ?_ | refine LOps.pure (Pure.pickT (lv := .atom _) rfl rfl) rfl ?_ | refine LOps.skip rfl rfl rfl rfl ?_
        exact ⟨⟨rfl, rfl, bool_eq (by rw [ht1, ht2, ht]; rfl), trivial⟩, rfl, rfl⟩
       ·repeat first | refine LOps.pure (Pure.mv (lv := .atom _) rfl) rfl ?_ | refine LOps.want rfl rfl ?_
        refine LOps.pure (Pure.sindex (c := c1) rfl rfl (by decide) rfl) rfl ?_
        repeat first | refine LOps.pure (Pure.mv (lv := .atom _) rfl) rfl ?_ | refine LOps.pure (Pure.pickF (lv := .atom _) rfl rfl) rfl ?_ | refine LOps.pure (Pure.eql rfl rfl) rfl ?_ | refine LOps.want rfl rfl ?_
        refine LOps.bcase 28 rfl (fun ht => ?_) (fun ht4 => ?_)
        ·repeat first | refine LOps.nil ?_ | refine QThen.normal ?_ | refine LOps.pure (Pure.pickT (lv := .atom _) rfl rfl) rfl ?_ | refine LOps.skip rfl rfl rfl rfl ?_
         exact ⟨⟨rfl, rfl, bool_eq (by rw [ht1, ht2, ht3, ht]; rfl), trivial⟩, rfl, rfl⟩
        ·repeat first | refine LOps.pure (Pure.mv (lv := .atom _) rfl) rfl ?_ | refine LOps.want rfl rfl ?_
         refine LOps.pure (Pure.sindex (c := c1) rfl rfl (by decide) rfl) rfl ?_
         repeat first | refine LOps.nil ?_ | refine QThen.normal ?_ | refine LOps.pure (Pure.pickF (lv := .atom _) rfl rfl) rfl ?_ | refine LOps.pure (Pure.eql rfl rfl) rfl ?_ | refine LOps.want rfl rfl ?_
         exact ⟨⟨rfl, rfl, bool_eq (by rw [ht1, ht2, ht3, ht4]; rfl), trivial⟩, rfl, rfl⟩
   ·skip
    refine LCode.cond rfl (fun hc => ?_) (fun hc => ?_)
    ·repeat first | refine LOps.nil ?_ | refine LCode.seq ?_ | refine LCode.region ?_ | refine LCode.ret ?_ | refine QThen.normal ?_ | refine QThen.ret ?_ | refine LOps.pure (Pure.as (lv := .atom _) rfl) rfl ?_ | refine LOps.pure (Pure.bld _ (cs := [_, _, _]) rfl) rfl ?_ | refine LOps.step (S.store (cs' := [_, _, _]) rfl Pick.here rfl rfl rfl rfl rfl ?_) rfl
     exact retRet hj (AllRes.cons (ResIs.cellAgg rfl (List.Mem.head _) rfl (LV.Sub.refl _)) (AllRes.cons (ResIs.tmp (v := .atom _) rfl (LV.Sub.refl _)) (AllRes.cons (ResIs.tmp (v := .atom _) rfl (LV.Sub.refl _)) AllRes.nil))) (by rw [lexLiteral, if_pos hc]; rfl)
    ·repeat first | refine LCode.seq ?_ | refine LCode.region ?_ | refine LCode.skip ?_ | refine QThen.normal ?_ | refine LOps.pure (Pure.mv (lv := .atom _) rfl) rfl ?_
     refine LOps.pure (Pure.sindex (c := c1) rfl rfl (by decide) rfl) rfl ?_
     refine LOps.pure (Pure.cvt rfl) rfl ?_
     have hw : IntKind.i64.wrap (c1.toNat : Int) = ((c1.toNat : Nat) : Int) := wrap_i64 (by have := c1.toNat_lt; omega)
     rw [hw]
     refine LOps.step (S.fn [_] rfl (itoa_spec hG c1.toNat (by have := c1.toNat_lt; omega)) ?_) rfl
     repeat first | refine LOps.nil ?_ | refine LCode.ret ?_ | refine QThen.normal ?_ | refine LOps.pure (Pure.as (lv := .atom _) rfl) rfl ?_ | refine LOps.pure (Pure.bld _ (cs := [_, _, _]) rfl) rfl ?_ | refine LOps.step (S.store (cs' := [_, _, _]) rfl Pick.here rfl rfl rfl rfl rfl ?_) rfl
     exact retRet hj (AllRes.cons (ResIs.cellAgg rfl (List.Mem.head _) rfl (LV.Sub.refl _)) (AllRes.cons (ResIs.tmp (v := .atom _) rfl (LV.Sub.refl _)) (AllRes.cons (ResIs.tmp (v := .atom _) rfl (LV.Sub.refl _)) AllRes.nil))) (by rw [lexLiteral, if_neg (by rw [hc]; decide)]; rfl)
theorem token_spec (hG : GW B0 w0) (s : List UInt8) (hs : s.length ≤ 1000000000) (hne : s ≠ []) : LCalls (KC B0 w0) 86 [str s] [] (Ret (encTokR (lexToken s))) := by
 match s, hne with
 | c :: r, _ =>
  refine LCalls.intro Tryz.func86 rfl (n := 49) rfl rfl rfl ?_
  repeat first | refine LCode.seq ?_ | refine LCode.region ?_
  refine LOps.step (S.alloc fun b => ?_) rfl
  repeat first | refine LOps.nil ?_ | refine LCode.seq ?_ | refine LCode.region ?_ | refine LCode.block ?_ | refine QThen.normal ?_ | refine LOps.pure (Pure.as (lv := .atom _) rfl) rfl ?_ | refine LOps.pure (Pure.mv (lv := .atom _) rfl) rfl ?_
  refine LOps.pure (Pure.sindex (c := c) rfl rfl (by decide) rfl) rfl ?_
  refine LOps.step (S.fn [_] rfl (digit_spec c) ?_) rfl
  repeat first | refine LOps.nil ?_ | refine QThen.normal ?_ | refine LOps.pure (Pure.as (lv := .atom _) rfl) rfl ?_
  refine LCode.cond rfl (fun hc => ?_) (fun hc => ?_)
  ·repeat first | refine LCode.seq ?_ | refine LCode.region ?_ | refine LOps.pure (Pure.mv (lv := .atom _) rfl) rfl ?_
   refine LOps.step (S.fn [_] rfl (number_spec hG (c :: r) hs (by rw [List.takeWhile_cons_of_pos hc]; simp)) ?_) rfl
   repeat first | refine LOps.nil ?_ | refine LCode.ret ?_ | refine QThen.normal ?_ | refine QThen.ret ?_ | refine QBlock.ret ?_ | refine LOps.pure (Pure.as (lv := .atom _) rfl) rfl ?_ | refine LOps.pure (Pure.extract (c := .agg _) rfl rfl) rfl ?_ | refine LOps.pure (Pure.extract (c := .atom _) rfl rfl) rfl ?_ | refine LOps.step (S.store (cs' := [_, _, _]) rfl Pick.here rfl rfl rfl rfl rfl ?_) rfl
   exact retRet rfl (AllRes.cons (ResIs.cellAgg rfl (List.Mem.head _) rfl (LV.Sub.refl _)) (AllRes.cons (ResIs.tmp (v := .atom _) rfl (LV.Sub.refl _)) (AllRes.cons (ResIs.tmp (v := .atom _) rfl (LV.Sub.refl _)) AllRes.nil))) (by simp only [lexToken, hc, if_true]; rfl)
  ·repeat first | refine LCode.seq ?_ | refine LCode.region ?_ | refine LOps.pure (Pure.mv (lv := .atom _) rfl) rfl ?_
   refine LOps.pure (Pure.sindex (c := c) rfl rfl (by decide) rfl) rfl ?_
   refine LOps.step (S.fn [_] rfl (letter_spec c) ?_) rfl
   repeat first | refine LOps.nil ?_ | refine QThen.normal ?_ | refine LOps.pure (Pure.as (lv := .atom _) rfl) rfl ?_
   refine LCode.cond rfl (fun hl => ?_) (fun hl => ?_)
   ·repeat first | refine LCode.seq ?_ | refine LCode.region ?_ | refine LOps.pure (Pure.mv (lv := .atom _) rfl) rfl ?_
    refine LOps.step (S.fn [_] rfl (name_spec (c :: r) hs) ?_) rfl
    repeat first | refine LOps.nil ?_ | refine LCode.ret ?_ | refine QThen.normal ?_ | refine QThen.ret ?_ | refine QBlock.ret ?_ | refine LOps.pure (Pure.as (lv := .atom _) rfl) rfl ?_ | refine LOps.pure (Pure.extract (c := .agg _) rfl rfl) rfl ?_ | refine LOps.pure (Pure.extract (c := .atom _) rfl rfl) rfl ?_ | refine LOps.step (S.store (cs' := [_, _, _]) rfl Pick.here rfl rfl rfl rfl rfl ?_) rfl
    exact retRet rfl (AllRes.cons (ResIs.cellAgg rfl (List.Mem.head _) rfl (LV.Sub.refl _)) (AllRes.cons (ResIs.tmp (v := .atom _) rfl (LV.Sub.refl _)) (AllRes.cons (ResIs.tmp (v := .atom _) rfl (LV.Sub.refl _)) AllRes.nil))) (by simp only [lexToken, hc, hl, if_true, Bool.false_eq_true, if_false]; rfl)
   ·repeat first | refine LCode.seq ?_ | refine LCode.region ?_ | refine LOps.pure (Pure.mv (lv := .atom _) rfl) rfl ?_
    refine LOps.pure (Pure.sindex (c := c) rfl rfl (by decide) rfl) rfl ?_
    repeat first | refine LOps.nil ?_ | refine QThen.normal ?_ | refine LOps.pure (Pure.as (lv := .atom _) rfl) rfl ?_ | refine LOps.pure (Pure.eql rfl rfl) rfl ?_
    refine LCode.cond rfl (fun hq => ?_) (fun hq => ?_)
    ·repeat first | refine LCode.seq ?_ | refine LCode.region ?_ | refine LOps.pure (Pure.mv (lv := .atom _) rfl) rfl ?_
     refine LOps.step (S.fn [_] rfl (literal_spec hG (c :: r) hs) ?_) rfl
     repeat first | refine LOps.nil ?_ | refine LCode.ret ?_ | refine QThen.normal ?_ | refine QThen.ret ?_ | refine QBlock.ret ?_ | refine LOps.pure (Pure.as (lv := .atom _) rfl) rfl ?_ | refine LOps.pure (Pure.extract (c := .agg _) rfl rfl) rfl ?_ | refine LOps.pure (Pure.extract (c := .atom _) rfl rfl) rfl ?_ | refine LOps.step (S.store (cs' := [_, _, _]) rfl Pick.here rfl rfl rfl rfl rfl ?_) rfl
     exact retRet rfl (AllRes.cons (ResIs.cellAgg rfl (List.Mem.head _) rfl (LV.Sub.refl _)) (AllRes.cons (ResIs.tmp (v := .atom _) rfl (LV.Sub.refl _)) (AllRes.cons (ResIs.tmp (v := .atom _) rfl (LV.Sub.refl _)) AllRes.nil))) (by simp only [lexToken, hc, hl, Bool.false_eq_true, if_false]; rw [if_pos hq]; rfl)
    ·have htok : lexToken (c :: r) = lexSign (c :: r) := by simp only [lexToken, hc, hl, Bool.false_eq_true, if_false]; rw [if_neg (by rw [hq]; decide)]
     repeat first | refine LCode.seq ?_ | refine LCode.region ?_ | refine LCode.skip ?_ | refine QThen.normal ?_ | refine QBlock.normal ?_
     refine LOps.step (S.fn [] rfl signs_spec ?_) rfl
     repeat first | refine LOps.nil ?_ | refine LCode.block ?_ | refine QThen.normal ?_ | refine LOps.pure (Pure.mv (lv := .atom _) rfl) rfl ?_ | refine LOps.pure (Pure.llen rfl) rfl ?_
     refine LCode.loopI (fun k ls H => ∃ m : Nat, k = signs.length - m ∧ ls = [(0, str (c :: r)), (2, ptr b 0), (34, .list (signs.map str)), (35, int .i64 24), (36, int .i64 m)] ∧ H = [(b, .cells 153 [int .i64 0, str [], int .i64 0])] ∧ m ≤ 24 ∧ signs.find? (fun x => x.isPrefixOf (c :: r)) = (signs.drop m).find? (fun x => x.isPrefixOf (c :: r)))
      ⟨_, _, _, ⟨0, rfl, rfl, rfl, by omega, by simp⟩, ⟨rfl, rfl, rfl, rfl, rfl, trivial⟩, HSub.refl _⟩ ?_
     rintro k ls H ⟨m, rfl, rfl, rfl, hm, hI⟩ j hj
     have h24 : signs.length = 24 := rfl
     repeat first | refine LOps.nil ?_ | refine LCode.seq ?_ | refine LCode.region ?_ | refine QThen.normal ?_ | refine LOps.pure (Pure.lss rfl rfl) rfl ?_
     refine LCode.cond rfl (fun ht => ?_) (fun ht => ?_)
     ·have hlt : m < signs.length := by have := of_decide_eq_true ht; omega
      repeat first | refine LCode.seq ?_ | refine LCode.region ?_ | refine LCode.skip ?_ | refine LCode.block ?_ | refine QThen.normal ?_
      refine LOps.pure (Pure.ixRef (el' := str signs[m]) rfl rfl (by omega) (by simp) rfl rfl) rfl ?_
      repeat first | refine LOps.nil ?_ | refine LCode.seq ?_ | refine LCode.region ?_ | refine QThen.normal ?_ | refine LOps.pure (Pure.as (lv := .atom _) rfl) rfl ?_ | refine LOps.pure (Pure.mv (lv := .atom _) rfl) rfl ?_ | refine LOps.pure (Pure.loadRef (c := .atom _) rfl rfl) rfl ?_
      refine LOps.step (S.fn [_, _] rfl (hasPrefix_spec (c :: r) signs[m]) ?_) rfl
      repeat first | refine LOps.nil ?_ | refine QThen.normal ?_
      refine LCode.cond rfl (fun hp => ?_) (fun hp => ?_)
      ·repeat first | refine LOps.nil ?_ | refine LCode.seq ?_ | refine LCode.region ?_ | refine LCode.ret ?_ | refine QThen.normal ?_ | refine QThen.ret ?_ | refine QBlock.ret ?_ | refine LOps.pure (Pure.as (lv := .atom _) rfl) rfl ?_ | refine LOps.pure (Pure.mv (lv := .atom _) rfl) rfl ?_ | refine LOps.pure (Pure.bld _ (cs := [_, _, _]) rfl) rfl ?_ | refine LOps.pure (Pure.slen rfl) rfl ?_ | refine LOps.step (S.store (cs' := [_, _, _]) rfl Pick.here rfl rfl rfl rfl rfl ?_) rfl
       exact retRet hj (AllRes.cons (ResIs.cellAgg rfl (List.Mem.head _) rfl (LV.Sub.refl _)) (AllRes.cons (ResIs.tmp (v := .atom _) rfl (LV.Sub.refl _)) (AllRes.cons (ResIs.tmp (v := .atom _) rfl (LV.Sub.refl _)) AllRes.nil))) (by
        rw [htok, lexSign, hI, List.drop_eq_getElem_cons hlt, List.find?_cons_of_pos (by simpa using hp)]
        rfl)
      ·repeat first | refine LOps.nil ?_ | refine LCode.region ?_ | refine LCode.skip ?_ | refine QThen.normal ?_ | refine QBlock.normal ?_ | refine LOps.pure (Pure.mv (lv := .atom _) rfl) rfl ?_ | refine LOps.pure (Pure.add rfl rfl (by omega)) rfl ?_
       exact ⟨_, _, _, by omega, ⟨m + 1, rfl, rfl, rfl, by omega, by
        rw [hI, List.drop_eq_getElem_cons hlt, List.find?_cons_of_neg (by rw [hp]; decide)]⟩, ⟨rfl, rfl, rfl, rfl, int_eq (by omega), trivial⟩, HSub.refl _, hj⟩
     ·have hge : signs.length ≤ m := by have := of_decide_eq_false ht; omega
      repeat first | refine LOps.nil ?_ | refine LCode.seq ?_ | refine LCode.region ?_ | refine LCode.ret ?_ | refine LCode.exit ?_ | refine QThen.normal ?_ | refine QThen.exit ?_ | refine QBlock.hit ?_ | refine LOps.pure (Pure.as (lv := .atom _) rfl) rfl ?_ | refine LOps.pure (Pure.bld _ (cs := [_, _, _]) rfl) rfl ?_ | refine LOps.step (S.store (cs' := [_, _, _]) rfl Pick.here rfl rfl rfl rfl rfl ?_) rfl
      exact retRet hj (AllRes.cons (ResIs.cellAgg rfl (List.Mem.head _) rfl (LV.Sub.refl _)) (AllRes.cons (ResIs.tmp (v := .atom _) rfl (LV.Sub.refl _)) (AllRes.cons (ResIs.tmp (v := .atom _) rfl (LV.Sub.refl _)) AllRes.nil))) (by
       rw [htok, lexSign, hI, List.drop_eq_nil_of_le hge]
       rfl)
end
end Go.Proofs.YtcbpcianefpniaaGreatDoor
