/- Texts joined: ChkW1, ChkW2, InpX1, InpX2, ChkSize, ChkW3, GlMax, ChkW4. -/
import Derived.Deep.WholeRow
import Derived.Test.YtcbpcianefpniaaGreatDoorBRowIS1
import Derived.Test.YtcbpcianefpniaaGreatDoorBRowIS3
import Derived.Test.YtcbpcianefpniaaGreatDoorBRowIS4
import Derived.Test.YtcbpcianefpniaaGreatDoorBRowIS6
set_option linter.unusedVariables false
set_option linter.unusedSimpArgs false
namespace Go.Proofs.YtcbpcianefpniaaGreatDoor.Chk
open Go.GL Go.RowKit Go.Stele
set_option maxRecDepth 100000
set_option maxHeartbeats 4000000
/-- The call hands back a list that may be appended to. -/
def RetAcc (es : List LV) (r : LRes) (H : Heap) : Prop := ∃ v, r = .ret v ∧ GL.Acc 1 v es H []
theorem get_mid {A B : Type} (g : A → B) (pre : List A) (a : A) (l : List A) : ((pre ++ a :: l).map g)[((pre.length : Nat) : Int).toNat]? = some (g a) := by
 rw [Int.toNat_natCast, List.getElem?_map, List.getElem?_append_right (Nat.le_refl _), Nat.sub_self]
 rfl
theorem hsub_left {H F : Heap} : HSub H (H ++ F) := ⟨F, List.Perm.refl _⟩
theorem str_len (l : List (List UInt8)) : ∀ v ∈ l.map str, v.cells.length = 1 := fun v hv => by
 obtain ⟨a, _, rfl⟩ := List.mem_map.1 hv
 rfl
theorem str_ok (l : List (List UInt8)) : ((l.map str).flatMap LV.cells).all cellOk = true := by
 induction l with
 | nil => rfl
 | cons a l ih =>
  simp only [List.map_cons, List.flatMap_cons, List.all_append, ih, Bool.and_true]
  rfl
section
variable {C : Ctx} {n : Nat} {e : Env} {H H' : Heap} {rs : List ResultVar} {vs : List LV} {es : List LV} {v : LV}
theorem retAcc (hd : e.ds = []) (h : AllRes C n e H rs [v]) (hv : GL.Acc 1 v es H' []) (hH : HSub H' H) : RetPost C n rs (RetAcc es) .ret e H := RetPost.ret hd h hH ⟨v, rfl, hv⟩
end
attribute [local irreducible] LOps LCode LStep LCalls Go.GL.Pure QThen QBlock RetPost LQ LAny LLate LLateOp LS
section
variable {B0 : Nat} {w0 : World}
theorem clone_spec (l : List (List UInt8)) (hl : l.length ≤ 1000000) : LCalls (KC B0 w0) 73 [.list (l.map str)] [] (RetAcc (l.map str)) := by
 refine LCalls.intro Tryz.func73 rfl (n := 8) rfl rfl rfl ?_
 repeat first | refine LOps.nil ?_ | refine LCode.seq ?_ | refine LCode.region ?_ | refine QThen.normal ?_ | refine LOps.pure (Pure.as (lv := .atom _) rfl) rfl ?_ | refine LOps.pure (Pure.mv (lv := .list _) rfl) rfl ?_
 refine LOps.step (S.sliceNil (es := l.map str) rfl fun b hb => ?_) rfl
 repeat first | refine LOps.nil ?_ | refine QThen.normal ?_
 refine LCode.cond rfl (fun hc => ?_) (fun hc => ?_)
 ·have h0 := hb hc
  repeat first | refine LOps.nil ?_ | refine LCode.seq ?_ | refine LCode.region ?_ | refine LCode.ret ?_ | refine QThen.normal ?_ | refine QThen.ret ?_ | refine LOps.pure (Pure.as (lv := .atom _) rfl) rfl ?_
  exact retAcc rfl (AllRes.cons (ResIs.tmp (v := nilSlice) rfl (LV.Sub.refl _)) AllRes.nil) (by rw [h0]; exact Acc.nil) (HSub.refl _)
 ·repeat first | refine LCode.seq ?_ | refine LCode.region ?_ | refine LCode.skip ?_ | refine QThen.normal ?_
  refine LOps.step (S.litA [] rfl elemsOk.nil rfl rfl rfl fun b4 => ?_) rfl
  repeat first | refine LOps.pure (Pure.mv (lv := .list _) rfl) rfl ?_
  refine LOps.step (S.acc (es := []) (F := []) rfl Acc.row rfl (str_len l) (str_ok l) (by simp; omega) fun v' H' hacc => ?_) rfl
  refine LOps.pure (Pure.as (lv := v') rfl) rfl ?_
  repeat first | refine LOps.nil ?_ | refine LCode.ret ?_ | refine QThen.normal ?_
  exact retAcc rfl (AllRes.cons (ResIs.tmp (v := v') rfl (LV.Sub.refl _)) AllRes.nil) hacc (HSub.refl _)
theorem grow_spec (k : Nat) (hk : k ≤ 1000000000) : LCalls (KC B0 w0) 108 [nilSlice, int .i64 k] [] (RetAcc []) := by
 refine LCalls.intro Tryz.func108 rfl (n := 27) rfl rfl rfl ?_
 repeat first | refine LOps.nil ?_ | refine LCode.seq ?_ | refine LCode.region ?_ | refine QThen.normal ?_ | refine LOps.pure (Pure.as (lv := .atom _) rfl) rfl ?_ | refine LOps.pure (Pure.mv (lv := .atom _) rfl) rfl ?_ | refine LOps.pure (Pure.lss rfl rfl) rfl ?_
 refine LCode.cond rfl (fun hc => ?_) (fun _ => ?_)
 ·have := of_decide_eq_true hc
  omega
 repeat first | refine LCode.seq ?_ | refine LCode.region ?_ | refine LCode.skip ?_ | refine QThen.normal ?_ | refine LOps.pure (Pure.mv (lv := .atom _) rfl) rfl ?_
 refine LOps.pure (Pure.rowCap rfl) rfl ?_
 refine LOps.pure (Pure.mv (lv := nilSlice) rfl) rfl ?_
 refine LOps.pure (Pure.rowLen rfl) rfl ?_
 repeat first | refine LOps.nil ?_ | refine LCode.seq ?_ | refine LCode.region ?_ | refine QThen.normal ?_ | refine LOps.pure (Pure.as (lv := .atom _) rfl) rfl ?_ | refine LOps.pure (Pure.mv (lv := .atom _) rfl) rfl ?_ | refine LOps.pure (Pure.sub rfl rfl (by omega)) rfl ?_ | refine LOps.pure (Pure.gtr rfl rfl) rfl ?_
 refine LCode.cond rfl (fun hc => ?_) (fun hc => ?_)
 ·have h0 : 0 < k := by
   have := of_decide_eq_true hc
   simp at this
   omega
  repeat first | refine LCode.region ?_ | refine LOps.pure (Pure.mv (lv := .atom _) rfl) rfl ?_
  refine LOps.pure (Pure.rowCap rfl) rfl ?_
  refine LOps.pure (Pure.rowSlice (n := 0) rfl rfl (Nat.le_refl _)) rfl ?_
  repeat first | refine LOps.pure (Pure.mv (lv := .atom _) rfl) rfl ?_
  refine LOps.step (S.appZeros (n := k) rfl (int_eq (by simp)) h0 (by omega) fun b cap hcap => ?_) rfl
  repeat first | refine LOps.pure (Pure.mv (lv := .atom _) rfl) rfl ?_ | refine LOps.pure (Pure.llen rfl) rfl ?_
  refine LOps.pure (Pure.rowSlice (n := 0) rfl rfl (by omega)) rfl ?_
  refine LOps.rowOpen 25 1 Pick.here rfl (by simp) ?_
  refine LOps.pure (Pure.as (lv := .app b cap 1 []) rfl) rfl ?_
  repeat first | refine LOps.nil ?_ | refine LCode.seq ?_ | refine LCode.region ?_ | refine LCode.ret ?_ | refine QThen.normal ?_ | refine LOps.pure (Pure.as (lv := .app _ _ _ _) rfl) rfl ?_ | refine LOps.pure (Pure.mv (lv := .app _ _ _ _) rfl) rfl ?_
  exact retAcc rfl (AllRes.cons (ResIs.tmp (v := .app b cap 1 []) rfl (LV.Sub.refl _)) AllRes.nil) Acc.row (HSub.refl _)
 ·repeat first | refine LOps.nil ?_ | refine LCode.seq ?_ | refine LCode.region ?_ | refine LCode.skip ?_ | refine LCode.ret ?_ | refine QThen.normal ?_ | refine LOps.pure (Pure.as (lv := .atom _) rfl) rfl ?_ | refine LOps.pure (Pure.mv (lv := .atom _) rfl) rfl ?_
  exact retAcc rfl (AllRes.cons (ResIs.tmp (v := nilSlice) rfl (LV.Sub.refl _)) AllRes.nil) Acc.nil (HSub.refl _)
def strsV (l : List (List UInt8)) : LV := .list (l.map str)
theorem sum_le (L : List (List (List UInt8))) (M : Nat) (h : ∀ l ∈ L, l.length ≤ M) : L.flatten.length ≤ L.length * M := by
 induction L with
 | nil => simp
 | cons a L ih =>
  rw [List.flatten_cons, List.length_append, List.length_cons, Nat.add_mul]
  have h1 := h a (List.mem_cons_self ..)
  have h2 := ih fun l hl => h l (List.mem_cons_of_mem _ hl)
  omega
theorem concat_spec (L : List (List (List UInt8))) (hL : L.length ≤ 4) (hl : ∀ l ∈ L, l.length ≤ 1000000) : LCalls (KC B0 w0) 74 [.list (L.map strsV)] [] (RetAcc (L.flatten.map str)) := by
 have hsum := sum_le L 1000000 hl
 refine LCalls.intro Tryz.func74 rfl (n := 36) rfl rfl rfl ?_
 repeat first | refine LOps.nil ?_ | refine LCode.seq ?_ | refine LCode.region ?_ | refine LCode.block ?_ | refine QThen.normal ?_ | refine LOps.pure (Pure.as (lv := .atom _) rfl) rfl ?_ | refine LOps.pure (Pure.mv (lv := .list _) rfl) rfl ?_ | refine LOps.pure (Pure.mv (lv := .atom _) rfl) rfl ?_ | refine LOps.pure (Pure.llen rfl) rfl ?_
 refine LCode.loopI (fun k ls H' => ∃ pre l1, L = pre ++ l1 ∧ k = l1.length ∧ ls = [(0, .list (L.map strsV)), (3, int .i64 (pre.flatten.length : Int)), (9, .list (L.map strsV)), (10, int .i64 ((L.map strsV).length : Int)), (11, int .i64 (pre.length : Int))] ∧ H' = [])
  ⟨L.length, _, _, ⟨[], L, rfl, rfl, rfl, rfl⟩, ⟨rfl, rfl, rfl, rfl, rfl, trivial⟩, HSub.refl _⟩ ?_
 rintro k ls H' ⟨pre, l1, hLe, rfl, rfl, rfl⟩ j hj
 have hb1 : pre.flatten.length ≤ 4000000 := by
  have h1 := hsum
  rw [hLe, List.flatten_append, List.length_append] at h1
  rw [hLe] at hL
  omega
 have hb2 : pre.length ≤ 4 := by
  rw [hLe, List.length_append] at hL
  omega
 repeat first | refine LOps.nil ?_ | refine LCode.seq ?_ | refine LCode.region ?_ | refine QThen.normal ?_ | refine LOps.pure (Pure.lss rfl rfl) rfl ?_
 refine LCode.cond rfl (fun hc => ?_) (fun hc => ?_)
 ·have hlen := of_decide_eq_true hc
  rw [List.length_map, hLe, List.length_append] at hlen
  obtain ⟨a, l2, rfl⟩ : ∃ a l2, l1 = a :: l2 := by
   cases l1 with
   | nil => simp at hlen
   | cons a l2 => exact ⟨a, l2, rfl⟩
  have ha : (a.map str).length ≤ 1000000 := by
   rw [List.length_map]
   exact hl a (by rw [hLe]; exact List.mem_append_right _ (List.mem_cons_self ..))
  repeat first | refine LCode.seq ?_ | refine LCode.region ?_ | refine LCode.skip ?_ | refine LCode.block ?_ | refine QThen.normal ?_
  refine LOps.pure (Pure.ixRef (el' := strsV a) (cs := [strsV a]) rfl rfl (by omega) (by rw [hLe]; exact get_mid strsV pre a l2) rfl rfl) rfl ?_
  repeat first | refine LOps.nil ?_ | refine LCode.seq ?_ | refine LCode.region ?_ | refine QThen.normal ?_ | refine LOps.pure (Pure.as (lv := .list _) rfl) rfl ?_ | refine LOps.pure (Pure.as (lv := .atom _) rfl) rfl ?_ | refine LOps.pure (Pure.mv (lv := .list _) rfl) rfl ?_ | refine LOps.pure (Pure.mv (lv := .atom _) rfl) rfl ?_ | refine LOps.pure (Pure.llen rfl) rfl ?_ | refine LOps.pure (Pure.lss rfl rfl) rfl ?_ | refine LOps.pure (Pure.loadRef (c := .list _) rfl rfl) rfl ?_ | refine LOps.pure (Pure.add rfl rfl (by omega)) rfl ?_
  refine LCode.cond rfl (fun hd => ?_) (fun _ => ?_)
  ·have := of_decide_eq_true hd
   omega
  ·repeat first | refine LOps.nil ?_ | refine LCode.region ?_ | refine LCode.skip ?_ | refine QThen.normal ?_ | refine QBlock.normal ?_ | refine LOps.pure (Pure.mv (lv := .atom _) rfl) rfl ?_ | refine LOps.pure (Pure.add rfl rfl (by omega)) rfl ?_
   exact ⟨l2.length, _, _, Nat.lt_succ_self _, ⟨pre ++ [a], l2, by rw [hLe]; simp, rfl, rfl, rfl⟩, ⟨rfl, int_eq (by simp), rfl, rfl, int_eq (by simp), trivial⟩, HSub.refl _, hj⟩
 ·have hlen := of_decide_eq_false hc
  rw [List.length_map, hLe, List.length_append] at hlen
  obtain rfl : l1 = [] := by
   cases l1 with
   | nil => rfl
   | cons a l2 => simp at hlen; omega
  rw [List.append_nil] at hLe
  subst hLe
  repeat first | refine LCode.seq ?_ | refine LCode.region ?_ | refine LCode.exit ?_ | refine QThen.normal ?_ | refine QThen.exit ?_ | refine QBlock.hit ?_ | refine LOps.pure (Pure.mv (lv := .atom _) rfl) rfl ?_
  have hfl : L.flatten.length ≤ 4000000 := by omega
  refine LOps.step (S.callH (H1 := []) (F := []) [_, _] rfl (List.Perm.refl _) (grow_spec L.flatten.length (by omega)) ?_ (by rintro ch H' ⟨v, h, _⟩; cases h)) rfl
  rintro v Ha ⟨_, h, hacc⟩
  cases h
  rw [List.append_nil]
  refine LOps.pure (Pure.as (lv := v) rfl) rfl ?_
  repeat first | refine LOps.nil ?_ | refine LCode.seq ?_ | refine LCode.region ?_ | refine LCode.block ?_ | refine QThen.normal ?_ | refine LOps.pure (Pure.mv (lv := .list _) rfl) rfl ?_ | refine LOps.pure (Pure.mv (lv := .atom _) rfl) rfl ?_ | refine LOps.pure (Pure.llen rfl) rfl ?_
  refine LCode.loopI (fun k ls H' => ∃ pre l1 v1 Ha1, L = pre ++ l1 ∧ k = l1.length ∧ ls = [(6, v1), (25, .list (L.map strsV)), (26, int .i64 ((L.map strsV).length : Int)), (27, int .i64 (pre.length : Int))] ∧ H' = Ha1 ∧ GL.Acc 1 v1 (pre.flatten.map str) Ha1 [])
   ⟨L.length, _, _, ⟨[], L, v, Ha, rfl, rfl, rfl, rfl, hacc⟩, ⟨rfl, rfl, rfl, rfl, trivial⟩, HSub.refl _⟩ ?_
  rintro k ls H' ⟨pre, l1, v1, Ha1, hLe, rfl, rfl, rfl, hacc1⟩ j2 hj2
  have hb1 : pre.flatten.length ≤ 4000000 := by
   have h1 := hsum
   rw [hLe, List.flatten_append, List.length_append] at h1
   rw [hLe] at hL
   omega
  have hb2 : pre.length ≤ 4 := by
   rw [hLe, List.length_append] at hL
   omega
  repeat first | refine LOps.nil ?_ | refine LCode.seq ?_ | refine LCode.region ?_ | refine QThen.normal ?_ | refine LOps.pure (Pure.lss rfl rfl) rfl ?_
  refine LCode.cond rfl (fun hc => ?_) (fun hc => ?_)
  ·have hlen := of_decide_eq_true hc
   rw [List.length_map, hLe, List.length_append] at hlen
   obtain ⟨a, l2, rfl⟩ : ∃ a l2, l1 = a :: l2 := by
    cases l1 with
    | nil => simp at hlen
    | cons a l2 => exact ⟨a, l2, rfl⟩
   have ha : a.length ≤ 1000000 := hl a (by rw [hLe]; exact List.mem_append_right _ (List.mem_cons_self ..))
   repeat first | refine LCode.seq ?_ | refine LCode.region ?_ | refine LCode.skip ?_ | refine LCode.block ?_ | refine QThen.normal ?_
   refine LOps.pure (Pure.ixRef (el' := strsV a) (cs := [strsV a]) rfl rfl (by omega) (by rw [hLe]; exact get_mid strsV pre a l2) rfl rfl) rfl ?_
   repeat first | refine LOps.nil ?_ | refine LCode.region ?_ | refine QThen.normal ?_ | refine LOps.pure (Pure.as (lv := .list _) rfl) rfl ?_ | refine LOps.pure (Pure.loadRef (c := .list _) rfl rfl) rfl ?_
   refine LOps.pure (Pure.mv (lv := v1) rfl) rfl ?_
   repeat first | refine LOps.pure (Pure.mv (lv := .list _) rfl) rfl ?_
   refine LOps.step (S.acc rfl hacc1 rfl (str_len a) (str_ok a) (by rw [List.length_map, List.length_map]; omega) fun v' H' hacc => ?_) rfl
   refine LOps.pure (Pure.as (lv := v') rfl) rfl ?_
   repeat first | refine LOps.nil ?_ | refine LCode.region ?_ | refine QThen.normal ?_ | refine QBlock.normal ?_ | refine LOps.pure (Pure.mv (lv := .atom _) rfl) rfl ?_ | refine LOps.pure (Pure.add rfl rfl (by omega)) rfl ?_
   exact ⟨l2.length, _, _, Nat.lt_succ_self _, ⟨pre ++ [a], l2, v', H', by rw [hLe]; simp, rfl, rfl, rfl, by
    have e : ((pre ++ [a]).flatten.map str) = pre.flatten.map str ++ a.map str := by simp
    rw [e]
    exact hacc⟩, ⟨rfl, rfl, rfl, int_eq (by simp), trivial⟩, HSub.refl _, hj2⟩
  ·have hlen := of_decide_eq_false hc
   rw [List.length_map, hLe, List.length_append] at hlen
   obtain rfl : l1 = [] := by
    cases l1 with
    | nil => rfl
    | cons a l2 => simp at hlen; omega
   rw [List.append_nil] at hLe
   rw [← hLe] at hacc1
   repeat first | refine LCode.seq ?_ | refine LCode.region ?_ | refine LCode.exit ?_ | refine QThen.normal ?_ | refine QThen.exit ?_ | refine QBlock.hit ?_
   refine LOps.pure (Pure.mv (lv := v1) rfl) rfl ?_
   refine LOps.pure (Pure.as (lv := v1) rfl) rfl ?_
   repeat first | refine LOps.nil ?_ | refine LCode.ret ?_ | refine QThen.normal ?_
   exact retAcc (hj2.trans hj) (AllRes.cons (ResIs.tmp (v := v1) rfl (LV.Sub.refl _)) AllRes.nil) hacc1 (HSub.refl _)
end
end Go.Proofs.YtcbpcianefpniaaGreatDoor.Chk
namespace Go.Proofs.YtcbpcianefpniaaGreatDoor.Chk
open Go.GL Go.RowKit Go.Stele
set_option maxRecDepth 100000
set_option maxHeartbeats 4000000
def ownS (f : FnD) : List (List UInt8) := (f.params ++ f.locals).map fun x => f.name ++ [46] ++ x
attribute [local irreducible] LOps LCode LStep LCalls Go.GL.Pure QThen QBlock RetPost LQ LAny LLate LLateOp LS
section
variable {B0 : Nat} {w0 : World}
theorem scalars_specG {vars : List Nm} {fs : List FnD} (AL : LV) (hv6 : vars.length ≤ 1000000) (hf6 : fs.length ≤ 1000000) (hsm : ∀ f ∈ fs, SmF f) (hn : ∀ f ∈ fs, f.name.length ≤ 1000 ∧ ∀ x ∈ f.params ++ f.locals, x.length ≤ 1000) : LCalls (KC B0 w0) 30 [.agg [.list (vars.map str), AL, .list (fs.map encFn)]] [] (Ret (.list ((scalarsP vars fs).map str))) := by
 have hown : ∀ f ∈ fs, (ownS f).length ≤ 2000000 := fun f hf => by
  have h1 : f.params.length ≤ 1000000 := (hsm f hf).params
  have h2 : f.locals.length ≤ 1000000 := (hsm f hf).locals
  unfold ownS
  rw [List.length_map, List.length_append]
  omega
 have hsum : ∀ l : List FnD, (∀ f ∈ l, f ∈ fs) → ((l.map ownS).flatten).length ≤ l.length * 2000000 := fun l hl => by
  have := sum_le (l.map ownS) 2000000 (fun x hx => by
   obtain ⟨f, hf, rfl⟩ := List.mem_map.1 hx
   exact hown f (hl f hf))
  rwa [List.length_map] at this
 refine LCalls.intro Tryz.func30 rfl (n := 40) rfl rfl rfl ?_
 repeat first | refine LCode.seq ?_ | refine LCode.region ?_
 refine LOps.step (S.box rfl fun b1 => ?_) rfl
 repeat first | refine LOps.nil ?_ | refine LCode.seq ?_ | refine LCode.region ?_ | refine QThen.normal ?_ | refine LOps.pure (Pure.as (lv := .atom _) rfl) rfl ?_ | refine LOps.pure (Pure.fieldH rfl) rfl ?_ | refine LOps.pure (Pure.loadH (c := .list _) rfl (List.Mem.head _) rfl) rfl ?_
 refine LOps.step (S.callH (H1 := []) (F := [_]) [_] rfl (List.Perm.refl _) (clone_spec vars hv6) ?_ (by rintro ch H' ⟨v, h, _⟩; cases h)) rfl
 rintro v Ha ⟨_, h, hacc⟩
 cases h
 refine LOps.perm (List.perm_append_comm (l₂ := [_])) ?_
 refine LOps.pure (Pure.as (lv := v) rfl) rfl ?_
 repeat first | refine LOps.nil ?_ | refine LCode.seq ?_ | refine LCode.region ?_ | refine LCode.block ?_ | refine QThen.normal ?_ | refine LOps.pure (Pure.fieldH rfl) rfl ?_ | refine LOps.pure (Pure.loadH (c := .list _) rfl (List.Mem.head _) rfl) rfl ?_ | refine LOps.pure (Pure.llen rfl) rfl ?_ | refine LOps.pure (Pure.mv (lv := .atom _) rfl) rfl ?_
 refine LCode.loopI (fun k ls H' => ∃ pre l1 v1 Ha1, fs = pre ++ l1 ∧ k = l1.length ∧ ls = [(3, v1), (12, .list (fs.map encFn)), (13, int .i64 ((fs.map encFn).length : Int)), (14, int .i64 (pre.length : Int))] ∧ H' = Ha1 ∧ GL.Acc 1 v1 ((vars ++ (pre.map ownS).flatten).map str) Ha1 [])
  ⟨fs.length, _, _, ⟨[], fs, v, Ha, rfl, rfl, rfl, rfl, by simpa using hacc⟩, ⟨rfl, rfl, rfl, rfl, trivial⟩, HSub.drop (HSub.refl _)⟩ ?_
 rintro k ls Ha1 ⟨pre, l1, v1, _, hLe, rfl, rfl, rfl, hacc1⟩ j hj
 have hb2 : pre.length ≤ 1000000 := by
  rw [hLe, List.length_append] at hf6
  omega
 have hb1 : ((pre.map ownS).flatten).length ≤ 2000000000000 := by
  have := hsum pre (fun f hf => by rw [hLe]; exact List.mem_append_left _ hf)
  omega
 repeat first | refine LOps.nil ?_ | refine LCode.seq ?_ | refine LCode.region ?_ | refine QThen.normal ?_ | refine LOps.pure (Pure.lss rfl rfl) rfl ?_
 refine LCode.cond rfl (fun hc => ?_) (fun hc => ?_)
 ·have hlen := of_decide_eq_true hc
  rw [List.length_map, hLe, List.length_append] at hlen
  obtain ⟨f, l2, rfl⟩ : ∃ a l2, l1 = a :: l2 := by
   cases l1 with
   | nil => simp at hlen
   | cons a l2 => exact ⟨a, l2, rfl⟩
  have hfm : f ∈ fs := by rw [hLe]; exact List.mem_append_right _ (List.mem_cons_self ..)
  obtain ⟨hn1, hn2⟩ := hn f hfm
  have hp6 : f.params.length ≤ 1000000 := (hsm f hfm).params
  have hl6 : f.locals.length ≤ 1000000 := (hsm f hfm).locals
  repeat first | refine LCode.seq ?_ | refine LCode.region ?_ | refine LCode.skip ?_ | refine LCode.block ?_ | refine QThen.normal ?_
  refine LOps.pure (Pure.ixRef (el' := encFn f) (cs := [_, _, _, _]) rfl rfl (by omega) (by rw [hLe]; exact get_mid encFn pre f l2) rfl rfl) rfl ?_
  repeat first | refine LOps.pure (Pure.ldRefAgg (cs' := [_, _, _, _]) rfl rfl rfl) rfl ?_
  refine LOps.step (S.alloc fun b5 => ?_) rfl
  repeat first | refine LOps.nil ?_ | refine LCode.seq ?_ | refine LCode.region ?_ | refine QThen.normal ?_ | refine LOps.pure (Pure.fieldH rfl) rfl ?_ | refine LOps.pure (Pure.loadH (c := .list _) rfl (List.Mem.head _) rfl) rfl ?_ | refine LOps.step (S.store (cs' := [_, _, _, _]) rfl Pick.here rfl rfl rfl rfl rfl ?_) rfl
  refine LOps.step (S.lit (es := [strsV f.params, strsV f.locals]) [_, _] rfl (elemsOk.cons rfl rfl (elemsOk.cons rfl rfl elemsOk.nil)) rfl rfl rfl ?_) rfl
  refine LOps.step (S.callH (H1 := []) (F := (b5, .cells 63 [str f.name, strsV f.params, strsV f.locals, .list (f.body.map encS)]) :: Ha1) [_] rfl (List.Perm.refl _) (concat_spec [f.params, f.locals] (by simp) (by
   intro l hl
   rcases List.mem_cons.1 hl with rfl | hl
   ·exact hp6
   ·rw [List.mem_singleton.1 hl]
    exact hl6)) ?_ (by rintro ch H' ⟨v, h, _⟩; cases h)) rfl
  rintro v2 Ha2 ⟨_, h, hacc2⟩
  cases h
  have hfl : [f.params, f.locals].flatten = f.params ++ f.locals := by simp
  rw [hfl] at hacc2
  refine LOps.sub 23 rfl hacc2.sub ?_
  refine LOps.weak (H' := (b5, .cells 63 [str f.name, strsV f.params, strsV f.locals, .list (f.body.map encS)]) :: Ha1) ⟨Ha2, List.perm_append_comm⟩ ?_
  repeat first | refine LOps.nil ?_ | refine LCode.block ?_ | refine QThen.normal ?_ | refine LOps.pure (Pure.llen rfl) rfl ?_ | refine LOps.pure (Pure.mv (lv := .atom _) rfl) rfl ?_
  refine LCode.loopI (fun k ls H' => ∃ pre2 l3 v3 Ha3, f.params ++ f.locals = pre2 ++ l3 ∧ k = l3.length ∧ ls = [(3, v3), (5, ptr b5 0), (12, .list (fs.map encFn)), (13, int .i64 ((fs.map encFn).length : Int)), (14, int .i64 (pre.length : Int)), (23, .list ((f.params ++ f.locals).map str)), (24, int .i64 (((f.params ++ f.locals).map str).length : Int)), (25, int .i64 (pre2.length : Int))] ∧
    H' = (b5, .cells 63 [str f.name, strsV f.params, strsV f.locals, .list (f.body.map encS)]) :: Ha3 ∧ GL.Acc 1 v3 ((vars ++ (pre.map ownS).flatten ++ pre2.map fun x => f.name ++ [46] ++ x).map str) Ha3 [])
   ⟨(f.params ++ f.locals).length, _, _, ⟨[], f.params ++ f.locals, v1, Ha1, rfl, rfl, rfl, rfl, by simpa using hacc1⟩, ⟨rfl, rfl, rfl, rfl, rfl, rfl, rfl, rfl, trivial⟩, HSub.refl _⟩ ?_
  rintro k ls H' ⟨pre2, l3, v3, Ha3, hLe2, rfl, rfl, rfl, hacc3⟩ j2 hj2
  have hb3 : pre2.length ≤ 2000000 := by
   have : (f.params ++ f.locals).length ≤ 2000000 := by rw [List.length_append]; omega
   rw [hLe2, List.length_append] at this
   omega
  repeat first | refine LOps.nil ?_ | refine LCode.seq ?_ | refine LCode.region ?_ | refine QThen.normal ?_ | refine LOps.pure (Pure.lss rfl rfl) rfl ?_
  refine LCode.cond rfl (fun hd => ?_) (fun hd => ?_)
  ·have hlen2 := of_decide_eq_true hd
   rw [List.length_map, hLe2, List.length_append] at hlen2
   obtain ⟨x, l4, rfl⟩ : ∃ a l2, l3 = a :: l2 := by
    cases l3 with
    | nil => simp at hlen2
    | cons a l2 => exact ⟨a, l2, rfl⟩
   have hx : x.length ≤ 1000 := hn2 x (by rw [hLe2]; exact List.mem_append_right _ (List.mem_cons_self ..))
   repeat first | refine LCode.seq ?_ | refine LCode.region ?_ | refine LCode.skip ?_ | refine LCode.block ?_ | refine QThen.normal ?_
   refine LOps.pure (Pure.ixRef (el' := str x) (cs := [str x]) rfl rfl (by omega) (by rw [hLe2]; exact get_mid str pre2 x l4) rfl rfl) rfl ?_
   repeat first | refine LOps.nil ?_ | refine LCode.region ?_ | refine QThen.normal ?_ | refine LOps.pure (Pure.as (lv := .atom _) rfl) rfl ?_ | refine LOps.pure (Pure.loadRef (c := .atom _) rfl rfl) rfl ?_
   refine LOps.pure (Pure.mv (lv := v3) rfl) rfl ?_
   repeat first | refine LOps.pure (Pure.fieldH rfl) rfl ?_ | refine LOps.pure (Pure.loadH (c := .atom _) rfl (List.Mem.head _) rfl) rfl ?_ | refine LOps.pure (Pure.mv (lv := .atom _) rfl) rfl ?_ | refine LOps.pure (Pure.sadd rfl rfl (by first | omega | (simp only [List.length_append, List.length_cons, List.length_nil]; omega))) rfl ?_
   refine LOps.step (S.lit (es := [str (f.name ++ [46] ++ x)]) [_] rfl (elemsOk.cons rfl rfl elemsOk.nil) rfl rfl rfl ?_) rfl
   refine LOps.step (S.acc1 rfl hacc3 rfl (str_len [f.name ++ [46] ++ x]) rfl (by rw [List.length_map, List.length_append, List.length_append, List.length_map, List.length_cons, List.length_nil]; omega) fun v' H' hacc' => ?_) rfl
   refine LOps.pure (Pure.as (lv := v') rfl) rfl ?_
   repeat first | refine LOps.nil ?_ | refine LCode.region ?_ | refine QThen.normal ?_ | refine QBlock.normal ?_ | refine LOps.pure (Pure.mv (lv := .atom _) rfl) rfl ?_ | refine LOps.pure (Pure.add rfl rfl (by omega)) rfl ?_
   exact ⟨l4.length, _, _, Nat.lt_succ_self _, ⟨pre2 ++ [x], l4, v', H', by rw [hLe2]; simp, rfl, rfl, rfl, by
    have e : ((vars ++ (pre.map ownS).flatten ++ (pre2 ++ [x]).map fun x => f.name ++ [46] ++ x).map str) = ((vars ++ (pre.map ownS).flatten ++ pre2.map fun x => f.name ++ [46] ++ x).map str) ++ [str (f.name ++ [46] ++ x)] := by simp
    rw [e]
    exact hacc'⟩, ⟨rfl, rfl, rfl, rfl, rfl, rfl, rfl, int_eq (by simp), trivial⟩, HSub.refl _, hj2⟩
  ·have hlen2 := of_decide_eq_false hd
   rw [List.length_map, hLe2, List.length_append] at hlen2
   obtain rfl : l3 = [] := by
    cases l3 with
    | nil => rfl
    | cons a l2 => simp at hlen2; omega
   rw [List.append_nil] at hLe2
   repeat first | refine LOps.nil ?_ | refine LCode.region ?_ | refine LCode.exit ?_ | refine QThen.normal ?_ | refine QThen.exit ?_ | refine QBlock.hit ?_ | refine QBlock.normal ?_ | refine LOps.pure (Pure.mv (lv := .atom _) rfl) rfl ?_ | refine LOps.pure (Pure.add rfl rfl (by omega)) rfl ?_
   exact ⟨l2.length, _, _, Nat.lt_succ_self _, ⟨pre ++ [f], l2, v3, Ha3, by rw [hLe]; simp, rfl, rfl, rfl, by
    have e : ((vars ++ ((pre ++ [f]).map ownS).flatten).map str) = (vars ++ (pre.map ownS).flatten ++ pre2.map fun x => f.name ++ [46] ++ x).map str := by
     rw [← hLe2]
     simp [ownS]
    rw [e]
    exact hacc3⟩, ⟨rfl, rfl, rfl, int_eq (by simp), trivial⟩, HSub.drop (HSub.refl _), hj2.trans hj⟩
 ·have hlen := of_decide_eq_false hc
  rw [List.length_map, hLe, List.length_append] at hlen
  obtain rfl : l1 = [] := by
   cases l1 with
   | nil => rfl
   | cons a l2 => simp at hlen; omega
  rw [List.append_nil] at hLe
  rw [← hLe] at hacc1
  repeat first | refine LCode.seq ?_ | refine LCode.region ?_ | refine LCode.exit ?_ | refine QThen.normal ?_ | refine QThen.exit ?_ | refine QBlock.hit ?_
  refine LOps.pure (Pure.mv (lv := v1) rfl) rfl ?_
  refine LOps.pure (Pure.as (lv := v1) rfl) rfl ?_
  repeat first | refine LOps.nil ?_ | refine LCode.ret ?_ | refine QThen.normal ?_
  exact RetPost.ret hj (AllRes.cons (ResIs.tmp (v := v1) rfl hacc1.sub) AllRes.nil) (HSub.nil _) ⟨rfl, rfl⟩
theorem scalars_spec {p : Pr} (hsm : SmP p) (hn : ∀ f ∈ p.funcs, f.name.length ≤ 1000 ∧ ∀ x ∈ f.params ++ f.locals, x.length ≤ 1000) : LCalls (KC B0 w0) 30 [encPr p] [] (Ret (.list ((scalarsP p.vars p.funcs).map str))) :=
 scalars_specG _ hsm.vars hsm.funcs hsm.each hn
end
end Go.Proofs.YtcbpcianefpniaaGreatDoor.Chk
namespace Go.Proofs.YtcbpcianefpniaaGreatDoor.Inp
open Go.GL Go.RowKit Go.Stele
set_option maxRecDepth 100000
set_option maxHeartbeats 4000000
section
variable {C : Ctx} {e : Env} {H : Heap} {dst : Option Nat} {ty : TypeId} {pos : String} {aft : Array Edge} {g : Option (Nat × Bool)} {x : Operand}
/-- No bytes: the empty string. -/
theorem Pure.bytesStr0 {s d el : TypeId} [hs : TSlice C.P s el 1] [he : TKind C.P el .u8] [hd : TStr C.P d] (hx : elems (e.ev x) = some []) : Pure C ⟨dst, .convert s d x, ty, pos, aft, g⟩ e H (str []) := fun ρ w L h _ => by
 obtain ⟨a, cap, hv, hcap, hr⟩ := (h x).elems hx
 refine ⟨_, rep_atom, fun w' ha => ?_⟩
 have h0 : execOp ρ ⟨dst, .convert s d x, ty, pos, aft, g⟩ = (do Pure.pure (.value (← convert s d (ρ x)))) := rfl
 cases a with
 | none =>
  have := run_convert_bytes_string (P := C.P) w' s d el none 0 cap hs.und he.und hd.und
  rw [h0, hv, Sem.run_bind]
  show ((convert s d (.slice none 0 cap)).run C.P w').andThen _ = _
  rw [this]
  simp [Conv.bytesToString]
  rfl
 | some a =>
  have := run_convert_bytes_back (P := C.P) w' s d el a cap [] hs.und he.und hd.und (fun j hj => by simp at hj)
  rw [h0, hv, Sem.run_bind]
  show ((convert s d (.slice (some a) ([] : List UInt8).length cap)).run C.P w').andThen _ = _
  rw [this]
  rfl
end
attribute [local irreducible] LOps LCode LStep LCalls Go.GL.Pure QThen QBlock RetPost LQ LAny LLate LLateOp LS
section
variable {B0 : Nat} {w0 : World}
theorem operators_spec : LCalls (KC B0 w0) 29 [] [] (fun r H => ∃ om db oc, r = .ret (.atom (.map (some om))) ∧ H = [(om, .map (kvs (opsKV db)) oc), divH db]) := by
 refine LCalls.intro Tryz.func29 rfl (n := 6) rfl rfl rfl ?_
 repeat first | refine LOps.nil ?_ | refine LCode.seq ?_ | refine LCode.region ?_ | refine QThen.normal ?_ | refine LOps.pure (Pure.as (lv := .atom _) rfl) rfl ?_
 refine LOps.step (S.alloc fun db => ?_) rfl
 repeat first | refine LOps.nil ?_ | refine LCode.seq ?_ | refine LCode.region ?_ | refine QThen.normal ?_ | refine LOps.step (S.store (cs' := [_]) rfl Pick.here rfl rfl rfl rfl rfl ?_) rfl
 refine LOps.step (S.kvNew fun om => ?_) rfl
 refine LOps.step (S.kvIns (k := [43]) rfl rfl rfl Pick.here fun c0 => ?_) rfl
 refine LOps.step (S.kvIns (k := [45]) rfl rfl rfl Pick.here fun c1 => ?_) rfl
 refine LOps.step (S.kvIns (k := [42]) rfl rfl rfl Pick.here fun c2 => ?_) rfl
 refine LOps.pure (Pure.makeFunc rfl rfl) rfl ?_
 refine LOps.step (S.kvIns (k := [47]) rfl rfl rfl Pick.here fun c3 => ?_) rfl
 refine LOps.pure (Pure.makeFunc rfl rfl) rfl ?_
 refine LOps.step (S.kvIns (k := [37]) rfl rfl rfl Pick.here fun c4 => ?_) rfl
 refine LOps.step (S.kvIns (k := [94]) rfl rfl rfl Pick.here fun c5 => ?_) rfl
 refine LOps.step (S.kvIns (k := [61, 61]) rfl rfl rfl Pick.here fun c6 => ?_) rfl
 refine LOps.step (S.kvIns (k := [33, 61]) rfl rfl rfl Pick.here fun c7 => ?_) rfl
 refine LOps.step (S.kvIns (k := [60]) rfl rfl rfl Pick.here fun c8 => ?_) rfl
 refine LOps.step (S.kvIns (k := [62]) rfl rfl rfl Pick.here fun c9 => ?_) rfl
 refine LOps.step (S.kvIns (k := [60, 61]) rfl rfl rfl Pick.here fun c10 => ?_) rfl
 refine LOps.step (S.kvIns (k := [62, 61]) rfl rfl rfl Pick.here fun c11 => ?_) rfl
 refine LOps.step (S.kvIns (k := [38, 38]) rfl rfl rfl Pick.here fun c12 => ?_) rfl
 refine LOps.step (S.kvIns (k := [124, 124]) rfl rfl rfl Pick.here fun c13 => ?_) rfl
 repeat first | refine LOps.nil ?_ | refine LCode.ret ?_ | refine QThen.normal ?_ | refine LOps.pure (Pure.as (lv := .atom _) rfl) rfl ?_ | refine LOps.pure (Pure.mv (lv := .atom _) rfl) rfl ?_
 exact RetPost.ret rfl (AllRes.cons (ResIs.tmp (v := .atom _) rfl (LV.Sub.refl _)) AllRes.nil) (HSub.refl _) ⟨om, db, c13, rfl, rfl⟩
end
end Go.Proofs.YtcbpcianefpniaaGreatDoor.Inp
namespace Go.Proofs.YtcbpcianefpniaaGreatDoor.Inp
open Go.GL Go.RowKit Go.Stele
set_option maxRecDepth 100000
set_option maxHeartbeats 4000000
def encO (o : OutI) : LV := .agg [str o.out, int .i64 o.err, int .i64 (o.steps : Int)]
def runQ (p : Pr) (inp : List Nat) (steps : Int) : OutI := if checkPr p = 0 then limitI p inp steps else ⟨[], 1, 0⟩
@[reducible] def progH (b : Nat) (p : Pr) : Nat × LObj := (b, .cells 33 [.list (p.vars.map str), .list (p.arrays.map encAr), .list (p.funcs.map encFn)])
@[reducible] def outH (b : Nat) : Nat × LObj := (b, .cells 27 [str [], int .i64 0, int .i64 0])
/-- The state's block at the beginning. -/
@[reducible] def runH (rb om sm am fm : Nat) (p : Pr) (inp : List Nat) (steps : Int) : Nat × LObj := (rb, .cells 72 [.list (p.vars.map str), .list (p.arrays.map encAr), .list (p.funcs.map encFn), .atom (.map (some om)), .list (inp.map u32), nilSlice, int .i64 0, int .i64 steps, .atom (.map (some sm)), .atom (.map (some am)), .atom (.map (some fm))])
structure NewRun where
 rb : Nat
 om : Nat
 db : Nat
 oc : Nat
 sm : Nat
 am : Nat
 fm : Nat
def startH (a : NewRun) (b3 b6 : Nat) (p : Pr) (inp : List Nat) (steps : Int) : Heap := [runH a.rb a.om a.sm a.am a.fm p inp steps, progH b3 p, (a.sm, .map (kvs []) 0), (a.am, .map (kvs []) 0), (a.fm, .map (kvs []) 0), (a.om, .map (kvs (opsKV a.db)) a.oc), divH a.db, outH b6]
theorem perm_new {s b r q : Nat × LObj} {X S : Heap} : List.Perm (s :: b :: r :: q :: (X ++ S)) (r :: q :: s :: (X ++ (S ++ [b]))) := by
 refine ((List.perm_append_comm (l₁ := [s, b]) (l₂ := [r, q])).append_right (X ++ S)).trans (List.Perm.cons _ (List.Perm.cons _ (List.Perm.cons _ ?_)))
 rw [← List.append_assoc]
 exact swap1
theorem perm_new2 {t b r q s : Nat × LObj} {X S : Heap} : List.Perm (t :: b :: r :: q :: s :: (X ++ S)) (r :: q :: s :: t :: (X ++ (S ++ [b]))) := by
 refine ((List.perm_append_comm (l₁ := [t, b]) (l₂ := [r, q, s])).append_right (X ++ S)).trans (List.Perm.cons _ (List.Perm.cons _ (List.Perm.cons _ (List.Perm.cons _ ?_))))
 rw [← List.append_assoc]
 exact swap1
theorem perm_new3 {t b d r q s : Nat × LObj} {X S : Heap} : List.Perm (t :: b :: d :: r :: q :: s :: (X ++ S)) ((r :: q :: s :: t :: (X ++ (S ++ [b]))) ++ [d]) :=
 (List.Perm.cons t (List.Perm.cons b (swap1 (x := d) (H := r :: q :: s :: (X ++ S))))).trans (perm_new2.append_right [d])
theorem perm_main {r q s a f o d u : Nat × LObj} {S A : Heap} : List.Perm (r :: q :: s :: a :: f :: (([o, d, u] ++ S) ++ A)) (([r, s, a, f, o, d] ++ (S ++ A)) ++ [q, u]) := by
 refine List.Perm.cons r ?_
 have h1 : List.Perm (q :: s :: a :: f :: o :: d :: u :: (S ++ A)) (q :: u :: s :: a :: f :: o :: d :: (S ++ A)) :=
  List.Perm.cons q ((List.perm_append_comm (l₁ := [s, a, f, o, d]) (l₂ := [u])).append_right (S ++ A))
 exact h1.trans swap2
def scH0 (sb : List (List UInt8 × Nat)) : Heap := sb.map fun q => (q.2, LObj.cells 43 [u32 0])
def arH0 (ab : List (List UInt8 × Nat × Nat)) : Heap := ab.map fun q => (q.2.1, LObj.cells 43 (List.replicate q.2.2 (u32 0)))
theorem arH_start {p : Pr} (hnd : (p.arrays.map (·.name)).Nodup) {ab : List (List UInt8 × Nat × Nat)} (hab : ab.map (fun q => (q.1, q.2.2)) = p.arrays.map (fun a => (a.name, a.size))) (inp : List Nat) (lim : Nat) : arH ab (startI p inp lim) = arH0 ab ∧ ∀ q ∈ ab, ((startI p inp lim).ar q.1).length = q.2.2 := by
 have key : ∀ q ∈ ab, (startI p inp lim).ar q.1 = List.replicate q.2.2 0 := fun q hq => by
  have h1 : (q.1, q.2.2) ∈ p.arrays.map (fun a => (a.name, a.size)) := by rw [← hab]; exact List.mem_map.2 ⟨q, hq, rfl⟩
  obtain ⟨a, ha, he⟩ := List.mem_map.1 h1
  injection he with e1 e2
  show (match p.arrays.find? fun a => decide (a.name = q.1) with
   | some a => List.replicate a.size 0
   | none => []) = _
  cases hf : p.arrays.find? fun a => decide (a.name = q.1) with
  | none =>
   have := List.find?_eq_none.1 hf a ha
   simp [e1] at this
  | some a2 =>
   have h2 : a2.name = q.1 := by simpa using List.find?_some hf
   have h3 : a2 = a := by
    have hm2 := List.mem_of_find?_eq_some hf
    clear hf h1 hab
    have : ∀ (L : List Ar), (L.map (·.name)).Nodup → ∀ {x y : Ar}, x ∈ L → y ∈ L → x.name = y.name → x = y := fun L => by
     induction L with
     | nil => intro _ x y hx; cases hx
     | cons z L ih =>
      intro hn x y hx hy he
      rw [List.map_cons, List.nodup_cons] at hn
      rcases List.mem_cons.1 hx with hx1 | hx1
      ·rcases List.mem_cons.1 hy with hy1 | hy1
       ·rw [hx1, hy1]
       ·exact absurd (by rw [← hx1, he]; exact List.mem_map_of_mem (f := Ar.name) hy1) hn.1
      ·rcases List.mem_cons.1 hy with hy1 | hy1
       ·exact absurd (by rw [← hy1, ← he]; exact List.mem_map_of_mem (f := Ar.name) hx1) hn.1
       ·exact ih hn.2 hx1 hy1 he
    exact this p.arrays hnd hm2 ha (h2.trans e1.symm)
   simp only [h3, e2]
 refine ⟨List.map_congr_left fun q hq => ?_, fun q hq => by rw [key q hq, List.length_replicate]⟩
 rw [key q hq, List.map_replicate]
theorem endI_eq {A : Type} (lim : Nat) (r : IR A) : endI lim r = ⟨r.st.out, irErr r, lim - r.st.left⟩ := by cases r <;> rfl
theorem lz {C : Ctx} {n : Nat} {ops : Array Oper} {Q : Post} {HF H : Heap} {fuel : Nat} {listed : Array Bool} {e : Env} {i : Nat} {dst : Option Nat} {op : Op} {ty : TypeId} {pos : String} {aft : Array Edge} (hi : ops[i]? = some ⟨dst, op, ty, pos, aft, none⟩) (hd : dstOk n dst)
  (h : LStep C ⟨dst, op, ty, pos, aft, none⟩ e [] (fun lv H' => LLate C n ops Q HF fuel (listed.setIfInBounds i true) (e.put dst lv) (H' ++ H)) (fun ch H' => ∀ e', e'.ds = e.ds → Q (.panic ch) e' (H' ++ H)))
  (hHF : HSub HF H := by first | exact HSub.pick Pick.here (HSub.nil _) | exact HSub.pick (Pick.there Pick.here) (HSub.nil _) | exact HSub.pick (Pick.there (Pick.there (Pick.here))) (HSub.nil _) | exact HSub.pick (Pick.there (Pick.there (Pick.there (Pick.here)))) (HSub.nil _) | exact HSub.pick (Pick.there (Pick.there (Pick.there (Pick.there (Pick.here))))) (HSub.nil _) | exact HSub.pick (Pick.there (Pick.there (Pick.there (Pick.there (Pick.there (Pick.here)))))) (HSub.nil _) | exact HSub.pick (Pick.there (Pick.there (Pick.there (Pick.there (Pick.there (Pick.there (Pick.here))))))) (HSub.nil _) | exact HSub.pick (Pick.there (Pick.there (Pick.there (Pick.there (Pick.there (Pick.there (Pick.there (Pick.here)))))))) (HSub.nil _) | exact HSub.pick (Pick.there (Pick.there (Pick.there (Pick.there (Pick.there (Pick.there (Pick.there (Pick.there (Pick.here))))))))) (HSub.nil _)) : LLateOp C n ops Q HF fuel listed e H i := LLateOp.step hi (.inl rfl) hd (List.Perm.refl _) hHF h
theorem hz {X H : Heap} (h : HSub X H := by
 repeat first
  | exact HSub.nil _
  | refine HSub.pick (by first | exact Pick.here | exact Pick.there Pick.here | exact Pick.there (Pick.there (Pick.here)) | exact Pick.there (Pick.there (Pick.there (Pick.here))) | exact Pick.there (Pick.there (Pick.there (Pick.there (Pick.here)))) | exact Pick.there (Pick.there (Pick.there (Pick.there (Pick.there (Pick.here))))) | exact Pick.there (Pick.there (Pick.there (Pick.there (Pick.there (Pick.there (Pick.here)))))) | exact Pick.there (Pick.there (Pick.there (Pick.there (Pick.there (Pick.there (Pick.there (Pick.here))))))) | exact Pick.there (Pick.there (Pick.there (Pick.there (Pick.there (Pick.there (Pick.there (Pick.there (Pick.here))))))))) ?_) : HSub X H := h
attribute [local irreducible] LOps LCode LStep LCalls Go.GL.Pure QThen QBlock RetPost LQ LAny LLate LLateOp LS
section
variable {B0 : Nat} {w0 : World}
theorem run_spec {p : Pr} (hsm : SmP p) (hnum : ∀ f ∈ p.funcs, numSs f.body) (hchk : LCalls (KC B0 w0) 25 [encPr p] [] (fun r H => H = [] ∧ ∃ nm, r = .ret (.tuple [str nm, int .i64 (checkPr p)]))) {inp : List Nat} (hin : ∀ v ∈ inp, Lt v) (steps : Int) :
  LCalls (KC B0 w0) 16 [encPr p, .list (inp.map u32), int .i64 steps] [] (Ret (encO (runQ p inp steps))) := by
 refine LCalls.intro Tryz.func16 rfl (n := 101) rfl rfl rfl ?_
 repeat first | refine LCode.seq ?_ | refine LCode.region ?_
 refine LOps.step (S.box rfl fun b3 => ?_) rfl
 refine LOps.step (S.alloc fun b6 => ?_) rfl
 repeat first | refine LOps.nil ?_ | refine LCode.seq ?_ | refine LCode.region ?_ | refine QThen.normal ?_ | refine LOps.pure (Pure.ldHAgg (cs' := [_, _, _]) rfl (List.Mem.tail _ (List.Mem.head _)) rfl rfl) rfl ?_
 refine LOps.step (S.callH (H1 := []) (F := [_, _]) [_] rfl (List.Perm.refl _) hchk ?_ (by rintro ch H' ⟨_, nm, h⟩; cases h)) rfl
 rintro lv H' ⟨rfl, nm, h⟩
 cases h
 repeat first | refine LOps.nil ?_ | refine LCode.seq ?_ | refine LCode.region ?_ | refine QThen.normal ?_ | refine LOps.pure (Pure.mv (lv := .tuple _) rfl) rfl ?_ | refine LOps.pure (Pure.extract (c := .atom _) rfl rfl) rfl ?_ | refine LOps.pure (Pure.as (lv := .atom _) rfl) rfl ?_ | refine LOps.pure (Pure.mv (lv := .atom _) rfl) rfl ?_ | refine LOps.pure (Pure.neq rfl rfl) rfl ?_
 by_cases hc0 : checkPr p = 0
 rotate_left
 ·refine LCode.cond rfl (fun hc => ?_) (fun hc => ?_)
  ·repeat first | refine LOps.nil ?_ | refine LCode.seq ?_ | refine LCode.region ?_ | refine LCode.ret ?_ | refine QThen.normal ?_ | refine QThen.ret ?_ | refine LOps.pure (Pure.bld _ (cs := [_, _, _]) rfl) rfl ?_ | refine LOps.step (S.store (cs' := [_, _, _]) rfl Pick.here rfl rfl rfl rfl rfl ?_) rfl
   exact retRet rfl (AllRes.cons (ResIs.cellAgg rfl (List.Mem.head _) rfl (LV.Sub.refl _)) AllRes.nil) (by unfold runQ; rw [if_neg hc0]; rfl)
  ·have h2 : (!decide (checkPr p = 0)) = false := hc
   simp at h2
   exact absurd h2 hc0
 refine LCode.cond rfl (fun hc => ?_) (fun _ => ?_)
 ·have h2 : (!decide (checkPr p = 0)) = true := hc
  simp [hc0] at h2
 have hq : runQ p inp steps = limitI p inp steps := by unfold runQ; rw [if_pos hc0]
 rw [hq]
 unfold limitI
 repeat first | refine LOps.nil ?_ | refine LCode.seq ?_ | refine LCode.region ?_ | refine LCode.skip ?_ | refine LCode.block ?_ | refine QThen.normal ?_ | refine LOps.pure (Pure.as (lv := .atom _) rfl) rfl ?_ | refine LOps.pure (Pure.mv (lv := .atom _) rfl) rfl ?_ | refine LOps.pure (Pure.gtr rfl rfl) rfl ?_
 refine LCode.cond rfl (fun hc => ?_) (fun hc => ?_)
 ·have h1 : 100000000 < steps := of_decide_eq_true hc
  rw [if_pos h1]
  repeat first | refine LOps.nil ?_ | refine LCode.seq ?_ | refine LCode.region ?_ | refine LCode.ret ?_ | refine QThen.normal ?_ | refine QThen.ret ?_ | refine QBlock.ret ?_ | refine LOps.pure (Pure.bld _ (cs := [_, _, _]) rfl) rfl ?_ | refine LOps.step (S.store (cs' := [_, _, _]) rfl Pick.here rfl rfl rfl rfl rfl ?_) rfl
  exact retRet rfl (AllRes.cons (ResIs.cellAgg rfl (List.Mem.head _) rfl (LV.Sub.refl _)) AllRes.nil) rfl
 have h1 : ¬ 100000000 < steps := of_decide_eq_false hc
 rw [if_neg h1]
 repeat first | refine LOps.nil ?_ | refine LCode.seq ?_ | refine LCode.region ?_ | refine QThen.normal ?_ | refine LOps.pure (Pure.as (lv := .atom _) rfl) rfl ?_ | refine LOps.pure (Pure.mv (lv := .atom _) rfl) rfl ?_ | refine LOps.pure (Pure.leq rfl rfl) rfl ?_
 refine LCode.cond rfl (fun hc => ?_) (fun hc => ?_)
 ·have h2 : steps ≤ 0 := of_decide_eq_true hc
  rw [if_pos h2]
  repeat first | refine LOps.nil ?_ | refine LCode.seq ?_ | refine LCode.region ?_ | refine LCode.ret ?_ | refine QThen.normal ?_ | refine QThen.ret ?_ | refine QBlock.ret ?_ | refine LOps.pure (Pure.bld _ (cs := [_, _, _]) rfl) rfl ?_ | refine LOps.step (S.store (cs' := [_, _, _]) rfl Pick.here rfl rfl rfl rfl rfl ?_) rfl
  exact retRet rfl (AllRes.cons (ResIs.cellAgg rfl (List.Mem.head _) rfl (LV.Sub.refl _)) AllRes.nil) rfl
 have h2 : ¬ steps ≤ 0 := of_decide_eq_false hc
 rw [if_neg h2]
 repeat first | refine LCode.skip ?_ | refine QThen.normal ?_ | refine QBlock.normal ?_
 refine LCode.seq ?_
 refine LCode.midC (A := NewRun) (fun a => [(3, ptr b3 0), (6, ptr b6 0), (9, ptr a.rb 0)]) (fun a => startH a b3 b6 p inp steps) (fun _ => True) ?_ (fun a _ j hj => ?_)
 ·refine LCode.draw (m := 10) rfl [progH b3 p] ?_
  refine LAny.tk 0 rfl rfl (Pure.ldHAgg (cs' := [_, _, _]) rfl (List.Mem.head _) rfl rfl) ?_
  refine LAny.tk 2 rfl rfl (Pure.mv (lv := .list _) rfl) ?_
  refine LAny.tk 3 rfl rfl (Pure.mv (lv := .atom _) rfl) ?_
  refine LAny.late ?_ (HSub.pick (Pick.there Pick.here) (HSub.nil _))
  refine LLate.four (i := 1) (j := 4) (k := 5) (l := 6) (by kernel_rfl) ?_ ?_ ?_ ?_
  ·refine lz rfl rfl (LStep.call (args := []) operators_spec ?_ (by rintro ch H' ⟨_, _, _, h, _⟩; cases h))
   rintro lv H' ⟨om, db, oc, h, rfl⟩
   cases h
   refine LLate.three (i := 4) (j := 5) (k := 6) (by kernel_rfl) ?_ ?_ ?_
   ·refine lz rfl rfl (S.kvNew fun sm => ?_)
    refine LLate.two (i := 5) (j := 6) (by kernel_rfl) ?_ ?_
    ·refine lz rfl rfl (S.kvNew fun am => ?_)
     refine LLate.one (i := 6) (by kernel_rfl) ?_
     refine lz rfl rfl (S.kvNew fun fm => ?_)
     refine LLate.one (i := 7) (by kernel_rfl) ?_
     refine LLateOp.pureH rfl rfl (Pure.bld _ (cs := [_, _, _, _, _, _, _, _, _, _, _]) rfl) ?_
     refine LLate.one (i := 8) (by kernel_rfl) ?_
     refine lz rfl rfl (S.box rfl fun rb => ?_)
     refine LLate.one (i := 9) (by kernel_rfl) ?_
     refine LLateOp.pureH rfl rfl (Pure.as (lv := .atom _) rfl) ?_
     refine LLate.done (by kernel_rfl) ?_
     refine QThen.normal ?_
     refine ⟨⟨rb, om, db, oc, sm, am, fm⟩, trivial, ⟨rfl, rfl, rfl, trivial⟩, ?_, rfl⟩
     exact hz
    ·refine lz rfl rfl (S.kvNew fun fm => ?_)
     refine LLate.one (i := 5) (by kernel_rfl) ?_
     refine lz rfl rfl (S.kvNew fun am => ?_)
     refine LLate.one (i := 7) (by kernel_rfl) ?_
     refine LLateOp.pureH rfl rfl (Pure.bld _ (cs := [_, _, _, _, _, _, _, _, _, _, _]) rfl) ?_
     refine LLate.one (i := 8) (by kernel_rfl) ?_
     refine lz rfl rfl (S.box rfl fun rb => ?_)
     refine LLate.one (i := 9) (by kernel_rfl) ?_
     refine LLateOp.pureH rfl rfl (Pure.as (lv := .atom _) rfl) ?_
     refine LLate.done (by kernel_rfl) ?_
     refine QThen.normal ?_
     refine ⟨⟨rb, om, db, oc, sm, am, fm⟩, trivial, ⟨rfl, rfl, rfl, trivial⟩, ?_, rfl⟩
     exact hz
   ·refine lz rfl rfl (S.kvNew fun am => ?_)
    refine LLate.two (i := 4) (j := 6) (by kernel_rfl) ?_ ?_
    ·refine lz rfl rfl (S.kvNew fun sm => ?_)
     refine LLate.one (i := 6) (by kernel_rfl) ?_
     refine lz rfl rfl (S.kvNew fun fm => ?_)
     refine LLate.one (i := 7) (by kernel_rfl) ?_
     refine LLateOp.pureH rfl rfl (Pure.bld _ (cs := [_, _, _, _, _, _, _, _, _, _, _]) rfl) ?_
     refine LLate.one (i := 8) (by kernel_rfl) ?_
     refine lz rfl rfl (S.box rfl fun rb => ?_)
     refine LLate.one (i := 9) (by kernel_rfl) ?_
     refine LLateOp.pureH rfl rfl (Pure.as (lv := .atom _) rfl) ?_
     refine LLate.done (by kernel_rfl) ?_
     refine QThen.normal ?_
     refine ⟨⟨rb, om, db, oc, sm, am, fm⟩, trivial, ⟨rfl, rfl, rfl, trivial⟩, ?_, rfl⟩
     exact hz
    ·refine lz rfl rfl (S.kvNew fun fm => ?_)
     refine LLate.one (i := 4) (by kernel_rfl) ?_
     refine lz rfl rfl (S.kvNew fun sm => ?_)
     refine LLate.one (i := 7) (by kernel_rfl) ?_
     refine LLateOp.pureH rfl rfl (Pure.bld _ (cs := [_, _, _, _, _, _, _, _, _, _, _]) rfl) ?_
     refine LLate.one (i := 8) (by kernel_rfl) ?_
     refine lz rfl rfl (S.box rfl fun rb => ?_)
     refine LLate.one (i := 9) (by kernel_rfl) ?_
     refine LLateOp.pureH rfl rfl (Pure.as (lv := .atom _) rfl) ?_
     refine LLate.done (by kernel_rfl) ?_
     refine QThen.normal ?_
     refine ⟨⟨rb, om, db, oc, sm, am, fm⟩, trivial, ⟨rfl, rfl, rfl, trivial⟩, ?_, rfl⟩
     exact hz
   ·refine lz rfl rfl (S.kvNew fun fm => ?_)
    refine LLate.two (i := 4) (j := 5) (by kernel_rfl) ?_ ?_
    ·refine lz rfl rfl (S.kvNew fun sm => ?_)
     refine LLate.one (i := 5) (by kernel_rfl) ?_
     refine lz rfl rfl (S.kvNew fun am => ?_)
     refine LLate.one (i := 7) (by kernel_rfl) ?_
     refine LLateOp.pureH rfl rfl (Pure.bld _ (cs := [_, _, _, _, _, _, _, _, _, _, _]) rfl) ?_
     refine LLate.one (i := 8) (by kernel_rfl) ?_
     refine lz rfl rfl (S.box rfl fun rb => ?_)
     refine LLate.one (i := 9) (by kernel_rfl) ?_
     refine LLateOp.pureH rfl rfl (Pure.as (lv := .atom _) rfl) ?_
     refine LLate.done (by kernel_rfl) ?_
     refine QThen.normal ?_
     refine ⟨⟨rb, om, db, oc, sm, am, fm⟩, trivial, ⟨rfl, rfl, rfl, trivial⟩, ?_, rfl⟩
     exact hz
    ·refine lz rfl rfl (S.kvNew fun am => ?_)
     refine LLate.one (i := 4) (by kernel_rfl) ?_
     refine lz rfl rfl (S.kvNew fun sm => ?_)
     refine LLate.one (i := 7) (by kernel_rfl) ?_
     refine LLateOp.pureH rfl rfl (Pure.bld _ (cs := [_, _, _, _, _, _, _, _, _, _, _]) rfl) ?_
     refine LLate.one (i := 8) (by kernel_rfl) ?_
     refine lz rfl rfl (S.box rfl fun rb => ?_)
     refine LLate.one (i := 9) (by kernel_rfl) ?_
     refine LLateOp.pureH rfl rfl (Pure.as (lv := .atom _) rfl) ?_
     refine LLate.done (by kernel_rfl) ?_
     refine QThen.normal ?_
     refine ⟨⟨rb, om, db, oc, sm, am, fm⟩, trivial, ⟨rfl, rfl, rfl, trivial⟩, ?_, rfl⟩
     exact hz
  ·refine lz rfl rfl (S.kvNew fun sm => ?_)
   refine LLate.three (i := 1) (j := 5) (k := 6) (by kernel_rfl) ?_ ?_ ?_
   ·refine lz rfl rfl (LStep.call (args := []) operators_spec ?_ (by rintro ch H' ⟨_, _, _, h, _⟩; cases h))
    rintro lv H' ⟨om, db, oc, h, rfl⟩
    cases h
    refine LLate.two (i := 5) (j := 6) (by kernel_rfl) ?_ ?_
    ·refine lz rfl rfl (S.kvNew fun am => ?_)
     refine LLate.one (i := 6) (by kernel_rfl) ?_
     refine lz rfl rfl (S.kvNew fun fm => ?_)
     refine LLate.one (i := 7) (by kernel_rfl) ?_
     refine LLateOp.pureH rfl rfl (Pure.bld _ (cs := [_, _, _, _, _, _, _, _, _, _, _]) rfl) ?_
     refine LLate.one (i := 8) (by kernel_rfl) ?_
     refine lz rfl rfl (S.box rfl fun rb => ?_)
     refine LLate.one (i := 9) (by kernel_rfl) ?_
     refine LLateOp.pureH rfl rfl (Pure.as (lv := .atom _) rfl) ?_
     refine LLate.done (by kernel_rfl) ?_
     refine QThen.normal ?_
     refine ⟨⟨rb, om, db, oc, sm, am, fm⟩, trivial, ⟨rfl, rfl, rfl, trivial⟩, ?_, rfl⟩
     exact hz
    ·refine lz rfl rfl (S.kvNew fun fm => ?_)
     refine LLate.one (i := 5) (by kernel_rfl) ?_
     refine lz rfl rfl (S.kvNew fun am => ?_)
     refine LLate.one (i := 7) (by kernel_rfl) ?_
     refine LLateOp.pureH rfl rfl (Pure.bld _ (cs := [_, _, _, _, _, _, _, _, _, _, _]) rfl) ?_
     refine LLate.one (i := 8) (by kernel_rfl) ?_
     refine lz rfl rfl (S.box rfl fun rb => ?_)
     refine LLate.one (i := 9) (by kernel_rfl) ?_
     refine LLateOp.pureH rfl rfl (Pure.as (lv := .atom _) rfl) ?_
     refine LLate.done (by kernel_rfl) ?_
     refine QThen.normal ?_
     refine ⟨⟨rb, om, db, oc, sm, am, fm⟩, trivial, ⟨rfl, rfl, rfl, trivial⟩, ?_, rfl⟩
     exact hz
   ·refine lz rfl rfl (S.kvNew fun am => ?_)
    refine LLate.two (i := 1) (j := 6) (by kernel_rfl) ?_ ?_
    ·refine lz rfl rfl (LStep.call (args := []) operators_spec ?_ (by rintro ch H' ⟨_, _, _, h, _⟩; cases h))
     rintro lv H' ⟨om, db, oc, h, rfl⟩
     cases h
     refine LLate.one (i := 6) (by kernel_rfl) ?_
     refine lz rfl rfl (S.kvNew fun fm => ?_)
     refine LLate.one (i := 7) (by kernel_rfl) ?_
     refine LLateOp.pureH rfl rfl (Pure.bld _ (cs := [_, _, _, _, _, _, _, _, _, _, _]) rfl) ?_
     refine LLate.one (i := 8) (by kernel_rfl) ?_
     refine lz rfl rfl (S.box rfl fun rb => ?_)
     refine LLate.one (i := 9) (by kernel_rfl) ?_
     refine LLateOp.pureH rfl rfl (Pure.as (lv := .atom _) rfl) ?_
     refine LLate.done (by kernel_rfl) ?_
     refine QThen.normal ?_
     refine ⟨⟨rb, om, db, oc, sm, am, fm⟩, trivial, ⟨rfl, rfl, rfl, trivial⟩, ?_, rfl⟩
     exact hz
    ·refine lz rfl rfl (S.kvNew fun fm => ?_)
     refine LLate.one (i := 1) (by kernel_rfl) ?_
     refine lz rfl rfl (LStep.call (args := []) operators_spec ?_ (by rintro ch H' ⟨_, _, _, h, _⟩; cases h))
     rintro lv H' ⟨om, db, oc, h, rfl⟩
     cases h
     refine LLate.one (i := 7) (by kernel_rfl) ?_
     refine LLateOp.pureH rfl rfl (Pure.bld _ (cs := [_, _, _, _, _, _, _, _, _, _, _]) rfl) ?_
     refine LLate.one (i := 8) (by kernel_rfl) ?_
     refine lz rfl rfl (S.box rfl fun rb => ?_)
     refine LLate.one (i := 9) (by kernel_rfl) ?_
     refine LLateOp.pureH rfl rfl (Pure.as (lv := .atom _) rfl) ?_
     refine LLate.done (by kernel_rfl) ?_
     refine QThen.normal ?_
     refine ⟨⟨rb, om, db, oc, sm, am, fm⟩, trivial, ⟨rfl, rfl, rfl, trivial⟩, ?_, rfl⟩
     exact hz
   ·refine lz rfl rfl (S.kvNew fun fm => ?_)
    refine LLate.two (i := 1) (j := 5) (by kernel_rfl) ?_ ?_
    ·refine lz rfl rfl (LStep.call (args := []) operators_spec ?_ (by rintro ch H' ⟨_, _, _, h, _⟩; cases h))
     rintro lv H' ⟨om, db, oc, h, rfl⟩
     cases h
     refine LLate.one (i := 5) (by kernel_rfl) ?_
     refine lz rfl rfl (S.kvNew fun am => ?_)
     refine LLate.one (i := 7) (by kernel_rfl) ?_
     refine LLateOp.pureH rfl rfl (Pure.bld _ (cs := [_, _, _, _, _, _, _, _, _, _, _]) rfl) ?_
     refine LLate.one (i := 8) (by kernel_rfl) ?_
     refine lz rfl rfl (S.box rfl fun rb => ?_)
     refine LLate.one (i := 9) (by kernel_rfl) ?_
     refine LLateOp.pureH rfl rfl (Pure.as (lv := .atom _) rfl) ?_
     refine LLate.done (by kernel_rfl) ?_
     refine QThen.normal ?_
     refine ⟨⟨rb, om, db, oc, sm, am, fm⟩, trivial, ⟨rfl, rfl, rfl, trivial⟩, ?_, rfl⟩
     exact hz
    ·refine lz rfl rfl (S.kvNew fun am => ?_)
     refine LLate.one (i := 1) (by kernel_rfl) ?_
     refine lz rfl rfl (LStep.call (args := []) operators_spec ?_ (by rintro ch H' ⟨_, _, _, h, _⟩; cases h))
     rintro lv H' ⟨om, db, oc, h, rfl⟩
     cases h
     refine LLate.one (i := 7) (by kernel_rfl) ?_
     refine LLateOp.pureH rfl rfl (Pure.bld _ (cs := [_, _, _, _, _, _, _, _, _, _, _]) rfl) ?_
     refine LLate.one (i := 8) (by kernel_rfl) ?_
     refine lz rfl rfl (S.box rfl fun rb => ?_)
     refine LLate.one (i := 9) (by kernel_rfl) ?_
     refine LLateOp.pureH rfl rfl (Pure.as (lv := .atom _) rfl) ?_
     refine LLate.done (by kernel_rfl) ?_
     refine QThen.normal ?_
     refine ⟨⟨rb, om, db, oc, sm, am, fm⟩, trivial, ⟨rfl, rfl, rfl, trivial⟩, ?_, rfl⟩
     exact hz
  ·refine lz rfl rfl (S.kvNew fun am => ?_)
   refine LLate.three (i := 1) (j := 4) (k := 6) (by kernel_rfl) ?_ ?_ ?_
   ·refine lz rfl rfl (LStep.call (args := []) operators_spec ?_ (by rintro ch H' ⟨_, _, _, h, _⟩; cases h))
    rintro lv H' ⟨om, db, oc, h, rfl⟩
    cases h
    refine LLate.two (i := 4) (j := 6) (by kernel_rfl) ?_ ?_
    ·refine lz rfl rfl (S.kvNew fun sm => ?_)
     refine LLate.one (i := 6) (by kernel_rfl) ?_
     refine lz rfl rfl (S.kvNew fun fm => ?_)
     refine LLate.one (i := 7) (by kernel_rfl) ?_
     refine LLateOp.pureH rfl rfl (Pure.bld _ (cs := [_, _, _, _, _, _, _, _, _, _, _]) rfl) ?_
     refine LLate.one (i := 8) (by kernel_rfl) ?_
     refine lz rfl rfl (S.box rfl fun rb => ?_)
     refine LLate.one (i := 9) (by kernel_rfl) ?_
     refine LLateOp.pureH rfl rfl (Pure.as (lv := .atom _) rfl) ?_
     refine LLate.done (by kernel_rfl) ?_
     refine QThen.normal ?_
     refine ⟨⟨rb, om, db, oc, sm, am, fm⟩, trivial, ⟨rfl, rfl, rfl, trivial⟩, ?_, rfl⟩
     exact hz
    ·refine lz rfl rfl (S.kvNew fun fm => ?_)
     refine LLate.one (i := 4) (by kernel_rfl) ?_
     refine lz rfl rfl (S.kvNew fun sm => ?_)
     refine LLate.one (i := 7) (by kernel_rfl) ?_
     refine LLateOp.pureH rfl rfl (Pure.bld _ (cs := [_, _, _, _, _, _, _, _, _, _, _]) rfl) ?_
     refine LLate.one (i := 8) (by kernel_rfl) ?_
     refine lz rfl rfl (S.box rfl fun rb => ?_)
     refine LLate.one (i := 9) (by kernel_rfl) ?_
     refine LLateOp.pureH rfl rfl (Pure.as (lv := .atom _) rfl) ?_
     refine LLate.done (by kernel_rfl) ?_
     refine QThen.normal ?_
     refine ⟨⟨rb, om, db, oc, sm, am, fm⟩, trivial, ⟨rfl, rfl, rfl, trivial⟩, ?_, rfl⟩
     exact hz
   ·refine lz rfl rfl (S.kvNew fun sm => ?_)
    refine LLate.two (i := 1) (j := 6) (by kernel_rfl) ?_ ?_
    ·refine lz rfl rfl (LStep.call (args := []) operators_spec ?_ (by rintro ch H' ⟨_, _, _, h, _⟩; cases h))
     rintro lv H' ⟨om, db, oc, h, rfl⟩
     cases h
     refine LLate.one (i := 6) (by kernel_rfl) ?_
     refine lz rfl rfl (S.kvNew fun fm => ?_)
     refine LLate.one (i := 7) (by kernel_rfl) ?_
     refine LLateOp.pureH rfl rfl (Pure.bld _ (cs := [_, _, _, _, _, _, _, _, _, _, _]) rfl) ?_
     refine LLate.one (i := 8) (by kernel_rfl) ?_
     refine lz rfl rfl (S.box rfl fun rb => ?_)
     refine LLate.one (i := 9) (by kernel_rfl) ?_
     refine LLateOp.pureH rfl rfl (Pure.as (lv := .atom _) rfl) ?_
     refine LLate.done (by kernel_rfl) ?_
     refine QThen.normal ?_
     refine ⟨⟨rb, om, db, oc, sm, am, fm⟩, trivial, ⟨rfl, rfl, rfl, trivial⟩, ?_, rfl⟩
     exact hz
    ·refine lz rfl rfl (S.kvNew fun fm => ?_)
     refine LLate.one (i := 1) (by kernel_rfl) ?_
     refine lz rfl rfl (LStep.call (args := []) operators_spec ?_ (by rintro ch H' ⟨_, _, _, h, _⟩; cases h))
     rintro lv H' ⟨om, db, oc, h, rfl⟩
     cases h
     refine LLate.one (i := 7) (by kernel_rfl) ?_
     refine LLateOp.pureH rfl rfl (Pure.bld _ (cs := [_, _, _, _, _, _, _, _, _, _, _]) rfl) ?_
     refine LLate.one (i := 8) (by kernel_rfl) ?_
     refine lz rfl rfl (S.box rfl fun rb => ?_)
     refine LLate.one (i := 9) (by kernel_rfl) ?_
     refine LLateOp.pureH rfl rfl (Pure.as (lv := .atom _) rfl) ?_
     refine LLate.done (by kernel_rfl) ?_
     refine QThen.normal ?_
     refine ⟨⟨rb, om, db, oc, sm, am, fm⟩, trivial, ⟨rfl, rfl, rfl, trivial⟩, ?_, rfl⟩
     exact hz
   ·refine lz rfl rfl (S.kvNew fun fm => ?_)
    refine LLate.two (i := 1) (j := 4) (by kernel_rfl) ?_ ?_
    ·refine lz rfl rfl (LStep.call (args := []) operators_spec ?_ (by rintro ch H' ⟨_, _, _, h, _⟩; cases h))
     rintro lv H' ⟨om, db, oc, h, rfl⟩
     cases h
     refine LLate.one (i := 4) (by kernel_rfl) ?_
     refine lz rfl rfl (S.kvNew fun sm => ?_)
     refine LLate.one (i := 7) (by kernel_rfl) ?_
     refine LLateOp.pureH rfl rfl (Pure.bld _ (cs := [_, _, _, _, _, _, _, _, _, _, _]) rfl) ?_
     refine LLate.one (i := 8) (by kernel_rfl) ?_
     refine lz rfl rfl (S.box rfl fun rb => ?_)
     refine LLate.one (i := 9) (by kernel_rfl) ?_
     refine LLateOp.pureH rfl rfl (Pure.as (lv := .atom _) rfl) ?_
     refine LLate.done (by kernel_rfl) ?_
     refine QThen.normal ?_
     refine ⟨⟨rb, om, db, oc, sm, am, fm⟩, trivial, ⟨rfl, rfl, rfl, trivial⟩, ?_, rfl⟩
     exact hz
    ·refine lz rfl rfl (S.kvNew fun sm => ?_)
     refine LLate.one (i := 1) (by kernel_rfl) ?_
     refine lz rfl rfl (LStep.call (args := []) operators_spec ?_ (by rintro ch H' ⟨_, _, _, h, _⟩; cases h))
     rintro lv H' ⟨om, db, oc, h, rfl⟩
     cases h
     refine LLate.one (i := 7) (by kernel_rfl) ?_
     refine LLateOp.pureH rfl rfl (Pure.bld _ (cs := [_, _, _, _, _, _, _, _, _, _, _]) rfl) ?_
     refine LLate.one (i := 8) (by kernel_rfl) ?_
     refine lz rfl rfl (S.box rfl fun rb => ?_)
     refine LLate.one (i := 9) (by kernel_rfl) ?_
     refine LLateOp.pureH rfl rfl (Pure.as (lv := .atom _) rfl) ?_
     refine LLate.done (by kernel_rfl) ?_
     refine QThen.normal ?_
     refine ⟨⟨rb, om, db, oc, sm, am, fm⟩, trivial, ⟨rfl, rfl, rfl, trivial⟩, ?_, rfl⟩
     exact hz
  ·refine lz rfl rfl (S.kvNew fun fm => ?_)
   refine LLate.three (i := 1) (j := 4) (k := 5) (by kernel_rfl) ?_ ?_ ?_
   ·refine lz rfl rfl (LStep.call (args := []) operators_spec ?_ (by rintro ch H' ⟨_, _, _, h, _⟩; cases h))
    rintro lv H' ⟨om, db, oc, h, rfl⟩
    cases h
    refine LLate.two (i := 4) (j := 5) (by kernel_rfl) ?_ ?_
    ·refine lz rfl rfl (S.kvNew fun sm => ?_)
     refine LLate.one (i := 5) (by kernel_rfl) ?_
     refine lz rfl rfl (S.kvNew fun am => ?_)
     refine LLate.one (i := 7) (by kernel_rfl) ?_
     refine LLateOp.pureH rfl rfl (Pure.bld _ (cs := [_, _, _, _, _, _, _, _, _, _, _]) rfl) ?_
     refine LLate.one (i := 8) (by kernel_rfl) ?_
     refine lz rfl rfl (S.box rfl fun rb => ?_)
     refine LLate.one (i := 9) (by kernel_rfl) ?_
     refine LLateOp.pureH rfl rfl (Pure.as (lv := .atom _) rfl) ?_
     refine LLate.done (by kernel_rfl) ?_
     refine QThen.normal ?_
     refine ⟨⟨rb, om, db, oc, sm, am, fm⟩, trivial, ⟨rfl, rfl, rfl, trivial⟩, ?_, rfl⟩
     exact hz
    ·refine lz rfl rfl (S.kvNew fun am => ?_)
     refine LLate.one (i := 4) (by kernel_rfl) ?_
     refine lz rfl rfl (S.kvNew fun sm => ?_)
     refine LLate.one (i := 7) (by kernel_rfl) ?_
     refine LLateOp.pureH rfl rfl (Pure.bld _ (cs := [_, _, _, _, _, _, _, _, _, _, _]) rfl) ?_
     refine LLate.one (i := 8) (by kernel_rfl) ?_
     refine lz rfl rfl (S.box rfl fun rb => ?_)
     refine LLate.one (i := 9) (by kernel_rfl) ?_
     refine LLateOp.pureH rfl rfl (Pure.as (lv := .atom _) rfl) ?_
     refine LLate.done (by kernel_rfl) ?_
     refine QThen.normal ?_
     refine ⟨⟨rb, om, db, oc, sm, am, fm⟩, trivial, ⟨rfl, rfl, rfl, trivial⟩, ?_, rfl⟩
     exact hz
   ·refine lz rfl rfl (S.kvNew fun sm => ?_)
    refine LLate.two (i := 1) (j := 5) (by kernel_rfl) ?_ ?_
    ·refine lz rfl rfl (LStep.call (args := []) operators_spec ?_ (by rintro ch H' ⟨_, _, _, h, _⟩; cases h))
     rintro lv H' ⟨om, db, oc, h, rfl⟩
     cases h
     refine LLate.one (i := 5) (by kernel_rfl) ?_
     refine lz rfl rfl (S.kvNew fun am => ?_)
     refine LLate.one (i := 7) (by kernel_rfl) ?_
     refine LLateOp.pureH rfl rfl (Pure.bld _ (cs := [_, _, _, _, _, _, _, _, _, _, _]) rfl) ?_
     refine LLate.one (i := 8) (by kernel_rfl) ?_
     refine lz rfl rfl (S.box rfl fun rb => ?_)
     refine LLate.one (i := 9) (by kernel_rfl) ?_
     refine LLateOp.pureH rfl rfl (Pure.as (lv := .atom _) rfl) ?_
     refine LLate.done (by kernel_rfl) ?_
     refine QThen.normal ?_
     refine ⟨⟨rb, om, db, oc, sm, am, fm⟩, trivial, ⟨rfl, rfl, rfl, trivial⟩, ?_, rfl⟩
     exact hz
    ·refine lz rfl rfl (S.kvNew fun am => ?_)
     refine LLate.one (i := 1) (by kernel_rfl) ?_
     refine lz rfl rfl (LStep.call (args := []) operators_spec ?_ (by rintro ch H' ⟨_, _, _, h, _⟩; cases h))
     rintro lv H' ⟨om, db, oc, h, rfl⟩
     cases h
     refine LLate.one (i := 7) (by kernel_rfl) ?_
     refine LLateOp.pureH rfl rfl (Pure.bld _ (cs := [_, _, _, _, _, _, _, _, _, _, _]) rfl) ?_
     refine LLate.one (i := 8) (by kernel_rfl) ?_
     refine lz rfl rfl (S.box rfl fun rb => ?_)
     refine LLate.one (i := 9) (by kernel_rfl) ?_
     refine LLateOp.pureH rfl rfl (Pure.as (lv := .atom _) rfl) ?_
     refine LLate.done (by kernel_rfl) ?_
     refine QThen.normal ?_
     refine ⟨⟨rb, om, db, oc, sm, am, fm⟩, trivial, ⟨rfl, rfl, rfl, trivial⟩, ?_, rfl⟩
     exact hz
   ·refine lz rfl rfl (S.kvNew fun am => ?_)
    refine LLate.two (i := 1) (j := 4) (by kernel_rfl) ?_ ?_
    ·refine lz rfl rfl (LStep.call (args := []) operators_spec ?_ (by rintro ch H' ⟨_, _, _, h, _⟩; cases h))
     rintro lv H' ⟨om, db, oc, h, rfl⟩
     cases h
     refine LLate.one (i := 4) (by kernel_rfl) ?_
     refine lz rfl rfl (S.kvNew fun sm => ?_)
     refine LLate.one (i := 7) (by kernel_rfl) ?_
     refine LLateOp.pureH rfl rfl (Pure.bld _ (cs := [_, _, _, _, _, _, _, _, _, _, _]) rfl) ?_
     refine LLate.one (i := 8) (by kernel_rfl) ?_
     refine lz rfl rfl (S.box rfl fun rb => ?_)
     refine LLate.one (i := 9) (by kernel_rfl) ?_
     refine LLateOp.pureH rfl rfl (Pure.as (lv := .atom _) rfl) ?_
     refine LLate.done (by kernel_rfl) ?_
     refine QThen.normal ?_
     refine ⟨⟨rb, om, db, oc, sm, am, fm⟩, trivial, ⟨rfl, rfl, rfl, trivial⟩, ?_, rfl⟩
     exact hz
    ·refine lz rfl rfl (S.kvNew fun sm => ?_)
     refine LLate.one (i := 1) (by kernel_rfl) ?_
     refine lz rfl rfl (LStep.call (args := []) operators_spec ?_ (by rintro ch H' ⟨_, _, _, h, _⟩; cases h))
     rintro lv H' ⟨om, db, oc, h, rfl⟩
     cases h
     refine LLate.one (i := 7) (by kernel_rfl) ?_
     refine LLateOp.pureH rfl rfl (Pure.bld _ (cs := [_, _, _, _, _, _, _, _, _, _, _]) rfl) ?_
     refine LLate.one (i := 8) (by kernel_rfl) ?_
     refine lz rfl rfl (S.box rfl fun rb => ?_)
     refine LLate.one (i := 9) (by kernel_rfl) ?_
     refine LLateOp.pureH rfl rfl (Pure.as (lv := .atom _) rfl) ?_
     refine LLate.done (by kernel_rfl) ?_
     refine QThen.normal ?_
     refine ⟨⟨rb, om, db, oc, sm, am, fm⟩, trivial, ⟨rfl, rfl, rfl, trivial⟩, ?_, rfl⟩
     exact hz
 ·obtain ⟨rb, om, db, oc, sm, am, fm⟩ := a
  have hv := valid_of hc0
  have hshort := short_of hc0
  have hnd := hv.keys
  have hand : (p.arrays.map (·.name)).Nodup := (List.nodup_append.1 (List.nodup_append.1 (fresh_zero _ _ hv.names).1).1).2.1
  have hfnd : (p.funcs.map (·.name)).Nodup := (List.nodup_append.1 (fresh_zero _ _ hv.names).1).2.1
  have hvars6 : p.arrays.length ≤ 1000000 := hsm.arrays
  have hfun6 : p.funcs.length ≤ 1000000 := hsm.funcs
  have hsc8 := hv.few
  change LCode (KC B0 w0) 101 _ _ _ [runH rb om sm am fm p inp steps, progH b3 p, (sm, .map (kvs (scKV [])) 0), (am, .map (kvs []) 0), (fm, .map (kvs []) 0), (om, .map (kvs (opsKV db)) oc), divH db, outH b6]
  repeat first | refine LCode.seq ?_ | refine LCode.region ?_ | refine LOps.pure (Pure.ldHAgg (cs' := [_, _, _]) rfl (List.Mem.tail _ (List.Mem.head _)) rfl rfl) rfl ?_
  refine LOps.step (S.fn [_] rfl (Chk.scalars_spec hsm (own_short hc0)) ?_) rfl
  repeat first | refine LOps.nil ?_ | refine LCode.block ?_ | refine QThen.normal ?_ | refine LOps.pure (Pure.mv (lv := .atom _) rfl) rfl ?_ | refine LOps.pure (Pure.llen rfl) rfl ?_
  refine LCode.loopI (fun k ls H' => ∃ (pre l1 : List (List UInt8)) (sb : List (List UInt8 × Nat)) (ck : Nat), scalarsP p.vars p.funcs = pre ++ l1 ∧ k = l1.length ∧ sb.map (·.1) = pre ∧ ls = [(3, ptr b3 0), (6, ptr b6 0), (9, ptr rb 0), (43, .list ((scalarsP p.vars p.funcs).map str)), (44, int .i64 (((scalarsP p.vars p.funcs).map str).length : Int)), (45, int .i64 (pre.length : Int))] ∧
    H' = runH rb om sm am fm p inp steps :: progH b3 p :: (sm, .map (kvs (scKV sb)) ck) :: ([(am, .map (kvs []) 0), (fm, .map (kvs []) 0), (om, .map (kvs (opsKV db)) oc), divH db, outH b6] ++ scH0 sb))
   ⟨_, _, _, ⟨[], scalarsP p.vars p.funcs, [], 0, rfl, rfl, rfl, rfl, rfl⟩, ⟨rfl, rfl, rfl, rfl, rfl, rfl, trivial⟩, HSub.refl _⟩ ?_
  rintro k ls H' ⟨pre, l1, sb, ck, hLe, rfl, hsb, rfl, rfl⟩ j2 hj2
  have hb2 : pre.length ≤ 8000 := by
   rw [hLe, List.length_append] at hsc8
   omega
  repeat first | refine LOps.nil ?_ | refine LCode.seq ?_ | refine LCode.region ?_ | refine QThen.normal ?_ | refine LOps.pure (Pure.lss rfl rfl) rfl ?_
  refine LCode.cond rfl (fun hd => ?_) (fun hd => ?_)
  ·have hlen := of_decide_eq_true hd
   rw [List.length_map, hLe, List.length_append] at hlen
   obtain ⟨x, l2, rfl⟩ : ∃ a l2, l1 = a :: l2 := by
    cases l1 with
    | nil => simp at hlen
    | cons a l2 => exact ⟨a, l2, rfl⟩
   have hnew : x ∉ (scKV sb).map (·.1) := by
    have e : (scKV sb).map (·.1) = pre := by
     rw [← hsb]
     unfold scKV
     rw [List.map_map]
     rfl
    rw [e]
    rw [hLe] at hnd
    intro hm
    exact (List.nodup_append.1 hnd).2.2 x hm x (List.mem_cons_self ..) rfl
   repeat first | refine LCode.seq ?_ | refine LCode.region ?_ | refine LCode.skip ?_ | refine LCode.block ?_ | refine QThen.normal ?_
   refine LOps.pure (Pure.ixRef (el' := str x) (cs := [str x]) rfl rfl (by omega) (by rw [hLe]; exact get_mid str pre x l2) rfl rfl) rfl ?_
   repeat first | refine LOps.nil ?_ | refine LCode.region ?_ | refine QThen.normal ?_ | refine LOps.pure (Pure.as (lv := .atom _) rfl) rfl ?_ | refine LOps.pure (Pure.mv (lv := .atom _) rfl) rfl ?_ | refine LOps.pure (Pure.loadRef (c := .atom _) rfl rfl) rfl ?_ | refine LOps.pure (Pure.loadH (c := .atom _) rfl (List.Mem.head _) rfl) rfl ?_ | refine LOps.pure (Pure.nilCheckH rfl) rfl ?_ | refine LOps.pure (Pure.fieldH rfl) rfl ?_
   refine LOps.step (S.alloc fun b => ?_) rfl
   refine LOps.step (S.kvSet (k := x) rfl rfl rfl (Pick.there (Pick.there (Pick.there Pick.here))) fun ck2 => ?_) rfl
   rw [kv_new hnew]
   repeat first | refine LOps.nil ?_ | refine LCode.region ?_ | refine QThen.normal ?_ | refine QBlock.normal ?_ | refine LOps.pure (Pure.mv (lv := .atom _) rfl) rfl ?_ | refine LOps.pure (Pure.add rfl rfl (by omega)) rfl ?_
   exact ⟨l2.length, _, _, Nat.lt_succ_self _, ⟨pre ++ [x], l2, sb ++ [(x, b)], ck2, by rw [hLe]; simp, rfl, by rw [List.map_append, hsb]; rfl, rfl, rfl⟩, ⟨rfl, rfl, rfl, rfl, rfl, int_eq (by simp), trivial⟩, ⟨[], by
    rw [List.append_nil]
    have e1 : scKV (sb ++ [(x, b)]) = scKV sb ++ [(x, ptr b 0)] := by unfold scKV; rw [List.map_append]; rfl
    have e2 : scH0 (sb ++ [(x, b)]) = scH0 sb ++ [(b, LObj.cells 43 [u32 0])] := by unfold scH0; rw [List.map_append]; rfl
    rw [e1, e2]
    exact perm_new⟩, hj2⟩
  have hlen := of_decide_eq_false hd
  rw [List.length_map, hLe, List.length_append] at hlen
  obtain rfl : l1 = [] := by
   cases l1 with
   | nil => rfl
   | cons a l2 => simp at hlen; omega
  rw [List.append_nil] at hLe
  rw [← hLe] at hsb
  repeat first | refine LOps.nil ?_ | refine LCode.seq ?_ | refine LCode.region ?_ | refine LCode.exit ?_ | refine LCode.block ?_ | refine QThen.normal ?_ | refine QThen.exit ?_ | refine QBlock.hit ?_ | refine LOps.pure (Pure.mv (lv := .atom _) rfl) rfl ?_ | refine LOps.pure (Pure.llen rfl) rfl ?_ | refine LOps.pure (Pure.fieldH rfl) rfl ?_ | refine LOps.pure (Pure.loadH (c := .list _) rfl (List.Mem.tail _ (List.Mem.head _)) rfl) rfl ?_
  refine LCode.loopI (fun k ls H' => ∃ (pre l1 : List Ar) (ab : List (List UInt8 × Nat × Nat)) (ca : Nat), p.arrays = pre ++ l1 ∧ k = l1.length ∧ ab.map (fun q => (q.1, q.2.2)) = pre.map (fun a => (a.name, a.size)) ∧ ls = [(3, ptr b3 0), (6, ptr b6 0), (9, ptr rb 0), (57, .list (p.arrays.map encAr)), (58, int .i64 ((p.arrays.map encAr).length : Int)), (59, int .i64 (pre.length : Int))] ∧
    H' = runH rb om sm am fm p inp steps :: progH b3 p :: (sm, .map (kvs (scKV sb)) ck) :: (am, .map (kvs (arKV ab)) ca) :: (([(fm, .map (kvs []) 0), (om, .map (kvs (opsKV db)) oc), divH db, outH b6] ++ scH0 sb) ++ arH0 ab))
   ⟨_, _, _, ⟨[], p.arrays, [], 0, rfl, rfl, rfl, rfl, rfl⟩, ⟨rfl, rfl, rfl, rfl, rfl, rfl, trivial⟩, ⟨[], by
    rw [List.append_nil]
    refine List.Perm.cons _ (List.Perm.cons _ (List.Perm.cons _ (List.Perm.cons _ ?_)))
    show List.Perm _ (_ ++ ([] : Heap))
    rw [List.append_nil]
    exact List.Perm.refl _⟩⟩ ?_
  rintro k ls H' ⟨pre, l1, ab, ca, hLe, rfl, hab, rfl, rfl⟩ j3 hj3
  have hb2 : pre.length ≤ 1000000 := by
   rw [hLe, List.length_append] at hvars6
   omega
  repeat first | refine LOps.nil ?_ | refine LCode.seq ?_ | refine LCode.region ?_ | refine QThen.normal ?_ | refine LOps.pure (Pure.lss rfl rfl) rfl ?_
  refine LCode.cond rfl (fun hd => ?_) (fun hd => ?_)
  ·have hlen := of_decide_eq_true hd
   rw [List.length_map, hLe, List.length_append] at hlen
   obtain ⟨x, l2, rfl⟩ : ∃ a l2, l1 = a :: l2 := by
    cases l1 with
    | nil => simp at hlen
    | cons a l2 => exact ⟨a, l2, rfl⟩
   have hxs := hv.sizes x (by rw [hLe]; exact List.mem_append_right _ (List.mem_cons_self ..))
   have hnew : x.name ∉ (arKV ab).map (·.1) := by
    have e : (arKV ab).map (·.1) = pre.map (·.name) := by
     have h1 : (ab.map (fun q => (q.1, q.2.2))).map (·.1) = (pre.map (fun a => (a.name, a.size))).map (·.1) := by rw [hab]
     rw [List.map_map, List.map_map] at h1
     unfold arKV
     rw [List.map_map]
     exact h1
    rw [e]
    rw [hLe, List.map_append] at hand
    intro hm
    exact (List.nodup_append.1 hand).2.2 x.name hm x.name (List.mem_cons_self ..) rfl
   repeat first | refine LCode.seq ?_ | refine LCode.region ?_ | refine LCode.skip ?_ | refine LCode.block ?_ | refine QThen.normal ?_
   refine LOps.pure (Pure.ixRef (el' := encAr x) (cs := [_, _]) rfl rfl (by omega) (by rw [hLe]; exact get_mid encAr pre x l2) rfl rfl) rfl ?_
   repeat first | refine LOps.pure (Pure.ldRefAgg (cs' := [_, _]) rfl rfl rfl) rfl ?_
   refine LOps.step (S.alloc fun b13 => ?_) rfl
   repeat first | refine LOps.nil ?_ | refine QThen.normal ?_ | refine LOps.step (S.store (cs' := [_, _]) rfl Pick.here rfl rfl rfl rfl rfl ?_) rfl
   refine LCode.draw (m := 10) rfl [(b13, .cells 60 [str x.name, int .i64 (x.size : Int)]), runH rb om sm am fm p inp steps] ?_
   refine LAny.tk 0 rfl rfl (Pure.mv (lv := .atom _) rfl) ?_
   refine LAny.tk 1 rfl rfl (Pure.nilCheckH rfl) ?_
   refine LAny.tk 2 rfl rfl (Pure.fieldH rfl) ?_
   refine LAny.tk 3 rfl rfl (Pure.loadH (c := .atom _) rfl (List.Mem.tail _ (List.Mem.head _)) rfl) ?_
   refine LAny.tk 4 rfl rfl (Pure.fieldH rfl) ?_
   refine LAny.tk 5 rfl rfl (Pure.loadH (c := .atom _) rfl (List.Mem.head _) rfl) ?_
   refine LAny.tk 6 rfl rfl (Pure.fieldH rfl) ?_
   refine LAny.tk 7 rfl rfl (Pure.loadH (c := .atom _) rfl (List.Mem.head _) rfl) ?_
   refine LAny.late ?_ (HSub.pick Pick.here (HSub.pick Pick.here (HSub.nil _)))
   refine LLate.o 8 (LLateOp.step (H1 := []) rfl (.inl rfl) rfl (List.Perm.refl _) (HSub.pick Pick.here (HSub.pick Pick.here (HSub.nil _))) (S.makeRow (n := x.size) rfl rfl (by omega) (by omega) fun b => ?_))
   refine LLate.o 9 (LLateOp.step (H1 := [_]) rfl (.inl rfl) rfl (show Pick (am, .map (kvs (arKV ab)) ca) _ _ from Pick.there (Pick.there (Pick.there (Pick.there (Pick.there Pick.here))))) (HSub.drop (HSub.pick Pick.here (HSub.pick Pick.here (HSub.nil _)))) (S.kvSet (k := x.name) rfl rfl rfl Pick.here fun ca2 => ?_))
   rw [kv_new hnew]
   refine LLate.done (by kernel_rfl) ?_
   repeat first | refine LOps.nil ?_ | refine LCode.region ?_ | refine QThen.normal ?_ | refine QBlock.normal ?_ | refine LOps.pure (Pure.mv (lv := .atom _) rfl) rfl ?_ | refine LOps.pure (Pure.add rfl rfl (by omega)) rfl ?_
   exact ⟨l2.length, _, _, Nat.lt_succ_self _, ⟨pre ++ [x], l2, ab ++ [(x.name, b, x.size)], ca2, by rw [hLe]; simp, rfl, by rw [List.map_append, List.map_append, hab]; rfl, rfl, rfl⟩, ⟨rfl, rfl, rfl, rfl, rfl, int_eq (by simp), trivial⟩, ⟨[(b13, .cells 60 [str x.name, int .i64 (x.size : Int)])], by
    have e1 : arKV (ab ++ [(x.name, b, x.size)]) = arKV ab ++ [(x.name, rowV b x.size)] := by unfold arKV; rw [List.map_append]; rfl
    have e2 : arH0 (ab ++ [(x.name, b, x.size)]) = arH0 ab ++ [(b, LObj.cells 43 (List.replicate x.size (u32 0)))] := by unfold arH0; rw [List.map_append]; rfl
    rw [e1, e2]
    exact perm_new3⟩, hj3⟩
  have hlen := of_decide_eq_false hd
  rw [List.length_map, hLe, List.length_append] at hlen
  obtain rfl : l1 = [] := by
   cases l1 with
   | nil => rfl
   | cons a l2 => simp at hlen; omega
  rw [List.append_nil] at hLe
  rw [← hLe] at hab
  repeat first | refine LOps.nil ?_ | refine LCode.seq ?_ | refine LCode.region ?_ | refine LCode.exit ?_ | refine LCode.block ?_ | refine QThen.normal ?_ | refine QThen.exit ?_ | refine QBlock.hit ?_ | refine LOps.pure (Pure.mv (lv := .atom _) rfl) rfl ?_ | refine LOps.pure (Pure.llen rfl) rfl ?_ | refine LOps.pure (Pure.fieldH rfl) rfl ?_ | refine LOps.pure (Pure.loadH (c := .list _) rfl (List.Mem.tail _ (List.Mem.head _)) rfl) rfl ?_
  refine LCode.loopI (fun k ls H' => ∃ (pre l1 : List FnD) (cf : Nat), p.funcs = pre ++ l1 ∧ k = l1.length ∧ ls = [(3, ptr b3 0), (6, ptr b6 0), (9, ptr rb 0), (74, .list (p.funcs.map encFn)), (75, int .i64 ((p.funcs.map encFn).length : Int)), (76, int .i64 (pre.length : Int))] ∧
    H' = runH rb om sm am fm p inp steps :: progH b3 p :: (sm, .map (kvs (scKV sb)) ck) :: (am, .map (kvs (arKV ab)) ca) :: (fm, .map (kvs (fnKV pre)) cf) :: (([(om, .map (kvs (opsKV db)) oc), divH db, outH b6] ++ scH0 sb) ++ arH0 ab))
   ⟨_, _, _, ⟨[], p.funcs, 0, rfl, rfl, rfl, rfl⟩, ⟨rfl, rfl, rfl, rfl, rfl, rfl, trivial⟩, HSub.refl _⟩ ?_
  rintro k ls H' ⟨pre, l1, cf, hLe, rfl, rfl, rfl⟩ j4 hj4
  have hb2 : pre.length ≤ 1000000 := by
   rw [hLe, List.length_append] at hfun6
   omega
  repeat first | refine LOps.nil ?_ | refine LCode.seq ?_ | refine LCode.region ?_ | refine QThen.normal ?_ | refine LOps.pure (Pure.lss rfl rfl) rfl ?_
  refine LCode.cond rfl (fun hd => ?_) (fun hd => ?_)
  ·have hlen := of_decide_eq_true hd
   rw [List.length_map, hLe, List.length_append] at hlen
   obtain ⟨x, l2, rfl⟩ : ∃ a l2, l1 = a :: l2 := by
    cases l1 with
    | nil => simp at hlen
    | cons a l2 => exact ⟨a, l2, rfl⟩
   have hnew : x.name ∉ (fnKV pre).map (·.1) := by
    have e : (fnKV pre).map (·.1) = pre.map (·.name) := by
     unfold fnKV
     rw [List.map_map]
     rfl
    rw [e]
    rw [hLe, List.map_append] at hfnd
    intro hm
    exact (List.nodup_append.1 hfnd).2.2 x.name hm x.name (List.mem_cons_self ..) rfl
   repeat first | refine LCode.seq ?_ | refine LCode.region ?_ | refine LCode.skip ?_ | refine LCode.block ?_ | refine QThen.normal ?_
   refine LOps.pure (Pure.ixRef (el' := encFn x) (cs := [_, _, _, _]) rfl rfl (by omega) (by rw [hLe]; exact get_mid encFn pre x l2) rfl rfl) rfl ?_
   repeat first | refine LOps.pure (Pure.ldRefAgg (cs' := [_, _, _, _]) rfl rfl rfl) rfl ?_
   refine LOps.step (S.alloc fun b15 => ?_) rfl
   repeat first | refine LOps.nil ?_ | refine QThen.normal ?_ | refine LOps.step (S.store (cs' := [_, _, _, _]) rfl Pick.here rfl rfl rfl rfl rfl ?_) rfl
   refine LCode.tail 7 (by kernel_rfl) ?_
   repeat first | refine LS.pure (Pure.mv (lv := .atom _) rfl) rfl ?_ | refine LS.pure (Pure.loadH (c := .atom _) rfl (List.Mem.head _) rfl) rfl ?_ | refine LS.pure (Pure.loadH (c := .atom _) rfl (List.Mem.tail _ (List.Mem.head _)) rfl) rfl ?_ | refine LS.pure (Pure.nilCheckH rfl) rfl ?_ | refine LS.pure (Pure.fieldH rfl) rfl ?_ | refine LS.pure (Pure.ldHAgg (cs' := [_, _, _, _]) rfl (List.Mem.head _) rfl rfl) rfl ?_ | refine LS.nil ?_
   refine LOps.step (S.kvSet (k := x.name) (lv := encFn x) rfl rfl rfl (Pick.there (Pick.there (Pick.there (Pick.there (Pick.there Pick.here))))) fun cf2 => ?_) rfl
   rw [kv_new hnew]
   repeat first | refine LOps.nil ?_ | refine LCode.region ?_ | refine QThen.normal ?_ | refine QBlock.normal ?_ | refine LOps.pure (Pure.mv (lv := .atom _) rfl) rfl ?_ | refine LOps.pure (Pure.add rfl rfl (by omega)) rfl ?_
   exact ⟨l2.length, _, _, Nat.lt_succ_self _, ⟨pre ++ [x], l2, cf2, by rw [hLe]; simp, rfl, rfl, rfl⟩, ⟨rfl, rfl, rfl, rfl, rfl, int_eq (by simp), trivial⟩, ⟨[(b15, .cells 63 [str x.name, .list (x.params.map str), .list (x.locals.map str), .list (x.body.map encS)])], by
    have e1 : fnKV (pre ++ [x]) = fnKV pre ++ [(x.name, encFn x)] := by unfold fnKV; rw [List.map_append]; rfl
    rw [e1]
    exact ((List.perm_append_comm (l₁ := [_, _]) (l₂ := [_, _, _, _])).append_right _).trans (((List.Perm.refl [_, _, _, _, _]).append swap1).trans (List.Perm.refl _))⟩, hj4⟩
  have hlen := of_decide_eq_false hd
  rw [List.length_map, hLe, List.length_append] at hlen
  obtain rfl : l1 = [] := by
   cases l1 with
   | nil => rfl
   | cons a l2 => simp at hlen; omega
  rw [List.append_nil] at hLe
  subst hLe
  obtain ⟨lim, rfl⟩ : ∃ lim : Nat, steps = (lim : Int) := ⟨steps.toNat, by omega⟩
  have hlim : lim ≤ 100000000 := by omega
  rw [Int.toNat_natCast]
  obtain ⟨har, hal⟩ := arH_start hand hab inp lim
  have hC : CfgOk ⟨p, rb, db, om, sm, am, fm, oc, ck, ca, cf, sb, ab, lim⟩ := ⟨hv, hnum, hsb, by
   have h1 : (ab.map (fun q => (q.1, q.2.2))).map (·.1) = (p.arrays.map (fun a => (a.name, a.size))).map (·.1) := by rw [hab]
   rw [List.map_map, List.map_map] at h1
   exact h1, hsm, fun q hq => by
   have h1 : (q.1, q.2.2) ∈ p.arrays.map (fun a => (a.name, a.size)) := by rw [← hab]; exact List.mem_map.2 ⟨q, hq, rfl⟩
   obtain ⟨a, ha, he⟩ := List.mem_map.1 h1
   injection he with e1 e2
   rw [← e2]
   exact (hv.sizes a ha).2, hlim, hshort.1, hshort.2⟩
  generalize hcdef : (⟨p, rb, db, om, sm, am, fm, oc, ck, ca, cf, sb, ab, lim⟩ : Cfg) = c at hC
  have hcp : c.p = p := by rw [← hcdef]
  have hcl : c.lim = lim := by rw [← hcdef]
  have hcr : c.rb = rb := by rw [← hcdef]
  have hst : St c (startI p inp lim) (stH c (startI p inp lim) nilSlice []) := by
   refine ⟨?_, ?_, nilSlice, [], Acc.nil, rfl⟩
   ·rw [← hcdef]; exact hal
   ·rw [hcl]; exact Nat.le_refl _
  have hgood : Good c c.lim (startI p inp lim) := by
   rw [hcl]
   refine ⟨⟨fun k => by show Lt 0; unfold Lt; decide, fun x v hv => ?_, hin⟩, Nat.le_refl _, by rw [hcl]; show 0 + lim ≤ lim; omega⟩
   have h1 : v ∈ (match p.arrays.find? fun a => decide (a.name = x) with
    | some a => List.replicate a.size 0
    | none => []) := hv
   split at h1
   ·rw [(List.mem_replicate.1 h1).2]
    unfold Lt; decide
   ·cases h1
  have hmain := main_spec (B0 := B0) (w0 := w0) hC hgood hst
  rw [hcl, hcp, hcr] at hmain
  have ehd : hdH ⟨p, rb, db, om, sm, am, fm, oc, ck, ca, cf, sb, ab, lim⟩ (startI p inp lim) nilSlice = [runH rb om sm am fm p inp lim, (sm, .map (kvs (scKV sb)) ck), (am, .map (kvs (arKV ab)) ca), (fm, .map (kvs (fnKV p.funcs)) cf), (om, .map (kvs (opsKV db)) oc), divH db] := by
   have e0 : lim - (startI p inp lim).left = 0 := Nat.sub_self lim
   unfold hdH runC
   simp only [e0]
   rfl
  repeat first | refine LCode.seq ?_ | refine LCode.region ?_ | refine LCode.exit ?_ | refine QThen.normal ?_ | refine QThen.exit ?_ | refine QBlock.hit ?_ | refine LOps.pure (Pure.mv (lv := .atom _) rfl) rfl ?_
  refine LOps.perm (H' := stH c (startI p inp lim) nilSlice [] ++ [progH b3 p, outH b6]) (by
   rw [← hcdef, stH_eq]
   show List.Perm _ ((hdH _ _ _ ++ (scH sb (startI p inp lim) ++ (arH ab (startI p inp lim) ++ []))) ++ [progH b3 p, outH b6])
   rw [har, List.append_nil, ehd]
   exact perm_main) ?_
  refine LOps.step (S.callH (H1 := stH c (startI p inp lim) nilSlice []) (F := [progH b3 p, outH b6]) [_] rfl (List.Perm.refl _) hmain ?_ (by rintro ch H' ⟨_, h⟩; cases h)) rfl
  rintro lv H' ⟨hs2, h⟩
  cases h
  have hfin : runI p inp lim = ⟨(blkR (stI p lim (mainI p)) (mainI p).body (startI p inp lim)).st.out, irErr (blkR (stI p lim (mainI p)) (mainI p).body (startI p inp lim)), lim - (blkR (stI p lim (mainI p)) (mainI p).body (startI p inp lim)).st.left⟩ := by
   unfold runI
   exact endI_eq _ _
  rw [hfin]
  generalize blkR (stI p lim (mainI p)) (mainI p).body (startI p inp lim) = R at hs2 ⊢
  obtain ⟨_, hle, v, Ha, hacc, rfl⟩ := hs2
  refine LOps.perm (H' := outH b6 :: progH b3 p :: stH c R.st v Ha) ((List.perm_append_comm (l₂ := [_, _])).trans (List.Perm.swap _ _ _)) ?_
  repeat first | refine LOps.nil ?_ | refine LCode.seq ?_ | refine QThen.normal ?_ | refine LOps.pure (Pure.as (lv := .atom _) rfl) rfl ?_
  refine LCode.tail 11 (by kernel_rfl) ?_
  have hmem : (rb, LObj.cells 72 (runC c R.st v)) ∈ outH b6 :: progH b3 p :: stH c R.st v Ha := by
   rw [← hcr]
   exact List.Mem.tail _ (List.Mem.tail _ (List.Mem.head _))
  repeat first | refine LS.pure (Pure.mv (lv := .atom _) rfl) rfl ?_ | refine LS.pure (Pure.nilCheckH rfl) rfl ?_ | refine LS.pure (Pure.fieldH rfl) rfl ?_
  refine LS.pure (Pure.loadH (c := v) rfl hmem rfl) rfl ?_
  have hconv : ∀ (e : Env) (H : Heap) (dst : Option Nat) (ty : TypeId) (pos : String) (aft : Array Edge) (g : Option (Nat × Bool)) (x : Operand), e.ev x = v → GL.Pure (KC B0 w0) ⟨dst, .convert 42 9 x, ty, pos, aft, g⟩ e H (str R.st.out) := fun e H dst ty pos aft g x hx => by
   have he := hacc.elems
   by_cases h0 : R.st.out = []
   ·rw [h0] at he ⊢
    exact Pure.bytesStr0 (by rw [hx, he]; rfl)
   ·exact Pure.bytesStr (by rw [hx, he]; rfl) h0
  refine LS.pure (hconv _ _ _ _ _ _ _ _ rfl) rfl ?_
  repeat first | refine LS.pure (Pure.mv (lv := .atom _) rfl) rfl ?_ | refine LS.pure (Pure.nilCheckH rfl) rfl ?_ | refine LS.pure (Pure.fieldH rfl) rfl ?_
  refine LS.pure (Pure.loadH (c := int .i64 ((c.lim - R.st.left : Nat) : Int)) rfl hmem rfl) rfl ?_
  repeat first | refine LS.pure (Pure.bld _ (cs := [_, _, _]) rfl) rfl ?_ | refine LS.nil ?_
  repeat first | refine LOps.nil ?_ | refine LCode.ret ?_ | refine QThen.normal ?_ | refine LOps.step (S.store (cs' := [_, _, _]) rfl Pick.here rfl rfl rfl rfl rfl ?_) rfl
  refine retRet ((hj4.trans hj3).trans (hj2.trans hj)) (AllRes.cons (ResIs.cellAgg (k := 3) rfl (List.Mem.head _) rfl (LV.Sub.refl _)) AllRes.nil) ?_
  rw [hcl]
  rfl
end
end Go.Proofs.YtcbpcianefpniaaGreatDoor.Inp
namespace Go.Stele
mutual
def ndE : Ex → Nat
 | .mk op num name args => 1 + ndEs args
def ndEs : List Ex → Nat
 | [] => 0
 | x :: l => ndE x + ndEs l
end
mutual
def ndS : Sm → Nat
 | .mk kind name index value thn els => 1 + (ndEs index + ndEs value + ndSs thn + ndSs els)
def ndSs : List Sm → Nat
 | [] => 0
 | x :: l => ndS x + ndSs l
end
def ndF (f : FnD) : Nat := 1 + f.params.length + f.locals.length + ndSs f.body
def ndFs : List FnD → Nat
 | [] => 0
 | f :: l => ndF f + ndFs l
theorem ndE_pos (x : Ex) : 1 ≤ ndE x := by
 obtain ⟨op, num, name, args⟩ := x
 rw [ndE]
 omega
theorem ndS_pos (x : Sm) : 1 ≤ ndS x := by
 obtain ⟨k, n, i, v, t, e⟩ := x
 rw [ndS]
 omega
theorem ndEs_len : ∀ l : List Ex, l.length ≤ ndEs l
 | [] => Nat.le_refl _
 | x :: l => by
  have h1 := ndE_pos x
  have h2 := ndEs_len l
  rw [ndEs, List.length_cons]
  omega
theorem ndSs_len : ∀ l : List Sm, l.length ≤ ndSs l
 | [] => Nat.le_refl _
 | x :: l => by
  have h1 := ndS_pos x
  have h2 := ndSs_len l
  rw [ndSs, List.length_cons]
  omega
theorem ndFs_len : ∀ l : List FnD, l.length ≤ ndFs l
 | [] => Nat.le_refl _
 | x :: l => by
  have h2 := ndFs_len l
  rw [ndFs, List.length_cons]
  unfold ndF
  omega
theorem ndFs_mem : ∀ {l : List FnD} {f : FnD}, f ∈ l → ndF f ≤ ndFs l
 | g :: l, f, h => by
  rw [ndFs]
  rcases List.mem_cons.1 h with rfl | h
  ·omega
  ·have := ndFs_mem h
   omega
theorem ndEs_mem : ∀ {l : List Ex} {f : Ex}, f ∈ l → ndE f ≤ ndEs l
 | g :: l, f, h => by
  rw [ndEs]
  rcases List.mem_cons.1 h with rfl | h
  ·omega
  ·have := ndEs_mem h
   omega
mutual
theorem smE_of : ∀ x : Ex, ndE x ≤ 1000000 → smE x
 | .mk op num name args, h => by
  rw [ndE] at h
  have := ndEs_len args
  exact ⟨show args.length ≤ 1000000 by omega, smEs_of args (by omega)⟩
theorem smEs_of : ∀ l : List Ex, ndEs l ≤ 1000000 → smEs l
 | [], _ => trivial
 | x :: l, h => by
  rw [ndEs] at h
  exact ⟨smE_of x (by omega), smEs_of l (by omega)⟩
end
mutual
theorem smS_of : ∀ x : Sm, ndS x ≤ 1000000 → smS x
 | .mk k n i v t e, h => by
  rw [ndS] at h
  have h1 := ndEs_len i
  have h2 := ndEs_len v
  have h3 := ndSs_len t
  have h4 := ndSs_len e
  exact ⟨show i.length ≤ 1000000 by omega, show v.length ≤ 1000000 by omega, show t.length ≤ 1000000 by omega, show e.length ≤ 1000000 by omega, smEs_of i (by omega), smEs_of v (by omega), smSs_of t (by omega), smSs_of e (by omega)⟩
theorem smSs_of : ∀ l : List Sm, ndSs l ≤ 1000000 → smSs l
 | [], _ => trivial
 | x :: l, h => by
  rw [ndSs] at h
  exact ⟨smS_of x (by omega), smSs_of l (by omega)⟩
end
theorem smF_of {f : FnD} (h : ndF f ≤ 1000000) : SmF f := by
 unfold ndF at h
 have := ndSs_len f.body
 exact ⟨show f.params.length ≤ 1000000 by omega, show f.locals.length ≤ 1000000 by omega, show f.body.length ≤ 1000000 by omega, smSs_of _ (by omega)⟩
/-! ### Needs and depths -/
/-- What is known of functions is bounded. -/
def KnB (B D : Nat) (known : List FSum) : Prop := ∀ k ∈ known, k.need ≤ B ∧ k.params + 1 ≤ B ∧ k.depth ≤ D
theorem stair_le (B : Nat) (c : CEnv) : ∀ (l : List Ex) (i m : Nat), (∀ x ∈ l, needE c x ≤ 4 * ndE x + B) → stair i (needEs c l) m ≤ max m (4 * ndEs l + i + B)
 | [], i, m, _ => by rw [needEs, stair]; exact Nat.le_max_left _ _
 | x :: l, i, m, h => by
  rw [needEs, stair, ndEs]
  have h1 := h x (List.mem_cons_self ..)
  have h2 := stair_le B c l (i + 1) (max m (i + needE c x)) (fun y hy => h y (List.mem_cons_of_mem _ hy))
  have h3 := ndE_pos x
  omega
mutual
theorem needE_le (B D : Nat) (c : CEnv) (hB : KnB B D c.funcs) : ∀ x : Ex, needE c x ≤ 4 * ndE x + B
 | .mk op num name args => by
  rw [needE, ndE]
  have ha := needEs_le B D c hB args
  have h0 : (needEs c args).headD 0 ≤ 4 * ndEs args + B := by
   cases args with
   | nil => rw [needEs]; exact Nat.zero_le _
   | cons x l =>
    have := ha x (List.mem_cons_self ..)
    rw [needEs, ndEs]
    show needE c x ≤ _
    omega
  have h1 : (needEs c args).tail.headD 0 ≤ 4 * ndEs args + B := by
   cases args with
   | nil => rw [needEs]; exact Nat.zero_le _
   | cons x l =>
    cases l with
    | nil => rw [needEs, needEs]; exact Nat.zero_le _
    | cons y l =>
     have := ha y (List.mem_cons_of_mem _ (List.mem_cons_self ..))
     rw [needEs, needEs, ndEs, ndEs]
     show needE c y ≤ _
     omega
  have hc : callN c name (needEs c args) ≤ 4 * (1 + ndEs args) + B := by
   unfold callN
   split
   ·omega
   split
   ·omega
   ·unfold CEnv.fn
    split
    ·rename_i k hk
     have hkb := hB k (List.mem_of_find?_eq_some hk)
     have := stair_le B c args 0 (max (k.params + 1) k.need) ha
     omega
    ·omega
  unfold opN
  split
  ·omega
  split
  ·omega
  split
  ·exact hc
  split
  ·omega
  split
  ·omega
  split
  ·omega
  split
  ·omega
  split
  ·omega
  ·omega
theorem needEs_le (B D : Nat) (c : CEnv) (hB : KnB B D c.funcs) : ∀ (l : List Ex), ∀ x ∈ l, needE c x ≤ 4 * ndE x + B
 | [], x, h => (List.not_mem_nil h).elim
 | a :: l, x, h => by
  rcases List.mem_cons.1 h with h1 | h1
  ·rw [h1]
   exact needE_le B D c hB a
  ·exact needEs_le B D c hB l x h1
end
theorem callD_le {B D : Nat} {c : CEnv} (hB : KnB B D c.funcs) (op name : Nm) : callD c op name ≤ D + 1 := by
 unfold callD
 split
 ·unfold CEnv.fn
  split
  ·rename_i k hk
   have := hB k (List.mem_of_find?_eq_some hk)
   omega
  ·omega
 ·omega
mutual
theorem depE_le (B D : Nat) (c : CEnv) (hB : KnB B D c.funcs) : ∀ x : Ex, depE c x ≤ D + 1
 | .mk op num name args => by
  rw [depE]
  have h1 := depEs_le B D c hB args
  have h2 := callD_le hB op name
  omega
theorem depEs_le (B D : Nat) (c : CEnv) (hB : KnB B D c.funcs) : ∀ l : List Ex, depEs c l ≤ D + 1
 | [] => Nat.zero_le _
 | x :: l => by
  rw [depEs]
  have h1 := depE_le B D c hB x
  have h2 := depEs_le B D c hB l
  omega
end
theorem headNeed_le {B D : Nat} {c : CEnv} (hB : KnB B D c.funcs) (l : List Ex) : needE c (l.headD default) ≤ 4 * (ndEs l + 1) + B := by
 cases l with
 | nil =>
  have := needE_le B D c hB (default : Ex)
  have h1 : ndE (default : Ex) = 1 := by
   show ndE (.mk [] 0 [] []) = 1
   rw [ndE, ndEs]
  show needE c default ≤ _
  rw [ndEs]
  omega
 | cons x l =>
  have := needE_le B D c hB x
  show needE c x ≤ _
  rw [ndEs]
  omega
mutual
theorem needS_le (B D : Nat) (c : CEnv) (hB : KnB B D c.funcs) : ∀ x : Sm, needS c x ≤ 8 * ndS x + B
 | .mk k n i v t e => by
  rw [needS, ndS]
  have h1 := headNeed_le hB v
  have h2 := headNeed_le hB i
  have h3 := needSs_le B D c hB t
  have h4 := needSs_le B D c hB e
  split
  ·omega
  split
  ·omega
  split
  ·omega
  ·omega
theorem needSs_le (B D : Nat) (c : CEnv) (hB : KnB B D c.funcs) : ∀ l : List Sm, needSs c l ≤ 8 * ndSs l + B
 | [] => by rw [needSs]; exact Nat.zero_le _
 | x :: l => by
  rw [needSs, ndSs]
  have h1 := needS_le B D c hB x
  have h2 := needSs_le B D c hB l
  omega
end
mutual
theorem depS_le (B D : Nat) (c : CEnv) (hB : KnB B D c.funcs) : ∀ x : Sm, depS c x ≤ D + 1
 | .mk k n i v t e => by
  rw [depS]
  have h1 := depEs_le B D c hB v
  have h2 := depEs_le B D c hB i
  have h3 := depSs_le B D c hB t
  have h4 := depSs_le B D c hB e
  omega
theorem depSs_le (B D : Nat) (c : CEnv) (hB : KnB B D c.funcs) : ∀ l : List Sm, depSs c l ≤ D + 1
 | [] => by rw [depSs]; exact Nat.zero_le _
 | x :: l => by
  rw [depSs]
  have h1 := depS_le B D c hB x
  have h2 := depSs_le B D c hB l
  omega
end
/-- A function's summary is bounded. -/
theorem sumF_le {B D : Nat} {vars arrays later : List Nm} {known : List FSum} {f : FnD} (hB : KnB B D known) : (sumF vars arrays later known f).need ≤ 8 * ndF f + B ∧ (sumF vars arrays later known f).params + 1 ≤ 8 * ndF f + B ∧ (sumF vars arrays later known f).depth ≤ D + 1 := by
 have h1 := needSs_le B D (envF vars arrays later known f) hB f.body
 have h2 := depSs_le B D (envF vars arrays later known f) hB f.body
 unfold sumF ndF
 simp only
 omega
end Go.Stele
namespace Go.Proofs.YtcbpcianefpniaaGreatDoor.Chk
open Go.GL Go.RowKit Go.Stele
set_option maxRecDepth 100000
set_option maxHeartbeats 4000000
def vio (nm : List UInt8) (e : Int) : List PanicEntry := [{ v := .iface 98 (.agg #[.string ⟨nm.toArray⟩, .int .i64 e]), recovered := false }]
/-- The rest of a name is right. -/
def chkN : Nat → List UInt8 → Bool
 | _, [] => true
 | i, c :: r => (if i = 0 then isLetter c else isInner c) && chkN (i + 1) r
theorem chkN_inner : ∀ (r : List UInt8) (i : Nat), i ≠ 0 → chkN i r = r.all isInner
 | [], _, _ => rfl
 | c :: r, i, h => by rw [chkN, if_neg h, chkN_inner r (i + 1) (by omega)]; rfl
theorem isNm_eq {s : List UInt8} (h0 : s ≠ []) (h1 : s.length ≤ 24) (h2 : noName.contains s = false) : isNm s = chkN 0 s := by
 unfold isNm
 rw [decide_eq_true h1, h2]
 cases s with
 | nil => exact absurd rfl h0
 | cons c r =>
  rw [chkN, if_pos rfl, chkN_inner r 1 (by decide)]
  rfl
theorem noName_eq (s : List UInt8) : noName.contains s = (keywords.contains s || decide (s = [105, 110]) || decide (s = [111, 117, 116])) := by
 have h : noName.contains s = (keywords.contains s || (decide (s = [105, 110]) || decide (s = [111, 117, 116]))) := by
  unfold noName
  rw [Bool.eq_iff_iff]
  simp
 rw [h, Bool.or_assoc]
instance : TMap Tryz.prog 252 3 (.int .i64 0) (int .i64 0) := ⟨⟨9, by kernel_rfl, by kernel_rfl⟩, fun w => (Go.zero_of_info (P := Tryz.prog) (n := 1) (by kernel_rfl)).1 w, fun _ _ => rep_atom⟩
instance : TMap Tryz.prog 101 4 (.bool false) (bool false) := ⟨⟨9, by kernel_rfl, by kernel_rfl⟩, fun w => (Go.zero_of_info (P := Tryz.prog) (n := 1) (by kernel_rfl)).1 w, fun _ _ => rep_atom⟩
instance : TMap Tryz.prog 102 161 (.agg [.int .i64 0, .int .i64 0, .int .i64 0].toArray) (.agg ([.int .i64 0, .int .i64 0, .int .i64 0].map .atom)) := ⟨⟨9, by kernel_rfl, by kernel_rfl⟩, fun w => (Go.zero_of_info (P := Tryz.prog) (n := 3) (by kernel_rfl)).1 w, fun w L => rep_aggs w L _⟩
def opKV : KV := [([110, 117, 109], int .i64 0), ([118, 97, 114], int .i64 0), ([101, 108, 101, 109], int .i64 1), ([110, 101, 103], int .i64 1), ([110, 111, 116], int .i64 1), ([99, 97, 108, 108], int .i64 (-1)), ([124, 124], int .i64 2), ([38, 38], int .i64 2), ([61, 61], int .i64 2), ([33, 61], int .i64 2), ([60], int .i64 2), ([62], int .i64 2), ([60, 61], int .i64 2), ([62, 61], int .i64 2), ([94], int .i64 2), ([43], int .i64 2), ([45], int .i64 2), ([42], int .i64 2), ([47], int .i64 2), ([37], int .i64 2)]
theorem opKV_get (op : List UInt8) : GL.kvGet opKV op = if opnds op = -2 then none else some (int .i64 (opnds op)) := by
 have key : ∀ x ∈ [[110, 117, 109], [118, 97, 114], [101, 108, 101, 109], [110, 101, 103], [110, 111, 116], [99, 97, 108, 108], [124, 124], [38, 38], [61, 61], [33, 61], [60], [62], [60, 61], [62, 61], [94], [43], [45], [42], [47], [37]], GL.kvGet opKV x = if opnds x = -2 then none else some (int .i64 (opnds x)) := by
  intro x hx
  simp only [List.mem_cons, List.not_mem_nil, or_false] at hx
  rcases hx with rfl | rfl | rfl | rfl | rfl | rfl | rfl | rfl | rfl | rfl | rfl | rfl | rfl | rfl | rfl | rfl | rfl | rfl | rfl | rfl <;> rfl
 by_cases h : op ∈ [[110, 117, 109], [118, 97, 114], [101, 108, 101, 109], [110, 101, 103], [110, 111, 116], [99, 97, 108, 108], [124, 124], [38, 38], [61, 61], [33, 61], [60], [62], [60, 61], [62, 61], [94], [43], [45], [42], [47], [37]]
 ·exact key op h
 ·simp only [List.mem_cons, List.not_mem_nil, or_false, not_or] at h
  have h2 : opnds op = -2 := by
   obtain ⟨a1, a2, a3, a4, a5, a6, a7, a8, a9, a10, a11, a12, a13, a14, a15, a16, a17, a18, a19, a20⟩ := h
   unfold opnds
   rw [if_neg (fun h => h.elim a1 a2), if_neg (fun h => h.elim a3 (fun h => h.elim a4 a5)), if_neg (show ¬ op = nCall from a6), if_neg]
   unfold binOps
   simp only [List.mem_cons, List.not_mem_nil, or_false, not_or]
   exact ⟨a7, a8, a9, a10, a11, a12, a13, a14, a15, a16, a17, a18, a19, a20⟩
  rw [if_pos h2]
  obtain ⟨a1, a2, a3, a4, a5, a6, a7, a8, a9, a10, a11, a12, a13, a14, a15, a16, a17, a18, a19, a20⟩ := h
  unfold opKV
  simp only [GL.kvGet]
  rw [if_neg (Ne.symm a1), if_neg (Ne.symm a2), if_neg (Ne.symm a3), if_neg (Ne.symm a4), if_neg (Ne.symm a5), if_neg (Ne.symm a6), if_neg (Ne.symm a7), if_neg (Ne.symm a8), if_neg (Ne.symm a9), if_neg (Ne.symm a10), if_neg (Ne.symm a11), if_neg (Ne.symm a12), if_neg (Ne.symm a13), if_neg (Ne.symm a14), if_neg (Ne.symm a15), if_neg (Ne.symm a16), if_neg (Ne.symm a17), if_neg (Ne.symm a18), if_neg (Ne.symm a19), if_neg (Ne.symm a20)]
attribute [local irreducible] LOps LCode LStep LCalls Go.GL.Pure QThen QBlock RetPost LQ LAny LLate LLateOp LS
section
variable {B0 : Nat} {w0 : World} {H : Heap}
theorem require_spec (b : Bool) (nm : List UInt8) (e : Int) : LCalls (KC B0 w0) 94 [bool b, str nm, int .i64 e] H (fun r H' => H' = H ∧ r = if b = true then .ret (.tuple []) else .panic (vio nm e)) := by
 refine LCalls.intro Tryz.func94 rfl (n := 12) rfl rfl rfl ?_
 repeat first | refine LOps.nil ?_ | refine LCode.seq ?_ | refine LCode.region ?_ | refine QThen.normal ?_ | refine LOps.pure (Pure.mv (lv := .atom _) rfl) rfl ?_ | refine LOps.pure (Pure.not rfl) rfl ?_
 refine LCode.cond rfl (fun hc => ?_) (fun hc => ?_)
 ·have hb : b = false := by simpa using hc
  subst hb
  repeat first | refine LCode.region ?_ | refine LOps.pure (Pure.mv (lv := .atom _) rfl) rfl ?_ | refine LOps.pure (Pure.bld _ (cs := [_, _]) rfl) rfl ?_ | refine LOps.pure (Pure.makeInterfaceAgg (vs := [_, _]) rfl) rfl ?_
  refine LOps.step (LStep.panic rfl fun e' he' => ?_) rfl
  exact RetPost.panic (he'.trans rfl) (HSub.refl _) ⟨rfl, rfl⟩
 ·have hb : b = true := by simpa using hc
  subst hb
  repeat first | refine LCode.skip ?_
  exact RetPost.normal rfl AllRes.nil (HSub.refl _) ⟨rfl, rfl⟩
theorem operands_spec (op : List UInt8) : LCalls (KC B0 w0) 217 [str op] [] (Ret (int .i64 (opnds op))) := by
 refine LCalls.intro Tryz.func217 rfl (n := 15) rfl rfl rfl ?_
 repeat first | refine LOps.nil ?_ | refine LCode.seq ?_ | refine LCode.region ?_ | refine QThen.normal ?_ | refine LOps.pure (Pure.as (lv := .atom _) rfl) rfl ?_
 refine LOps.step (S.kvNew fun om => ?_) rfl
 refine LOps.step (S.kvInsE (m := opKV.take 0) (k := [110, 117, 109]) (lv := int .i64 (0)) (opKV.take 1) rfl rfl rfl Pick.here (by kernel_rfl) fun c0 => ?_) rfl
 refine LOps.step (S.kvInsE (m := opKV.take 1) (k := [118, 97, 114]) (lv := int .i64 (0)) (opKV.take 2) rfl rfl rfl Pick.here (by kernel_rfl) fun c1 => ?_) rfl
 refine LOps.step (S.kvInsE (m := opKV.take 2) (k := [101, 108, 101, 109]) (lv := int .i64 (1)) (opKV.take 3) rfl rfl rfl Pick.here (by kernel_rfl) fun c2 => ?_) rfl
 refine LOps.step (S.kvInsE (m := opKV.take 3) (k := [110, 101, 103]) (lv := int .i64 (1)) (opKV.take 4) rfl rfl rfl Pick.here (by kernel_rfl) fun c3 => ?_) rfl
 refine LOps.step (S.kvInsE (m := opKV.take 4) (k := [110, 111, 116]) (lv := int .i64 (1)) (opKV.take 5) rfl rfl rfl Pick.here (by kernel_rfl) fun c4 => ?_) rfl
 refine LOps.step (S.kvInsE (m := opKV.take 5) (k := [99, 97, 108, 108]) (lv := int .i64 (-1)) (opKV.take 6) rfl rfl rfl Pick.here (by kernel_rfl) fun c5 => ?_) rfl
 refine LOps.step (S.kvInsE (m := opKV.take 6) (k := [124, 124]) (lv := int .i64 (2)) (opKV.take 7) rfl rfl rfl Pick.here (by kernel_rfl) fun c6 => ?_) rfl
 refine LOps.step (S.kvInsE (m := opKV.take 7) (k := [38, 38]) (lv := int .i64 (2)) (opKV.take 8) rfl rfl rfl Pick.here (by kernel_rfl) fun c7 => ?_) rfl
 refine LOps.step (S.kvInsE (m := opKV.take 8) (k := [61, 61]) (lv := int .i64 (2)) (opKV.take 9) rfl rfl rfl Pick.here (by kernel_rfl) fun c8 => ?_) rfl
 refine LOps.step (S.kvInsE (m := opKV.take 9) (k := [33, 61]) (lv := int .i64 (2)) (opKV.take 10) rfl rfl rfl Pick.here (by kernel_rfl) fun c9 => ?_) rfl
 refine LOps.step (S.kvInsE (m := opKV.take 10) (k := [60]) (lv := int .i64 (2)) (opKV.take 11) rfl rfl rfl Pick.here (by kernel_rfl) fun c10 => ?_) rfl
 refine LOps.step (S.kvInsE (m := opKV.take 11) (k := [62]) (lv := int .i64 (2)) (opKV.take 12) rfl rfl rfl Pick.here (by kernel_rfl) fun c11 => ?_) rfl
 refine LOps.step (S.kvInsE (m := opKV.take 12) (k := [60, 61]) (lv := int .i64 (2)) (opKV.take 13) rfl rfl rfl Pick.here (by kernel_rfl) fun c12 => ?_) rfl
 refine LOps.step (S.kvInsE (m := opKV.take 13) (k := [62, 61]) (lv := int .i64 (2)) (opKV.take 14) rfl rfl rfl Pick.here (by kernel_rfl) fun c13 => ?_) rfl
 refine LOps.step (S.kvInsE (m := opKV.take 14) (k := [94]) (lv := int .i64 (2)) (opKV.take 15) rfl rfl rfl Pick.here (by kernel_rfl) fun c14 => ?_) rfl
 refine LOps.step (S.kvInsE (m := opKV.take 15) (k := [43]) (lv := int .i64 (2)) (opKV.take 16) rfl rfl rfl Pick.here (by kernel_rfl) fun c15 => ?_) rfl
 refine LOps.step (S.kvInsE (m := opKV.take 16) (k := [45]) (lv := int .i64 (2)) (opKV.take 17) rfl rfl rfl Pick.here (by kernel_rfl) fun c16 => ?_) rfl
 refine LOps.step (S.kvInsE (m := opKV.take 17) (k := [42]) (lv := int .i64 (2)) (opKV.take 18) rfl rfl rfl Pick.here (by kernel_rfl) fun c17 => ?_) rfl
 refine LOps.step (S.kvInsE (m := opKV.take 18) (k := [47]) (lv := int .i64 (2)) (opKV.take 19) rfl rfl rfl Pick.here (by kernel_rfl) fun c18 => ?_) rfl
 refine LOps.step (S.kvInsE (m := opKV.take 19) (k := [37]) (lv := int .i64 (2)) (opKV.take 20) rfl rfl rfl Pick.here (by kernel_rfl) fun c19 => ?_) rfl
 refine LOps.weak (H' := [(om, .map (kvs opKV) c19)]) (HSub.refl _) ?_
 repeat first | refine LOps.pure (Pure.mv (lv := .atom _) rfl) rfl ?_
 have hg := opKV_get op
 by_cases h0 : opnds op = -2
 ·rw [if_pos h0] at hg
  refine LOps.pure (Pure.kvMiss2 rfl rfl (List.Mem.head _) (show GL.kvGet opKV op = none from hg)) rfl ?_
  repeat first | refine LOps.nil ?_ | refine LCode.seq ?_ | refine LCode.region ?_ | refine QThen.normal ?_ | refine LOps.pure (Pure.as (lv := .atom _) rfl) rfl ?_ | refine LOps.pure (Pure.mv (lv := .atom _) rfl) rfl ?_ | refine LOps.pure (Pure.mv (lv := .tuple _) rfl) rfl ?_ | refine LOps.pure (Pure.extract (c := .atom _) rfl rfl) rfl ?_ | refine LOps.pure (Pure.not rfl) rfl ?_
  refine LCode.cond rfl (fun _ => ?_) (fun hc => by cases hc)
  repeat first | refine LOps.nil ?_ | refine LCode.seq ?_ | refine LCode.region ?_ | refine LCode.ret ?_ | refine QThen.normal ?_ | refine QThen.ret ?_ | refine LOps.pure (Pure.as (lv := .atom _) rfl) rfl ?_
  exact RetPost.ret rfl (AllRes.cons (ResIs.tmp (v := .atom _) rfl (LV.Sub.refl _)) AllRes.nil) (HSub.nil _) ⟨by rw [h0]; rfl, rfl⟩
 ·rw [if_neg h0] at hg
  refine LOps.pure (Pure.kvHit2 rfl rfl (List.Mem.head _) (show GL.kvGet opKV op = some (int .i64 (opnds op)) from hg)) rfl ?_
  repeat first | refine LOps.nil ?_ | refine LCode.seq ?_ | refine LCode.region ?_ | refine QThen.normal ?_ | refine LOps.pure (Pure.as (lv := .atom _) rfl) rfl ?_ | refine LOps.pure (Pure.mv (lv := .atom _) rfl) rfl ?_ | refine LOps.pure (Pure.mv (lv := .tuple _) rfl) rfl ?_ | refine LOps.pure (Pure.extract (c := .atom _) rfl rfl) rfl ?_ | refine LOps.pure (Pure.not rfl) rfl ?_
  refine LCode.cond rfl (fun hc => by cases hc) (fun _ => ?_)
  repeat first | refine LOps.nil ?_ | refine LCode.seq ?_ | refine LCode.region ?_ | refine LCode.skip ?_ | refine LCode.ret ?_ | refine QThen.normal ?_ | refine LOps.pure (Pure.as (lv := .atom _) rfl) rfl ?_ | refine LOps.pure (Pure.mv (lv := .atom _) rfl) rfl ?_
  exact RetPost.ret rfl (AllRes.cons (ResIs.tmp (v := .atom _) rfl (LV.Sub.refl _)) AllRes.nil) (HSub.nil _) ⟨rfl, rfl⟩
theorem isName_spec (s : List UInt8) : LCalls (KC B0 w0) 144 [str s] [] (Ret (bool (isNm s))) := by
 refine LCalls.intro Tryz.func144 rfl (n := 65) rfl rfl rfl ?_
 repeat first | refine LOps.nil ?_ | refine LCode.seq ?_ | refine LCode.region ?_ | refine QThen.normal ?_ | refine LOps.pure (Pure.as (lv := .atom _) rfl) rfl ?_ | refine LOps.pure (Pure.mv (lv := .atom _) rfl) rfl ?_ | refine LOps.pure (Pure.seq rfl rfl) rfl ?_
 have retF : ∀ (h : isNm s = false) {e : Env} {C : Ctx} {n : Nat}, e.ds = [] → e.s 2 = bool false → RetPost C n [ResultVar.tmp 2] (Ret (bool (isNm s))) .ret e [] := fun h {e C n} hd he => by
  rw [h]
  exact retRet hd (AllRes.cons (ResIs.tmp he (LV.Sub.refl _)) AllRes.nil) rfl
 refine LOps.bcase 7 rfl (fun h1 => ?_) (fun h1 => ?_)
 ·have h0 : s = [] := of_decide_eq_true h1
  repeat first | refine LOps.nil ?_ | refine QThen.normal ?_ | refine LOps.pure (Pure.mv (lv := .atom _) rfl) rfl ?_ | refine LOps.pure (Pure.pickT (lv := .atom _) rfl rfl) rfl ?_ | refine LOps.skip rfl rfl rfl rfl ?_
  refine LCode.cond rfl (fun _ => ?_) (fun hc => by cases hc)
  repeat first | refine LOps.nil ?_ | refine LCode.seq ?_ | refine LCode.region ?_ | refine LCode.ret ?_ | refine QThen.normal ?_ | refine QThen.ret ?_ | refine LOps.pure (Pure.as (lv := .atom _) rfl) rfl ?_
  exact retF (by rw [h0]; rfl) rfl rfl
 have h0 : s ≠ [] := of_decide_eq_false h1
 repeat first | refine LOps.pure (Pure.mv (lv := .atom _) rfl) rfl ?_ | refine LOps.pure (Pure.slen rfl) rfl ?_ | refine LOps.pure (Pure.gtr rfl rfl) rfl ?_ | refine LOps.pure (Pure.pickF (lv := .atom _) rfl rfl) rfl ?_ | refine LOps.want rfl rfl ?_
 refine LOps.bcase 12 rfl (fun h2 => ?_) (fun h2 => ?_)
 ·have hl : 24 < s.length := by
   have := of_decide_eq_true h2
   omega
  repeat first | refine LOps.nil ?_ | refine QThen.normal ?_ | refine LOps.pure (Pure.mv (lv := .atom _) rfl) rfl ?_ | refine LOps.pure (Pure.pickT (lv := .atom _) rfl rfl) rfl ?_ | refine LOps.skip rfl rfl rfl rfl ?_
  refine LCode.cond rfl (fun _ => ?_) (fun hc => by cases hc)
  repeat first | refine LOps.nil ?_ | refine LCode.seq ?_ | refine LCode.region ?_ | refine LCode.ret ?_ | refine QThen.normal ?_ | refine QThen.ret ?_ | refine LOps.pure (Pure.as (lv := .atom _) rfl) rfl ?_
  exact retF (by unfold isNm; rw [decide_eq_false (by omega)]; rfl) rfl rfl
 have hl : s.length ≤ 24 := by
  have := of_decide_eq_false h2
  omega
 repeat first | refine LOps.pure (Pure.mv (lv := .atom _) rfl) rfl ?_ | refine LOps.pure (Pure.seq rfl rfl) rfl ?_ | refine LOps.pure (Pure.pickF (lv := .atom _) rfl rfl) rfl ?_ | refine LOps.want rfl rfl ?_
 refine LOps.bcase 16 rfl (fun h3 => ?_) (fun h3 => ?_)
 ·have h4 : s = [105, 110] := of_decide_eq_true h3
  repeat first | refine LOps.nil ?_ | refine QThen.normal ?_ | refine LOps.pure (Pure.mv (lv := .atom _) rfl) rfl ?_ | refine LOps.pure (Pure.pickT (lv := .atom _) rfl rfl) rfl ?_ | refine LOps.skip rfl rfl rfl rfl ?_
  refine LCode.cond rfl (fun _ => ?_) (fun hc => by cases hc)
  repeat first | refine LOps.nil ?_ | refine LCode.seq ?_ | refine LCode.region ?_ | refine LCode.ret ?_ | refine QThen.normal ?_ | refine QThen.ret ?_ | refine LOps.pure (Pure.as (lv := .atom _) rfl) rfl ?_
  exact retF (by rw [h4]; rfl) rfl rfl
 repeat first | refine LOps.pure (Pure.mv (lv := .atom _) rfl) rfl ?_ | refine LOps.pure (Pure.seq rfl rfl) rfl ?_ | refine LOps.pure (Pure.pickF (lv := .atom _) rfl rfl) rfl ?_ | refine LOps.want rfl rfl ?_
 refine LOps.bcase 20 rfl (fun h5 => ?_) (fun h5 => ?_)
 ·have h4 : s = [111, 117, 116] := of_decide_eq_true h5
  repeat first | refine LOps.nil ?_ | refine QThen.normal ?_ | refine LOps.pure (Pure.pickT (lv := .atom _) rfl rfl) rfl ?_ | refine LOps.skip rfl rfl rfl rfl ?_
  refine LCode.cond rfl (fun _ => ?_) (fun hc => by cases hc)
  repeat first | refine LOps.nil ?_ | refine LCode.seq ?_ | refine LCode.region ?_ | refine LCode.ret ?_ | refine QThen.normal ?_ | refine QThen.ret ?_ | refine LOps.pure (Pure.as (lv := .atom _) rfl) rfl ?_
  exact retF (by rw [h4]; rfl) rfl rfl
 repeat first | refine LOps.want rfl rfl ?_
 refine LOps.step (S.fn [] rfl Keywords_spec ?_) rfl
 repeat first | refine LOps.pure (Pure.mv (lv := .atom _) rfl) rfl ?_ | refine LOps.want rfl rfl ?_
 refine LOps.step (S.fn [_, _] rfl (Contains_spec keywords s (by decide)) ?_) rfl
 repeat first | refine LOps.nil ?_ | refine QThen.normal ?_ | refine LOps.pure (Pure.pickF (lv := .atom _) rfl rfl) rfl ?_
 have hnn := noName_eq s
 rw [h3, h5, Bool.or_false, Bool.or_false] at hnn
 refine LCode.cond rfl (fun hk => ?_) (fun hk => ?_)
 ·have hk' : keywords.contains s = true := hk
  repeat first | refine LOps.nil ?_ | refine LCode.seq ?_ | refine LCode.region ?_ | refine LCode.ret ?_ | refine QThen.normal ?_ | refine QThen.ret ?_ | refine LOps.pure (Pure.as (lv := .atom _) rfl) rfl ?_
  exact retF (by
   unfold isNm
   rw [hnn, hk', Bool.not_true, Bool.and_false, Bool.false_and]) rfl rfl
 have hk' : keywords.contains s = false := hk
 rw [hk'] at hnn
 have heq := isNm_eq h0 hl hnn
 repeat first | refine LOps.nil ?_ | refine LCode.seq ?_ | refine LCode.region ?_ | refine LCode.skip ?_ | refine LCode.block ?_ | refine QThen.normal ?_ | refine LOps.pure (Pure.mv (lv := .atom _) rfl) rfl ?_ | refine LOps.pure (Pure.slen rfl) rfl ?_
 refine LCode.loopI (fun k ls H' => ∃ pre l1, s = pre ++ l1 ∧ k = l1.length ∧ ls = [(0, str s), (26, int .i64 (s.length : Int)), (27, int .i64 (pre.length : Int))] ∧ H' = [] ∧ isNm s = chkN pre.length l1)
  ⟨s.length, _, _, ⟨[], s, rfl, rfl, rfl, rfl, heq⟩, ⟨rfl, rfl, rfl, trivial⟩, HSub.refl _⟩ ?_
 rintro k ls H' ⟨pre, l1, hLe, rfl, rfl, rfl, hI⟩ j hj
 have hb2 : pre.length ≤ 24 := by
  rw [hLe, List.length_append] at hl
  omega
 repeat first | refine LOps.nil ?_ | refine LCode.seq ?_ | refine LCode.region ?_ | refine QThen.normal ?_ | refine LOps.pure (Pure.lss rfl rfl) rfl ?_
 refine LCode.cond rfl (fun hc => ?_) (fun hc => ?_)
 rotate_left
 ·have hlen := of_decide_eq_false hc
  rw [hLe, List.length_append] at hlen
  obtain rfl : l1 = [] := by
   cases l1 with
   | nil => rfl
   | cons a l2 => simp at hlen; omega
  repeat first | refine LOps.nil ?_ | refine LCode.seq ?_ | refine LCode.region ?_ | refine LCode.ret ?_ | refine LCode.exit ?_ | refine QThen.normal ?_ | refine QThen.exit ?_ | refine QBlock.hit ?_ | refine LOps.pure (Pure.as (lv := .atom _) rfl) rfl ?_
  exact retRet hj (AllRes.cons (ResIs.tmp (v := .atom _) rfl (LV.Sub.refl _)) AllRes.nil) (by rw [hI]; rfl)
 have hlen := of_decide_eq_true hc
 rw [hLe, List.length_append] at hlen
 obtain ⟨a, l2, rfl⟩ : ∃ a l2, l1 = a :: l2 := by
  cases l1 with
  | nil => simp at hlen
  | cons a l2 => exact ⟨a, l2, rfl⟩
 have hget : s[((pre.length : Nat) : Int).toNat]? = some a := by
  rw [Int.toNat_natCast, hLe, List.getElem?_append_right (Nat.le_refl _), Nat.sub_self]
  rfl
 rw [chkN] at hI
 have next : ∀ {e : Env} {ds : List Deferred} (h : (if pre.length = 0 then isLetter a else isInner a) = true), e.ds = ds → e.s 0 = str s → e.s 26 = int .i64 (s.length : Int) → e.s 27 = int .i64 ((pre.length : Int) + 1) → Again (fun k ls H' => ∃ pre l1, s = pre ++ l1 ∧ k = l1.length ∧ ls = [(0, str s), (26, int .i64 (s.length : Int)), (27, int .i64 (pre.length : Int))] ∧ H' = [] ∧ isNm s = chkN pre.length l1) (a :: l2).length ds e [] := fun {e ds} h hd e0 e26 e27 => by
  rw [h, Bool.true_and] at hI
  exact ⟨l2.length, _, _, Nat.lt_succ_self _, ⟨pre ++ [a], l2, by rw [hLe]; simp, rfl, rfl, rfl, by rw [hI, List.length_append]; rfl⟩, ⟨e0, e26, e27.trans (int_eq (by simp)), trivial⟩, HSub.refl _, hd⟩
 repeat first | refine LOps.nil ?_ | refine LCode.seq ?_ | refine LCode.region ?_ | refine LCode.skip ?_ | refine LCode.block ?_ | refine QThen.normal ?_ | refine LOps.pure (Pure.as (lv := .atom _) rfl) rfl ?_ | refine LOps.pure (Pure.mv (lv := .atom _) rfl) rfl ?_
 refine LOps.pure (Pure.sindex (c := a) rfl rfl (by omega) hget) rfl ?_
 repeat first | refine LOps.pure (Pure.mv (lv := .atom _) rfl) rfl ?_ | refine LOps.pure (Pure.geq rfl rfl) rfl ?_
 refine LOps.cut [(0, str s), (3, int .i64 (pre.length : Int)), (4, bool (isLetter a)), (26, int .i64 (s.length : Int)), (27, int .i64 (pre.length : Int))] ?_ (fun j2 hj2 => ?_)
 ·refine LOps.bcase 34 rfl (fun h6 => ?_) (fun h6 => ?_)
  ·repeat first | refine LOps.pure (Pure.mv (lv := .atom _) rfl) rfl ?_ | refine LOps.want rfl rfl ?_
   refine LOps.pure (Pure.sindex (c := a) rfl rfl (by omega) hget) rfl ?_
   repeat first | refine LOps.nil ?_ | refine QThen.normal ?_ | refine LOps.pure (Pure.as (lv := .atom _) rfl) rfl ?_ | refine LOps.pure (Pure.pickT (lv := .atom _) rfl rfl) rfl ?_ | refine LOps.pure (Pure.leq rfl rfl) rfl ?_ | refine LOps.want rfl rfl ?_
   exact ⟨⟨rfl, rfl, bool_eq (by unfold isLetter; rw [show decide (97 ≤ cv a) = true from h6, Bool.true_and]), rfl, rfl, trivial⟩, rfl, rfl⟩
  ·repeat first | refine LOps.nil ?_ | refine QThen.normal ?_ | refine LOps.pure (Pure.as (lv := .atom _) rfl) rfl ?_ | refine LOps.pure (Pure.pickF (lv := .atom _) rfl rfl) rfl ?_ | refine LOps.skip rfl rfl rfl rfl ?_
   exact ⟨⟨rfl, rfl, bool_eq (by unfold isLetter; rw [show decide (97 ≤ cv a) = false from h6, Bool.false_and]), rfl, rfl, trivial⟩, rfl, rfl⟩
 repeat first | refine LCode.seq ?_ | refine LCode.region ?_ | refine LOps.pure (Pure.mv (lv := .atom _) rfl) rfl ?_ | refine LOps.pure (Pure.not rfl) rfl ?_
 refine LOps.bcase 42 rfl (fun h7 => ?_) (fun h7 => ?_)
 rotate_left
 ·have hl1 : isLetter a = true := by simpa using h7
  repeat first | refine LOps.nil ?_ | refine QThen.normal ?_ | refine LOps.pure (Pure.pickF (lv := .atom _) rfl rfl) rfl ?_ | refine LOps.skip rfl rfl rfl rfl ?_ | refine LOps.skipU rfl rfl rfl ?_
  refine LCode.cond rfl (fun hc => by cases hc) (fun _ => ?_)
  repeat first | refine LOps.nil ?_ | refine LCode.region ?_ | refine LCode.skip ?_ | refine QThen.normal ?_ | refine QBlock.normal ?_ | refine LOps.pure (Pure.mv (lv := .atom _) rfl) rfl ?_ | refine LOps.pure (Pure.add rfl rfl (by omega)) rfl ?_
  refine next ?_ ?_ ?_ ?_ ?_
  ·rw [hl1]; unfold isInner; rw [hl1]; split <;> rfl
  ·exact hj2.trans hj
  ·rfl
  ·rfl
  ·rfl
 have hl0 : isLetter a = false := by simpa using h7
 repeat first | refine LOps.pure (Pure.mv (lv := .atom _) rfl) rfl ?_ | refine LOps.pure (Pure.eql rfl rfl) rfl ?_ | refine LOps.want rfl rfl ?_
 refine LOps.bcase 45 rfl (fun h8 => ?_) (fun h8 => ?_)
 ·have hp0 : pre.length = 0 := by have := of_decide_eq_true h8; omega
  repeat first | refine LOps.nil ?_ | refine QThen.normal ?_ | refine LOps.pure (Pure.pickT (lv := .atom _) rfl rfl) rfl ?_ | refine LOps.want rfl rfl ?_ | refine LOps.skip rfl rfl rfl rfl ?_ | refine LOps.skipU rfl rfl rfl ?_
  refine LCode.cond rfl (fun _ => ?_) (fun hc => by cases hc)
  repeat first | refine LOps.nil ?_ | refine LCode.seq ?_ | refine LCode.region ?_ | refine LCode.ret ?_ | refine QThen.normal ?_ | refine QThen.ret ?_ | refine QBlock.ret ?_ | refine LOps.pure (Pure.as (lv := .atom _) rfl) rfl ?_
  exact retF (by rw [hI, if_pos hp0, hl0, Bool.false_and]) (hj2.trans hj) rfl
 have hp0 : ¬ pre.length = 0 := by have := of_decide_eq_false h8; omega
 rw [if_neg hp0] at hI
 repeat first | refine LOps.pure (Pure.mv (lv := .atom _) rfl) rfl ?_ | refine LOps.want rfl rfl ?_
 refine LOps.pure (Pure.sindex (c := a) rfl rfl (by omega) hget) rfl ?_
 repeat first | refine LOps.pure (Pure.mv (lv := .atom _) rfl) rfl ?_ | refine LOps.pure (Pure.neq rfl rfl) rfl ?_ | refine LOps.want rfl rfl ?_
 refine LOps.bcase 50 rfl (fun h9 => ?_) (fun h9 => ?_)
 rotate_left
 ·have h95 : decide (cv a = 95) = true := by simpa using h9
  repeat first | refine LOps.nil ?_ | refine QThen.normal ?_ | refine LOps.pure (Pure.pickT (lv := .atom _) rfl rfl) rfl ?_ | refine LOps.pure (Pure.pickF (lv := .atom _) rfl rfl) rfl ?_ | refine LOps.want rfl rfl ?_ | refine LOps.skip rfl rfl rfl rfl ?_ | refine LOps.skipU rfl rfl rfl ?_
  refine LCode.cond rfl (fun hc => by cases hc) (fun _ => ?_)
  repeat first | refine LOps.nil ?_ | refine LCode.region ?_ | refine LCode.skip ?_ | refine QThen.normal ?_ | refine QBlock.normal ?_ | refine LOps.pure (Pure.mv (lv := .atom _) rfl) rfl ?_ | refine LOps.pure (Pure.add rfl rfl (by omega)) rfl ?_
  refine next ?_ ?_ ?_ ?_ ?_
  ·rw [if_neg hp0]; unfold isInner; rw [h95, Bool.or_true]
  ·exact hj2.trans hj
  ·rfl
  ·rfl
  ·rfl
 have h95 : decide (cv a = 95) = false := by simpa using h9
 repeat first | refine LOps.pure (Pure.mv (lv := .atom _) rfl) rfl ?_ | refine LOps.want rfl rfl ?_
 refine LOps.pure (Pure.sindex (c := a) rfl rfl (by omega) hget) rfl ?_
 repeat first | refine LOps.pure (Pure.mv (lv := .atom _) rfl) rfl ?_ | refine LOps.pure (Pure.lss rfl rfl) rfl ?_ | refine LOps.want rfl rfl ?_
 refine LOps.bcase 55 rfl (fun h10 => ?_) (fun h10 => ?_)
 ·have h48 : decide (48 ≤ cv a) = false := by
   have : cv a < 48 := of_decide_eq_true h10
   exact decide_eq_false (by omega)
  repeat first | refine LOps.nil ?_ | refine QThen.normal ?_ | refine LOps.pure (Pure.pickT (lv := .atom _) rfl rfl) rfl ?_ | refine LOps.pure (Pure.pickF (lv := .atom _) rfl rfl) rfl ?_ | refine LOps.want rfl rfl ?_ | refine LOps.skip rfl rfl rfl rfl ?_
  refine LCode.cond rfl (fun _ => ?_) (fun hc => by cases hc)
  repeat first | refine LOps.nil ?_ | refine LCode.seq ?_ | refine LCode.region ?_ | refine LCode.ret ?_ | refine QThen.normal ?_ | refine QThen.ret ?_ | refine QBlock.ret ?_ | refine LOps.pure (Pure.as (lv := .atom _) rfl) rfl ?_
  exact retF (by rw [hI]; unfold isInner isDigit; rw [hl0, h95, h48]; rfl) (hj2.trans hj) rfl
 have h48 : decide (48 ≤ cv a) = true := by
  have : ¬ cv a < 48 := of_decide_eq_false h10
  exact decide_eq_true (by omega)
 repeat first | refine LOps.pure (Pure.mv (lv := .atom _) rfl) rfl ?_ | refine LOps.want rfl rfl ?_
 refine LOps.pure (Pure.sindex (c := a) rfl rfl (by omega) hget) rfl ?_
 repeat first | refine LOps.nil ?_ | refine QThen.normal ?_ | refine LOps.pure (Pure.gtr rfl rfl) rfl ?_ | refine LOps.pure (Pure.pickT (lv := .atom _) rfl rfl) rfl ?_ | refine LOps.pure (Pure.pickF (lv := .atom _) rfl rfl) rfl ?_ | refine LOps.want rfl rfl ?_
 refine LCode.cond rfl (fun h11 => ?_) (fun h11 => ?_)
 ·have h57 : decide (cv a ≤ 57) = false := by
   have : 57 < cv a := of_decide_eq_true h11
   exact decide_eq_false (by omega)
  repeat first | refine LOps.nil ?_ | refine LCode.seq ?_ | refine LCode.region ?_ | refine LCode.ret ?_ | refine QThen.normal ?_ | refine QThen.ret ?_ | refine QBlock.ret ?_ | refine LOps.pure (Pure.as (lv := .atom _) rfl) rfl ?_
  exact retF (by rw [hI]; unfold isInner isDigit; rw [hl0, h95, h57, Bool.and_false]; rfl) (hj2.trans hj) rfl
 ·have h57 : decide (cv a ≤ 57) = true := by
   have : ¬ 57 < cv a := of_decide_eq_false h11
   exact decide_eq_true (by omega)
  repeat first | refine LOps.nil ?_ | refine LCode.region ?_ | refine LCode.skip ?_ | refine QThen.normal ?_ | refine QBlock.normal ?_ | refine LOps.pure (Pure.mv (lv := .atom _) rfl) rfl ?_ | refine LOps.pure (Pure.add rfl rfl (by omega)) rfl ?_
  refine next ?_ ?_ ?_ ?_ ?_
  ·rw [if_neg hp0]; unfold isInner isDigit; rw [h48, h57]; simp
  ·exact hj2.trans hj
  ·rfl
  ·rfl
  ·rfl
end
end Go.Proofs.YtcbpcianefpniaaGreatDoor.Chk
namespace Go.GL
open Go.RowKit
section
variable {C : Ctx} {e : Env} {H : Heap} {dst : Option Nat} {ty : TypeId} {pos : String} {aft : Array Edge} {g : Option (Nat × Bool)} {K : LV → Heap → Prop} {X : List PanicEntry → Heap → Prop} {x y z : Operand} {k : IntKind}
theorem max_cast (a b : Nat) : (if (a : Int) < (b : Int) then (b : Int) else (a : Int)) = ((max a b : Nat) : Int) := by
 split <;> omega
theorem Pure.max2 {a b : Nat} (hx : e.ev x = int k (a : Int)) (hy : e.ev y = int k (b : Int)) {t u : TypeId} : Pure C ⟨dst, .call { callee := .builtin .max, args := #[x, y], argTypes := #[t, u] }, ty, pos, aft, g⟩ e H (int k ((max a b : Nat) : Int)) :=
 .of_any fun ρ _ _ h => ⟨_, rep_atom, fun w' => by
  have h0 : ∀ (cs : Array Bool) (args : Array Value), builtin .max #[t, u] ty cs args = (do Pure.pure (.value (← Builtin.max_ #[t, u] ty args))) := fun _ _ => rfl
  rw [execOp_builtin', h0]
  have := max_cast a b
  simp [Builtin.max_, Builtin.max2, atom_of h hx, atom_of h hy]
  split <;> omega⟩
theorem Pure.max3 {a b c : Nat} (hx : e.ev x = int k (a : Int)) (hy : e.ev y = int k (b : Int)) (hz : e.ev z = int k (c : Int)) {t u v : TypeId} : Pure C ⟨dst, .call { callee := .builtin .max, args := #[x, y, z], argTypes := #[t, u, v] }, ty, pos, aft, g⟩ e H (int k ((max (max a b) c : Nat) : Int)) :=
 .of_any fun ρ _ _ h => ⟨_, rep_atom, fun w' => by
  have h0 : ∀ (cs : Array Bool) (args : Array Value), builtin .max #[t, u, v] ty cs args = (do Pure.pure (.value (← Builtin.max_ #[t, u, v] ty args))) := fun _ _ => rfl
  rw [execOp_builtin', h0]
  simp [Builtin.max_, Builtin.max2, atom_of h hx, atom_of h hy, atom_of h hz]
  repeat' split
  all_goals omega⟩
theorem Pure.max2e {A B : Int} (a b : Nat) (hx : e.ev x = int k A) (hy : e.ev y = int k B) (ha : A = (a : Int)) (hb : B = (b : Int)) {t u : TypeId} : Pure C ⟨dst, .call { callee := .builtin .max, args := #[x, y], argTypes := #[t, u] }, ty, pos, aft, g⟩ e H (int k ((max a b : Nat) : Int)) := by
 subst ha hb
 exact Pure.max2 hx hy
theorem Pure.max3e {A B D : Int} (a b d : Nat) (hx : e.ev x = int k A) (hy : e.ev y = int k B) (hz : e.ev z = int k D) (ha : A = (a : Int)) (hb : B = (b : Int)) (hd : D = (d : Int)) {t u v : TypeId} : Pure C ⟨dst, .call { callee := .builtin .max, args := #[x, y, z], argTypes := #[t, u, v] }, ty, pos, aft, g⟩ e H (int k ((max (max a b) d : Nat) : Int)) := by
 subst ha hb hd
 exact Pure.max3 hx hy hz
theorem Pure.eqlT {a b : Int} {xT yT : TypeId} (h : a = b) (hx : e.ev x = int k a) (hy : e.ev y = int k b) : Pure C ⟨dst, .binOp .eql xT x y yT, ty, pos, aft, g⟩ e H (bool true) := by
 have := Pure.eql (C := C) (H := H) (dst := dst) (ty := ty) (pos := pos) (aft := aft) (g := g) (xT := xT) (yT := yT) hx hy
 rwa [decide_eq_true h] at this
theorem Pure.eqlF {a b : Int} {xT yT : TypeId} (h : ¬ a = b) (hx : e.ev x = int k a) (hy : e.ev y = int k b) : Pure C ⟨dst, .binOp .eql xT x y yT, ty, pos, aft, g⟩ e H (bool false) := by
 have := Pure.eql (C := C) (H := H) (dst := dst) (ty := ty) (pos := pos) (aft := aft) (g := g) (xT := xT) (yT := yT) hx hy
 rwa [decide_eq_false h] at this
/-- The map holds these strings, each mapped to true. -/
def IsSet (m : KV) (l : List (List UInt8)) : Prop := ∀ k, kvGet m k = if k ∈ l then some (bool true) else none
theorem IsSet.nil : IsSet [] [] := fun k => by simp [kvGet]
theorem IsSet.add {m : KV} {l : List (List UInt8)} (h : IsSet m l) (s : List UInt8) : IsSet (kvPut m s (bool true)) (l ++ [s]) := fun k => by
 rw [kvGet_put, h k]
 by_cases h1 : s = k
 ·rw [if_pos h1, if_pos (by rw [h1]; simp)]
 ·rw [if_neg h1]
  by_cases h2 : k ∈ l
  ·rw [if_pos h2, if_pos (List.mem_append_left _ h2)]
  ·rw [if_neg h2, if_neg (by
    intro h3
    rcases List.mem_append.1 h3 with h3 | h3
    ·exact h2 h3
    ·exact h1 (List.mem_singleton.1 h3).symm)]
theorem Pure.setHas {t el : TypeId} {zv : Value} [h : TMap C.P t el zv (bool false)] {b clock : Nat} {m : KV} {l : List (List UInt8)} {s : List UInt8} (hm : e.ev x = .atom (.map (some b))) (hx : e.ev y = str s) (hb : (b, .map (kvs m) clock) ∈ H) (hs : IsSet m l) :
  Pure C ⟨dst, .lookup t x y false, ty, pos, aft, g⟩ e H (bool (decide (s ∈ l))) := by
 by_cases h1 : s ∈ l
 ·rw [decide_eq_true h1]
  exact Pure.kvHit hm hx hb (by rw [hs s, if_pos h1])
 ·rw [decide_eq_false h1]
  exact Pure.kvMiss hm hx hb (by rw [hs s, if_neg h1])
end
end Go.GL
namespace Go.Proofs.YtcbpcianefpniaaGreatDoor.Chk
open Go.GL Go.RowKit Go.Stele
set_option maxRecDepth 100000
set_option maxHeartbeats 4000000
/-- Where a checker's blocks lie, and what its maps hold. -/
structure KB where
 cb : Nat
 gm : Nat
 vm : Nat
 am : Nat
 fm : Nat
 om : Nat
 G : KV
 V : KV
 A : KV
 F : KV
 O : KV
 g1 : Nat
 g2 : Nat
 g3 : Nat
 g4 : Nat
 g5 : Nat
 name : List UInt8
def encSum (f : FSum) : LV := .agg [int .i64 (f.params : Int), int .i64 (f.need : Int), int .i64 (f.depth : Int)]
structure KBok (k : KB) (c : CEnv) : Prop where
 G : IsSet k.G c.globals
 V : IsSet k.V c.vars
 A : IsSet k.A c.arrays
 O : IsSet k.O c.own
 F : ∀ n, GL.kvGet k.F n = (c.fn n).map encSum
def ckH (k : KB) (d : Nat) : Heap := [(k.cb, .cells 104 [.atom (.map (some k.gm)), .atom (.map (some k.vm)), .atom (.map (some k.am)), .atom (.map (some k.fm)), str k.name, .atom (.map (some k.om)), int .i64 (d : Int)]), (k.gm, .map (kvs k.G) k.g1), (k.vm, .map (kvs k.V) k.g2), (k.am, .map (kvs k.A) k.g3), (k.fm, .map (kvs k.F) k.g4), (k.om, .map (kvs k.O) k.g5)]
/-- A call that hands back a value, or raises a violation. -/
def PostK (err : Int) (lv : LV) (H' : Heap) (r : LRes) (H : Heap) : Prop := (err = 0 ∧ r = .ret lv ∧ H = H') ∨ (err ≠ 0 ∧ (∃ nm, r = .panic (vio nm err)) ∧ H = [])
section
variable {C : Ctx} {n : Nat} {e : Env} {H : Heap} {dst : Option Nat} {ty : TypeId} {pos : String} {aft : Array Edge} {g : Option (Nat × Bool)} {K : LV → Heap → Prop} {X : List PanicEntry → Heap → Prop}
theorem S.callK {err : Int} {lv : LV} {H1 H' F : Heap} {f : FuncId} [TEnter C.P f] (args : List Operand) {ats : Array TypeId} {av : List LV} (has : args.map e.ev = av) (hp : H.Perm (H1 ++ F))
  (hc : LCalls C f av H1 (PostK err lv H')) (hk : err = 0 → K lv (H' ++ F)) (hx : ∀ nm, err ≠ 0 → X (vio nm err) F) : LStep C ⟨dst, .call { callee := .value (.func f), args := args.toArray, argTypes := ats }, ty, pos, aft, g⟩ e H K X := by
 refine S.callH args has hp hc ?_ ?_
 ·rintro v H2 (⟨h1, h2, rfl⟩ | ⟨_, ⟨nm, h2⟩, _⟩)
  ·cases h2
   exact hk h1
  ·cases h2
 ·rintro ch H2 (⟨_, h2, _⟩ | ⟨h1, ⟨nm, h2⟩, rfl⟩)
  ·cases h2
  ·cases h2
   exact hx nm h1
theorem LStep.callK {err : Int} {lv : LV} {H' : Heap} {f : FuncId} [TEnter C.P f] (args : List Operand) {ats : Array TypeId} {av : List LV} (has : args.map e.ev = av)
  (hc : LCalls C f av H (PostK err lv H')) (hk : err = 0 → K lv H') (hx : ∀ nm, err ≠ 0 → X (vio nm err) []) : LStep C ⟨dst, .call { callee := .value (.func f), args := args.toArray, argTypes := ats }, ty, pos, aft, g⟩ e H K X := by
 refine LStep.conseq (S.callK (F := []) (K := fun lv H' => K lv H') (X := X) args has (by rw [List.append_nil]) hc (fun h => by rw [List.append_nil]; exact hk h) hx) (fun lv H' h => ⟨lv, H', LV.Sub.refl _, HSub.refl _, h⟩)
theorem retK {err : Int} {lv : LV} {H' : Heap} {rs : List ResultVar} {vs : List LV} (hd : e.ds = []) (h : AllRes C n e H rs vs) (he : err = 0) (hv : resLV vs = lv) (hH : HSub H' H) : RetPost C n rs (PostK err lv H') .ret e H :=
 RetPost.ret hd h hH (.inl ⟨he, by rw [hv], rfl⟩)
theorem retKn {err : Int} {lv : LV} {H' : Heap} {rs : List ResultVar} {vs : List LV} (hd : e.ds = []) (h : AllRes C n e H rs vs) (he : err = 0) (hv : resLV vs = lv) (hH : HSub H' H) : RetPost C n rs (PostK err lv H') .normal e H :=
 RetPost.normal hd h hH (.inl ⟨he, by rw [hv], rfl⟩)
theorem panK {err er : Int} {lv : LV} {H' : Heap} {rs : List ResultVar} {nm : List UInt8} (hd : e.ds = []) (he : err = er) (h0 : er ≠ 0) : RetPost C n rs (PostK err lv H') (.panic (vio nm er)) e H :=
 RetPost.panic hd (HSub.nil _) (.inr ⟨by rw [he]; exact h0, ⟨nm, by rw [he]⟩, rfl⟩)
end
attribute [local irreducible] LOps LCode LStep LCalls Go.GL.Pure QThen QBlock RetPost LQ LAny LLate LLateOp LS
section
variable {B0 : Nat} {w0 : World}
/-- A requirement as a step. -/
theorem req_spec (b : Bool) (nm : List UInt8) (er : Int) (h0 : er ≠ 0) : LCalls (KC B0 w0) 94 [bool b, str nm, int .i64 er] [] (PostK (if b = true then 0 else er) (.tuple []) []) :=
 LCalls.mono (require_spec b nm er) fun r H ⟨h1, h2⟩ => by
  cases b with
  | true => exact .inl ⟨rfl, h2, h1⟩
  | false => exact .inr ⟨h0, ⟨nm, h2⟩, h1⟩
theorem scalar_spec {k : KB} {c : CEnv} (hk : KBok k c) (d : Nat) (name : List UInt8) : LCalls (KC B0 w0) 199 [ptr k.cb 0, str name] (ckH k d) (PostK (scalarE c name) (.tuple []) (ckH k d)) := by
 generalize hI : scalarE c name = E
 unfold scalarE at hI
 refine LCalls.intro Tryz.func199 rfl (n := 34) rfl rfl rfl ?_
 repeat first | refine LCode.seq ?_ | refine LCode.region ?_ | refine LOps.pure (Pure.mv (lv := .atom _) rfl) rfl ?_ | refine LOps.pure (Pure.nilCheckH rfl) rfl ?_ | refine LOps.pure (Pure.fieldH rfl) rfl ?_ | refine LOps.pure (Pure.loadH (c := .atom _) rfl (List.Mem.head _) rfl) rfl ?_
 refine LOps.pure (Pure.setHas rfl rfl (List.Mem.tail _ (List.Mem.tail _ (List.Mem.head _))) hk.V) rfl ?_
 have both : ∀ {e : Env} {Q : Post} {ops : Array Oper} {rest : List Oper} {n : Nat}, True := fun {_ _ _ _ _} => trivial
 refine LOps.bcase 10 rfl (fun h1 => ?_) (fun h1 => ?_)
 ·have hin : name ∈ c.vars ∨ name ∈ c.own := .inl (of_decide_eq_true h1)
  repeat first | refine LOps.nil ?_ | refine LCode.seq ?_ | refine LCode.region ?_ | refine QThen.normal ?_ | refine LOps.pure (Pure.mv (lv := .atom _) rfl) rfl ?_ | refine LOps.pure (Pure.pickT (lv := .atom _) rfl rfl) rfl ?_ | refine LOps.pure (Pure.as (lv := .atom _) rfl) rfl ?_ | refine LOps.skip rfl rfl rfl rfl ?_
  refine LOps.step (S.callK (H1 := []) (F := ckH k d) [_, _, _] rfl (List.Perm.refl _) (req_spec true name 10 (by decide)) (fun _ => ?_) (fun nm h => absurd rfl h)) rfl
  repeat first | refine LOps.nil ?_ | refine LCode.region ?_ | refine QThen.normal ?_ | refine LOps.pure (Pure.mv (lv := .atom _) rfl) rfl ?_
  refine LOps.step (S.callK (H1 := []) (F := ckH k d) [_, _, _] rfl (List.Perm.refl _) (req_spec true name 7 (by decide)) (fun _ => ?_) (fun nm h => absurd rfl h)) rfl
  repeat first | refine LOps.nil ?_
  exact retKn rfl AllRes.nil (by rw [← hI, if_pos hin]) rfl (HSub.refl _)
 have hv : name ∉ c.vars := of_decide_eq_false h1
 repeat first | refine LOps.pure (Pure.mv (lv := .atom _) rfl) rfl ?_ | refine LOps.pure (Pure.nilCheckH rfl) rfl ?_ | refine LOps.pure (Pure.fieldH rfl) rfl ?_ | refine LOps.pure (Pure.loadH (c := .atom _) rfl (List.Mem.head _) rfl) rfl ?_ | refine LOps.want rfl rfl ?_
 refine LOps.pure (Pure.setHas rfl rfl (List.Mem.tail _ (List.Mem.tail _ (List.Mem.tail _ (List.Mem.tail _ (List.Mem.tail _ (List.Mem.head _)))))) hk.O) rfl ?_
 refine LOps.bcase 17 rfl (fun h2 => ?_) (fun h2 => ?_)
 ·have hin : name ∈ c.vars ∨ name ∈ c.own := .inr (of_decide_eq_true h2)
  repeat first | refine LOps.nil ?_ | refine LCode.seq ?_ | refine LCode.region ?_ | refine QThen.normal ?_ | refine LOps.pure (Pure.mv (lv := .atom _) rfl) rfl ?_ | refine LOps.pure (Pure.pickT (lv := .atom _) rfl rfl) rfl ?_ | refine LOps.pure (Pure.pickF (lv := .atom _) rfl rfl) rfl ?_ | refine LOps.pure (Pure.as (lv := .atom _) rfl) rfl ?_ | refine LOps.skip rfl rfl rfl rfl ?_
  refine LOps.step (S.callK (H1 := []) (F := ckH k d) [_, _, _] rfl (List.Perm.refl _) (req_spec true name 10 (by decide)) (fun _ => ?_) (fun nm h => absurd rfl h)) rfl
  repeat first | refine LOps.nil ?_ | refine LCode.region ?_ | refine QThen.normal ?_ | refine LOps.pure (Pure.mv (lv := .atom _) rfl) rfl ?_
  refine LOps.step (S.callK (H1 := []) (F := ckH k d) [_, _, _] rfl (List.Perm.refl _) (req_spec true name 7 (by decide)) (fun _ => ?_) (fun nm h => absurd rfl h)) rfl
  repeat first | refine LOps.nil ?_
  exact retKn rfl AllRes.nil (by rw [← hI, if_pos hin]) rfl (HSub.refl _)
 have ho : name ∉ c.own := of_decide_eq_false h2
 rw [if_neg (fun h => h.elim hv ho)] at hI
 repeat first | refine LOps.nil ?_ | refine LCode.seq ?_ | refine LCode.region ?_ | refine QThen.normal ?_ | refine LOps.pure (Pure.mv (lv := .atom _) rfl) rfl ?_ | refine LOps.pure (Pure.nilCheckH rfl) rfl ?_ | refine LOps.pure (Pure.fieldH rfl) rfl ?_ | refine LOps.pure (Pure.loadH (c := .atom _) rfl (List.Mem.head _) rfl) rfl ?_ | refine LOps.pure (Pure.pickF (lv := .atom _) rfl rfl) rfl ?_ | refine LOps.pure (Pure.as (lv := .atom _) rfl) rfl ?_ | refine LOps.want rfl rfl ?_
 refine LOps.pure (Pure.setHas rfl rfl (List.Mem.tail _ (List.Mem.head _)) hk.G) rfl ?_
 refine LOps.bcase 26 rfl (fun h3 => ?_) (fun h3 => ?_)
 ·rw [if_pos (of_decide_eq_true h3)] at hI
  repeat first | refine LOps.pure (Pure.mv (lv := .atom _) rfl) rfl ?_ | refine LOps.pure (Pure.pickF (lv := .atom _) rfl rfl) rfl ?_ | refine LOps.pure (Pure.not rfl) rfl ?_ | refine LOps.want rfl rfl ?_
  refine LOps.step (S.callK (H1 := []) (F := ckH k d) [_, _, _] rfl (List.Perm.refl _) (req_spec false name 10 (by decide)) (fun h => absurd h (by decide)) (fun nm _ e' he' => ?_)) rfl
  repeat first | refine QThen.panic ?_
  exact panK (he'.trans rfl) (by rw [← hI]; rfl) (by decide)
 ·rw [if_neg (of_decide_eq_false h3)] at hI
  repeat first | refine LOps.pure (Pure.mv (lv := .atom _) rfl) rfl ?_ | refine LOps.pure (Pure.pickF (lv := .atom _) rfl rfl) rfl ?_ | refine LOps.pure (Pure.not rfl) rfl ?_ | refine LOps.want rfl rfl ?_
  refine LOps.step (S.callK (H1 := []) (F := ckH k d) [_, _, _] rfl (List.Perm.refl _) (req_spec true name 10 (by decide)) (fun _ => ?_) (fun nm h => absurd rfl h)) rfl
  repeat first | refine LOps.nil ?_ | refine LCode.region ?_ | refine QThen.normal ?_ | refine LOps.pure (Pure.mv (lv := .atom _) rfl) rfl ?_
  refine LOps.step (S.callK (H1 := []) (F := ckH k d) [_, _, _] rfl (List.Perm.refl _) (req_spec false name 7 (by decide)) (fun h => absurd h (by decide)) (fun nm _ e' he' => ?_)) rfl
  exact panK (he'.trans rfl) (by rw [← hI]; rfl) (by decide)
theorem array_spec {k : KB} {c : CEnv} (hk : KBok k c) (d : Nat) (name : List UInt8) : LCalls (KC B0 w0) 200 [ptr k.cb 0, str name] (ckH k d) (PostK (arrayE c name) (.tuple []) (ckH k d)) := by
 generalize hI : arrayE c name = E
 unfold arrayE at hI
 refine LCalls.intro Tryz.func200 rfl (n := 35) rfl rfl rfl ?_
 repeat first | refine LCode.seq ?_ | refine LCode.region ?_ | refine LOps.pure (Pure.mv (lv := .atom _) rfl) rfl ?_ | refine LOps.pure (Pure.nilCheckH rfl) rfl ?_ | refine LOps.pure (Pure.fieldH rfl) rfl ?_ | refine LOps.pure (Pure.loadH (c := .atom _) rfl (List.Mem.head _) rfl) rfl ?_
 refine LOps.pure (Pure.setHas rfl rfl (List.Mem.tail _ (List.Mem.tail _ (List.Mem.tail _ (List.Mem.head _)))) hk.A) rfl ?_
 refine LOps.bcase 10 rfl (fun h1 => ?_) (fun h1 => ?_)
 ·repeat first | refine LOps.nil ?_ | refine LCode.seq ?_ | refine LCode.region ?_ | refine QThen.normal ?_ | refine LOps.pure (Pure.mv (lv := .atom _) rfl) rfl ?_ | refine LOps.pure (Pure.as (lv := .atom _) rfl) rfl ?_ | refine LOps.pure (Pure.pickT (lv := .atom _) rfl rfl) rfl ?_ | refine LOps.skip rfl rfl rfl rfl ?_ | refine LOps.skipU rfl rfl rfl ?_
  refine LOps.step (S.callK (H1 := []) (F := ckH k d) [_, _, _] rfl (List.Perm.refl _) (req_spec true name 10 (by decide)) (fun _ => ?_) (fun nm h => absurd rfl h)) rfl
  repeat first | refine LOps.nil ?_ | refine LCode.region ?_ | refine QThen.normal ?_ | refine LOps.pure (Pure.mv (lv := .atom _) rfl) rfl ?_
  refine LOps.step (S.callK (H1 := []) (F := ckH k d) [_, _, _] rfl (List.Perm.refl _) (req_spec true name 7 (by decide)) (fun _ => ?_) (fun nm h => absurd rfl h)) rfl
  repeat first | refine LOps.nil ?_
  exact retKn rfl AllRes.nil (by rw [← hI, if_pos (of_decide_eq_true h1)]) rfl (HSub.refl _)
 rw [if_neg (of_decide_eq_false h1)] at hI
 repeat first | refine LOps.nil ?_ | refine LCode.seq ?_ | refine LCode.region ?_ | refine QThen.normal ?_ | refine LOps.pure (Pure.mv (lv := .atom _) rfl) rfl ?_ | refine LOps.pure (Pure.nilCheckH rfl) rfl ?_ | refine LOps.pure (Pure.fieldH rfl) rfl ?_ | refine LOps.pure (Pure.loadH (c := .atom _) rfl (List.Mem.head _) rfl) rfl ?_ | refine LOps.pure (Pure.as (lv := .atom _) rfl) rfl ?_ | refine LOps.want rfl rfl ?_
 refine LOps.pure (Pure.setHas rfl rfl (List.Mem.tail _ (List.Mem.head _)) hk.G) rfl ?_
 refine LOps.bcase 18 rfl (fun h2 => ?_) (fun h2 => ?_)
 ·have hin : name ∈ c.globals ∨ name ∈ c.own := .inl (of_decide_eq_true h2)
  repeat first | refine LOps.pure (Pure.mv (lv := .atom _) rfl) rfl ?_ | refine LOps.pure (Pure.not rfl) rfl ?_ | refine LOps.pure (Pure.pickF (lv := .atom _) rfl rfl) rfl ?_ | refine LOps.want rfl rfl ?_ | refine LOps.skip rfl rfl rfl rfl ?_
  refine LOps.step (S.callK (H1 := []) (F := ckH k d) [_, _, _] rfl (List.Perm.refl _) (req_spec false name 10 (by decide)) (fun h => absurd h (by decide)) (fun nm _ e' he' => ?_)) rfl
  repeat first | refine QThen.panic ?_
  exact panK (he'.trans rfl) (by rw [← hI, if_pos hin]; rfl) (by decide)
 repeat first | refine LOps.pure (Pure.mv (lv := .atom _) rfl) rfl ?_ | refine LOps.pure (Pure.nilCheckH rfl) rfl ?_ | refine LOps.pure (Pure.fieldH rfl) rfl ?_ | refine LOps.pure (Pure.loadH (c := .atom _) rfl (List.Mem.head _) rfl) rfl ?_ | refine LOps.pure (Pure.not rfl) rfl ?_ | refine LOps.want rfl rfl ?_
 refine LOps.pure (Pure.setHas rfl rfl (List.Mem.tail _ (List.Mem.tail _ (List.Mem.tail _ (List.Mem.tail _ (List.Mem.tail _ (List.Mem.head _)))))) hk.O) rfl ?_
 refine LOps.bcase 26 rfl (fun h3 => ?_) (fun h3 => ?_)
 ·have hin : name ∈ c.globals ∨ name ∈ c.own := .inr (of_decide_eq_true h3)
  repeat first | refine LOps.pure (Pure.mv (lv := .atom _) rfl) rfl ?_ | refine LOps.pure (Pure.not rfl) rfl ?_ | refine LOps.pure (Pure.pickT (lv := .atom _) rfl rfl) rfl ?_ | refine LOps.pure (Pure.pickF (lv := .atom _) rfl rfl) rfl ?_ | refine LOps.want rfl rfl ?_
  refine LOps.step (S.callK (H1 := []) (F := ckH k d) [_, _, _] rfl (List.Perm.refl _) (req_spec false name 10 (by decide)) (fun h => absurd h (by decide)) (fun nm _ e' he' => ?_)) rfl
  repeat first | refine QThen.panic ?_
  exact panK (he'.trans rfl) (by rw [← hI, if_pos hin]; rfl) (by decide)
 rw [if_neg (fun h => h.elim (of_decide_eq_false h2) (of_decide_eq_false h3))] at hI
 repeat first | refine LOps.pure (Pure.mv (lv := .atom _) rfl) rfl ?_ | refine LOps.pure (Pure.not rfl) rfl ?_ | refine LOps.pure (Pure.pickT (lv := .atom _) rfl rfl) rfl ?_ | refine LOps.pure (Pure.pickF (lv := .atom _) rfl rfl) rfl ?_ | refine LOps.want rfl rfl ?_
 refine LOps.step (S.callK (H1 := []) (F := ckH k d) [_, _, _] rfl (List.Perm.refl _) (req_spec true name 10 (by decide)) (fun _ => ?_) (fun nm h => absurd rfl h)) rfl
 repeat first | refine LOps.nil ?_ | refine LCode.region ?_ | refine QThen.normal ?_ | refine LOps.pure (Pure.mv (lv := .atom _) rfl) rfl ?_
 refine LOps.step (S.callK (H1 := []) (F := ckH k d) [_, _, _] rfl (List.Perm.refl _) (req_spec false name 7 (by decide)) (fun h => absurd h (by decide)) (fun nm _ e' he' => ?_)) rfl
 exact panK (he'.trans rfl) (by rw [← hI]; rfl) (by decide)
end
end Go.Proofs.YtcbpcianefpniaaGreatDoor.Chk
