/- Texts joined: MchC, GlDefLoop, MchD, GlBytS, MchE, CmpG, CmpI, PtA, PtB. -/
import Derived.KernelRfl
import Derived.Lib.Replace
import Derived.Lib.Join
import Derived.Test.YtdakelgkjdaijaaGreatDoorBRowP21
import Derived.Test.YtdakelgkjdaijaaGreatDoorBRowP22
import Derived.Test.YtdakelgkjdaijaaGreatDoorBRowP23
import Derived.Test.YtdakelgkjdaijaaGreatDoorBRowP24
set_option linter.unusedVariables false
set_option linter.unusedSimpArgs false
namespace Go.Proofs.YtdakelgkjdaijaaGreatDoor.Mch
open Go.GL Go.RowKit Go.Stele
open Go.Proofs.YtdakelgkjdaijaaGreatDoor.Inp (u32 Same retS wrapU u32_eq wrap_u8 acc_one)
set_option maxRecDepth 100000
set_option maxHeartbeats 4000000
/-- Where a machine's fixed blocks lie. -/
structure MK where
 mb : Nat
 mm : Nat
 bm : Nat
@[reducible] def memV (k : MK) : Value := .slice (some ⟨k.mm, 0, none⟩) 262144 262144
@[reducible] def MK.mf (k : MK) (s : MS) (st : Nat) (stop : Bool) (vc : Value) (vo : LV) : MF := ⟨k.mb, memV k, s.pc, vc, s.inp, vo, s.digit, st, stop, k.bm⟩
@[reducible] def MK.memH (k : MK) (f : Nat → Nat) : Nat × LObj := (k.mm, .cells 56 (memL f))
@[reducible] def MK.binH (k : MK) : Nat × LObj := (k.bm, .obj (.map binsE 7))
/-- The machine's state in memory. -/
def StH (k : MK) (s : MS) (st : Nat) (stop : Bool) (H : Heap) : Prop := ∃ vc HC vo HO HD, MRow 56 1 vc (us s.calls.reverse) HC ∧ Acc 1 vo (byts s.out) HO [] ∧ DH (k.mf s st stop vc vo) s.data HD ∧ H = HD ++ (k.memH s.mem :: k.binH :: (HC ++ HO))
/-- What an instruction leaves. -/
def PostE (k : MK) (st : Nat) (R : MR) (r : LRes) (H : Heap) : Prop := match R with
 | .run s => r = .ret (.tuple []) ∧ StH k s st false H
 | .stop e o => ∃ s, s.out = o ∧ if e = 0 then r = .ret (.tuple []) ∧ StH k s st true H else e = 12 ∧ r = .panic trapV ∧ StH k s st false H
theorem trapE {k : MK} {st : Nat} {o : Wd} {s : MS} {H : Heap} (hs : s.out = o) (h : StH k s st false H) : PostE k st (.stop 12 o) (.panic trapV) H := ⟨s, hs, by rw [if_neg (by decide)]; exact ⟨rfl, rfl, h⟩⟩
theorem dig_t {c : Nat} {k : Int} (h : (c : Int) = k) (hk : 48 ≤ k ∧ k ≤ 57) : true = isDigN c := by
 unfold isDigN
 rw [decide_eq_true (by omega : 48 ≤ c), decide_eq_true (by omega : c ≤ 57)]
 rfl
theorem permC {x m b : Nat × LObj} {A B C : Heap} : (x :: (A ++ (m :: b :: (B ++ C)))).Perm (B ++ (x :: (A ++ (m :: b :: C)))) := by
 have := List.perm_append_comm_assoc (x :: (A ++ [m, b])) B C
 simpa using this
theorem permO {x m b : Nat × LObj} {A B C : Heap} : (x :: (A ++ (m :: b :: (B ++ C)))).Perm (C ++ (x :: (A ++ (m :: b :: B)))) := by
 have := List.perm_append_comm (l₁ := x :: (A ++ (m :: b :: B))) (l₂ := C)
 simpa using this
section
variable {B0 : Nat} {w0 : World} {e : Env} {H : Heap} {dst : Option Nat} {ty : TypeId} {pos : String} {aft : Array Edge} {g : Option (Nat × Bool)} {K : LV → Heap → Prop} {X : List PanicEntry → Heap → Prop}
theorem S.push {f : MF} {data : List Nat} {v : Nat} {a b : Operand} {ats : Array TypeId} {HD F : Heap} (hx : [e.ev a, e.ev b] = [ptr f.mb 0, u32 v]) (hp : H.Perm (HD ++ F)) (hD : DH f data HD) (hf : data.length ≤ 256)
  (hk : data.length < 256 → ∀ HD', DH f (v :: data) HD' → K (.tuple []) (HD' ++ F)) (hn : ¬ data.length < 256 → ∀ HD', DH f data HD' → X trapV (HD' ++ F)) :
  LStep (KC B0 w0) ⟨dst, .call { callee := .value (.func 195), args := #[a, b], argTypes := ats }, ty, pos, aft, g⟩ e H K X := by
 refine S.callH (H1 := HD) (F := F) [a, b] hx hp (push_spec hD hf v) ?_ ?_
 ·intro r H' h
  unfold PostPush at h
  split at h
  ·rename_i hl
   obtain ⟨h1, h2⟩ := h
   cases h1
   exact hk hl H' h2
  ·obtain ⟨h1, _⟩ := h
   cases h1
 ·intro ch H' h
  unfold PostPush at h
  split at h
  ·obtain ⟨h1, _⟩ := h
   cases h1
  ·rename_i hl
   obtain ⟨h1, h2⟩ := h
   cases h1
   exact hn hl H' h2
theorem S.pop {f : MF} {data : List Nat} {a : Operand} {ats : Array TypeId} {HD F : Heap} (hx : [e.ev a] = [ptr f.mb 0]) (hp : H.Perm (HD ++ F)) (hD : DH f data HD) (hf : data.length ≤ 256)
  (hk : ∀ x r, data = x :: r → ∀ HD', DH f r HD' → K (u32 x) (HD' ++ F)) (hn : data = [] → ∀ HD', DH f [] HD' → X trapV (HD' ++ F)) :
  LStep (KC B0 w0) ⟨dst, .call { callee := .value (.func 197), args := #[a], argTypes := ats }, ty, pos, aft, g⟩ e H K X := by
 refine S.callH (H1 := HD) (F := F) [a] hx hp (pop_spec hD hf) ?_ ?_
 ·intro r H' h
  cases data with
  | nil =>
   obtain ⟨h1, _⟩ := h
   cases h1
  | cons x d =>
   obtain ⟨h1, h2⟩ := h
   cases h1
   exact hk x d rfl H' h2
 ·intro ch H' h
  cases data with
  | nil =>
   obtain ⟨h1, h2⟩ := h
   cases h1
   exact hn rfl H' h2
  | cons x d =>
   obtain ⟨h1, _⟩ := h
   cases h1
theorem S.address {f : MF} {data : List Nat} {a : Operand} {ats : Array TypeId} {HD F : Heap} (hx : [e.ev a] = [ptr f.mb 0]) (hp : H.Perm (HD ++ F)) (hD : DH f data HD) (hf : data.length ≤ 256)
  (hk : ∀ x r, data = x :: r → x < 262144 → ∀ HD', DH f r HD' → K (u32 x) (HD' ++ F)) (hn : (∀ x r, data = x :: r → ¬ x < 262144) → ∀ d HD', DH f d HD' → X trapV (HD' ++ F)) :
  LStep (KC B0 w0) ⟨dst, .call { callee := .value (.func 196), args := #[a], argTypes := ats }, ty, pos, aft, g⟩ e H K X := by
 refine S.callH (H1 := HD) (F := F) [a] hx hp (address_spec hD hf) ?_ ?_
 ·intro r H' h
  cases data with
  | nil =>
   obtain ⟨h1, _⟩ := h
   cases h1
  | cons x d =>
   unfold PostAddr at h
   simp only at h
   split at h
   ·rename_i hl
    obtain ⟨h1, h2⟩ := h
    cases h1
    exact hk x d rfl hl H' h2
   ·obtain ⟨h1, _⟩ := h
    cases h1
 ·intro ch H' h
  cases data with
  | nil =>
   obtain ⟨h1, h2⟩ := h
   cases h1
   exact hn (fun x r hxr => by cases hxr) _ H' h2
  | cons x d =>
   unfold PostAddr at h
   simp only at h
   split at h
   ·obtain ⟨h1, _⟩ := h
    cases h1
   ·rename_i hl
    obtain ⟨h1, h2⟩ := h
    cases h1
    exact hn (fun y r hxr => by
     injection hxr with e1 e2
     rw [← e1]
     exact hl) _ H' h2
end
attribute [local irreducible] LOps LCode LStep LCalls Go.GL.Pure QThen QBlock RetPost LQ LAny LLate LLateOp LS
section
variable {B0 : Nat} {w0 : World}
theorem exec_spec (k : MK) {s : MS} {st c : Nat} (hok : MsOk s) (hcl : c < 4294967296) (hdig : s.digit = true → s.data ≠ []) (hout : s.out.length ≤ 100000000000) {H : Heap} (h : StH k s st false H) :
  LCalls (KC B0 w0) 160 [ptr k.mb 0, u32 c] H (PostE k st (exeM c s)) := by
 generalize hR : exeM c s = R
 obtain ⟨vc, HC, vo, HO, HD, hC, hO, hD, rfl⟩ := h
 have hfew := hok.few
 have hdeep := hok.deep
 have hl : (us s.data.reverse).length = s.data.length := by rw [us_len, List.length_reverse]
 have hlc : (us s.calls.reverse).length = s.calls.length := by rw [us_len, List.length_reverse]
 have mk : ∀ (d : List Nat) (HD' : Heap), DH (k.mf s st false vc vo) d HD' → StH k { s with data := d } st false (HD' ++ (k.memH s.mem :: k.binH :: (HC ++ HO))) := fun d HD' h => ⟨vc, HC, vo, HO, HD', hC, hO, h, rfl⟩
 have mkT : ∀ (d : List Nat) (HD' : Heap), DH (k.mf s st false vc vo) d HD' → PostE k st (MR.trap s) (.panic trapV) (HD' ++ (k.memH s.mem :: k.binH :: (HC ++ HO))) := fun d HD' h => trapE (s := { s with data := d }) rfl (mk d HD' h)
 have hDD := hD
 obtain ⟨vd, HD0, hm, rfl⟩ := hD
 rw [List.cons_append]
 refine LCalls.intro Tryz.func160 rfl (n := 219) rfl rfl rfl ?_
 refine LCode.seq ?_
 refine LCode.region ?_
 refine LOps.pure (Pure.mv (lv := .atom _) rfl) rfl ?_
 refine LOps.nil ?_
 refine QThen.normal ?_
 refine LCode.block ?_
 refine LCode.seq ?_
 refine LCode.cut [(0, ptr k.mb 0), (1, u32 c), (14, u32 c), (36, bool (isDigN c))] ?_ (fun j hj => ?_)
 ·repeat first | refine LOps.nil ?_ | refine LCode.seq ?_ | refine LCode.region ?_ | refine QThen.normal ?_ | refine LOps.pure (Pure.eql rfl rfl) rfl ?_ | refine LOps.pure (Pure.as (lv := .atom _) rfl) rfl ?_
  refine LCode.cond rfl (fun hc => ?_) (fun c0 => ?_)
  ·repeat first | refine LCode.skip ?_ | refine QThen.normal ?_
   exact ⟨⟨rfl, rfl, rfl, bool_eq (hc.trans (dig_t (of_decide_eq_true hc) (by decide))), trivial⟩, rfl, rfl⟩
  repeat first | refine LOps.nil ?_ | refine LCode.seq ?_ | refine LCode.region ?_ | refine QThen.normal ?_ | refine LOps.pure (Pure.eql rfl rfl) rfl ?_ | refine LOps.pure (Pure.as (lv := .atom _) rfl) rfl ?_
  refine LCode.cond rfl (fun hc => ?_) (fun c1 => ?_)
  ·repeat first | refine LCode.skip ?_ | refine QThen.normal ?_
   exact ⟨⟨rfl, rfl, rfl, bool_eq (hc.trans (dig_t (of_decide_eq_true hc) (by decide))), trivial⟩, rfl, rfl⟩
  repeat first | refine LOps.nil ?_ | refine LCode.seq ?_ | refine LCode.region ?_ | refine QThen.normal ?_ | refine LOps.pure (Pure.eql rfl rfl) rfl ?_ | refine LOps.pure (Pure.as (lv := .atom _) rfl) rfl ?_
  refine LCode.cond rfl (fun hc => ?_) (fun c2 => ?_)
  ·repeat first | refine LCode.skip ?_ | refine QThen.normal ?_
   exact ⟨⟨rfl, rfl, rfl, bool_eq (hc.trans (dig_t (of_decide_eq_true hc) (by decide))), trivial⟩, rfl, rfl⟩
  repeat first | refine LOps.nil ?_ | refine LCode.seq ?_ | refine LCode.region ?_ | refine QThen.normal ?_ | refine LOps.pure (Pure.eql rfl rfl) rfl ?_ | refine LOps.pure (Pure.as (lv := .atom _) rfl) rfl ?_
  refine LCode.cond rfl (fun hc => ?_) (fun c3 => ?_)
  ·repeat first | refine LCode.skip ?_ | refine QThen.normal ?_
   exact ⟨⟨rfl, rfl, rfl, bool_eq (hc.trans (dig_t (of_decide_eq_true hc) (by decide))), trivial⟩, rfl, rfl⟩
  repeat first | refine LOps.nil ?_ | refine LCode.seq ?_ | refine LCode.region ?_ | refine QThen.normal ?_ | refine LOps.pure (Pure.eql rfl rfl) rfl ?_ | refine LOps.pure (Pure.as (lv := .atom _) rfl) rfl ?_
  refine LCode.cond rfl (fun hc => ?_) (fun c4 => ?_)
  ·repeat first | refine LCode.skip ?_ | refine QThen.normal ?_
   exact ⟨⟨rfl, rfl, rfl, bool_eq (hc.trans (dig_t (of_decide_eq_true hc) (by decide))), trivial⟩, rfl, rfl⟩
  repeat first | refine LOps.nil ?_ | refine LCode.seq ?_ | refine LCode.region ?_ | refine QThen.normal ?_ | refine LOps.pure (Pure.eql rfl rfl) rfl ?_ | refine LOps.pure (Pure.as (lv := .atom _) rfl) rfl ?_
  refine LCode.cond rfl (fun hc => ?_) (fun c5 => ?_)
  ·repeat first | refine LCode.skip ?_ | refine QThen.normal ?_
   exact ⟨⟨rfl, rfl, rfl, bool_eq (hc.trans (dig_t (of_decide_eq_true hc) (by decide))), trivial⟩, rfl, rfl⟩
  repeat first | refine LOps.nil ?_ | refine LCode.seq ?_ | refine LCode.region ?_ | refine QThen.normal ?_ | refine LOps.pure (Pure.eql rfl rfl) rfl ?_ | refine LOps.pure (Pure.as (lv := .atom _) rfl) rfl ?_
  refine LCode.cond rfl (fun hc => ?_) (fun c6 => ?_)
  ·repeat first | refine LCode.skip ?_ | refine QThen.normal ?_
   exact ⟨⟨rfl, rfl, rfl, bool_eq (hc.trans (dig_t (of_decide_eq_true hc) (by decide))), trivial⟩, rfl, rfl⟩
  repeat first | refine LOps.nil ?_ | refine LCode.seq ?_ | refine LCode.region ?_ | refine QThen.normal ?_ | refine LOps.pure (Pure.eql rfl rfl) rfl ?_ | refine LOps.pure (Pure.as (lv := .atom _) rfl) rfl ?_
  refine LCode.cond rfl (fun hc => ?_) (fun c7 => ?_)
  ·repeat first | refine LCode.skip ?_ | refine QThen.normal ?_
   exact ⟨⟨rfl, rfl, rfl, bool_eq (hc.trans (dig_t (of_decide_eq_true hc) (by decide))), trivial⟩, rfl, rfl⟩
  repeat first | refine LOps.nil ?_ | refine LCode.seq ?_ | refine LCode.region ?_ | refine QThen.normal ?_ | refine LOps.pure (Pure.eql rfl rfl) rfl ?_ | refine LOps.pure (Pure.as (lv := .atom _) rfl) rfl ?_
  refine LCode.cond rfl (fun hc => ?_) (fun c8 => ?_)
  ·repeat first | refine LCode.skip ?_ | refine QThen.normal ?_
   exact ⟨⟨rfl, rfl, rfl, bool_eq (hc.trans (dig_t (of_decide_eq_true hc) (by decide))), trivial⟩, rfl, rfl⟩
  repeat first | refine LOps.nil ?_ | refine LCode.region ?_ | refine QThen.normal ?_ | refine LOps.pure (Pure.eql rfl rfl) rfl ?_ | refine LOps.pure (Pure.as (lv := .atom _) rfl) rfl ?_
  exact ⟨⟨rfl, rfl, rfl, bool_eq (by
   have d0 := of_decide_eq_false c0
   have d1 := of_decide_eq_false c1
   have d2 := of_decide_eq_false c2
   have d3 := of_decide_eq_false c3
   have d4 := of_decide_eq_false c4
   have d5 := of_decide_eq_false c5
   have d6 := of_decide_eq_false c6
   have d7 := of_decide_eq_false c7
   have d8 := of_decide_eq_false c8
   unfold isDigN
   rw [← Bool.decide_and, decide_eq_decide]
   omega), trivial⟩, rfl, rfl⟩
 refine LCode.cond rfl (fun hc => ?_) (fun hnd => ?_)
 ·have hcd : 48 ≤ c ∧ c ≤ 57 := by
   unfold isDigN at hc
   rw [Bool.and_eq_true, decide_eq_true_eq, decide_eq_true_eq] at hc
   exact hc
  have hR2 : digM' c s = R := by
   rw [← hR]
   unfold exeM
   rw [if_pos hc]
  repeat first | refine LCode.seq ?_ | refine LCode.region ?_ | refine LOps.pure (Pure.mv (lv := .atom _) rfl) rfl ?_ | refine LOps.pure (Pure.nilCheckH rfl) rfl ?_ | refine LOps.pure (Pure.fieldH rfl) rfl ?_ | refine LOps.pure (Pure.loadH (c := .atom _) rfl (List.Mem.head _) rfl) rfl ?_
  refine LOps.pure (Pure.mlen rfl hm) rfl ?_
  repeat first | refine LOps.nil ?_ | refine LCode.seq ?_ | refine LCode.region ?_ | refine QThen.normal ?_ | refine LOps.pure (Pure.mv (lv := .atom _) rfl) rfl ?_ | refine LOps.pure (Pure.as (lv := .atom _) rfl) rfl ?_ | refine LOps.pure (Pure.nilCheckH rfl) rfl ?_ | refine LOps.pure (Pure.fieldH rfl) rfl ?_ | refine LOps.pure (Pure.loadH (c := .atom _) rfl (List.Mem.head _) rfl) rfl ?_ | refine LOps.pure (Pure.sub rfl rfl (by omega)) rfl ?_
  refine LCode.cond rfl (fun hdg => ?_) (fun hdg => ?_)
  ·obtain ⟨d, r, hdr⟩ : ∃ d r, s.data = d :: r := by
    cases hd : s.data with
    | nil => exact absurd hd (hdig hdg)
    | cons d r => exact ⟨d, r, rfl⟩
   have hRr : R = .run { s with data := ((d * 10 + c - 48) % 4294967296) :: r } := by
    rw [← hR2]
    unfold digM'
    rw [if_pos hdg, hdr]
   subst hRr
   have hln : s.data.length = r.length + 1 := by rw [hdr]; rfl
   have hrl : (us r.reverse).length = r.length := by rw [us_len, List.length_reverse]
   have hus : us s.data.reverse = us r.reverse ++ us [d] := by rw [hdr, List.reverse_cons, us_app]
   rw [hus] at hm
   obtain ⟨b, cap, spare, h1, h2, hc1, hc2⟩ := MRow.addr hm (by simp [us])
   have hel : (us r.reverse ++ us [d]).length = r.length + 1 := by rw [List.length_append, hrl]; rfl
   have hfl : (us r.reverse ++ us [d]).flatMap LV.cells = us r.reverse ++ us [d] := by rw [← us_app]; exact us_flat _
   rw [hfl, List.append_assoc] at h2
   rw [hel] at h1 hc1 hc2
   subst h1 h2
   have hval : IntKind.u32.wrap (IntKind.u32.wrap (IntKind.u32.wrap ((d : Int) * 10) + (c : Int)) - 48) = (((d * 10 + c - 48) % 4294967296 : Nat) : Int) := by
    rw [wrapU, wrapU, wrapU]
    omega
   refine LCode.draw (m := 18) rfl [(k.mb, LObj.cells 164 ((k.mf s st false vc vo).cells (.slice (some ⟨b, 0, none⟩) (r.length + 1) cap)))] ?_
   refine LAny.tk 0 rfl rfl (Pure.mv (lv := .atom _) rfl) ?_
   refine LAny.tk 1 rfl rfl (Pure.nilCheckH rfl) ?_
   refine LAny.tk 2 rfl rfl (Pure.fieldH rfl) ?_
   refine LAny.tk 3 rfl rfl (Pure.loadH (c := .atom _) rfl (List.Mem.head _) rfl) ?_
   refine LAny.tk 4 rfl rfl (Pure.mv (lv := .atom _) rfl) ?_
   refine LAny.tk 5 rfl rfl (Pure.mv (lv := .atom _) rfl) ?_
   refine LAny.tk 6 rfl rfl (Pure.nilCheckH rfl) ?_
   refine LAny.tk 7 rfl rfl (Pure.fieldH rfl) ?_
   refine LAny.tk 8 rfl rfl (Pure.loadH (c := .atom _) rfl (List.Mem.head _) rfl) ?_
   refine LAny.tk 9 rfl rfl (Pure.mv (lv := .atom _) rfl) ?_
   refine LAny.tk 10 rfl rfl (Pure.indexRowE (o := r.length) rfl rfl (by omega) (by omega) (by omega)) ?_
   refine LAny.tk 13 rfl rfl (Pure.mv (lv := .atom _) rfl) ?_
   refine LAny.late ?_ (HSub.pick Pick.here (HSub.nil _))
   refine LLate.o 11 (LLateOp.pureH rfl rfl (Pure.loadH (c := u32 d) rfl (List.Mem.tail _ (List.Mem.head _)) (by rw [List.getElem?_append_right (by omega), hrl, Nat.sub_self]; rfl)) ?_)
   refine LLate.o 12 (LLateOp.pureH rfl rfl (Pure.mulW rfl rfl) ?_)
   refine LLate.o 14 (LLateOp.pureH rfl rfl (Pure.addW rfl rfl) ?_)
   refine LLate.o 15 (LLateOp.pureH rfl rfl (Pure.subW rfl rfl) ?_)
   refine LLate.o 16 (LLateOp.pureH rfl rfl (Pure.indexRowE (o := r.length) rfl rfl (by omega) (by omega) (by omega)) ?_)
   refine LLate.one (i := 17) (by kernel_rfl) ?_
   refine LLateOp.step (H1 := [_]) (F := _ :: (k.memH s.mem :: k.binH :: (HC ++ HO))) rfl (.inl rfl) rfl (Pick.there Pick.here) (HSub.pick Pick.here (HSub.nil _)) ?_
   refine (S.store (vs := [u32 ((d * 10 + c - 48) % 4294967296)]) (cs' := us r.reverse ++ (u32 ((d * 10 + c - 48) % 4294967296) :: spare)) rfl Pick.here (by show some [int .u32 _] = some [int .u32 _]; rw [← hval]) rfl (by rw [Nat.ble_eq, List.length_append, hrl, List.length_append]; show r.length + 1 ≤ r.length + (1 + spare.length); omega) rfl (by
    have := setL_app (us r.reverse) (us [d] ++ spare) 0 [u32 ((d * 10 + c - 48) % 4294967296)]
    rw [hrl, Nat.add_zero] at this
    rw [this]
    show us r.reverse ++ (u32 _ :: setL spare 0 []) = _
    rw [setL_none]) ?_)
   refine LLate.done (by kernel_rfl) ?_
   repeat first | refine QBlock.normal ?_
   have hst : StH k { s with data := ((d * 10 + c - 48) % 4294967296) :: r } st false (((k.mb, .cells 164 ((k.mf s st false vc vo).cells (.slice (some ⟨b, 0, none⟩) (r.length + 1) cap))) :: [(b, .cells 56 (us r.reverse ++ (u32 ((d * 10 + c - 48) % 4294967296) :: spare)))]) ++ (k.memH s.mem :: k.binH :: (HC ++ HO))) :=
    mk _ _ ⟨_, _, by
     have := mrow_us (el := 56) (b := b) (m := r.length + 1) (cap := cap) (l := (((d * 10 + c - 48) % 4294967296) :: r).reverse) (spare := spare) (by simp) (by omega) (by omega)
     rw [List.reverse_cons, us_app, List.append_assoc] at this
     rw [List.reverse_cons, us_app]
     exact this, rfl⟩
   exact RetPost.normal hj AllRes.nil ⟨[], by rw [List.append_nil]; exact List.Perm.swap _ _ _⟩ ⟨rfl, hst⟩
  ·have hsub : IntKind.u32.wrap ((c : Int) - 48) = ((c - 48 : Nat) : Int) := by
    rw [wrapU]
    omega
   have hRr : pushM (c - 48) s = R := by
    rw [← hR2]
    unfold digM'
    have hdg' : s.digit = false := hdg
    rw [if_neg (by rw [hdg']; decide)]
   unfold pushM at hRr
   repeat first | refine LCode.region ?_ | refine LOps.pure (Pure.mv (lv := .atom _) rfl) rfl ?_
   refine LOps.pure (Pure.subW rfl rfl) rfl ?_
   refine LOps.step (S.push (v := c - 48) (by show [_, int .u32 _] = [_, int .u32 _]; rw [← hsub]; rfl) (List.Perm.refl _) hDD hfew (fun hlt HD' hD' => ?_) (fun hlt HD' hD' e' he' => ?_)) rfl
   ·rw [if_pos hlt] at hRr
    subst hRr
    repeat first | refine LOps.nil ?_ | refine QBlock.normal ?_
    exact RetPost.normal hj AllRes.nil (HSub.refl _) ⟨rfl, mk _ _ hD'⟩
   ·rw [if_neg hlt] at hRr
    subst hRr
    repeat first | refine QBlock.panic ?_
    exact RetPost.panic (he'.trans hj) (HSub.refl _) (mkT _ _ hD')
 have hnd' : ¬ isDigN c = true := by rw [hnd]; decide
 refine LCode.seq ?_
 refine LCode.cut [(0, ptr k.mb 0), (1, u32 c), (14, u32 c), (78, bool (decide (c = 32 ∨ c = 10)))] ?_ (fun j2 hj2 => ?_)
 ·repeat first | refine LOps.nil ?_ | refine LCode.seq ?_ | refine LCode.region ?_ | refine QThen.normal ?_ | refine LOps.pure (Pure.eql rfl rfl) rfl ?_ | refine LOps.pure (Pure.as (lv := .atom _) rfl) rfl ?_
  refine LCode.cond rfl (fun hc => ?_) (fun c0 => ?_)
  ·repeat first | refine LCode.skip ?_ | refine QThen.normal ?_
   exact ⟨⟨rfl, rfl, rfl, bool_eq (hc.trans (decide_eq_true (by have := of_decide_eq_true hc; omega)).symm), trivial⟩, rfl, rfl⟩
  repeat first | refine LOps.nil ?_ | refine LCode.region ?_ | refine QThen.normal ?_ | refine LOps.pure (Pure.eql rfl rfl) rfl ?_ | refine LOps.pure (Pure.as (lv := .atom _) rfl) rfl ?_
  exact ⟨⟨rfl, rfl, rfl, bool_eq (by have := of_decide_eq_false c0; rw [decide_eq_decide]; omega), trivial⟩, rfl, rfl⟩
 have hjj := hj2.trans hj
 refine LCode.cond rfl (fun hc => ?_) (fun c0 => ?_)
 ·have hcw := of_decide_eq_true hc
  have hRr : R = .run s := by
   rw [← hR]
   unfold exeM
   rw [if_neg hnd', if_pos hcw]
  subst hRr
  repeat first | refine LCode.skip ?_ | refine QBlock.normal ?_
  exact RetPost.normal hjj AllRes.nil (HSub.refl _) ⟨rfl, mk _ _ hDD⟩
 have hw0 := of_decide_eq_false c0
 repeat first | refine LOps.nil ?_ | refine LCode.seq ?_ | refine LCode.region ?_ | refine QThen.normal ?_ | refine LOps.pure (Pure.eql rfl rfl) rfl ?_ | refine LOps.pure (Pure.as (lv := .atom _) rfl) rfl ?_
 refine LCode.cond rfl (fun hc => ?_) (fun c1 => ?_)
 ·obtain rfl : c = 64 := by have := of_decide_eq_true hc; omega
  have hR2 : ldM s = R := hR
  refine LCode.draw (m := 10) rfl [] ?_
  refine LAny.tk 0 rfl rfl (Pure.mv (lv := .atom _) rfl) ?_
  refine LAny.tk 1 rfl rfl (Pure.mv (lv := .atom _) rfl) ?_
  refine LAny.tk 2 rfl rfl (Pure.nilCheckH rfl) ?_
  refine LAny.tk 3 rfl rfl (Pure.fieldH rfl) ?_
  refine LAny.tk 5 rfl rfl (Pure.mv (lv := .atom _) rfl) ?_
  refine LAny.late ?_ (HSub.nil _)
  refine LLate.two (i := 4) (j := 6) (by kernel_rfl) ?_ ?_
  ·refine LLateOp.pureH rfl rfl (Pure.loadH (c := .atom (memV k)) rfl (List.Mem.head _) rfl) ?_
   refine LLate.one (i := 6) (by kernel_rfl) ?_
   refine LLateOp.whole rfl (.inl rfl) rfl (S.address rfl (List.Perm.refl _) hDD hfew (fun a r hdr ha HD' hD' => ?_) (fun hb d HD' hD' e' he' => ?_))
   rotate_left
   ·have hRt : R = .trap s := by
     rw [← hR2]
     unfold ldM
     cases hd : s.data with
     | nil => rfl
     | cons x r => simp only; rw [if_neg (hb x r hd)]
    subst hRt
    repeat first | refine QBlock.panic ?_
    exact RetPost.panic (he'.trans hjj) (HSub.refl _) (mkT _ _ hD')
   have hRr : pushM (s.mem a) { s with data := r } = R := by
    rw [← hR2]
    unfold ldM
    rw [hdr]
    simp only
    rw [if_pos ha]
   unfold pushM at hRr
   simp only at hRr
   have hrl : r.length ≤ 256 := by rw [hdr, List.length_cons] at hfew; omega
   have hD2' := hD'
   obtain ⟨vd', HD1, hm', rfl⟩ := hD2'
   refine LLate.o 7 (LLateOp.pureH rfl rfl (Pure.indexRowE (o := a) rfl rfl (by omega) (by omega) (by omega)) ?_)
   refine LLate.o 8 (LLateOp.pureH rfl rfl (Pure.loadH (c := u32 (s.mem a)) rfl (List.mem_append_right _ (List.Mem.head _)) (memL_get _ ha)) ?_)
   refine LLate.o 9 (LLateOp.whole rfl (.inl rfl) rfl (S.push (v := s.mem a) rfl (List.Perm.refl _) hD' hrl (fun hlt HD2 hD2 => ?_) (fun hlt HD2 hD2 e' he' => ?_)))
   ·rw [if_pos hlt] at hRr
    subst hRr
    refine LLate.done (by kernel_rfl) ?_
    repeat first | refine QBlock.normal ?_
    exact RetPost.normal hjj AllRes.nil (HSub.refl _) ⟨rfl, mk _ _ hD2⟩
   ·rw [if_neg hlt] at hRr
    subst hRr
    repeat first | refine QBlock.panic ?_
    exact RetPost.panic (he'.trans hjj) (HSub.refl _) (mkT _ _ hD2)
  ·refine LLateOp.whole rfl (.inl rfl) rfl (S.address rfl (List.Perm.refl _) hDD hfew (fun a r hdr ha HD' hD' => ?_) (fun hb d HD' hD' e' he' => ?_))
   rotate_left
   ·have hRt : R = .trap s := by
     rw [← hR2]
     unfold ldM
     cases hd : s.data with
     | nil => rfl
     | cons x r => simp only; rw [if_neg (hb x r hd)]
    subst hRt
    repeat first | refine QBlock.panic ?_
    exact RetPost.panic (he'.trans hjj) (HSub.refl _) (mkT _ _ hD')
   have hRr : pushM (s.mem a) { s with data := r } = R := by
    rw [← hR2]
    unfold ldM
    rw [hdr]
    simp only
    rw [if_pos ha]
   unfold pushM at hRr
   simp only at hRr
   have hrl : r.length ≤ 256 := by rw [hdr, List.length_cons] at hfew; omega
   have hD2' := hD'
   obtain ⟨vd', HD1, hm', rfl⟩ := hD2'
   refine LLate.o 4 (LLateOp.pureH rfl rfl (Pure.loadH (c := .atom (memV k)) rfl (List.Mem.head _) rfl) ?_)
   refine LLate.o 7 (LLateOp.pureH rfl rfl (Pure.indexRowE (o := a) rfl rfl (by omega) (by omega) (by omega)) ?_)
   refine LLate.o 8 (LLateOp.pureH rfl rfl (Pure.loadH (c := u32 (s.mem a)) rfl (List.mem_append_right _ (List.Mem.head _)) (memL_get _ ha)) ?_)
   refine LLate.o 9 (LLateOp.whole rfl (.inl rfl) rfl (S.push (v := s.mem a) rfl (List.Perm.refl _) hD' hrl (fun hlt HD2 hD2 => ?_) (fun hlt HD2 hD2 e' he' => ?_)))
   ·rw [if_pos hlt] at hRr
    subst hRr
    refine LLate.done (by kernel_rfl) ?_
    repeat first | refine QBlock.normal ?_
    exact RetPost.normal hjj AllRes.nil (HSub.refl _) ⟨rfl, mk _ _ hD2⟩
   ·rw [if_neg hlt] at hRr
    subst hRr
    repeat first | refine QBlock.panic ?_
    exact RetPost.panic (he'.trans hjj) (HSub.refl _) (mkT _ _ hD2)
 have n64 := of_decide_eq_false c1
 repeat first | refine LOps.nil ?_ | refine LCode.seq ?_ | refine LCode.region ?_ | refine QThen.normal ?_ | refine LOps.pure (Pure.eql rfl rfl) rfl ?_ | refine LOps.pure (Pure.as (lv := .atom _) rfl) rfl ?_
 refine LCode.cond rfl (fun hc => ?_) (fun c2 => ?_)
 ·obtain rfl : c = 33 := by have := of_decide_eq_true hc; omega
  have hR2 : stoM s = R := hR
  repeat first | refine LCode.seq ?_ | refine LCode.region ?_ | refine LOps.pure (Pure.mv (lv := .atom _) rfl) rfl ?_
  refine LOps.step (S.address rfl (List.Perm.refl _) hDD hfew (fun a r hdr ha HD' hD' => ?_) (fun hb d HD' hD' e' he' => ?_)) rfl
  rotate_left
  ·have hRt : R = .trap s := by
    rw [← hR2]
    unfold stoM
    cases hd : s.data with
    | nil => rfl
    | cons x r =>
     cases r with
     | nil => rfl
     | cons y r => simp only; rw [if_neg (hb x _ hd)]
   subst hRt
   repeat first | refine QThen.panic ?_ | refine QBlock.panic ?_
   exact RetPost.panic (he'.trans hjj) (HSub.refl _) (mkT _ _ hD')
  have hrl : r.length ≤ 256 := by rw [hdr, List.length_cons] at hfew; omega
  have hD3 := hD'
  obtain ⟨vd', HD1, hm', rfl⟩ := hD3
  repeat first | refine LOps.nil ?_ | refine QThen.normal ?_ | refine LOps.pure (Pure.as (lv := .atom _) rfl) rfl ?_
  refine LCode.draw (m := 9) rfl [] ?_
  refine LAny.tk 0 rfl rfl (Pure.mv (lv := .atom _) rfl) ?_
  refine LAny.tk 1 rfl rfl (Pure.nilCheckH rfl) ?_
  refine LAny.tk 2 rfl rfl (Pure.fieldH rfl) ?_
  refine LAny.tk 4 rfl rfl (Pure.mv (lv := .atom _) rfl) ?_
  refine LAny.tk 5 rfl rfl (Pure.mv (lv := .atom _) rfl) ?_
  refine LAny.late ?_ (HSub.nil _)
  refine LLate.two (i := 3) (j := 6) (by kernel_rfl) ?_ ?_
  ·refine LLateOp.pureH rfl rfl (Pure.loadH (c := .atom (memV k)) rfl (List.Mem.head _) rfl) ?_
   refine LLate.one (i := 6) (by kernel_rfl) ?_
   refine LLateOp.whole rfl (.inl rfl) rfl (S.pop rfl (List.Perm.refl _) hD' hrl (fun v r2 hdr2 HD2 hD2 => ?_) (fun hb HD2 hD2 e' he' => ?_))
   rotate_left
   ·have hRt : R = .trap s := by
     rw [← hR2]
     unfold stoM
     rw [hdr, hb]
    subst hRt
    repeat first | refine QBlock.panic ?_
    exact RetPost.panic (he'.trans hjj) (HSub.refl _) (mkT _ _ hD2)
   have hRr : R = .run { s with data := r2, mem := fun i => if i = a then v else s.mem i } := by
    rw [← hR2]
    unfold stoM
    rw [hdr, hdr2]
    simp only
    rw [if_pos ha]
   subst hRr
   have hD4 := hD2
   obtain ⟨vd2, HD3, hm2, rfl⟩ := hD4
   refine LLate.o 7 (LLateOp.pureH rfl rfl (Pure.indexRowE (o := a) rfl rfl (by omega) (by omega) (by omega)) ?_)
   refine LLate.o 8 (LLateOp.whole rfl (.inl rfl) rfl (S.store (n := 1) (vs := [u32 v]) (cs' := memL (fun i => if i = a then v else s.mem i)) rfl (show Pick _ _ _ from List.perm_middle) rfl rfl (by rw [Nat.ble_eq, memL_len]; omega) rfl (memL_set _ _ _) ?_))
   refine LLate.done (by kernel_rfl) ?_
   repeat first | refine QBlock.normal ?_
   exact RetPost.normal hjj AllRes.nil ⟨[], by rw [List.append_nil]; exact List.perm_middle.symm⟩ ⟨rfl, vc, HC, vo, HO, _, hC, hO, hD2, rfl⟩
  ·refine LLateOp.whole rfl (.inl rfl) rfl (S.pop rfl (List.Perm.refl _) hD' hrl (fun v r2 hdr2 HD2 hD2 => ?_) (fun hb HD2 hD2 e' he' => ?_))
   rotate_left
   ·have hRt : R = .trap s := by
     rw [← hR2]
     unfold stoM
     rw [hdr, hb]
    subst hRt
    repeat first | refine QBlock.panic ?_
    exact RetPost.panic (he'.trans hjj) (HSub.refl _) (mkT _ _ hD2)
   have hRr : R = .run { s with data := r2, mem := fun i => if i = a then v else s.mem i } := by
    rw [← hR2]
    unfold stoM
    rw [hdr, hdr2]
    simp only
    rw [if_pos ha]
   subst hRr
   have hD4 := hD2
   obtain ⟨vd2, HD3, hm2, rfl⟩ := hD4
   refine LLate.o 3 (LLateOp.pureH rfl rfl (Pure.loadH (c := .atom (memV k)) rfl (List.Mem.head _) rfl) ?_)
   refine LLate.o 7 (LLateOp.pureH rfl rfl (Pure.indexRowE (o := a) rfl rfl (by omega) (by omega) (by omega)) ?_)
   refine LLate.o 8 (LLateOp.whole rfl (.inl rfl) rfl (S.store (n := 1) (vs := [u32 v]) (cs' := memL (fun i => if i = a then v else s.mem i)) rfl (show Pick _ _ _ from List.perm_middle) rfl rfl (by rw [Nat.ble_eq, memL_len]; omega) rfl (memL_set _ _ _) ?_))
   refine LLate.done (by kernel_rfl) ?_
   repeat first | refine QBlock.normal ?_
   exact RetPost.normal hjj AllRes.nil ⟨[], by rw [List.append_nil]; exact List.perm_middle.symm⟩ ⟨rfl, vc, HC, vo, HO, _, hC, hO, hD2, rfl⟩
 have n33 := of_decide_eq_false c2
 repeat first | refine LOps.nil ?_ | refine LCode.seq ?_ | refine LCode.region ?_ | refine QThen.normal ?_ | refine LOps.pure (Pure.eql rfl rfl) rfl ?_ | refine LOps.pure (Pure.as (lv := .atom _) rfl) rfl ?_
 refine LCode.cond rfl (fun hc => ?_) (fun c3 => ?_)
 ·obtain rfl : c = 63 := by have := of_decide_eq_true hc; omega
  have hR2 : jmpM s = R := hR
  repeat first | refine LCode.seq ?_ | refine LCode.region ?_ | refine LOps.pure (Pure.mv (lv := .atom _) rfl) rfl ?_
  refine LOps.step (S.pop rfl (List.Perm.refl _) hDD hfew (fun t r hdr HD' hD' => ?_) (fun hb HD' hD' e' he' => ?_)) rfl
  rotate_left
  ·have hRt : R = .trap s := by
    rw [← hR2]
    unfold jmpM
    rw [hb]
   subst hRt
   repeat first | refine QThen.panic ?_ | refine QBlock.panic ?_
   exact RetPost.panic (he'.trans hjj) (HSub.refl _) (mkT _ _ hD')
  have hrl : r.length ≤ 256 := by rw [hdr, List.length_cons] at hfew; omega
  repeat first | refine LOps.nil ?_ | refine LCode.seq ?_ | refine LCode.region ?_ | refine QThen.normal ?_ | refine LOps.pure (Pure.mv (lv := .atom _) rfl) rfl ?_ | refine LOps.pure (Pure.as (lv := .atom _) rfl) rfl ?_
  refine LOps.step (S.pop rfl (List.Perm.refl _) hD' hrl (fun v r2 hdr2 HD2 hD2 => ?_) (fun hb HD2 hD2 e' he' => ?_)) rfl
  rotate_left
  ·have hRt : R = .trap s := by
    rw [← hR2]
    unfold jmpM
    rw [hdr, hb]
   subst hRt
   repeat first | refine QThen.panic ?_ | refine QBlock.panic ?_
   exact RetPost.panic (he'.trans hjj) (HSub.refl _) (mkT _ _ hD2)
  have hRr : R = .run { s with data := r2, pc := if v = 0 then t else s.pc } := by
   rw [← hR2]
   unfold jmpM
   rw [hdr, hdr2]
  obtain ⟨vd2, HD3, hm2, rfl⟩ := hD2
  repeat first | refine LOps.nil ?_ | refine QThen.normal ?_ | refine LOps.pure (Pure.eql rfl rfl) rfl ?_
  refine LCode.cond rfl (fun hv => ?_) (fun hv => ?_)
  ·have hv0 : v = 0 := by have := of_decide_eq_true hv; omega
   rw [if_pos hv0] at hRr
   subst hRr
   repeat first | refine LOps.nil ?_ | refine LCode.region ?_ | refine QBlock.normal ?_ | refine LOps.pure (Pure.mv (lv := .atom _) rfl) rfl ?_ | refine LOps.pure (Pure.nilCheckH rfl) rfl ?_ | refine LOps.pure (Pure.fieldH rfl) rfl ?_ | refine LOps.step (S.store (cs' := [_, _, _, _, _, _, _, _, _, _]) rfl Pick.here rfl rfl rfl rfl rfl ?_) rfl
   exact RetPost.normal hjj AllRes.nil (HSub.refl _) ⟨rfl, vc, HC, vo, HO, _ :: HD3, hC, hO, ⟨vd2, HD3, hm2, rfl⟩, rfl⟩
  ·have hv0 : ¬ v = 0 := by have := of_decide_eq_false hv; omega
   rw [if_neg hv0] at hRr
   subst hRr
   repeat first | refine LCode.skip ?_ | refine QBlock.normal ?_
   exact RetPost.normal hjj AllRes.nil (HSub.refl _) ⟨rfl, mk _ _ ⟨vd2, HD3, hm2, rfl⟩⟩
 have n63 := of_decide_eq_false c3
 repeat first | refine LOps.nil ?_ | refine LCode.seq ?_ | refine LCode.region ?_ | refine QThen.normal ?_ | refine LOps.pure (Pure.eql rfl rfl) rfl ?_ | refine LOps.pure (Pure.as (lv := .atom _) rfl) rfl ?_
 refine LCode.cond rfl (fun hc => ?_) (fun c4 => ?_)
 ·obtain rfl : c = 58 := by have := of_decide_eq_true hc; omega
  have hR2 : callM s = R := hR
  repeat first | refine LCode.seq ?_ | refine LCode.region ?_ | refine LOps.pure (Pure.mv (lv := .atom _) rfl) rfl ?_
  refine LOps.step (S.pop rfl (List.Perm.refl _) hDD hfew (fun t r hdr HD' hD' => ?_) (fun hb HD' hD' e' he' => ?_)) rfl
  rotate_left
  ·have hRt : R = .trap s := by
    rw [← hR2]
    unfold callM
    rw [hb]
   subst hRt
   repeat first | refine QThen.panic ?_ | refine QBlock.panic ?_
   exact RetPost.panic (he'.trans hjj) (HSub.refl _) (mkT _ _ hD')
  have hD3 := hD'
  obtain ⟨vd2, HD3, hm2, rfl⟩ := hD3
  repeat first | refine LOps.nil ?_ | refine LCode.seq ?_ | refine LCode.region ?_ | refine QThen.normal ?_ | refine LOps.pure (Pure.mv (lv := .atom _) rfl) rfl ?_ | refine LOps.pure (Pure.as (lv := .atom _) rfl) rfl ?_ | refine LOps.pure (Pure.nilCheckH rfl) rfl ?_ | refine LOps.pure (Pure.fieldH rfl) rfl ?_ | refine LOps.pure (Pure.loadH (c := .atom _) rfl (List.Mem.head _) rfl) rfl ?_
  refine LOps.pure (Pure.mlen rfl hC) rfl ?_
  repeat first | refine LOps.pure (Pure.lss rfl rfl) rfl ?_
  refine LOps.step (S.check rfl (fun hb => ?_) (fun hb e' he' => ?_)) rfl
  rotate_left
  ·have hlt : ¬ s.calls.length < 64 := by have := of_decide_eq_false hb; omega
   have hRt : R = .trap s := by
    rw [← hR2]
    unfold callM
    rw [hdr]
    simp only
    rw [if_neg hlt]
   subst hRt
   repeat first | refine QThen.panic ?_ | refine QBlock.panic ?_
   exact RetPost.panic (he'.trans hjj) (HSub.refl _) (mkT _ _ hD')
  have hlt : s.calls.length < 64 := by have := of_decide_eq_true hb; omega
  have hRr : R = .run { s with data := r, calls := s.pc :: s.calls, pc := t } := by
   rw [← hR2]
   unfold callM
   rw [hdr]
   simp only
   rw [if_pos hlt]
  subst hRr
  repeat first | refine LOps.nil ?_ | refine LCode.seq ?_ | refine QThen.normal ?_
  refine LCode.draw (m := 14) rfl [] ?_
  refine LAny.tk 0 rfl rfl (Pure.mv (lv := .atom _) rfl) ?_
  refine LAny.tk 1 rfl rfl (Pure.mv (lv := .atom _) rfl) ?_
  refine LAny.tk 2 rfl rfl (Pure.nilCheckH rfl) ?_
  refine LAny.tk 3 rfl rfl (Pure.fieldH rfl) ?_
  refine LAny.tk 5 rfl rfl (Pure.mv (lv := .atom _) rfl) ?_
  refine LAny.tk 6 rfl rfl (Pure.nilCheckH rfl) ?_
  refine LAny.tk 7 rfl rfl (Pure.fieldH rfl) ?_
  refine LAny.late ?_ (HSub.nil _)
  refine LLate.two (i := 4) (j := 8) (by kernel_rfl) ?_ ?_
  ·refine LLateOp.pureH rfl rfl (Pure.loadH (c := .atom vc) rfl (List.Mem.head _) rfl) ?_
   refine LLate.one (i := 8) (by kernel_rfl) ?_
   refine LLateOp.pureH rfl rfl (Pure.loadH (c := u32 s.pc) rfl (List.Mem.head _) rfl) ?_
   refine LLate.one (i := 9) (by kernel_rfl) ?_
   refine LLateOp.whole rfl (.inl rfl) rfl (S.lit [_] rfl (elemsOk.cons rfl rfl elemsOk.nil) rfl rfl rfl ?_)
   refine LLate.one (i := 10) (by kernel_rfl) ?_
   refine LLateOp.whole rfl (.inl rfl) rfl (S.appM (HM := HC) (F := _ :: (HD3 ++ (k.memH s.mem :: k.binH :: HO))) rfl permC hC rfl (by simp; rfl) rfl (by simp; omega) fun v' H' hm' => ?_)
   refine LLate.one (i := 11) (by kernel_rfl) ?_
   refine LLateOp.pureH rfl rfl (Pure.nilCheckH rfl) ?_
   refine LLate.one (i := 12) (by kernel_rfl) ?_
   refine LLateOp.pureH rfl rfl (Pure.fieldH rfl) ?_
   refine LLate.one (i := 13) (by kernel_rfl) ?_
   refine LLateOp.whole rfl (.inl rfl) rfl (S.store (n := 1) (vs := [LV.atom v']) (cs' := [_, _, _, _, _, _, _, _, _, _]) rfl Pick.here (mrow_ok hm').1 rfl rfl (mrow_ok hm').2 rfl ?_)
   refine LLate.done (by kernel_rfl) ?_
   repeat first | refine LOps.nil ?_ | refine LCode.region ?_ | refine QThen.normal ?_ | refine QBlock.normal ?_ | refine LOps.pure (Pure.mv (lv := .atom _) rfl) rfl ?_ | refine LOps.pure (Pure.nilCheckH rfl) rfl ?_ | refine LOps.pure (Pure.fieldH rfl) rfl ?_ | refine LOps.step (S.store (cs' := [_, _, _, _, _, _, _, _, _, _]) rfl Pick.here rfl rfl rfl rfl rfl ?_) rfl
   have hm3 : MRow 56 1 v' (us (s.pc :: s.calls).reverse) H' := by
    rw [List.reverse_cons, us_app]
    exact hm'
   exact RetPost.normal hjj AllRes.nil ⟨[], by rw [List.append_nil]; exact List.perm_append_comm.trans permC.symm⟩ ⟨rfl, v', H', vo, HO, _ :: HD3, hm3, hO, ⟨vd2, HD3, hm2, rfl⟩, rfl⟩
  ·refine LLateOp.pureH rfl rfl (Pure.loadH (c := u32 s.pc) rfl (List.Mem.head _) rfl) ?_
   refine LLate.two (i := 4) (j := 9) (by kernel_rfl) ?_ ?_
   ·refine LLateOp.pureH rfl rfl (Pure.loadH (c := .atom vc) rfl (List.Mem.head _) rfl) ?_
    refine LLate.one (i := 9) (by kernel_rfl) ?_
    refine LLateOp.whole rfl (.inl rfl) rfl (S.lit [_] rfl (elemsOk.cons rfl rfl elemsOk.nil) rfl rfl rfl ?_)
    refine LLate.one (i := 10) (by kernel_rfl) ?_
    refine LLateOp.whole rfl (.inl rfl) rfl (S.appM (HM := HC) (F := _ :: (HD3 ++ (k.memH s.mem :: k.binH :: HO))) rfl permC hC rfl (by simp; rfl) rfl (by simp; omega) fun v' H' hm' => ?_)
    refine LLate.one (i := 11) (by kernel_rfl) ?_
    refine LLateOp.pureH rfl rfl (Pure.nilCheckH rfl) ?_
    refine LLate.one (i := 12) (by kernel_rfl) ?_
    refine LLateOp.pureH rfl rfl (Pure.fieldH rfl) ?_
    refine LLate.one (i := 13) (by kernel_rfl) ?_
    refine LLateOp.whole rfl (.inl rfl) rfl (S.store (n := 1) (vs := [LV.atom v']) (cs' := [_, _, _, _, _, _, _, _, _, _]) rfl Pick.here (mrow_ok hm').1 rfl rfl (mrow_ok hm').2 rfl ?_)
    refine LLate.done (by kernel_rfl) ?_
    repeat first | refine LOps.nil ?_ | refine LCode.region ?_ | refine QThen.normal ?_ | refine QBlock.normal ?_ | refine LOps.pure (Pure.mv (lv := .atom _) rfl) rfl ?_ | refine LOps.pure (Pure.nilCheckH rfl) rfl ?_ | refine LOps.pure (Pure.fieldH rfl) rfl ?_ | refine LOps.step (S.store (cs' := [_, _, _, _, _, _, _, _, _, _]) rfl Pick.here rfl rfl rfl rfl rfl ?_) rfl
    have hm3 : MRow 56 1 v' (us (s.pc :: s.calls).reverse) H' := by
     rw [List.reverse_cons, us_app]
     exact hm'
    exact RetPost.normal hjj AllRes.nil ⟨[], by rw [List.append_nil]; exact List.perm_append_comm.trans permC.symm⟩ ⟨rfl, v', H', vo, HO, _ :: HD3, hm3, hO, ⟨vd2, HD3, hm2, rfl⟩, rfl⟩
   ·refine LLateOp.whole rfl (.inl rfl) rfl (S.lit [_] rfl (elemsOk.cons rfl rfl elemsOk.nil) rfl rfl rfl ?_)
    refine LLate.one (i := 4) (by kernel_rfl) ?_
    refine LLateOp.pureH rfl rfl (Pure.loadH (c := .atom vc) rfl (List.Mem.head _) rfl) ?_
    refine LLate.one (i := 10) (by kernel_rfl) ?_
    refine LLateOp.whole rfl (.inl rfl) rfl (S.appM (HM := HC) (F := _ :: (HD3 ++ (k.memH s.mem :: k.binH :: HO))) rfl permC hC rfl (by simp; rfl) rfl (by simp; omega) fun v' H' hm' => ?_)
    refine LLate.one (i := 11) (by kernel_rfl) ?_
    refine LLateOp.pureH rfl rfl (Pure.nilCheckH rfl) ?_
    refine LLate.one (i := 12) (by kernel_rfl) ?_
    refine LLateOp.pureH rfl rfl (Pure.fieldH rfl) ?_
    refine LLate.one (i := 13) (by kernel_rfl) ?_
    refine LLateOp.whole rfl (.inl rfl) rfl (S.store (n := 1) (vs := [LV.atom v']) (cs' := [_, _, _, _, _, _, _, _, _, _]) rfl Pick.here (mrow_ok hm').1 rfl rfl (mrow_ok hm').2 rfl ?_)
    refine LLate.done (by kernel_rfl) ?_
    repeat first | refine LOps.nil ?_ | refine LCode.region ?_ | refine QThen.normal ?_ | refine QBlock.normal ?_ | refine LOps.pure (Pure.mv (lv := .atom _) rfl) rfl ?_ | refine LOps.pure (Pure.nilCheckH rfl) rfl ?_ | refine LOps.pure (Pure.fieldH rfl) rfl ?_ | refine LOps.step (S.store (cs' := [_, _, _, _, _, _, _, _, _, _]) rfl Pick.here rfl rfl rfl rfl rfl ?_) rfl
    have hm3 : MRow 56 1 v' (us (s.pc :: s.calls).reverse) H' := by
     rw [List.reverse_cons, us_app]
     exact hm'
    exact RetPost.normal hjj AllRes.nil ⟨[], by rw [List.append_nil]; exact List.perm_append_comm.trans permC.symm⟩ ⟨rfl, v', H', vo, HO, _ :: HD3, hm3, hO, ⟨vd2, HD3, hm2, rfl⟩, rfl⟩
 have n58 := of_decide_eq_false c4
 repeat first | refine LOps.nil ?_ | refine LCode.seq ?_ | refine LCode.region ?_ | refine QThen.normal ?_ | refine LOps.pure (Pure.eql rfl rfl) rfl ?_ | refine LOps.pure (Pure.as (lv := .atom _) rfl) rfl ?_
 refine LCode.cond rfl (fun hc => ?_) (fun c5 => ?_)
 ·obtain rfl : c = 59 := by have := of_decide_eq_true hc; omega
  have hR2 : bakM s = R := hR
  repeat first | refine LCode.seq ?_ | refine LCode.region ?_ | refine LOps.pure (Pure.mv (lv := .atom _) rfl) rfl ?_ | refine LOps.pure (Pure.nilCheckH rfl) rfl ?_ | refine LOps.pure (Pure.fieldH rfl) rfl ?_ | refine LOps.pure (Pure.loadH (c := .atom _) rfl (List.Mem.head _) rfl) rfl ?_
  refine LOps.pure (Pure.mlen rfl hC) rfl ?_
  repeat first | refine LOps.nil ?_ | refine LCode.seq ?_ | refine LCode.region ?_ | refine QThen.normal ?_ | refine LOps.pure (Pure.mv (lv := .atom _) rfl) rfl ?_ | refine LOps.pure (Pure.as (lv := .atom _) rfl) rfl ?_ | refine LOps.pure (Pure.gtr rfl rfl) rfl ?_
  refine LOps.step (S.check rfl (fun hb => ?_) (fun hb e' he' => ?_)) rfl
  rotate_left
  ·have hnil : s.calls = [] := by
    have := of_decide_eq_false hb
    exact List.length_eq_zero_iff.1 (by omega)
   have hRt : R = .trap s := by
    rw [← hR2]
    unfold bakM
    rw [hnil]
   subst hRt
   repeat first | refine QThen.panic ?_ | refine QBlock.panic ?_
   exact RetPost.panic (he'.trans hjj) (HSub.refl _) (mkT _ _ hDD)
  obtain ⟨t, r, hdr⟩ : ∃ t r, s.calls = t :: r := by
   cases hd : s.calls with
   | nil =>
    have := of_decide_eq_true hb
    rw [hlc, hd] at this
    simp at this
   | cons t r => exact ⟨t, r, rfl⟩
  have hRr : R = .run { s with calls := r, pc := t } := by
   rw [← hR2]
   unfold bakM
   rw [hdr]
  subst hRr
  have hln : s.calls.length = r.length + 1 := by rw [hdr]; rfl
  have hrl : (us r.reverse).length = r.length := by rw [us_len, List.length_reverse]
  have hus : us s.calls.reverse = us r.reverse ++ us [t] := by rw [hdr, List.reverse_cons, us_app]
  have hC0 := hC
  rw [hus] at hC0
  obtain ⟨b, cap, spare, h1, h2, hc1, hc2⟩ := MRow.addr hC0 (by simp [us])
  have hel : (us r.reverse ++ us [t]).length = r.length + 1 := by rw [List.length_append, hrl]; rfl
  have hfl : (us r.reverse ++ us [t]).flatMap LV.cells = us r.reverse ++ us [t] := by rw [← us_app]; exact us_flat _
  rw [hfl, List.append_assoc] at h2
  rw [hel] at h1 hc1 hc2
  subst h1 h2
  repeat first | refine LOps.nil ?_ | refine LCode.seq ?_ | refine LCode.region ?_ | refine QThen.normal ?_ | refine LOps.pure (Pure.mv (lv := .atom _) rfl) rfl ?_ | refine LOps.pure (Pure.nilCheckH rfl) rfl ?_ | refine LOps.pure (Pure.fieldH rfl) rfl ?_ | refine LOps.pure (Pure.loadH (c := .atom _) rfl (List.Mem.head _) rfl) rfl ?_ | refine LOps.pure (Pure.sub rfl rfl (by omega)) rfl ?_
  refine LOps.pure (Pure.indexRowE (o := r.length) rfl rfl (by omega) (by omega) (by omega)) rfl ?_
  refine LOps.pure (Pure.loadH (c := u32 t) rfl (List.Mem.tail _ (List.mem_append_right _ (List.Mem.tail _ (List.Mem.tail _ (List.Mem.head _))))) (by rw [List.getElem?_append_right (by omega), hrl, Nat.sub_self]; rfl)) rfl ?_
  repeat first | refine LOps.nil ?_ | refine LCode.region ?_ | refine QThen.normal ?_ | refine LOps.pure (Pure.mv (lv := .atom _) rfl) rfl ?_ | refine LOps.pure (Pure.nilCheckH rfl) rfl ?_ | refine LOps.pure (Pure.fieldH rfl) rfl ?_ | refine LOps.pure (Pure.loadH (c := .atom _) rfl (List.Mem.head _) rfl) rfl ?_ | refine LOps.pure (Pure.sub rfl rfl (by omega)) rfl ?_ | refine LOps.step (S.store (cs' := [_, _, _, _, _, _, _, _, _, _]) rfl Pick.here rfl rfl rfl rfl rfl ?_) rfl
  refine LOps.pure (Pure.rowSlice (n := r.length) rfl (by exact int_eq (by omega)) (by omega)) rfl ?_
  repeat first | refine LOps.nil ?_ | refine QBlock.normal ?_ | refine LOps.pure (Pure.nilCheckH rfl) rfl ?_ | refine LOps.pure (Pure.fieldH rfl) rfl ?_ | refine LOps.step (S.store (cs' := [_, _, _, _, _, _, _, _, _, _]) rfl Pick.here rfl rfl rfl rfl rfl ?_) rfl
  exact RetPost.normal hjj AllRes.nil (HSub.refl _) ⟨rfl, _, _, vo, HO, _ :: HD0, mrow_us (l := r.reverse) (spare := us [t] ++ spare) (by rw [List.length_reverse]) (by omega) (by rw [List.length_append, us_len]; simp only [List.length_singleton]; omega), hO, ⟨vd, HD0, hm, rfl⟩, rfl⟩
 have n59 := of_decide_eq_false c5
 repeat first | refine LOps.nil ?_ | refine LCode.seq ?_ | refine LCode.region ?_ | refine QThen.normal ?_ | refine LOps.pure (Pure.eql rfl rfl) rfl ?_ | refine LOps.pure (Pure.as (lv := .atom _) rfl) rfl ?_
 refine LCode.cond rfl (fun hc => ?_) (fun c6 => ?_)
 ·obtain rfl : c = 44 := by have := of_decide_eq_true hc; omega
  have hR2 : rdM s = R := hR
  unfold rdM at hR2
  repeat first | refine LOps.nil ?_ | refine LCode.seq ?_ | refine LCode.region ?_ | refine QThen.normal ?_ | refine LOps.pure (Pure.mv (lv := .atom _) rfl) rfl ?_ | refine LOps.pure (Pure.as (lv := .atom _) rfl) rfl ?_ | refine LOps.pure (Pure.nilCheckH rfl) rfl ?_ | refine LOps.pure (Pure.fieldH rfl) rfl ?_ | refine LOps.pure (Pure.loadH (c := .list _) rfl (List.Mem.head _) rfl) rfl ?_ | refine LOps.pure (Pure.llen rfl) rfl ?_ | refine LOps.pure (Pure.gtr rfl rfl) rfl ?_
  cases hi : s.inp with
  | nil =>
   rw [hi] at hR2
   unfold pushM at hR2
   have e0 : (us (k.mf s st false vc vo).inp).length = 0 := by
    show (us s.inp).length = 0
    rw [hi]
    rfl
   refine LCode.cond rfl (fun hc => ?_) (fun _ => ?_)
   ·have := of_decide_eq_true hc
    omega
   repeat first | refine LCode.region ?_ | refine LCode.skip ?_ | refine QThen.normal ?_ | refine LOps.pure (Pure.mv (lv := .atom _) rfl) rfl ?_
   refine LOps.step (S.push (v := 4294967295) rfl (List.Perm.refl _) hDD hfew (fun hlt HD' hD' => ?_) (fun hlt HD' hD' e' he' => ?_)) rfl
   ·rw [if_pos hlt] at hR2
    subst hR2
    repeat first | refine LOps.nil ?_ | refine QBlock.normal ?_
    exact RetPost.normal hjj AllRes.nil (HSub.refl _) ⟨rfl, mk _ _ hD'⟩
   ·rw [if_neg hlt] at hR2
    subst hR2
    repeat first | refine QBlock.panic ?_
    exact RetPost.panic (he'.trans hjj) (HSub.refl _) (mkT _ _ hD')
  | cons v r =>
   rw [hi] at hR2
   unfold pushM at hR2
   simp only at hR2
   have hli2 : (us (k.mf s st false vc vo).inp).length = r.length + 1 := by
    show (us s.inp).length = _
    rw [hi]
    simp [us]
   refine LCode.cond rfl (fun _ => ?_) (fun hc => ?_)
   rotate_left
   ·have := of_decide_eq_false hc
    omega
   repeat first | refine LCode.seq ?_ | refine LCode.region ?_ | refine LOps.pure (Pure.mv (lv := .atom _) rfl) rfl ?_ | refine LOps.pure (Pure.nilCheckH rfl) rfl ?_ | refine LOps.pure (Pure.fieldH rfl) rfl ?_ | refine LOps.pure (Pure.loadH (c := .list _) rfl (List.Mem.head _) rfl) rfl ?_
   refine LOps.pure (Pure.ixRef (el' := u32 v) (cs := [u32 v]) rfl rfl (by decide) (by show (us s.inp)[0]? = _; rw [hi]; rfl) rfl rfl) rfl ?_
   repeat first | refine LOps.nil ?_ | refine LCode.region ?_ | refine QThen.normal ?_ | refine LOps.pure (Pure.mv (lv := .atom _) rfl) rfl ?_ | refine LOps.pure (Pure.as (lv := .atom _) rfl) rfl ?_ | refine LOps.pure (Pure.nilCheckH rfl) rfl ?_ | refine LOps.pure (Pure.fieldH rfl) rfl ?_ | refine LOps.pure (Pure.loadH (c := .list _) rfl (List.Mem.head _) rfl) rfl ?_ | refine LOps.pure (Pure.loadRef (c := .atom _) rfl rfl) rfl ?_
   refine LOps.pure (Pure.lsliceE (ms := us r) rfl ⟨_, rfl⟩ rfl (by omega) (by omega) (by omega) (us_cell _) (by show List.drop _ (List.take ((us s.inp).length : Int).toNat (us s.inp)) = us r; rw [hi]; simp [us, List.take_of_length_le])) rfl ?_
   repeat first | refine LOps.nil ?_ | refine LCode.region ?_ | refine QThen.normal ?_ | refine LOps.pure (Pure.mv (lv := .atom _) rfl) rfl ?_ | refine LOps.pure (Pure.nilCheckH rfl) rfl ?_ | refine LOps.pure (Pure.fieldH rfl) rfl ?_ | refine LOps.step (S.store (cs' := [_, _, _, _, _, _, _, _, _, _]) rfl Pick.here rfl rfl rfl rfl rfl ?_) rfl
   have hD5 : DH (k.mf { s with inp := r } st false vc vo) s.data ((k.mb, .cells 164 ((k.mf { s with inp := r } st false vc vo).cells vd)) :: HD0) := ⟨vd, HD0, hm, rfl⟩
   have mk5 : ∀ (d : List Nat) (HD' : Heap), DH (k.mf { s with inp := r } st false vc vo) d HD' → StH k { s with inp := r, data := d } st false (HD' ++ (k.memH s.mem :: k.binH :: (HC ++ HO))) := fun d HD' h => ⟨vc, HC, vo, HO, HD', hC, hO, h, rfl⟩
   refine LOps.step (S.push (v := v) rfl (List.Perm.refl _) hD5 hfew (fun hlt HD' hD' => ?_) (fun hlt HD' hD' e' he' => ?_)) rfl
   ·rw [if_pos hlt] at hR2
    subst hR2
    repeat first | refine LOps.nil ?_ | refine QBlock.normal ?_
    exact RetPost.normal hjj AllRes.nil (HSub.refl _) ⟨rfl, mk5 _ _ hD'⟩
   ·rw [if_neg hlt] at hR2
    subst hR2
    repeat first | refine QBlock.panic ?_
    exact RetPost.panic (he'.trans hjj) (HSub.refl _) (trapE (s := { s with inp := r, data := s.data }) rfl (mk5 _ _ hD'))
 have n44 := of_decide_eq_false c6
 repeat first | refine LOps.nil ?_ | refine LCode.seq ?_ | refine LCode.region ?_ | refine QThen.normal ?_ | refine LOps.pure (Pure.eql rfl rfl) rfl ?_ | refine LOps.pure (Pure.as (lv := .atom _) rfl) rfl ?_
 refine LCode.cond rfl (fun hc => ?_) (fun c7 => ?_)
 ·obtain rfl : c = 46 := by have := of_decide_eq_true hc; omega
  have hR2 : wrM s = R := hR
  refine LCode.draw (m := 13) rfl [] ?_
  refine LAny.tk 0 rfl rfl (Pure.mv (lv := .atom _) rfl) ?_
  refine LAny.tk 1 rfl rfl (Pure.mv (lv := .atom _) rfl) ?_
  refine LAny.tk 2 rfl rfl (Pure.nilCheckH rfl) ?_
  refine LAny.tk 3 rfl rfl (Pure.fieldH rfl) ?_
  refine LAny.tk 5 rfl rfl (Pure.mv (lv := .atom _) rfl) ?_
  refine LAny.late ?_ (HSub.nil _)
  refine LLate.two (i := 4) (j := 6) (by kernel_rfl) ?_ ?_
  ·refine LLateOp.pureH rfl rfl (Pure.loadH (c := vo) rfl (List.Mem.head _) rfl) ?_
   refine LLate.one (i := 6) (by kernel_rfl) ?_
   refine LLateOp.whole rfl (.inl rfl) rfl (S.pop rfl (List.Perm.refl _) hDD hfew (fun v r hdr HD' hD' => ?_) (fun hb HD' hD' e' he' => ?_))
   rotate_left
   ·have hRt : R = .trap s := by
     rw [← hR2]
     unfold wrM
     rw [hb]
    subst hRt
    repeat first | refine QBlock.panic ?_
    exact RetPost.panic (he'.trans hjj) (HSub.refl _) (mkT _ _ hD')
   have hRr : R = .run { s with data := r, out := s.out ++ [UInt8.ofNat v] } := by
    rw [← hR2]
    unfold wrM
    rw [hdr]
   subst hRr
   obtain ⟨vd2, HD3, hm2, rfl⟩ := hD'
   have e1 : byts s.out ++ [int .u8 (IntKind.u8.wrap (v : Int))] = byts (s.out ++ [UInt8.ofNat v]) := by
    rw [byts_app, wrap_u8]
    rfl
   have hroom2 : ((byts s.out).length + [int .u8 (IntKind.u8.wrap (v : Int))].length) * 1 ≤ 140737488355328 := by
    simp only [byts_len, List.length_cons, List.length_nil]
    omega
   refine LLate.one (i := 7) (by kernel_rfl) ?_
   refine LLateOp.pureH rfl rfl (Pure.cvt rfl) ?_
   refine LLate.one (i := 8) (by kernel_rfl) ?_
   refine LLateOp.whole rfl (.inl rfl) rfl (S.lit (es := [int .u8 (IntKind.u8.wrap (v : Int))]) [_] rfl (elemsOk.cons rfl rfl elemsOk.nil) rfl rfl rfl ?_)
   refine LLate.one (i := 9) (by kernel_rfl) ?_
   refine LLateOp.whole rfl (.inl rfl) rfl (S.accF (A := _ :: (HD3 ++ (k.memH s.mem :: k.binH :: HC))) permO rfl hO rfl (fun v hv => by rw [List.mem_singleton.1 hv]; rfl) rfl hroom2 fun v' H' hacc' => ?_)
   rw [e1] at hacc'
   refine LLate.one (i := 10) (by kernel_rfl) ?_
   refine LLateOp.pureH rfl rfl (Pure.nilCheckH rfl) ?_
   refine LLate.one (i := 11) (by kernel_rfl) ?_
   refine LLateOp.pureH rfl rfl (Pure.fieldH rfl) ?_
   refine LLate.one (i := 12) (by kernel_rfl) ?_
   refine LLateOp.whole rfl (.inl rfl) rfl (S.store (n := 1) (vs := [v']) (cs' := [_, _, _, _, _, v', _, _, _, _]) rfl Pick.here (acc_one hacc').1 rfl rfl (acc_one hacc').2 rfl ?_)
   refine LLate.done (by kernel_rfl) ?_
   repeat first | refine QBlock.normal ?_
   exact RetPost.normal hjj AllRes.nil ⟨[], by rw [List.append_nil]; exact List.perm_append_comm.trans permO.symm⟩ ⟨rfl, vc, HC, v', H', _ :: HD3, hC, hacc', ⟨vd2, HD3, hm2, rfl⟩, rfl⟩
  ·refine LLateOp.whole rfl (.inl rfl) rfl (S.pop rfl (List.Perm.refl _) hDD hfew (fun v r hdr HD' hD' => ?_) (fun hb HD' hD' e' he' => ?_))
   rotate_left
   ·have hRt : R = .trap s := by
     rw [← hR2]
     unfold wrM
     rw [hb]
    subst hRt
    repeat first | refine QBlock.panic ?_
    exact RetPost.panic (he'.trans hjj) (HSub.refl _) (mkT _ _ hD')
   have hRr : R = .run { s with data := r, out := s.out ++ [UInt8.ofNat v] } := by
    rw [← hR2]
    unfold wrM
    rw [hdr]
   subst hRr
   obtain ⟨vd2, HD3, hm2, rfl⟩ := hD'
   have e1 : byts s.out ++ [int .u8 (IntKind.u8.wrap (v : Int))] = byts (s.out ++ [UInt8.ofNat v]) := by
    rw [byts_app, wrap_u8]
    rfl
   have hroom2 : ((byts s.out).length + [int .u8 (IntKind.u8.wrap (v : Int))].length) * 1 ≤ 140737488355328 := by
    simp only [byts_len, List.length_cons, List.length_nil]
    omega
   refine LLate.two (i := 4) (j := 7) (by kernel_rfl) ?_ ?_
   ·refine LLateOp.pureH rfl rfl (Pure.loadH (c := vo) rfl (List.Mem.head _) rfl) ?_
    refine LLate.one (i := 7) (by kernel_rfl) ?_
    refine LLateOp.pureH rfl rfl (Pure.cvt rfl) ?_
    refine LLate.one (i := 8) (by kernel_rfl) ?_
    refine LLateOp.whole rfl (.inl rfl) rfl (S.lit (es := [int .u8 (IntKind.u8.wrap (v : Int))]) [_] rfl (elemsOk.cons rfl rfl elemsOk.nil) rfl rfl rfl ?_)
    refine LLate.one (i := 9) (by kernel_rfl) ?_
    refine LLateOp.whole rfl (.inl rfl) rfl (S.accF (A := _ :: (HD3 ++ (k.memH s.mem :: k.binH :: HC))) permO rfl hO rfl (fun v hv => by rw [List.mem_singleton.1 hv]; rfl) rfl hroom2 fun v' H' hacc' => ?_)
    rw [e1] at hacc'
    refine LLate.one (i := 10) (by kernel_rfl) ?_
    refine LLateOp.pureH rfl rfl (Pure.nilCheckH rfl) ?_
    refine LLate.one (i := 11) (by kernel_rfl) ?_
    refine LLateOp.pureH rfl rfl (Pure.fieldH rfl) ?_
    refine LLate.one (i := 12) (by kernel_rfl) ?_
    refine LLateOp.whole rfl (.inl rfl) rfl (S.store (n := 1) (vs := [v']) (cs' := [_, _, _, _, _, v', _, _, _, _]) rfl Pick.here (acc_one hacc').1 rfl rfl (acc_one hacc').2 rfl ?_)
    refine LLate.done (by kernel_rfl) ?_
    repeat first | refine QBlock.normal ?_
    exact RetPost.normal hjj AllRes.nil ⟨[], by rw [List.append_nil]; exact List.perm_append_comm.trans permO.symm⟩ ⟨rfl, vc, HC, v', H', _ :: HD3, hC, hacc', ⟨vd2, HD3, hm2, rfl⟩, rfl⟩
   ·refine LLateOp.pureH rfl rfl (Pure.cvt rfl) ?_
    refine LLate.two (i := 4) (j := 8) (by kernel_rfl) ?_ ?_
    ·refine LLateOp.pureH rfl rfl (Pure.loadH (c := vo) rfl (List.Mem.head _) rfl) ?_
     refine LLate.one (i := 8) (by kernel_rfl) ?_
     refine LLateOp.whole rfl (.inl rfl) rfl (S.lit (es := [int .u8 (IntKind.u8.wrap (v : Int))]) [_] rfl (elemsOk.cons rfl rfl elemsOk.nil) rfl rfl rfl ?_)
     refine LLate.one (i := 9) (by kernel_rfl) ?_
     refine LLateOp.whole rfl (.inl rfl) rfl (S.accF (A := _ :: (HD3 ++ (k.memH s.mem :: k.binH :: HC))) permO rfl hO rfl (fun v hv => by rw [List.mem_singleton.1 hv]; rfl) rfl hroom2 fun v' H' hacc' => ?_)
     rw [e1] at hacc'
     refine LLate.one (i := 10) (by kernel_rfl) ?_
     refine LLateOp.pureH rfl rfl (Pure.nilCheckH rfl) ?_
     refine LLate.one (i := 11) (by kernel_rfl) ?_
     refine LLateOp.pureH rfl rfl (Pure.fieldH rfl) ?_
     refine LLate.one (i := 12) (by kernel_rfl) ?_
     refine LLateOp.whole rfl (.inl rfl) rfl (S.store (n := 1) (vs := [v']) (cs' := [_, _, _, _, _, v', _, _, _, _]) rfl Pick.here (acc_one hacc').1 rfl rfl (acc_one hacc').2 rfl ?_)
     refine LLate.done (by kernel_rfl) ?_
     repeat first | refine QBlock.normal ?_
     exact RetPost.normal hjj AllRes.nil ⟨[], by rw [List.append_nil]; exact List.perm_append_comm.trans permO.symm⟩ ⟨rfl, vc, HC, v', H', _ :: HD3, hC, hacc', ⟨vd2, HD3, hm2, rfl⟩, rfl⟩
    ·refine LLateOp.whole rfl (.inl rfl) rfl (S.lit (es := [int .u8 (IntKind.u8.wrap (v : Int))]) [_] rfl (elemsOk.cons rfl rfl elemsOk.nil) rfl rfl rfl ?_)
     refine LLate.one (i := 4) (by kernel_rfl) ?_
     refine LLateOp.pureH rfl rfl (Pure.loadH (c := vo) rfl (List.Mem.head _) rfl) ?_
     refine LLate.one (i := 9) (by kernel_rfl) ?_
     refine LLateOp.whole rfl (.inl rfl) rfl (S.accF (A := _ :: (HD3 ++ (k.memH s.mem :: k.binH :: HC))) permO rfl hO rfl (fun v hv => by rw [List.mem_singleton.1 hv]; rfl) rfl hroom2 fun v' H' hacc' => ?_)
     rw [e1] at hacc'
     refine LLate.one (i := 10) (by kernel_rfl) ?_
     refine LLateOp.pureH rfl rfl (Pure.nilCheckH rfl) ?_
     refine LLate.one (i := 11) (by kernel_rfl) ?_
     refine LLateOp.pureH rfl rfl (Pure.fieldH rfl) ?_
     refine LLate.one (i := 12) (by kernel_rfl) ?_
     refine LLateOp.whole rfl (.inl rfl) rfl (S.store (n := 1) (vs := [v']) (cs' := [_, _, _, _, _, v', _, _, _, _]) rfl Pick.here (acc_one hacc').1 rfl rfl (acc_one hacc').2 rfl ?_)
     refine LLate.done (by kernel_rfl) ?_
     repeat first | refine QBlock.normal ?_
     exact RetPost.normal hjj AllRes.nil ⟨[], by rw [List.append_nil]; exact List.perm_append_comm.trans permO.symm⟩ ⟨rfl, vc, HC, v', H', _ :: HD3, hC, hacc', ⟨vd2, HD3, hm2, rfl⟩, rfl⟩
 have n46 := of_decide_eq_false c7
 repeat first | refine LOps.nil ?_ | refine LCode.seq ?_ | refine LCode.region ?_ | refine QThen.normal ?_ | refine LOps.pure (Pure.eql rfl rfl) rfl ?_ | refine LOps.pure (Pure.as (lv := .atom _) rfl) rfl ?_
 refine LCode.cond rfl (fun hc => ?_) (fun c8 => ?_)
 ·obtain rfl : c = 36 := by have := of_decide_eq_true hc; omega
  have hRr : R = .stop 0 s.out := hR.symm
  subst hRr
  repeat first | refine LOps.nil ?_ | refine LCode.region ?_ | refine QBlock.normal ?_ | refine LOps.pure (Pure.mv (lv := .atom _) rfl) rfl ?_ | refine LOps.pure (Pure.nilCheckH rfl) rfl ?_ | refine LOps.pure (Pure.fieldH rfl) rfl ?_ | refine LOps.step (S.store (cs' := [_, _, _, _, _, _, _, _, _, _]) rfl Pick.here rfl rfl rfl rfl rfl ?_) rfl
  exact RetPost.normal hjj AllRes.nil (HSub.refl _) ⟨s, rfl, by rw [if_pos rfl]; exact ⟨rfl, vc, HC, vo, HO, _ :: HD0, hC, hO, ⟨vd, HD0, hm, rfl⟩, rfl⟩⟩
 have n36 := of_decide_eq_false c8
 have hsign : ∀ r, (if c = 43 ∨ c = 45 ∨ c = 42 ∨ c = 47 ∨ c = 37 ∨ c = 94 ∨ c = 60 then opM c s else MR.trap s) = r → R = r := fun r hr => by
  rw [← hR, ← hr]
  unfold exeM
  rw [if_neg hnd', if_neg hw0, if_neg (by omega), if_neg (by omega), if_neg (by omega), if_neg (by omega), if_neg (by omega), if_neg (by omega), if_neg (by omega), if_neg (by omega)]
 by_cases hop : c = 43 ∨ c = 45 ∨ c = 42 ∨ c = 47 ∨ c = 37 ∨ c = 94 ∨ c = 60
 rotate_left
 ·have hRt := hsign _ (if_neg hop)
  subst hRt
  repeat first | refine LCode.seq ?_ | refine LCode.region ?_ | refine LOps.pure (Pure.mv (lv := .atom _) rfl) rfl ?_ | refine LOps.pure (Pure.nilCheckH rfl) rfl ?_ | refine LOps.pure (Pure.fieldH rfl) rfl ?_ | refine LOps.pure (Pure.loadH (c := .atom _) rfl (List.Mem.head _) rfl) rfl ?_
  refine LOps.pure (Pure.lookupMiss2 (zv := .nilFunc) (kt := 56) (el := 202) (kd := .u32) (by kernel_rfl) (by kernel_rfl) (fun w => (Go.zero_of_info (P := Tryz.prog) (n := 1) (by kernel_rfl)).1 w) rfl rfl (List.Mem.tail _ (List.mem_append_right _ (List.Mem.tail _ (List.Mem.head _)))) (bins_miss hop)) rfl ?_
  repeat first | refine LOps.nil ?_ | refine LCode.seq ?_ | refine LCode.region ?_ | refine QThen.normal ?_ | refine LOps.pure (Pure.mv (lv := .atom _) rfl) rfl ?_ | refine LOps.pure (Pure.as (lv := .atom _) rfl) rfl ?_ | refine LOps.pure (Pure.mv (lv := .tuple _) rfl) rfl ?_ | refine LOps.pure (Pure.extract (c := .atom _) rfl rfl) rfl ?_
  refine LOps.step (S.check rfl (fun hb => ?_) (fun hb e' he' => ?_)) rfl
  ·cases hb
  ·repeat first | refine QThen.panic ?_ | refine QBlock.panic ?_
   exact RetPost.panic (he'.trans hjj) (HSub.refl _) (mkT _ _ hDD)
 have hR2 := hsign _ (if_pos hop)
 have hval : ∀ (a b : Nat) (r : List Nat), s.data = b :: a :: r → a < 4294967296 ∧ b < 4294967296 := fun a b r hd => by
  have h1 := hok.data
  rw [hd] at h1
  exact ⟨h1 a (List.mem_cons_of_mem _ (List.mem_cons_self ..)), h1 b (List.mem_cons_self ..)⟩
 obtain ⟨jj, f, hf1, hf2, _⟩ := mbin_spec (B0 := B0) (w0 := w0) hop (a := 0) (b := 0) (by decide) (by decide)
 repeat first | refine LCode.seq ?_ | refine LCode.region ?_ | refine LOps.pure (Pure.mv (lv := .atom _) rfl) rfl ?_ | refine LOps.pure (Pure.nilCheckH rfl) rfl ?_ | refine LOps.pure (Pure.fieldH rfl) rfl ?_ | refine LOps.pure (Pure.loadH (c := .atom _) rfl (List.Mem.head _) rfl) rfl ?_
 refine LOps.pure (Pure.lookupHit2 (kt := 56) (el := 202) (kd := .u32) (by kernel_rfl) (by kernel_rfl) rfl rfl (List.Mem.tail _ (List.mem_append_right _ (List.Mem.tail _ (List.Mem.head _)))) hf1) rfl ?_
 repeat first | refine LOps.nil ?_ | refine LCode.seq ?_ | refine LCode.region ?_ | refine QThen.normal ?_ | refine LOps.pure (Pure.mv (lv := .atom _) rfl) rfl ?_ | refine LOps.pure (Pure.as (lv := .atom _) rfl) rfl ?_ | refine LOps.pure (Pure.mv (lv := .tuple _) rfl) rfl ?_ | refine LOps.pure (Pure.extract (c := .atom _) rfl rfl) rfl ?_
 refine LOps.step (S.check rfl (fun hb => ?_) (fun hb e' he' => ?_)) rfl
 rotate_left
 ·cases hb
 repeat first | refine LOps.nil ?_ | refine LCode.seq ?_ | refine LCode.region ?_ | refine QThen.normal ?_ | refine LOps.pure (Pure.mv (lv := .atom _) rfl) rfl ?_
 refine LOps.step (S.pop rfl (List.Perm.refl _) hDD hfew (fun b r hdr HD' hD' => ?_) (fun hb HD' hD' e' he' => ?_)) rfl
 rotate_left
 ·have hRt : R = .trap s := by
   rw [hR2]
   unfold opM
   rw [hb]
  subst hRt
  repeat first | refine QThen.panic ?_ | refine QBlock.panic ?_
  exact RetPost.panic (he'.trans hjj) (HSub.refl _) (mkT _ _ hD')
 have hrl : r.length ≤ 256 := by rw [hdr, List.length_cons] at hfew; omega
 repeat first | refine LOps.nil ?_ | refine LCode.seq ?_ | refine LCode.region ?_ | refine QThen.normal ?_ | refine LOps.pure (Pure.mv (lv := .atom _) rfl) rfl ?_ | refine LOps.pure (Pure.as (lv := .atom _) rfl) rfl ?_
 refine LOps.step (S.pop rfl (List.Perm.refl _) hD' hrl (fun a r2 hdr2 HD2 hD2 => ?_) (fun hb HD2 hD2 e' he' => ?_)) rfl
 rotate_left
 ·have hRt : R = .trap s := by
   rw [hR2]
   unfold opM
   rw [hdr, hb]
  subst hRt
  repeat first | refine QThen.panic ?_ | refine QBlock.panic ?_
  exact RetPost.panic (he'.trans hjj) (HSub.refl _) (mkT _ _ hD2)
 have hrl2 : r2.length ≤ 256 := by rw [hdr2, List.length_cons] at hrl; omega
 obtain ⟨ha, hb4⟩ := hval a b r2 (by rw [hdr, hdr2])
 obtain ⟨jj2, f2, hf3, hf4, hspec⟩ := mbin_spec (B0 := B0) (w0 := w0) hop ha hb4
 obtain rfl : f = f2 := by
  rw [hf1] at hf3
  injection hf3 with h1
  injection h1 with h1
  injection h1 with h1 h2
  injection h2 with h2
  injection h2
 have hR3 : (match binM c a b with
   | some v => pushM v { s with data := r2 }
   | none => MR.trap s) = R := by
  rw [hR2]
  unfold opM
  rw [hdr, hdr2]
  rfl
 repeat first | refine LOps.nil ?_ | refine LCode.region ?_ | refine QThen.normal ?_ | refine LOps.pure (Pure.mv (lv := .atom _) rfl) rfl ?_ | refine LOps.pure (Pure.as (lv := .atom _) rfl) rfl ?_
 refine LOps.step (S.callV (f := f) (first := #[]) (caps := #[]) (H1 := HD2 ++ (k.memH s.mem :: k.binH :: (HC ++ HO))) (F := []) [_, _] rfl rfl (by rw [List.append_nil]) (hspec _) ?_ ?_) rfl
 ·rintro v H' ⟨rfl, h⟩
  cases hbm : binM c a b with
  | none =>
   rw [hbm] at h
   cases h
  | some w =>
   rw [hbm] at h hR3
   cases h
   simp only at hR3
   unfold pushM at hR3
   simp only at hR3
   rw [List.append_nil]
   refine LOps.step (S.push (v := w) rfl (List.Perm.refl _) hD2 hrl2 (fun hlt HD3 hD3 => ?_) (fun hlt HD3 hD3 e' he' => ?_)) rfl
   ·rw [if_pos hlt] at hR3
    subst hR3
    repeat first | refine LOps.nil ?_ | refine QBlock.normal ?_
    exact RetPost.normal hjj AllRes.nil (HSub.refl _) ⟨rfl, mk _ _ hD3⟩
   ·rw [if_neg hlt] at hR3
    subst hR3
    repeat first | refine QBlock.panic ?_
    exact RetPost.panic (he'.trans hjj) (HSub.refl _) (mkT _ _ hD3)
 ·rintro ch H' ⟨rfl, h⟩ e' he'
  cases hbm : binM c a b with
  | some w =>
   rw [hbm] at h
   cases h
  | none =>
   rw [hbm] at h hR3
   cases h
   simp only at hR3
   subst hR3
   rw [List.append_nil]
   repeat first | refine QBlock.panic ?_
   exact RetPost.panic (he'.trans hjj) (HSub.refl _) (mkT _ _ hD2)
end
end Go.Proofs.YtdakelgkjdaijaaGreatDoor.Mch
namespace Go.GL
open Go.RowKit
section
variable {C : Ctx} {n : Nat} {Q : Post} {e : Env} {H : Heap}
theorem LCodeP.weak {c : Code} {H' : Heap} (s : HSub H' H) (h : LCodeP C n c Q e H') : LCodeP C n c Q e H := fun a w L hE hH =>
 Go.wp_mono (h a w L hE (hH.weak s)) fun _ _ _ ⟨e', H2, L', h1, h2, h3, h4⟩ => ⟨e', H2, L', h1.wide s.keys, h2, h3, h4⟩
theorem LCodeP.conseq {c : Code} {Q' : Post} (h : LCodeP C n c Q e H) (hq : ∀ x e H, Q x e H → Q' x e H) : LCodeP C n c Q' e H := fun a w L hE hH =>
 Go.wp_mono (h a w L hE hH) fun _ _ _ ⟨e', H2, L', h1, h2, h3, h4⟩ => ⟨e', H2, L', h1, h2, h3, hq _ _ _ h4⟩
theorem LCodeP.loop {c : Code} (I : Nat → Env → Heap → Prop) (k : Nat) (h0 : I k e H)
  (round : ∀ k e H, I k e H → LCodeP C n c (QThen (fun e' H' => ∃ m, m < k ∧ I m e' H') Q) e H) : LCodeP C n (.loop c) Q e H := fun a w L hE hH => by
 refine wp_loop_idx (I := fun k a' w' => ∃ e' H' L', Fr (keys H) w L w' L' H' ∧ RelH C w' L' H' ∧ RelE n a' e' w' L' ∧ I k e' H') (n := k) ?_ ⟨e, H, L, Fr.refl _ _ _, hH, hE, h0⟩
 rintro k a1 w1 ⟨e1, H1, L1, h1, h2, h3, h4⟩
 refine Go.wp_mono (round k e1 H1 h4 a1 w1 L1 h3 h2) fun ex a' w' hq => ?_
 obtain ⟨e', H', L', g1, g2, g3, g4⟩ := hq
 cases ex with
 | normal =>
  obtain ⟨m, hm, g4⟩ := g4
  exact ⟨m, hm, e', H', L', h1.trans g1, g2, g3, g4⟩
 | exit id => exact ⟨e', H', L', h1.trans g1, g2, g3, g4⟩
 | goto id => exact ⟨e', H', L', h1.trans g1, g2, g3, g4⟩
 | ret => exact ⟨e', H', L', h1.trans g1, g2, g3, g4⟩
 | panic ch => exact ⟨e', H', L', h1.trans g1, g2, g3, g4⟩
 | outgrown => exact ⟨e', H', L', h1.trans g1, g2, g3, g4⟩
/-- A loop, by what its slots hold. -/
theorem LCodeP.loopI {c : Code} (I : Nat → List (Nat × LV) → Heap → Prop) (h0 : ∃ k l H0, I k l H0 ∧ AllSlots e l ∧ HSub H0 H)
  (round : ∀ k l H, I k l H → ∀ j : Env, j.ds = e.ds → LCodeP C n c (QThen (Again I k e.ds) Q) (Env.slots j l) H) : LCodeP C n (.loop c) Q e H := by
 obtain ⟨k, l, H0, h0, h1, h2⟩ := h0
 refine LCodeP.weak h2 (LCodeP.loop (fun k e' H' => ∃ l H0, I k l H0 ∧ AllSlots e' l ∧ HSub H0 H' ∧ e'.ds = e.ds) k ⟨l, H0, h0, h1, HSub.refl _, rfl⟩ ?_)
 rintro k e' H' ⟨l, H0, g0, g1, g2, g3⟩
 have := round k l H0 g0 e' g3
 rw [Env.slots_self g1.mem] at this
 refine LCodeP.weak g2 (LCodeP.conseq this ?_)
 rintro ex e2 H2 hq
 cases ex with
 | normal =>
  obtain ⟨m, l', H3, r1, r2, r3, r4, r5⟩ := hq
  exact ⟨m, r1, l', H3, r2, r3, r4, r5⟩
 | exit id => exact hq
 | goto id => exact hq
 | ret => exact hq
 | panic ch => exact hq
 | outgrown => exact hq
end
end Go.GL
namespace Go.Proofs.YtdakelgkjdaijaaGreatDoor.Mch
open Go.GL Go.RowKit Go.Stele
open Go.Proofs.YtdakelgkjdaijaaGreatDoor.Inp (u32 Same retS wrapU u32_eq)
set_option maxRecDepth 100000
set_option maxHeartbeats 4000000
theorem trap_zero (w : World) : (zeroValue 217).run Tryz.prog w = .ok (.agg ([] : List Value).toArray) w :=
 (Go.zero_of_info (P := Tryz.prog) (n := 0) (by kernel_rfl)).1 w
theorem exe_len {c : Nat} {s s' : MS} (h : exeM c s = .run s') : s'.out.length ≤ s.out.length + 1 := by
 have push : ∀ (v : Nat) (t : MS), pushM v t = .run s' → t.out = s.out → s'.out.length ≤ s.out.length + 1 := fun v t h ht => by
  unfold pushM at h
  split at h
  ·injection h with h
   subst h
   show t.out.length ≤ _
   rw [ht]
   omega
  ·cases h
 unfold exeM at h
 split at h
 ·unfold digM' at h
  split at h
  ·split at h
   ·injection h with h
    subst h
    simp
   ·cases h
  ·exact push _ _ h rfl
 split at h
 ·injection h with h
  subst h
  omega
 split at h
 ·unfold ldM at h
  split at h
  ·split at h
   ·exact push _ _ h rfl
   ·cases h
  ·cases h
 split at h
 ·unfold stoM at h
  split at h
  ·split at h
   ·injection h with h
    subst h
    simp
   ·cases h
  ·cases h
 split at h
 ·unfold jmpM at h
  split at h
  ·injection h with h
   subst h
   simp
  ·cases h
 split at h
 ·unfold callM at h
  split at h
  ·split at h
   ·injection h with h
    subst h
    simp
   ·cases h
  ·cases h
 split at h
 ·unfold bakM at h
  split at h
  ·injection h with h
   subst h
   simp
  ·cases h
 split at h
 ·unfold rdM at h
  split at h
  ·exact push _ _ h rfl
  ·exact push _ _ h rfl
 split at h
 ·unfold wrM at h
  split at h
  ·injection h with h
   subst h
   simp
  ·cases h
 split at h
 ·cases h
 split at h
 ·unfold opM at h
  split at h
  ·split at h
   ·exact push _ _ h rfl
   ·cases h
  ·cases h
 ·cases h
theorem QNo.exit {Q : Post} {e : Env} {H : Heap} {id : Nat} (h : Q (.exit id) e H) : QNo Q (.exit id) e H := h
attribute [local irreducible] LOps LCode LStep LCalls Go.GL.Pure QThen QBlock RetPost LQ LAny LLate LLateOp LS LOpsP LCodeP LCodeS LCallsD
section
variable {B0 : Nat} {w0 : World}
theorem rec_ret (b : Nat) (d : LV) : LCallsD (KC B0 w0) 159 [ptr b 0] .returning [(b, .cells 29 [d])]
  (fun u H => u = .returning ∧ H = [(b, .cells 29 [d])]) := by
 refine LCallsD.intro Tryz.func159 rfl (n := 14) rfl rfl rfl ?_
 refine LCodeS.seq (LCodeS.recover rfl rfl ?_)
 refine LCodeS.of ?_
 repeat first | refine LCode.seq ?_ | refine LCode.region ?_ | refine LOps.pure (Pure.mv (lv := .atom _) rfl) rfl ?_
 refine LOps.pure (Chk.Pure.assertNil trap_zero rfl) rfl ?_
 repeat first | refine LOps.pure (Pure.mv (lv := .tuple _) rfl) rfl ?_ | refine LOps.pure (Pure.extract (c := .agg _) rfl rfl) rfl ?_ | refine LOps.pure (Pure.extract (c := .atom _) rfl rfl) rfl ?_
 refine LOps.step (S.alloc fun b5 => ?_) rfl
 repeat first | refine LOps.nil ?_ | refine LCode.seq ?_ | refine LCode.region ?_ | refine QThen.normal ?_ | refine LOps.pure (Pure.as (lv := .atom _) rfl) rfl ?_ | refine LOps.pure (Pure.mv (lv := .atom _) rfl) rfl ?_ | refine LOps.step (S.store (cs' := []) rfl Pick.here rfl rfl rfl rfl rfl ?_) rfl
 refine LCode.cond rfl (fun hc => ?_) (fun hc => ?_)
 ·cases hc
 repeat first | refine LOps.nil ?_ | refine LCode.seq ?_ | refine LCode.region ?_ | refine QThen.normal ?_ | refine LOps.pure (Pure.mv (lv := .atom _) rfl) rfl ?_ | refine LOps.pure (Pure.nilNeqNil rfl) rfl ?_
 refine LCode.cond rfl (fun hc => ?_) (fun hc => ?_)
 ·cases hc
 ·repeat first | refine LCode.skip ?_
  exact ⟨rfl, _, HSub.drop (HSub.refl _), rfl, rfl⟩
theorem rec_pan (b : Nat) (d : LV) : LCallsD (KC B0 w0) 159 [ptr b 0] (.panicking trapV) [(b, .cells 29 [d])]
  (fun u H => settle u = .returning ∧ H = [(b, .cells 29 [int .i64 12])]) := by
 refine LCallsD.intro Tryz.func159 rfl (n := 14) rfl rfl rfl ?_
 refine LCodeS.seq (LCodeS.recover rfl rfl ?_)
 refine LCodeS.of ?_
 repeat first | refine LCode.seq ?_ | refine LCode.region ?_ | refine LOps.pure (Pure.mv (lv := .atom _) rfl) rfl ?_
 refine LOps.pure (Pure.assertOk (vs := []) rfl) rfl ?_
 repeat first | refine LOps.pure (Pure.mv (lv := .tuple _) rfl) rfl ?_ | refine LOps.pure (Pure.extract (c := .agg _) rfl rfl) rfl ?_ | refine LOps.pure (Pure.extract (c := .atom _) rfl rfl) rfl ?_
 refine LOps.step (S.alloc fun b5 => ?_) rfl
 repeat first | refine LOps.nil ?_ | refine LCode.seq ?_ | refine LCode.region ?_ | refine QThen.normal ?_ | refine LOps.pure (Pure.as (lv := .atom _) rfl) rfl ?_ | refine LOps.pure (Pure.mv (lv := .atom _) rfl) rfl ?_ | refine LOps.step (S.store (cs' := []) rfl Pick.here rfl rfl rfl rfl rfl ?_) rfl
 refine LCode.cond rfl (fun hc => ?_) (fun hc => ?_)
 ·repeat first | refine LOps.nil ?_ | refine LCode.region ?_ | refine LOps.step (S.store (cs' := [_]) rfl (Pick.there Pick.here) rfl rfl rfl rfl rfl ?_) rfl
  exact ⟨rfl, _, HSub.pick Pick.here (HSub.nil _), rfl, rfl⟩
 ·cases hc
/-- The state at the end of a run: its output and how many steps it took. -/
def EndH (k : MK) (st : Nat) (o : Wd) (H : Heap) : Prop := ∃ s stop, s.out = o ∧ StH k s st stop H
theorem run_spec (k : MK) {s : MS} {st limit : Nat} (hok : MsOk s) (hdig : s.digit = true → s.data ≠ []) (hst : st ≤ limit) (hlim : limit ≤ 100000000) (hout : s.out.length ≤ st) {H : Heap} (h : StH k s st false H) :
  LCalls (KC B0 w0) 78 [ptr k.mb 0, int .i64 (limit : Nat)] H (fun r H' => EndH k (st + (runM (limit - st) s).2.2) (runM (limit - st) s).2.1 H' ∧ r = .ret (int .i64 ((runM (limit - st) s).1 : Nat))) := by
 generalize hR : runM (limit - st) s = R
 refine LCalls.introD Tryz.func78 rfl (n := 59) rfl rfl rfl ?_
 refine LCodeP.seq (LCodeP.of ?_)
 repeat first | refine LCode.region ?_
 refine LOps.step (S.alloc fun b4 => ?_) rfl
 repeat first | refine LOps.nil ?_ | refine QThen.normal ?_
 refine LCodeP.seq (LCodeP.region ?_)
 repeat first | refine LOpsP.pure (Pure.makeFunc rfl rfl) rfl ?_
 refine LOpsP.defer rfl rfl ?_
 refine LOpsP.nil ?_
 refine QThen.normal ?_
 refine LCodeP.seq ?_
 refine LCodeP.block ?_
 refine LCodeP.loopI (fun kk ls H' => ∃ (i : Nat) (s1 : MS) (H1 : Heap), i ≤ limit ∧ st ≤ i ∧ kk = limit - i ∧ ls = [(0, ptr k.mb 0), (1, int .i64 (limit : Nat)), (4, ptr b4 0)] ∧ H' = (b4, .cells 29 [int .i64 0]) :: H1 ∧ StH k s1 i false H1 ∧ MsOk s1 ∧ (s1.digit = true → s1.data ≠ []) ∧ s1.out.length ≤ i ∧ (runM (limit - i) s1).1 = R.1 ∧ (runM (limit - i) s1).2.1 = R.2.1 ∧ i + (runM (limit - i) s1).2.2 = st + R.2.2)
  ⟨_, _, _, ⟨st, s, H, hst, Nat.le_refl _, rfl, rfl, rfl, h, hok, hdig, hout, by rw [hR], by rw [hR], by rw [hR]⟩, ⟨rfl, rfl, rfl, trivial⟩, HSub.refl _⟩ ?_
 rintro kk ls H' ⟨i, s1, H1, hi, hsi, rfl, rfl, rfl, hS, hok1, hdig1, hout1, e1, e2, e3⟩ j hj
 obtain ⟨vc, HC, vo, HO, HD, hC, hO, hD, rfl⟩ := hS
 have hDD := hD
 obtain ⟨vd, HD0, hm, rfl⟩ := hD
 rw [List.cons_append]
 have hmst : (k.mf s1 i false vc vo).st = i := rfl
 have hmpc : (k.mf s1 i false vc vo).pc = s1.pc := rfl
 refine LCodeP.seq (LCodeP.of ?_)
 repeat first | refine LOps.nil ?_ | refine LCode.seq ?_ | refine LCode.region ?_ | refine QThen.normal ?_ | refine LOps.pure (Pure.mv (lv := .atom _) rfl) rfl ?_ | refine LOps.pure (Pure.nilCheckH rfl) rfl ?_ | refine LOps.pure (Pure.fieldH rfl) rfl ?_ | refine LOps.pure (Pure.loadH (c := .atom _) rfl (List.Mem.tail _ (List.Mem.head _)) rfl) rfl ?_ | refine LOps.pure (Pure.lss rfl rfl) rfl ?_
 refine LCode.cond rfl (fun hc => ?_) (fun hc => ?_)
 rotate_left
 ·have hil : i = limit := by have := of_decide_eq_false hc; omega
  subst hil
  rw [Nat.sub_self, runM] at e1 e2 e3
  simp only at e1 e2 e3
  refine LCode.exit ?_
  refine QNo.exit ?_
  refine QThen.exit ?_
  refine QThen.exit ?_
  refine QBlock.hit ?_
  refine QThen.normal ?_
  refine LCodeP.of ?_
  repeat first | refine LOps.nil ?_ | refine LCode.seq ?_ | refine LCode.region ?_ | refine LCode.ret ?_ | refine QThen.normal ?_ | refine LOps.step (S.store (cs' := [_]) rfl Pick.here rfl rfl rfl rfl rfl ?_) rfl
  first | refine QNo.ret ?_ | skip
  exact RetPostD.ret1 (vs := [int .i64 13]) (H2 := [(b4, .cells 29 [int .i64 13])]) hj (List.Perm.refl _) (rec_ret b4 _)
   (AllRes.cons (ResIs.cellOne rfl (List.Mem.head _) rfl (LV.Sub.refl _)) AllRes.nil) (HSub.drop (HSub.refl _)) ⟨⟨s1, false, e2, by rw [← e3, Nat.add_zero]; exact ⟨vc, HC, vo, HO, _, hC, hO, hDD, rfl⟩⟩, by rw [← e1]; rfl⟩
 have hil : i < limit := by have := of_decide_eq_true hc; omega
 have hn : limit - i = (limit - (i + 1)) + 1 := by omega
 rw [hn, runM] at e1 e2 e3
 refine LCode.skip ?_
 first | refine QNo.normal ?_ | skip
 refine LCodeP.block ?_
 refine LCodeP.seq (LCodeP.of ?_)
 repeat first | refine LOps.nil ?_ | refine LCode.region ?_ | refine QThen.normal ?_ | refine LOps.pure (Pure.mv (lv := .atom _) rfl) rfl ?_ | refine LOps.pure (Pure.nilCheckH rfl) rfl ?_ | refine LOps.pure (Pure.fieldH rfl) rfl ?_ | refine LOps.pure (Pure.loadH (c := .atom _) rfl (List.Mem.tail _ (List.Mem.head _)) rfl) rfl ?_ | refine LOps.pure (Pure.add rfl rfl (by omega)) rfl ?_ | refine LOps.step (S.store (cs' := [_, _, _, _, _, _, _, _, _, _]) rfl (Pick.there Pick.here) rfl rfl rfl rfl rfl ?_) rfl
 first | refine QNo.normal ?_ | skip
 refine LCodeP.weak (H' := (b4, .cells 29 [int .i64 0]) :: (k.mb, .cells 164 ((k.mf s1 (i + 1) false vc vo).cells vd)) :: (HD0 ++ (k.memH s1.mem :: k.binH :: (HC ++ HO)))) ⟨[], by rw [List.append_nil]; exact List.Perm.swap _ _ _⟩ ?_
 have hst1 : StH k s1 (i + 1) false (((k.mb, .cells 164 ((k.mf s1 (i + 1) false vc vo).cells vd)) :: HD0) ++ (k.memH s1.mem :: k.binH :: (HC ++ HO))) := ⟨vc, HC, vo, HO, _, hC, hO, ⟨vd, HD0, hm, rfl⟩, rfl⟩
 have hmpc2 : (k.mf s1 (i + 1) false vc vo).pc = s1.pc := rfl
 refine LCodeP.seq (LCodeP.region ?_)
 repeat first | refine LOpsP.pure (Pure.mv (lv := .atom _) rfl) rfl ?_ | refine LOpsP.pure (Pure.nilCheckH rfl) rfl ?_ | refine LOpsP.pure (Pure.fieldH rfl) rfl ?_ | refine LOpsP.pure (Pure.loadH (c := .atom _) rfl (List.Mem.tail _ (List.Mem.head _)) rfl) rfl ?_ | refine LOpsP.pure (Pure.lss rfl rfl) rfl ?_
 refine LOpsP.step (S.check rfl (fun hb => ?_) (fun hb => ?_)) rfl
 rotate_left
 ·have hpc : ¬ s1.pc < 262144 := by have := of_decide_eq_false hb; omega
  have hs : stepM s1 = .stop 12 s1.out := by
   unfold stepM
   rw [if_neg hpc]
   rfl
  rw [hs] at e1 e2 e3
  simp only at e1 e2 e3
  repeat first | refine QThen.panic ?_ | refine QBlock.panic ?_
  exact RetPostD.panic1 (H1 := [(b4, .cells 29 [int .i64 0])]) (vs := [int .i64 12]) (H2 := [(b4, .cells 29 [int .i64 12])]) hj (List.Perm.refl _) (rec_pan b4 _)
   (AllRes.cons (ResIs.cellOne rfl (List.Mem.head _) rfl (LV.Sub.refl _)) AllRes.nil) (HSub.drop (HSub.refl _)) ⟨⟨s1, false, e2, by rw [← e3]; exact hst1⟩, by rw [← e1]; rfl⟩
 have hpc : s1.pc < 262144 := by have := of_decide_eq_true hb; omega
 refine LOpsP.nil ?_
 refine QThen.normal ?_
 refine LCodeP.seq (LCodeP.of ?_)
 refine LCode.quiet (by kernel_rfl) ?_
 repeat first | refine LQ.pure (Pure.mv (lv := .atom _) rfl) rfl ?_ | refine LQ.pure (Pure.nilCheckH rfl) rfl ?_ | refine LQ.pure (Pure.fieldH rfl) rfl ?_ | refine LQ.pure (Pure.loadH (c := .atom _) rfl (List.Mem.tail _ (List.Mem.head _)) rfl) rfl ?_
 refine LQ.pure (Pure.indexRowE (o := s1.pc) rfl rfl (by omega) (by omega) (by omega)) rfl ?_
 refine LQ.pure (Pure.loadH (c := u32 (s1.mem s1.pc)) rfl (List.Mem.tail _ (List.Mem.tail _ (List.mem_append_right _ (List.Mem.head _)))) (memL_get _ hpc)) rfl ?_
 repeat first | refine LQ.pure (Pure.as (lv := .atom _) rfl) rfl ?_ | refine LQ.nil ?_ | refine QThen.normal ?_
 first | refine QNo.normal ?_ | skip
 refine LCodeP.seq (LCodeP.of ?_)
 repeat first | refine LCode.region ?_ | refine LOps.pure (Pure.mv (lv := .atom _) rfl) rfl ?_ | refine LOps.pure (Pure.nilCheckH rfl) rfl ?_ | refine LOps.pure (Pure.fieldH rfl) rfl ?_ | refine LOps.pure (Pure.loadH (c := .atom _) rfl (List.Mem.tail _ (List.Mem.head _)) rfl) rfl ?_
 refine LOps.pure (Pure.addW rfl rfl) rfl ?_
 repeat first | refine LOps.pure (Pure.nilCheckH rfl) rfl ?_ | refine LOps.pure (Pure.fieldH rfl) rfl ?_
 have hw : IntKind.u32.wrap ((s1.pc : Int) + 1) = ((s1.pc + 1 : Nat) : Int) := by
  rw [wrapU]
  omega
 refine LOps.step (S.store (n := 1) (vs := [u32 (s1.pc + 1)]) (cs' := [_, _, _, _, _, _, _, _, _, _]) rfl (Pick.there Pick.here) (by show some [int .u32 _] = some [int .u32 _]; rw [← hw]) rfl rfl rfl rfl ?_) rfl
 repeat first | refine LOps.nil ?_ | refine QThen.normal ?_
 first | refine QNo.normal ?_ | skip
 generalize hcd : s1.mem s1.pc = c at *
 have hcl : c < 4294967296 := by rw [← hcd]; exact hok1.mem _
 have hok2 : MsOk { s1 with pc := s1.pc + 1 } := ⟨hok1.mem, by show s1.pc + 1 < _; omega, hok1.data, hok1.calls, hok1.inp, hok1.few, hok1.deep⟩
 have hex := exec_spec (B0 := B0) (w0 := w0) k (s := { s1 with pc := s1.pc + 1 }) (st := i + 1) (c := c) hok2 hcl hdig1 (by show s1.out.length ≤ _; omega) (H := ((k.mb, .cells 164 ((k.mf { s1 with pc := s1.pc + 1 } (i + 1) false vc vo).cells vd)) :: HD0) ++ (k.memH s1.mem :: k.binH :: (HC ++ HO))) ⟨vc, HC, vo, HO, _, hC, hO, ⟨vd, HD0, hm, rfl⟩, rfl⟩
 refine LCodeP.seq (LCodeP.region ?_)
 repeat first | refine LOpsP.pure (Pure.mv (lv := .atom _) rfl) rfl ?_
 refine LOpsP.step (S.callH (F := [(b4, .cells 29 [int .i64 0])]) [_, _] rfl (List.Perm.cons _ (List.perm_append_singleton _ _).symm) hex ?_ ?_) rfl
 ·intro v H2 hP
  cases hx : exeM c { s1 with pc := s1.pc + 1 } with
  | run s2 =>
   rw [hx] at hP
   obtain ⟨hv, hS2⟩ := hP
   cases hv
   have hs : stepM s1 = .run { s2 with digit := isDigN c } := by
    unfold stepM
    rw [if_pos hpc, hcd, hx]
   rw [hs] at e1 e2 e3
   simp only at e1 e2 e3
   have hok3 := exe_ok hok2 hcl hx
   have hlen := exe_len hx
   have hdig3 : isDigN c = true → s2.data ≠ [] := exe_dig hx
   have hlen2 : s2.out.length ≤ i + 1 := by
    have : s2.out.length ≤ s1.out.length + 1 := hlen
    omega
   obtain ⟨vc2, HC2, vo2, HO2, HD2, hC2, hO2, hD2, rfl⟩ := hS2
   obtain ⟨vd2, HD3, hm2, rfl⟩ := hD2
   refine LOpsP.nil ?_
   refine QThen.normal ?_
   refine LCodeP.weak (H' := (b4, .cells 29 [int .i64 0]) :: (k.mb, .cells 164 ((k.mf s2 (i + 1) false vc2 vo2).cells vd2)) :: (HD3 ++ (k.memH s2.mem :: k.binH :: (HC2 ++ HO2)))) ⟨[], by rw [List.append_nil]; exact List.perm_append_comm⟩ ?_
   refine LCodeP.of ?_
   repeat first | refine LOps.nil ?_ | refine LCode.seq ?_ | refine LCode.region ?_ | refine QThen.normal ?_ | refine LOps.pure (Pure.mv (lv := .atom _) rfl) rfl ?_ | refine LOps.pure (Pure.nilCheckH rfl) rfl ?_ | refine LOps.pure (Pure.fieldH rfl) rfl ?_ | refine LOps.pure (Pure.loadH (c := .atom _) rfl (List.Mem.tail _ (List.Mem.head _)) rfl) rfl ?_
   refine LCode.cond rfl (fun hc => by cases hc) (fun _ => ?_)
   repeat first | refine LCode.region ?_ | refine LCode.skip ?_ | refine QThen.normal ?_ | refine LOps.pure (Pure.mv (lv := .atom _) rfl) rfl ?_ | refine LOps.pure (Pure.geq rfl rfl) rfl ?_
   have fin : ∀ (dg : Bool), isDigN c = dg → StH k { s2 with digit := dg } (i + 1) false (((k.mb, .cells 164 ((k.mf { s2 with digit := dg } (i + 1) false vc2 vo2).cells vd2)) :: HD3) ++ (k.memH s2.mem :: k.binH :: (HC2 ++ HO2))) ∧ MsOk { s2 with digit := dg } ∧ (dg = true → s2.data ≠ []) := fun dg hd => ⟨⟨vc2, HC2, vo2, HO2, _, hC2, hO2, ⟨vd2, HD3, hm2, rfl⟩, rfl⟩, ⟨hok3.mem, hok3.pc, hok3.data, hok3.calls, hok3.inp, hok3.few, hok3.deep⟩, fun h => hdig3 (hd.trans h)⟩
   refine LOps.bcase 53 rfl (fun h => ?_) (fun h => ?_)
   ·have hdg : isDigN c = decide ((c : Int) ≤ 57) := by
     have := of_decide_eq_true h
     unfold isDigN
     rw [decide_eq_true (by omega : 48 ≤ c), Bool.true_and, decide_eq_decide]
     omega
    obtain ⟨f1, f2, f3⟩ := fin _ hdg
    rw [hdg] at e1 e2 e3
    repeat first | refine LOps.nil ?_ | refine QThen.normal ?_ | refine QBlock.normal ?_ | refine LOps.pure (Pure.mv (lv := .atom _) rfl) rfl ?_ | refine LOps.pure (Pure.nilCheckH rfl) rfl ?_ | refine LOps.pure (Pure.fieldH rfl) rfl ?_ | refine LOps.pure (Pure.leq rfl rfl) rfl ?_ | refine LOps.pure (Pure.pickT (lv := .atom _) rfl rfl) rfl ?_ | refine LOps.want rfl rfl ?_ | refine LOps.step (S.store (cs' := [_, _, _, _, _, _, _, _, _, _]) rfl (Pick.there Pick.here) rfl rfl rfl rfl rfl ?_) rfl
    first | refine QNo.norm ?_ | skip
    first | refine QBlock.normal ?_ | skip
    first | refine QThen.normal ?_ | skip
    exact ⟨limit - (i + 1), _, _, by omega, ⟨i + 1, _, _, by omega, by omega, rfl, rfl, rfl, f1, f2, f3, hlen2, e1, e2, by omega⟩, ⟨rfl, rfl, rfl, trivial⟩, ⟨[], by rw [List.append_nil]; exact List.Perm.swap _ _ _⟩, hj⟩
   ·have hdg : isDigN c = false := by
     have := of_decide_eq_false h
     unfold isDigN
     rw [decide_eq_false (by omega : ¬ 48 ≤ c)]
     rfl
    obtain ⟨f1, f2, f3⟩ := fin _ hdg
    rw [hdg] at e1 e2 e3
    repeat first | refine LOps.nil ?_ | refine QThen.normal ?_ | refine QBlock.normal ?_ | refine LOps.pure (Pure.nilCheckH rfl) rfl ?_ | refine LOps.pure (Pure.fieldH rfl) rfl ?_ | refine LOps.pure (Pure.pickF (lv := .atom _) rfl rfl) rfl ?_ | refine LOps.skip rfl rfl rfl rfl ?_ | refine LOps.step (S.store (cs' := [_, _, _, _, _, _, _, _, _, _]) rfl (Pick.there Pick.here) rfl rfl rfl rfl rfl ?_) rfl
    first | refine QNo.norm ?_ | skip
    first | refine QBlock.normal ?_ | skip
    first | refine QThen.normal ?_ | skip
    exact ⟨limit - (i + 1), _, _, by omega, ⟨i + 1, _, _, by omega, by omega, rfl, rfl, rfl, f1, f2, f3, hlen2, e1, e2, by omega⟩, ⟨rfl, rfl, rfl, trivial⟩, ⟨[], by rw [List.append_nil]; exact List.Perm.swap _ _ _⟩, hj⟩
  | stop er o =>
   rw [hx] at hP
   obtain ⟨s2, ho, hP⟩ := hP
   by_cases he : er = 0
   rotate_left
   ·rw [if_neg he] at hP
    obtain ⟨_, hv, _⟩ := hP
    cases hv
   rw [if_pos he] at hP
   obtain ⟨hv, hS2⟩ := hP
   cases hv
   subst he
   have hs : stepM s1 = .stop 0 o := by
    unfold stepM
    rw [if_pos hpc, hcd, hx]
   rw [hs] at e1 e2 e3
   simp only at e1 e2 e3
   have hend : EndH k (st + R.2.2) R.2.1 H2 := ⟨s2, true, ho.trans e2, by rw [← e3]; exact hS2⟩
   obtain ⟨vc2, HC2, vo2, HO2, HD2, hC2, hO2, hD2, rfl⟩ := hS2
   obtain ⟨vd2, HD3, hm2, rfl⟩ := hD2
   refine LOpsP.nil ?_
   refine QThen.normal ?_
   refine LCodeP.weak (H' := (b4, .cells 29 [int .i64 0]) :: (k.mb, .cells 164 ((k.mf s2 (i + 1) true vc2 vo2).cells vd2)) :: (HD3 ++ (k.memH s2.mem :: k.binH :: (HC2 ++ HO2)))) ⟨[], by rw [List.append_nil]; exact List.perm_append_comm⟩ ?_
   refine LCodeP.of ?_
   repeat first | refine LOps.nil ?_ | refine LCode.seq ?_ | refine LCode.region ?_ | refine QThen.normal ?_ | refine LOps.pure (Pure.mv (lv := .atom _) rfl) rfl ?_ | refine LOps.pure (Pure.nilCheckH rfl) rfl ?_ | refine LOps.pure (Pure.fieldH rfl) rfl ?_ | refine LOps.pure (Pure.loadH (c := .atom _) rfl (List.Mem.tail _ (List.Mem.head _)) rfl) rfl ?_
   refine LCode.cond rfl (fun _ => ?_) (fun hc => by cases hc)
   repeat first | refine LOps.nil ?_ | refine LCode.seq ?_ | refine LCode.region ?_ | refine LCode.ret ?_ | refine QThen.normal ?_ | refine QThen.ret ?_ | refine QBlock.ret ?_ | refine LOps.step (S.store (cs' := [_]) rfl Pick.here rfl rfl rfl rfl rfl ?_) rfl
   first | refine QNo.ret ?_ | skip
   first | refine QThen.ret ?_ | skip
   first | refine QBlock.ret ?_ | skip
   first | refine QThen.ret ?_ | skip
   first | refine QBlock.ret ?_ | skip
   first | refine QThen.ret ?_ | skip
   exact RetPostD.ret1 (vs := [int .i64 0]) (H2 := [(b4, .cells 29 [int .i64 0])]) hj (List.Perm.refl _) (rec_ret b4 _)
    (AllRes.cons (ResIs.cellOne rfl (List.Mem.head _) rfl (LV.Sub.refl _)) AllRes.nil) (HSub.drop (HSub.refl _)) ⟨hend, by rw [← e1]; rfl⟩
 ·intro ch H2 hP
  cases hx : exeM c { s1 with pc := s1.pc + 1 } with
  | run s2 =>
   rw [hx] at hP
   obtain ⟨hv, _⟩ := hP
   cases hv
  | stop er o =>
   rw [hx] at hP
   obtain ⟨s2, ho, hP⟩ := hP
   by_cases he : er = 0
   ·rw [if_pos he] at hP
    obtain ⟨hv, _⟩ := hP
    cases hv
   rw [if_neg he] at hP
   obtain ⟨h12, hv, hS2⟩ := hP
   cases hv
   subst h12
   have hs : stepM s1 = .stop 12 o := by
    unfold stepM
    rw [if_pos hpc, hcd, hx]
   rw [hs] at e1 e2 e3
   simp only at e1 e2 e3
   repeat first | refine QThen.panic ?_ | refine QBlock.panic ?_
   exact RetPostD.panic1 (H1 := [(b4, .cells 29 [int .i64 0])]) (vs := [int .i64 12]) (H2 := [(b4, .cells 29 [int .i64 12])]) hj List.perm_append_comm (rec_pan b4 _)
    (AllRes.cons (ResIs.cellOne rfl (List.Mem.head _) rfl (LV.Sub.refl _)) AllRes.nil) (HSub.drop (HSub.refl _)) ⟨⟨s2, false, ho.trans e2, by rw [← e3]; exact hS2⟩, by rw [← e1]; rfl⟩
end
end Go.Proofs.YtdakelgkjdaijaaGreatDoor.Mch
namespace Go.GL
open Go.RowKit
section
variable {C : Ctx} {e : Env} {H : Heap} {x y : Operand} {dst : Option Nat} {ty : TypeId} {pos : String} {aft : Array Edge} {g : Option (Nat × Bool)}
theorem Pure.bytesStrE {s d el : TypeId} [hs : TSlice C.P s el 1] [he : TKind C.P el .u8] [hd : TStr C.P d] {l : List UInt8} (hx : elems (e.ev x) = some (byts l)) : Pure C ⟨dst, .convert s d x, ty, pos, aft, g⟩ e H (str l) := by
 by_cases hne : l = []
 ·subst hne
  intro ρ w L h _
  obtain ⟨a, cap, hv, hcap, hr⟩ := (h x).elems hx
  refine ⟨_, rep_atom, fun w' ha => ?_⟩
  have h0 : execOp ρ ⟨dst, .convert s d x, ty, pos, aft, g⟩ = (do Pure.pure (.value (← convert s d (ρ x)))) := rfl
  have hlen : (byts []).length = 0 := rfl
  have hc : (convert s d (.slice a 0 cap)).run C.P w' = .ok (.string ⟨#[]⟩) w' := by
   rw [run_convert_bytes_string w' s d el a 0 cap hs.und he.und hd.und]
   cases a with
   | none => rfl
   | some a => exact run_bytesToString w' a 0 cap [] (run_loadCells_list (P := C.P) w' a [] fun j v hj => by cases hj)
  rw [h0, hv, hlen]
  simp only [Sem.run_bind, hc, Result.andThen_ok, Sem.run_pure]
 ·exact Pure.bytesStr hx hne
end
end Go.GL
namespace Go.Proofs.YtdakelgkjdaijaaGreatDoor.Mch
open Go.GL Go.RowKit Go.Stele
open Go.Proofs.YtdakelgkjdaijaaGreatDoor.Inp (u32 Same retS wrapU u32_eq)
set_option maxRecDepth 100000
set_option maxHeartbeats 4000000
/-- A text as it is handed to the machine. -/
def txtLV (og : Nat) (code : Wd) : LV := .agg [int .i64 (og : Nat), str code]
/-- What a run hands back. -/
def mchLV (r : Nat × Wd × Nat) : LV := .agg [str r.2.1, int .i64 (r.1 : Nat), int .i64 (r.2.2 : Nat)]
theorem load_next {code : Wd} {og n : Nat} (h : n < code.length) : (fun i => if i = og + n then (code[n]).toNat else loadM (code.take n) og i) = loadM (code.take (n + 1)) og := by
 funext i
 unfold loadM
 rw [List.getElem?_take, List.getElem?_take]
 by_cases h1 : i = og + n
 ·subst h1
  rw [if_pos rfl, if_pos (by omega), show og + n - og = n by omega, if_pos (by omega), List.getElem?_eq_getElem h]
 ·rw [if_neg h1]
  by_cases h2 : og ≤ i
  ·rw [if_pos h2, if_pos h2]
   by_cases h3 : i - og < n
   ·rw [if_pos h3, if_pos (by omega)]
   ·rw [if_neg h3, if_neg (by omega)]
  ·rw [if_neg h2, if_neg h2]
theorem load_none (og : Nat) : loadM [] og = fun _ => 0 := by
 funext i
 unfold loadM
 split
 ·rw [List.getElem?_nil]
 ·rfl
theorem start_ok (code : Wd) {og : Nat} {inp : List Nat} (h : og < 262144) (hi : ∀ v ∈ inp, v < 4294967296) : MsOk (startM code og inp) :=
 ⟨fun i => load_lt code og i, by show og < _; omega, fun v hv => (List.not_mem_nil hv).elim, fun v hv => (List.not_mem_nil hv).elim, hi, by show 0 ≤ _; omega, by show 0 ≤ _; omega⟩
attribute [local irreducible] LOps LCode LStep LCalls Go.GL.Pure QThen QBlock RetPost LQ LAny LLate LLateOp LS
section
variable {B0 : Nat} {w0 : World}
@[reducible] def stR (k : MK) (og : Nat) (inp : List Nat) : Nat × LObj := (k.mb, .cells 164 ((k.mf (startM [] og inp) 0 false (.slice none 0 0) nilSlice).cells (.slice none 0 0)))
@[reducible] def ouR (b : Nat) : Nat × LObj := (b, .cells 39 [str [], int .i64 0, int .i64 0])
theorem mrun_spec {code : Wd} {og : Nat} {inp : List Nat} {steps : Nat} (hog : og + code.length ≤ 262144) (hog2 : og < 262144) (hin : ∀ v ∈ inp, v < 4294967296) (hs0 : 0 < steps) (hs1 : steps ≤ 100000000) :
  LCalls (KC B0 w0) 41 [.list [txtLV og code], int .i64 (og : Nat), .list (us inp), int .i64 (steps : Nat)] [] (Ret (mchLV (runM steps (startM code og inp)))) := by
 have eX : txtLV og code = .agg [int .i64 (og : Nat), str code] := rfl
 rw [eX]
 refine LCalls.intro Tryz.func41 rfl (n := 106) rfl rfl rfl ?_
 repeat first | refine LCode.seq ?_ | refine LCode.region ?_
 refine LOps.step (S.alloc fun b8 => ?_) rfl
 repeat first | refine LOps.nil ?_ | refine LCode.seq ?_ | refine LCode.region ?_ | refine LCode.block ?_ | refine QThen.normal ?_ | refine LOps.pure (Pure.mv (lv := .atom _) rfl) rfl ?_ | refine LOps.pure (Pure.geq rfl rfl) rfl ?_ | refine LOps.pure (Pure.lss rfl rfl) rfl ?_ | refine LOps.pure (Pure.pickT (lv := .atom _) rfl rfl) rfl ?_ | refine LOps.pure (Pure.as (lv := .atom _) rfl) rfl ?_ | refine LOps.pure (Pure.mv (lv := .list _) rfl) rfl ?_ | refine LOps.pure (Pure.llen rfl) rfl ?_ | refine LOps.want rfl rfl ?_
 refine LCode.loopI (fun kk ls H' => ∃ i : Nat, i ≤ 1 ∧ kk = 1 - i ∧ ls = [(0, .list [.agg [int .i64 (og : Nat), str code]]), (1, int .i64 (og : Nat)), (2, .list (us inp)), (3, int .i64 (steps : Nat)), (8, ptr b8 0), (9, bool true), (23, .list [.agg [int .i64 (og : Nat), str code]]), (24, int .i64 1), (25, int .i64 (i : Nat))] ∧ H' = [ouR b8])
  ⟨_, _, _, ⟨0, by omega, rfl, rfl, rfl⟩, ⟨rfl, rfl, rfl, rfl, rfl, bool_eq (decide_eq_true (by omega)), rfl, rfl, rfl, trivial⟩, HSub.refl _⟩ ?_
 rintro kk ls H' ⟨i, hi, rfl, rfl, rfl⟩ j hj
 repeat first | refine LOps.nil ?_ | refine LCode.seq ?_ | refine LCode.region ?_ | refine QThen.normal ?_ | refine LOps.pure (Pure.lss rfl rfl) rfl ?_
 refine LCode.cond rfl (fun hc => ?_) (fun hc => ?_)
 ·obtain rfl : i = 0 := by have := of_decide_eq_true hc; omega
  repeat first | refine LCode.seq ?_ | refine LCode.region ?_ | refine LCode.skip ?_ | refine LCode.block ?_ | refine QThen.normal ?_
  refine LOps.pure (Pure.ixRef (el' := .agg [int .i64 (og : Nat), str code]) (cs := [_, _]) rfl rfl (by decide) rfl rfl rfl) rfl ?_
  repeat first | refine LOps.pure (Pure.ldRefAgg (cs' := [_, _]) rfl rfl rfl) rfl ?_
  refine LOps.step (S.alloc fun b11 => ?_) rfl
  repeat first | refine LOps.nil ?_ | refine LCode.region ?_ | refine QThen.normal ?_ | refine QBlock.normal ?_ | refine LOps.pure (Pure.mv (lv := .atom _) rfl) rfl ?_ | refine LOps.pure (Pure.geq rfl rfl) rfl ?_ | refine LOps.pure (Pure.pickT (lv := .atom _) rfl rfl) rfl ?_ | refine LOps.pure (Pure.as (lv := .atom _) rfl) rfl ?_ | refine LOps.pure (Pure.fieldH rfl) rfl ?_ | refine LOps.pure (Pure.loadH (c := .atom _) rfl (List.Mem.head _) rfl) rfl ?_ | refine LOps.pure (Pure.slen rfl) rfl ?_ | refine LOps.pure (Pure.sub rfl rfl (by omega)) rfl ?_ | refine LOps.pure (Pure.leq rfl rfl) rfl ?_ | refine LOps.pure (Pure.add rfl rfl (by omega)) rfl ?_ | refine LOps.want rfl rfl ?_ | refine LOps.step (S.store (cs' := [_, _]) rfl Pick.here rfl rfl rfl rfl rfl ?_) rfl
  exact ⟨_, _, _, by omega, ⟨1, by omega, rfl, rfl, rfl⟩, ⟨rfl, rfl, rfl, rfl, rfl, bool_eq (decide_eq_true (by omega)), rfl, rfl, rfl, trivial⟩, HSub.drop (HSub.refl _), hj⟩
 obtain rfl : i = 1 := by have := of_decide_eq_false hc; omega
 clear hc hi
 repeat first | refine LOps.nil ?_ | refine LCode.seq ?_ | refine LCode.region ?_ | refine LCode.exit ?_ | refine LCode.block ?_ | refine QThen.normal ?_ | refine QThen.exit ?_ | refine QBlock.hit ?_ | refine LOps.pure (Pure.mv (lv := .atom _) rfl) rfl ?_ | refine LOps.pure (Pure.as (lv := .atom _) rfl) rfl ?_ | refine LOps.pure (Pure.not rfl) rfl ?_
 refine LCode.cond rfl (fun hc => by cases hc) (fun _ => ?_)
 repeat first | refine LOps.nil ?_ | refine LCode.seq ?_ | refine LCode.region ?_ | refine QThen.normal ?_ | refine LOps.pure (Pure.mv (lv := .atom _) rfl) rfl ?_ | refine LOps.pure (Pure.as (lv := .atom _) rfl) rfl ?_ | refine LOps.pure (Pure.gtr rfl rfl) rfl ?_
 refine LCode.cond rfl (fun hc => ?_) (fun _ => ?_)
 ·have := of_decide_eq_true hc
  omega
 repeat first | refine LOps.nil ?_ | refine LCode.seq ?_ | refine LCode.region ?_ | refine QThen.normal ?_ | refine LOps.pure (Pure.mv (lv := .atom _) rfl) rfl ?_ | refine LOps.pure (Pure.as (lv := .atom _) rfl) rfl ?_ | refine LOps.pure (Pure.leq rfl rfl) rfl ?_
 refine LCode.cond rfl (fun hc => ?_) (fun _ => ?_)
 ·have := of_decide_eq_true hc
  omega
 have hwo : IntKind.u32.wrap (og : Int) = (og : Int) := by
  rw [wrapU]
  omega
 repeat first | refine LCode.skip ?_ | refine QThen.normal ?_ | refine QBlock.normal ?_
 refine LCode.seq ?_
 refine LCode.midC (A := MK) (fun k => [(0, .list [.agg [int .i64 (og : Nat), str code]]), (3, int .i64 (steps : Nat)), (8, ptr b8 0), (12, ptr k.mb 0)]) (fun k => [stR k og inp, k.memH (fun _ => 0), k.binH, ouR b8]) (fun _ => True) ?_ (fun k _ j2 hj2 => ?_)
 ·refine LCode.draw (m := 8) rfl [] ?_
  refine LAny.tk 1 rfl rfl (Pure.mv (lv := .atom _) rfl) ?_
  refine LAny.tk 2 rfl rfl (Pure.cvt rfl) ?_
  refine LAny.tk 3 rfl rfl (Pure.mv (lv := .list _) rfl) ?_
  rw [hwo]
  refine LAny.late ?_ (HSub.nil _)
  refine LLate.two (i := 0) (j := 4) (by kernel_rfl) ?_ ?_
  ·refine LLateOp.whole rfl (.inl rfl) rfl (S.makeRow (n := 262144) rfl rfl (by decide) (by decide) fun mm => ?_)
   rw [memL_zero]
   refine LLate.one (i := 4) (by kernel_rfl) ?_
   refine LLateOp.whole rfl (.inl rfl) rfl (S.callH (H1 := []) [] rfl (List.Perm.refl _) binaries_spec ?_ (by rintro ch H' ⟨_, h, _⟩; cases h))
   rintro lv H' ⟨bm, h, rfl⟩
   cases h
   refine LLate.one (i := 5) (by kernel_rfl) ?_
   refine LLateOp.pureH rfl rfl (Pure.bld _ (cs := [_, _, _, _, _, _, _, _, _, _]) rfl) ?_
   refine LLate.one (i := 6) (by kernel_rfl) ?_
   refine LLateOp.whole rfl (.inl rfl) rfl (S.box rfl fun mb => ?_)
   refine LLate.one (i := 7) (by kernel_rfl) ?_
   refine LLateOp.pureH rfl rfl (Pure.as (lv := .atom _) rfl) ?_
   refine LLate.done (by kernel_rfl) ?_
   repeat first | refine QThen.normal ?_
   refine ⟨⟨mb, mm, bm⟩, trivial, ⟨rfl, rfl, rfl, rfl, trivial⟩, ?_, rfl⟩
   first
    | exact HSub.pick Pick.here (HSub.pick Pick.here (HSub.pick Pick.here (HSub.refl _)))
    | exact HSub.pick Pick.here (HSub.pick (Pick.there Pick.here) (HSub.pick Pick.here (HSub.refl _)))
  ·refine LLateOp.whole rfl (.inl rfl) rfl (S.callH (H1 := []) [] rfl (List.Perm.refl _) binaries_spec ?_ (by rintro ch H' ⟨_, h, _⟩; cases h))
   rintro lv H' ⟨bm, h, rfl⟩
   cases h
   refine LLate.one (i := 0) (by kernel_rfl) ?_
   refine LLateOp.whole rfl (.inl rfl) rfl (S.makeRow (n := 262144) rfl rfl (by decide) (by decide) fun mm => ?_)
   rw [memL_zero]
   refine LLate.one (i := 5) (by kernel_rfl) ?_
   refine LLateOp.pureH rfl rfl (Pure.bld _ (cs := [_, _, _, _, _, _, _, _, _, _]) rfl) ?_
   refine LLate.one (i := 6) (by kernel_rfl) ?_
   refine LLateOp.whole rfl (.inl rfl) rfl (S.box rfl fun mb => ?_)
   refine LLate.one (i := 7) (by kernel_rfl) ?_
   refine LLateOp.pureH rfl rfl (Pure.as (lv := .atom _) rfl) ?_
   refine LLate.done (by kernel_rfl) ?_
   repeat first | refine QThen.normal ?_
   refine ⟨⟨mb, mm, bm⟩, trivial, ⟨rfl, rfl, rfl, rfl, trivial⟩, ?_, rfl⟩
   first
    | exact HSub.pick Pick.here (HSub.pick Pick.here (HSub.pick Pick.here (HSub.refl _)))
    | exact HSub.pick Pick.here (HSub.pick (Pick.there Pick.here) (HSub.pick Pick.here (HSub.refl _)))
 have hjj : j2.ds = [] := hj2.trans hj
 repeat first | refine LOps.nil ?_ | refine LCode.seq ?_ | refine LCode.region ?_ | refine LCode.block ?_ | refine QThen.normal ?_ | refine LOps.pure (Pure.mv (lv := .atom _) rfl) rfl ?_ | refine LOps.pure (Pure.mv (lv := .list _) rfl) rfl ?_ | refine LOps.pure (Pure.llen rfl) rfl ?_
 refine LCode.loopI (fun kk ls H' => ∃ i : Nat, i ≤ 1 ∧ kk = 1 - i ∧ ls = [(3, int .i64 (steps : Nat)), (8, ptr b8 0), (12, ptr k.mb 0), (64, .list [.agg [int .i64 (og : Nat), str code]]), (65, int .i64 1), (66, int .i64 (i : Nat))] ∧ H' = [stR k og inp, k.memH (loadM (code.take (i * code.length)) og), k.binH, ouR b8])
  ⟨_, _, _, ⟨0, by omega, rfl, rfl, rfl⟩, ⟨rfl, rfl, rfl, rfl, rfl, rfl, trivial⟩, by rw [Nat.zero_mul, List.take_zero, load_none]; exact HSub.refl _⟩ ?_
 rintro kk ls H' ⟨i, hi, rfl, rfl, rfl⟩ j3 hj3
 repeat first | refine LOps.nil ?_ | refine LCode.seq ?_ | refine LCode.region ?_ | refine QThen.normal ?_ | refine LOps.pure (Pure.lss rfl rfl) rfl ?_
 refine LCode.cond rfl (fun hc => ?_) (fun hc => ?_)
 ·obtain rfl : i = 0 := by have := of_decide_eq_true hc; omega
  repeat first | refine LCode.seq ?_ | refine LCode.region ?_ | refine LCode.skip ?_ | refine LCode.block ?_ | refine QThen.normal ?_
  refine LOps.pure (Pure.ixRef (el' := .agg [int .i64 (og : Nat), str code]) (cs := [_, _]) rfl rfl (by decide) rfl rfl rfl) rfl ?_
  repeat first | refine LOps.pure (Pure.ldRefAgg (cs' := [_, _]) rfl rfl rfl) rfl ?_
  refine LOps.step (S.alloc fun b14 => ?_) rfl
  repeat first | refine LOps.nil ?_ | refine LCode.seq ?_ | refine LCode.region ?_ | refine LCode.block ?_ | refine QThen.normal ?_ | refine LOps.pure (Pure.mv (lv := .atom _) rfl) rfl ?_ | refine LOps.pure (Pure.fieldH rfl) rfl ?_ | refine LOps.pure (Pure.loadH (c := .atom _) rfl (List.Mem.head _) rfl) rfl ?_ | refine LOps.pure (Pure.slen rfl) rfl ?_ | refine LOps.step (S.store (cs' := [_, _]) rfl Pick.here rfl rfl rfl rfl rfl ?_) rfl
  refine LCode.loopI (fun kk ls H' => ∃ n : Nat, n ≤ code.length ∧ kk = code.length - n ∧ ls = [(3, int .i64 (steps : Nat)), (8, ptr b8 0), (12, ptr k.mb 0), (14, ptr b14 0), (64, .list [.agg [int .i64 (og : Nat), str code]]), (65, int .i64 1), (66, int .i64 0), (72, int .i64 code.length), (73, int .i64 (n : Nat))] ∧ H' = [stR k og inp, (b14, .cells 95 [int .i64 (og : Nat), str code]), k.memH (loadM (code.take n) og), k.binH, ouR b8])
   ⟨_, _, _, ⟨0, Nat.zero_le _, rfl, rfl, rfl⟩, ⟨rfl, rfl, rfl, rfl, rfl, rfl, rfl, rfl, rfl, trivial⟩, by rw [Nat.zero_mul]; exact HSub.pick (Pick.there Pick.here) (HSub.refl _)⟩ ?_
  rintro kk ls H' ⟨n, hn, rfl, rfl, rfl⟩ j4 hj4
  repeat first | refine LOps.nil ?_ | refine LCode.seq ?_ | refine LCode.region ?_ | refine QThen.normal ?_ | refine LOps.pure (Pure.lss rfl rfl) rfl ?_
  refine LCode.cond rfl (fun hd => ?_) (fun hd => ?_)
  ·have hlt : n < code.length := by have := of_decide_eq_true hd; omega
   have hget : code[((n : Nat) : Int).toNat]? = some code[n] := by rw [Int.toNat_natCast, List.getElem?_eq_getElem hlt]
   have hnx := load_next (og := og) hlt
   generalize code[n] = ch at hget hnx
   have hw8 : IntKind.u32.wrap ((ch.toNat : Nat) : Int) = ((ch.toNat : Nat) : Int) := by
    rw [wrapU]
    have := ch.toNat_lt
    omega
   repeat first | refine LOps.nil ?_ | refine LCode.seq ?_ | refine LCode.region ?_ | refine LCode.skip ?_ | refine LCode.block ?_ | refine QThen.normal ?_ | refine LOps.pure (Pure.mv (lv := .atom _) rfl) rfl ?_ | refine LOps.pure (Pure.as (lv := .atom _) rfl) rfl ?_
   refine LCode.draw (m := 15) rfl [stR k og inp, (b14, LObj.cells 95 [int .i64 (og : Nat), str code])] ?_
   refine LAny.tk 0 rfl rfl (Pure.mv (lv := .atom _) rfl) ?_
   refine LAny.tk 1 rfl rfl (Pure.nilCheckH rfl) ?_
   refine LAny.tk 2 rfl rfl (Pure.fieldH rfl) ?_
   refine LAny.tk 3 rfl rfl (Pure.loadH (c := .atom _) rfl (List.Mem.head _) rfl) ?_
   refine LAny.tk 4 rfl rfl (Pure.fieldH rfl) ?_
   refine LAny.tk 5 rfl rfl (Pure.loadH (c := .atom _) rfl (List.Mem.tail _ (List.Mem.head _)) rfl) ?_
   refine LAny.tk 6 rfl rfl (Pure.mv (lv := .atom _) rfl) ?_
   refine LAny.tk 7 rfl rfl (Pure.add rfl rfl (by omega)) ?_
   refine LAny.tk 8 rfl rfl (Pure.fieldH rfl) ?_
   refine LAny.tk 9 rfl rfl (Pure.loadH (c := .atom _) rfl (List.Mem.tail _ (List.Mem.head _)) rfl) ?_
   refine LAny.tk 10 rfl rfl (Pure.mv (lv := .atom _) rfl) ?_
   refine LAny.tk 11 rfl rfl (Pure.sindex (c := ch) rfl rfl (by omega) hget) ?_
   refine LAny.tk 12 rfl rfl (Pure.cvt rfl) ?_
   refine LAny.tk 13 rfl rfl (Pure.indexRowE (o := og + n) rfl rfl (by omega) (by omega) (by omega)) ?_
   refine LAny.late ?_ ⟨_, List.Perm.refl _⟩
   refine LLate.one (i := 14) (by kernel_rfl) ?_
   refine LLateOp.step (H1 := [k.memH (loadM (code.take n) og)]) (F := [stR k og inp, (b14, LObj.cells 95 [int .i64 (og : Nat), str code]), k.binH, ouR b8]) rfl (.inl rfl) rfl (Pick.there (Pick.there Pick.here)) ⟨_, List.Perm.refl _⟩ ?_
   refine S.store (n := 1) (vs := [u32 ch.toNat]) (cs' := memL (loadM (code.take (n + 1)) og)) rfl Pick.here (congrArg (fun z => some [int .u32 z]) hw8) rfl (by rw [Nat.ble_eq, memL_len]; omega) rfl (by rw [← hnx]; exact memL_set _ _ _) ?_
   refine LLate.done (by kernel_rfl) ?_
   repeat first | refine LOps.nil ?_ | refine LCode.region ?_ | refine QThen.normal ?_ | refine QBlock.normal ?_ | refine LOps.pure (Pure.mv (lv := .atom _) rfl) rfl ?_ | refine LOps.pure (Pure.add rfl rfl (by omega)) rfl ?_
   exact ⟨code.length - (n + 1), _, _, by omega, ⟨n + 1, by omega, rfl, rfl, rfl⟩, ⟨rfl, rfl, rfl, rfl, rfl, rfl, rfl, rfl, int_eq (by omega), trivial⟩, HSub.pick (Pick.there Pick.here) (HSub.pick (Pick.there Pick.here) (HSub.refl _)), hj4⟩
  ·obtain rfl : n = code.length := by have := of_decide_eq_false hd; omega
   repeat first | refine LOps.nil ?_ | refine LCode.region ?_ | refine LCode.exit ?_ | refine QThen.normal ?_ | refine QThen.exit ?_ | refine QBlock.hit ?_ | refine QBlock.normal ?_ | refine LOps.pure (Pure.mv (lv := .atom _) rfl) rfl ?_ | refine LOps.pure (Pure.add rfl rfl (by omega)) rfl ?_
   exact ⟨0, _, _, by omega, ⟨1, by omega, rfl, rfl, rfl⟩, ⟨rfl, rfl, rfl, rfl, rfl, int_eq (by omega), trivial⟩, by rw [Nat.one_mul]; exact HSub.pick Pick.here (HSub.drop (HSub.refl _)), hj4.trans hj3⟩
 obtain rfl : i = 1 := by have := of_decide_eq_false hc; omega
 rw [Nat.one_mul, List.take_length]
 have hS : StH k (startM code og inp) 0 false [stR k og inp, k.memH (loadM code og), k.binH] := ⟨.slice none 0 0, [], nilSlice, [], [stR k og inp], MRow.nil, Acc.nil, ⟨.slice none 0 0, [], MRow.nil, rfl⟩, rfl⟩
 have hrun := run_spec (B0 := B0) (w0 := w0) k (start_ok code hog2 hin) (fun h => by cases h) (Nat.zero_le steps) hs1 (Nat.le_refl 0) hS
 rw [Nat.sub_zero] at hrun
 generalize runM steps (startM code og inp) = R at hrun ⊢
 rw [Nat.zero_add] at hrun
 repeat first | refine LCode.seq ?_ | refine LCode.region ?_ | refine LCode.exit ?_ | refine QThen.normal ?_ | refine QThen.exit ?_ | refine QBlock.hit ?_ | refine LOps.pure (Pure.mv (lv := .atom _) rfl) rfl ?_
 refine LOps.step (S.callH (H1 := [stR k og inp, k.memH (loadM code og), k.binH]) (F := [ouR b8]) [_, _] rfl (List.Perm.refl _) hrun ?_ (by rintro ch H' ⟨_, h⟩; cases h)) rfl
 rintro v H' ⟨hE, hv⟩
 cases hv
 obtain ⟨s2, stop, ho, vc, HC, vo, HO, HD, hC, hO, hD, rfl⟩ := hE
 obtain ⟨vd, HD0, hm, rfl⟩ := hD
 refine LOps.weak (H' := ouR b8 :: (k.mb, .cells 164 ((k.mf s2 R.2.2 stop vc vo).cells vd)) :: (HD0 ++ (k.memH s2.mem :: k.binH :: (HC ++ HO)))) ⟨[], by rw [List.append_nil]; exact List.perm_append_comm⟩ ?_
 repeat first | refine LOps.nil ?_ | refine LCode.seq ?_ | refine QThen.normal ?_ | refine LOps.pure (Pure.as (lv := .atom _) rfl) rfl ?_
 refine LCode.tail 11 (by kernel_rfl) ?_
 repeat first | refine LS.pure (Pure.mv (lv := .atom _) rfl) rfl ?_ | refine LS.pure (Pure.fieldH rfl) rfl ?_ | refine LS.pure (Pure.nilCheckH rfl) rfl ?_
 refine LS.pure (Pure.loadH (c := vo) rfl (List.Mem.tail _ (List.Mem.head _)) rfl) rfl ?_
 refine LS.pure (Pure.bytesStrE (l := s2.out) (by exact hO.elems)) rfl ?_
 repeat first | refine LS.pure (Pure.mv (lv := .atom _) rfl) rfl ?_ | refine LS.pure (Pure.fieldH rfl) rfl ?_ | refine LS.pure (Pure.loadH (c := .atom _) rfl (List.Mem.tail _ (List.Mem.head _)) rfl) rfl ?_ | refine LS.pure (Pure.bld _ (cs := [_, _, _]) rfl) rfl ?_ | refine LS.pure (Pure.nilCheckH rfl) rfl ?_ | refine LS.nil ?_
 repeat first | refine LOps.nil ?_ | refine LCode.ret ?_ | refine QThen.normal ?_ | refine LOps.step (S.store (cs' := [_, _, _]) rfl Pick.here rfl rfl rfl rfl rfl ?_) rfl
 exact retRet (hj3.trans hjj) (AllRes.cons (ResIs.cellAgg (k := 3) rfl (List.Mem.head _) rfl (LV.Sub.refl _)) AllRes.nil) (by rw [ho]; rfl)
end
end Go.Proofs.YtdakelgkjdaijaaGreatDoor.Mch
namespace Go.Proofs.YtdakelgkjdaijaaGreatDoor.Cmp
open Go.GL Go.RowKit Go.Stele
open Go.Lib (decDigits itoa join)
set_option maxRecDepth 100000
set_option maxHeartbeats 4000000
def orgLV (o : Org) : LV := .agg [int .i64 o.code, int .i64 o.scalars, int .i64 o.arrays]
attribute [local irreducible] LOps LCode LStep LCalls Go.GL.Pure QThen QBlock RetPost LQ LAny LLate LLateOp LS
section
variable {B0 : Nat} {w0 : World}
end
end Go.Proofs.YtdakelgkjdaijaaGreatDoor.Cmp
namespace Go.Proofs.YtdakelgkjdaijaaGreatDoor.Cmp
open Go.GL Go.RowKit Go.Stele
open Go.Lib (decDigits itoa join)
set_option maxRecDepth 100000
set_option maxHeartbeats 4000000
attribute [local irreducible] LOps LCode LStep LCalls Go.GL.Pure QThen QBlock RetPost LQ LAny LLate LLateOp LS
section
variable {B0 : Nat} {w0 : World}
def defO : Org := ⟨10000, 0, 100000⟩
theorem defaults_spec : LCalls (KC B0 w0) 10 [] [] (Ret (orgLV defO)) := by
 refine LCalls.intro Tryz.func10 rfl (n := 2) rfl rfl rfl ?_
 repeat first | refine LCode.seq ?_ | refine LCode.region ?_
 refine LOps.step (S.alloc fun b => ?_) rfl
 repeat first | refine LOps.nil ?_ | refine LCode.seq ?_ | refine LCode.region ?_ | refine LCode.ret ?_ | refine QThen.normal ?_ | refine LOps.pure (Pure.bld _ (cs := [_, _, _]) rfl) rfl ?_ | refine LOps.step (S.store (cs' := [_, _, _]) rfl Pick.here rfl rfl rfl rfl rfl ?_) rfl
 exact retRet rfl (AllRes.cons (ResIs.cellAgg rfl (List.Mem.head _) rfl (LV.Sub.refl _)) AllRes.nil) rfl
end
end Go.Proofs.YtdakelgkjdaijaaGreatDoor.Cmp
namespace Go.Proofs.YtdakelgkjdaijaaGreatDoor.Pp
open Go.GL Go.RowKit Go.Stele
open Go.Proofs.YtdakelgkjdaijaaGreatDoor.Asm (OptLV OptLV.mk ite_some)
set_option maxRecDepth 100000
set_option maxHeartbeats 4000000
attribute [local irreducible] LOps LCode LStep LCalls Go.GL.Pure QThen QBlock RetPost LQ LAny LLate LLateOp
/-- What the world before the call holds: what the parser and the assembler ask, and the other error of numbers. -/
structure GW (B0 : Nat) (w0 : World) : Prop where
 base : Go.Proofs.YtdakelgkjdaijaaGreatDoor.GW B0 w0
 mx : Asm.GM w0
 errSyntax : ∃ tp p, w0.var? Tryz.prog "strconv.ErrSyntax" = some #[.iface tp p]
section
variable {B0 : Nat} {w0 : World}
theorem GW.syn (h : GW B0 w0) {w : World} (hb : Below B0 w0 w) : ∃ tp p, w.var? Tryz.prog "strconv.ErrSyntax" = some #[.iface tp p] := by
 have hg : Tryz.prog.globalNamed "strconv.ErrSyntax" = some 4 := by kernel_rfl
 obtain ⟨tp, p, hv⟩ := h.errSyntax
 exact ⟨tp, p, var?_below hb hg (Nat.lt_of_lt_of_le (by decide) h.base.big) hv⟩
theorem GW.range (h : GW B0 w0) {w : World} (hb : Below B0 w0 w) : ∃ tp p, w.var? Tryz.prog "strconv.ErrRange" = some #[.iface tp p] := h.base.err hb
theorem fmtUint_spec (hG : GW B0 w0) (u : Nat) (hu : u < 18446744073709551616) : LCalls (KC B0 w0) 43 [int .u64 u, int .i64 10] [] (Ret (str (Go.Lib.decDigits u))) := Go.Proofs.YtdakelgkjdaijaaGreatDoor.fmtUint_spec hG.base u hu
theorem cutPrefix_spec (s p : List UInt8) : LCalls (KC B0 w0) 69 [str s, str p] [] (Ret (.tuple [str (Go.Lib.trimPrefix s p), bool (Go.Lib.hasPrefix s p)])) := Asm.cutPrefix_spec s p
theorem cutSuffix_spec (s p : List UInt8) (hs : s.length ≤ 1000000000) : LCalls (KC B0 w0) 150 [str s, str p] [] (Ret (.tuple [str (Go.Lib.trimSuffix s p), bool (Go.Lib.hasSuffix s p)])) := Asm.cutSuffix_spec s p hs
/-- strconv.ParseUint(s, 10, 32): the number and nil, or an error that is not nil. -/
theorem parseUint_any (hG : GW B0 w0) (s : List UInt8) (hs : s.length ≤ 1000000000) : LCalls (KC B0 w0) 149 [str s, int .i64 10, int .i64 32] []
  (RetIf fun lv => (∃ u, Go.Lib.parseUintB 32 s = .ok u ∧ lv = .tuple [int .u64 u, .atom .nilIface]) ∨ ((∀ u, Go.Lib.parseUintB 32 s ≠ .ok u) ∧ ∃ v t p, lv = .tuple [int .u64 v, .atom (.iface t p)])) := by
 have hsz : ∀ k, 1000000000 ≤ k → s.toArray.size ≤ k := fun k hk => by simp; omega
 refine LCalls.mono (LCalls.of_belowT (vs := [.string ⟨s.toArray⟩, .int .i64 10, .int .i64 32]) (p := fun us => (∃ u, Go.Lib.parseUintB 32 s = .ok u ∧ us = [.int .u64 u, .nilIface]) ∨ ((∀ u, Go.Lib.parseUintB 32 s ≠ .ok u) ∧ ∃ v t p, us = [.int .u64 v, .iface t p])) fun w hw => ?_) ?_
 ·cases h : Go.Lib.parseUintB 32 s with
  | ok u =>
   refine (Tryz.strconv_ParseUint_10_at32_ok ⟨s.toArray⟩ (hsz _ (by decide)) u (by simpa using h) w).mono fun e w' he => ⟨_, he.1, .inl ⟨u, rfl, rfl⟩, ?_⟩
   rcases he.2 with h2 | h2
   ·rw [h2]; exact Below.refl _ _
   ·rw [h2]
    exact ⟨rfl, rfl, rfl, by rw [Go.Lib.bytesWorld_size]; omega, fun k hk => Go.Lib.bytesWorld_at_old w 5 _ k hk⟩
  | range =>
   obtain ⟨tp, p, hv⟩ := hG.range hw
   refine (Tryz.strconv_ParseUint_10_at32_range_var ⟨s.toArray⟩ (hsz _ (by decide)) (by simpa using h) tp p w hv).mono fun e w' he => ?_
   obtain ⟨N, h1, _, _, h4⟩ := he
   exact ⟨_, h1, .inr ⟨(fun u hu => by cases hu), _, _, _, rfl⟩, h4⟩
  | _ =>
   obtain ⟨tp, p, hv⟩ := hG.syn hw
   refine (Tryz.strconv_ParseUint_10_at32_syntax_var ⟨s.toArray⟩ (hsz _ (by decide)) ⟨fun u hu => (by rw [h] at hu; cases hu), fun hu => (by rw [h] at hu; cases hu)⟩ tp p w hv).mono fun e w' he => ?_
   obtain ⟨N, h1, _, _, h4⟩ := he
   exact ⟨_, h1, .inr ⟨(fun u hu => by cases hu), _, _, _, rfl⟩, h4⟩
 ·rintro r H ⟨v, rfl, ⟨us, hus, rfl⟩, rfl⟩
  refine ⟨_, rfl, ?_, rfl⟩
  rcases hus with ⟨u, h1, rfl⟩ | ⟨h1, v, t, p, rfl⟩
  ·exact .inl ⟨u, h1, rfl⟩
  ·exact .inr ⟨h1, v, t, p, rfl⟩
theorem trim_spec (s : List UInt8) (hs : s.length ≤ 1000000000) : LCalls (KC B0 w0) 147 [str s, str nameSet] [] (Ret (str (Go.Lib.trimS s nameSet))) :=
 LCalls.ret_of (vs := [.string ⟨s.toArray⟩, .string ⟨nameSet.toArray⟩]) fun w hw => (Go.Proofs.Any.strings_Trim_laid Tryz.lays160 (by kernel_rfl) ⟨s.toArray⟩ ⟨nameSet.toArray⟩ w (by show s.toArray.size ≤ _; simp; omega) (by decide) (Go.Proofs.ascii_of_all (by decide)))
end
end Go.Proofs.YtdakelgkjdaijaaGreatDoor.Pp
namespace Go.Proofs.YtdakelgkjdaijaaGreatDoor.Pp
open Go.GL Go.RowKit Go.Stele
open Go.Proofs.YtdakelgkjdaijaaGreatDoor.Asm (OptLV OptLV.mk ite_some)
set_option maxRecDepth 100000
set_option maxHeartbeats 4000000
theorem wrapU32 {n : Int} (h : 0 ≤ n ∧ n ≤ 4294967295) : IntKind.u32.wrap n = n := by
 simp only [IntKind.wrap, IntKind.bits, IntKind.signed, Bool.false_and]
 simp
 omega
theorem wrapU64 {n : Int} (h : 0 ≤ n ∧ n ≤ 4294967295) : IntKind.u64.wrap n = n := by
 simp only [IntKind.wrap, IntKind.bits, IntKind.signed, Bool.false_and]
 simp
 omega
theorem wrapU32m (n : Int) : IntKind.u32.wrap n = n % 4294967296 := by
 simp only [IntKind.wrap, IntKind.bits, IntKind.signed, Bool.false_and]
 simp
instance : TIface Tryz.prog 72 := .of (by kernel_rfl)
attribute [local irreducible] LOps LCode LStep LCalls Go.GL.Pure QThen QBlock RetPost LQ LAny LLate LLateOp
section
variable {B0 : Nat} {w0 : World}
theorem isName_spec (s : List UInt8) (hs : s.length ≤ 1000000000) : LCalls (KC B0 w0) 70 [str s] [] (Ret (bool (nameW s))) := by
 have hT := trim_spec (B0 := B0) (w0 := w0) s hs
 have hnil := trim_nil s
 cases s with
 | nil =>
  refine LCalls.intro Tryz.func70 rfl (n := 25) rfl rfl rfl ?_
  repeat first | refine LOps.nil ?_ | refine LCode.seq ?_ | refine LCode.region ?_ | refine LCode.ret ?_ | refine QThen.normal ?_ | refine LOps.pure (Pure.as (lv := .atom _) rfl) rfl ?_ | refine LOps.pure (Pure.mv (lv := .atom _) rfl) rfl ?_ | refine LOps.pure (Pure.sneq rfl rfl) rfl ?_ | refine LOps.pure (Pure.pickF (lv := .atom _) rfl rfl) rfl ?_ | refine LOps.skip rfl rfl rfl rfl ?_
  exact retRet rfl (AllRes.cons (ResIs.tmp (v := .atom _) rfl (LV.Sub.refl _)) AllRes.nil) rfl
 | cons c r =>
  have hN : nameW (c :: r) = (decide ((c :: r).length ≤ 40) && isLetter c && (c :: r).all isInner) := rfl
  rw [isLetter] at hN
  refine LCalls.intro Tryz.func70 rfl (n := 25) rfl rfl rfl ?_
  repeat first | refine LOps.nil ?_ | refine LCode.seq ?_ | refine LCode.region ?_ | refine QThen.normal ?_ | refine LOps.pure (Pure.as (lv := .atom _) rfl) rfl ?_ | refine LOps.pure (Pure.mv (lv := .atom _) rfl) rfl ?_ | refine LOps.pure (Pure.sneq rfl rfl) rfl ?_ | refine LOps.pure (Pure.slen rfl) rfl ?_ | refine LOps.pure (Pure.leq rfl rfl) rfl ?_ | refine LOps.pure (Pure.pickT (lv := .atom _) rfl rfl) rfl ?_ | refine LOps.want rfl rfl ?_
  refine LOps.bcase 5 rfl (fun h1 => ?_) (fun h1 => absurd h1 (by simp))
  refine LOps.bcase 10 rfl (fun h2 => ?_) (fun h2 => ?_)
  ·have h2' : (c :: r).length ≤ 40 := by have := of_decide_eq_true h2; omega
   rw [decide_eq_true h2', Bool.true_and] at hN
   repeat first | refine LOps.pure (Pure.mv (lv := .atom _) rfl) rfl ?_ | refine LOps.want rfl rfl ?_
   refine LOps.pure (Pure.sindex (c := c) rfl rfl (by omega) rfl) rfl ?_
   repeat first | refine LOps.pure (Pure.mv (lv := .atom _) rfl) rfl ?_ | refine LOps.pure (Pure.pickT (lv := .atom _) rfl rfl) rfl ?_ | refine LOps.pure (Pure.geq rfl rfl) rfl ?_ | refine LOps.want rfl rfl ?_
   refine LOps.bcase 15 rfl (fun h3 => ?_) (fun h3 => ?_)
   ·have h3' : decide (97 ≤ cv c) = true := h3
    rw [h3', Bool.true_and] at hN
    repeat first | refine LOps.pure (Pure.mv (lv := .atom _) rfl) rfl ?_ | refine LOps.want rfl rfl ?_
    refine LOps.pure (Pure.sindex (c := c) rfl rfl (by omega) rfl) rfl ?_
    repeat first | refine LOps.pure (Pure.mv (lv := .atom _) rfl) rfl ?_ | refine LOps.pure (Pure.leq rfl rfl) rfl ?_ | refine LOps.pure (Pure.pickT (lv := .atom _) rfl rfl) rfl ?_ | refine LOps.want rfl rfl ?_
    refine LOps.bcase 20 rfl (fun h4 => ?_) (fun h4 => ?_)
    ·have h4' : decide (cv c ≤ 122) = true := h4
     rw [h4', Bool.true_and] at hN
     repeat first | refine LOps.pure (Pure.mv (lv := .atom _) rfl) rfl ?_ | refine LOps.want rfl rfl ?_
     refine LOps.step (S.fn [_, _] rfl hT ?_) rfl
     repeat first | refine LOps.nil ?_ | refine LCode.ret ?_ | refine QThen.normal ?_ | refine LOps.pure (Pure.as (lv := .atom _) rfl) rfl ?_ | refine LOps.pure (Pure.pickT (lv := .atom _) rfl rfl) rfl ?_ | refine LOps.pure (Pure.seq rfl rfl) rfl ?_ | refine LOps.want rfl rfl ?_
     exact retRet rfl (AllRes.cons (ResIs.tmp (v := .atom _) rfl (LV.Sub.refl _)) AllRes.nil) (bool_eq (by
      rw [hN, Bool.eq_iff_iff, decide_eq_true_iff]
      exact hnil))
    ·have h4' : decide (cv c ≤ 122) = false := h4
     rw [h4', Bool.false_and] at hN
     repeat first | refine LOps.nil ?_ | refine LCode.ret ?_ | refine QThen.normal ?_ | refine LOps.pure (Pure.as (lv := .atom _) rfl) rfl ?_ | refine LOps.pure (Pure.pickF (lv := .atom _) rfl rfl) rfl ?_ | refine LOps.skip rfl rfl rfl rfl ?_
     exact retRet rfl (AllRes.cons (ResIs.tmp (v := .atom _) rfl (LV.Sub.refl _)) AllRes.nil) (bool_eq hN.symm)
   ·have h3' : decide (97 ≤ cv c) = false := h3
    rw [h3', Bool.false_and, Bool.false_and] at hN
    repeat first | refine LOps.nil ?_ | refine LCode.ret ?_ | refine QThen.normal ?_ | refine LOps.pure (Pure.as (lv := .atom _) rfl) rfl ?_ | refine LOps.pure (Pure.mv (lv := .atom _) rfl) rfl ?_ | refine LOps.pure (Pure.pickF (lv := .atom _) rfl rfl) rfl ?_ | refine LOps.skip rfl rfl rfl rfl ?_
    exact retRet rfl (AllRes.cons (ResIs.tmp (v := .atom _) rfl (LV.Sub.refl _)) AllRes.nil) (bool_eq hN.symm)
  ·have h2' : ¬ (c :: r).length ≤ 40 := by have := of_decide_eq_false h2; omega
   rw [decide_eq_false h2', Bool.false_and, Bool.false_and] at hN
   repeat first | refine LOps.nil ?_ | refine LCode.ret ?_ | refine QThen.normal ?_ | refine LOps.pure (Pure.as (lv := .atom _) rfl) rfl ?_ | refine LOps.pure (Pure.mv (lv := .atom _) rfl) rfl ?_ | refine LOps.pure (Pure.pickF (lv := .atom _) rfl rfl) rfl ?_ | refine LOps.skip rfl rfl rfl rfl ?_
   exact retRet rfl (AllRes.cons (ResIs.tmp (v := .atom _) rfl (LV.Sub.refl _)) AllRes.nil) (bool_eq hN.symm)
theorem number_spec (hG : GW B0 w0) (w : Wd) (hs : w.length ≤ 1000000000) : LCalls (KC B0 w0) 73 [str w] [] (Ret (.tuple [int .u32 ((numW w).getD 0 : Nat), bool (numW w).isSome])) := by
 have hP := parseUint_any hG w hs
 refine LCalls.intro Tryz.func73 rfl (n := 21) rfl rfl rfl ?_
 repeat first | refine LOps.nil ?_ | refine LCode.seq ?_ | refine LCode.region ?_ | refine QThen.normal ?_ | refine LOps.pure (Pure.as (lv := .atom _) rfl) rfl ?_ | refine LOps.pure (Pure.mv (lv := .atom _) rfl) rfl ?_
 refine LOps.step (S.fnIf [_, _, _] rfl hP ?_) rfl
 rintro lv (⟨u, hu, rfl⟩ | ⟨hno, v, t, p, rfl⟩)
 ·have hlt := pu32_lt hu
  repeat first | refine LOps.nil ?_ | refine LCode.seq ?_ | refine LCode.region ?_ | refine QThen.normal ?_ | refine LOps.pure (Pure.as (lv := .atom _) rfl) rfl ?_ | refine LOps.pure (Pure.mv (lv := .atom _) rfl) rfl ?_ | refine LOps.pure (Pure.mv (lv := .tuple _) rfl) rfl ?_ | refine LOps.pure (Pure.extract (c := .atom _) rfl rfl) rfl ?_ | refine LOps.pure (Pure.nilNeqNil rfl) rfl ?_ | refine LOps.want rfl rfl ?_
  refine LOps.step (S.fn [_, _] rfl (fmtUint_spec hG u (by omega)) ?_) rfl
  repeat first | refine LOps.nil ?_ | refine QThen.normal ?_ | refine LOps.pure (Pure.mv (lv := .atom _) rfl) rfl ?_ | refine LOps.pure (Pure.sneq rfl rfl) rfl ?_ | refine LOps.pure (Pure.pickF (lv := .atom _) rfl rfl) rfl ?_ | refine LOps.want rfl rfl ?_
  refine LCode.cond rfl (fun h => ?_) (fun h => ?_)
  ·have hne : ¬ Go.Lib.decDigits u = w := by simpa using h
   have hn : numW w = none := by unfold numW; rw [hu]; exact if_neg hne
   repeat first | refine LOps.nil ?_ | refine LCode.seq ?_ | refine LCode.region ?_ | refine LCode.ret ?_ | refine QThen.normal ?_ | refine QThen.ret ?_ | refine LOps.pure (Pure.as (lv := .atom _) rfl) rfl ?_
   exact retRet rfl (AllRes.cons (ResIs.tmp (v := .atom _) rfl (LV.Sub.refl _)) (AllRes.cons (ResIs.tmp (v := .atom _) rfl (LV.Sub.refl _)) AllRes.nil)) (by rw [hn]; rfl)
  ·have he : Go.Lib.decDigits u = w := by simpa using h
   have hn : numW w = some u := by unfold numW; rw [hu]; exact if_pos he
   repeat first | refine LOps.nil ?_ | refine LCode.seq ?_ | refine LCode.region ?_ | refine LCode.skip ?_ | refine LCode.ret ?_ | refine QThen.normal ?_ | refine LOps.pure (Pure.as (lv := .atom _) rfl) rfl ?_ | refine LOps.pure (Pure.mv (lv := .atom _) rfl) rfl ?_ | refine LOps.pure (Pure.cvt rfl) rfl ?_
   exact retRet rfl (AllRes.cons (ResIs.tmp (v := .atom _) rfl (LV.Sub.refl _)) (AllRes.cons (ResIs.tmp (v := .atom _) rfl (LV.Sub.refl _)) AllRes.nil)) (by
    rw [hn, wrapU32 (by omega)]
    rfl)
 ·have hn : numW w = none := by
   unfold numW
   split
   ·rename_i u hu
    exact absurd hu (hno u)
   ·rfl
  repeat first | refine LOps.nil ?_ | refine LCode.seq ?_ | refine LCode.region ?_ | refine QThen.normal ?_ | refine LOps.pure (Pure.as (lv := .atom _) rfl) rfl ?_ | refine LOps.pure (Pure.mv (lv := .atom _) rfl) rfl ?_ | refine LOps.pure (Pure.mv (lv := .tuple _) rfl) rfl ?_ | refine LOps.pure (Pure.extract (c := .atom _) rfl rfl) rfl ?_ | refine LOps.pure (Pure.ifaceNeqNil rfl) rfl ?_ | refine LOps.pure (Pure.pickT (lv := .atom _) rfl rfl) rfl ?_ | refine LOps.skip rfl rfl rfl rfl ?_
  refine LCode.cond rfl (fun h => ?_) (fun h => ?_)
  ·repeat first | refine LOps.nil ?_ | refine LCode.seq ?_ | refine LCode.region ?_ | refine LCode.ret ?_ | refine QThen.normal ?_ | refine QThen.ret ?_ | refine LOps.pure (Pure.as (lv := .atom _) rfl) rfl ?_
   exact retRet rfl (AllRes.cons (ResIs.tmp (v := .atom _) rfl (LV.Sub.refl _)) (AllRes.cons (ResIs.tmp (v := .atom _) rfl (LV.Sub.refl _)) AllRes.nil)) (by rw [hn]; rfl)
  ·cases h
theorem reference_spec (w : Wd) (hs : w.length ≤ 1000000000) : LCalls (KC B0 w0) 31 [str w] [] (RetIf (OptLV (refW w))) := by
 obtain ⟨r1, r2⟩ := ite_some (ref_eq w)
 have hlen : (Go.Lib.trimPrefix w [38]).length ≤ 1000000000 := by
  unfold Go.Lib.trimPrefix
  split
  ·rw [List.length_drop]; omega
  ·exact hs
 refine LCalls.intro Tryz.func31 rfl (n := 17) rfl rfl rfl ?_
 repeat first | refine LOps.nil ?_ | refine LCode.seq ?_ | refine LCode.region ?_ | refine QThen.normal ?_ | refine LOps.pure (Pure.as (lv := .atom _) rfl) rfl ?_ | refine LOps.pure (Pure.mv (lv := .atom _) rfl) rfl ?_
 refine LOps.step (S.fn [_, _] rfl (cutPrefix_spec w [38]) ?_) rfl
 repeat first | refine LOps.nil ?_ | refine LCode.seq ?_ | refine LCode.region ?_ | refine QThen.normal ?_ | refine LOps.pure (Pure.as (lv := .atom _) rfl) rfl ?_ | refine LOps.pure (Pure.mv (lv := .atom _) rfl) rfl ?_ | refine LOps.pure (Pure.mv (lv := .tuple _) rfl) rfl ?_ | refine LOps.pure (Pure.extract (c := .atom _) rfl rfl) rfl ?_
 refine LOps.bcase 13 rfl (fun h => ?_) (fun h => ?_)
 ·rw [h, Bool.true_and] at r1
  repeat first | refine LOps.pure (Pure.mv (lv := .atom _) rfl) rfl ?_ | refine LOps.want rfl rfl ?_
  refine LOps.step (S.fn [_] rfl (isName_spec _ hlen) ?_) rfl
  repeat first | refine LOps.nil ?_ | refine LCode.ret ?_ | refine QThen.normal ?_ | refine LOps.pure (Pure.as (lv := .atom _) rfl) rfl ?_ | refine LOps.pure (Pure.pickT (lv := .atom _) rfl rfl) rfl ?_
  exact retRetIf rfl (AllRes.cons (ResIs.tmp (v := .atom _) rfl (LV.Sub.refl _)) (AllRes.cons (ResIs.tmp (v := .atom _) rfl (LV.Sub.refl _)) AllRes.nil)) (OptLV.mk r1 r2)
 ·rw [h, Bool.false_and] at r1
  repeat first | refine LOps.nil ?_ | refine LCode.ret ?_ | refine QThen.normal ?_ | refine LOps.pure (Pure.as (lv := .atom _) rfl) rfl ?_ | refine LOps.pure (Pure.pickF (lv := .atom _) rfl rfl) rfl ?_ | refine LOps.skip rfl rfl rfl rfl ?_
  exact retRetIf rfl (AllRes.cons (ResIs.tmp (v := .atom _) rfl (LV.Sub.refl _)) (AllRes.cons (ResIs.tmp (v := .atom _) rfl (LV.Sub.refl _)) AllRes.nil)) (OptLV.mk r1 r2)
theorem definition_spec (w : Wd) (hs : w.length ≤ 1000000000) : LCalls (KC B0 w0) 76 [str w] [] (RetIf (OptLV (defW w))) := by
 obtain ⟨r1, r2⟩ := ite_some (def_eq w)
 have hlen : (Go.Lib.trimSuffix w [58]).length ≤ 1000000000 := by
  unfold Go.Lib.trimSuffix
  split
  ·rw [List.length_take]; omega
  ·exact hs
 refine LCalls.intro Tryz.func76 rfl (n := 17) rfl rfl rfl ?_
 repeat first | refine LOps.nil ?_ | refine LCode.seq ?_ | refine LCode.region ?_ | refine QThen.normal ?_ | refine LOps.pure (Pure.as (lv := .atom _) rfl) rfl ?_ | refine LOps.pure (Pure.mv (lv := .atom _) rfl) rfl ?_
 refine LOps.step (S.fn [_, _] rfl (cutSuffix_spec w [58] hs) ?_) rfl
 repeat first | refine LOps.nil ?_ | refine LCode.seq ?_ | refine LCode.region ?_ | refine QThen.normal ?_ | refine LOps.pure (Pure.as (lv := .atom _) rfl) rfl ?_ | refine LOps.pure (Pure.mv (lv := .atom _) rfl) rfl ?_ | refine LOps.pure (Pure.mv (lv := .tuple _) rfl) rfl ?_ | refine LOps.pure (Pure.extract (c := .atom _) rfl rfl) rfl ?_
 refine LOps.bcase 13 rfl (fun h => ?_) (fun h => ?_)
 ·rw [h, Bool.true_and] at r1
  repeat first | refine LOps.pure (Pure.mv (lv := .atom _) rfl) rfl ?_ | refine LOps.want rfl rfl ?_
  refine LOps.step (S.fn [_] rfl (isName_spec _ hlen) ?_) rfl
  repeat first | refine LOps.nil ?_ | refine LCode.ret ?_ | refine QThen.normal ?_ | refine LOps.pure (Pure.as (lv := .atom _) rfl) rfl ?_ | refine LOps.pure (Pure.pickT (lv := .atom _) rfl rfl) rfl ?_
  exact retRetIf rfl (AllRes.cons (ResIs.tmp (v := .atom _) rfl (LV.Sub.refl _)) (AllRes.cons (ResIs.tmp (v := .atom _) rfl (LV.Sub.refl _)) AllRes.nil)) (OptLV.mk r1 r2)
 ·rw [h, Bool.false_and] at r1
  repeat first | refine LOps.nil ?_ | refine LCode.ret ?_ | refine QThen.normal ?_ | refine LOps.pure (Pure.as (lv := .atom _) rfl) rfl ?_ | refine LOps.pure (Pure.pickF (lv := .atom _) rfl rfl) rfl ?_ | refine LOps.skip rfl rfl rfl rfl ?_
  exact retRetIf rfl (AllRes.cons (ResIs.tmp (v := .atom _) rfl (LV.Sub.refl _)) (AllRes.cons (ResIs.tmp (v := .atom _) rfl (LV.Sub.refl _)) AllRes.nil)) (OptLV.mk r1 r2)
/-- A view: words and the set of labels at m. -/
def viewLV (v : List Wd) (m : Nat) : LV := .agg [.list (v.map str), .atom (.map (some m))]
theorem word_spec (v : List Wd) (m i : Nat) (hv : v.length ≤ 1000000000) : LCalls (KC B0 w0) 72 [viewLV v m, int .i64 i] [] (Ret (str (wdAt v i))) := by
 have hla : (v.map str).length = v.length := List.length_map _
 unfold viewLV
 refine LCalls.intro Tryz.func72 rfl (n := 15) rfl rfl rfl ?_
 repeat first | refine LCode.seq ?_ | refine LCode.region ?_
 refine LOps.step (S.box (cs := [.list (v.map str), .atom (.map (some m))]) rfl fun b2 => ?_) rfl
 repeat first | refine LOps.nil ?_ | refine LCode.seq ?_ | refine LCode.region ?_ | refine QThen.normal ?_ | refine LOps.pure (Pure.as (lv := .atom _) rfl) rfl ?_ | refine LOps.pure (Pure.mv (lv := .atom _) rfl) rfl ?_ | refine LOps.pure (Pure.fieldH rfl) rfl ?_ | refine LOps.pure (Pure.loadH (c := .list _) rfl (List.Mem.head _) rfl) rfl ?_ | refine LOps.pure (Pure.llen rfl) rfl ?_ | refine LOps.pure (Pure.lss rfl rfl) rfl ?_
 refine LCode.cond rfl (fun h => ?_) (fun h => ?_)
 ·have hlt : i < v.length := by have := of_decide_eq_true h; omega
  have hw : wdAt v i = v[i] := by unfold wdAt; rw [List.getElem?_eq_getElem hlt]; rfl
  repeat first | refine LCode.seq ?_ | refine LCode.region ?_ | refine LOps.pure (Pure.mv (lv := .atom _) rfl) rfl ?_ | refine LOps.pure (Pure.fieldH rfl) rfl ?_ | refine LOps.pure (Pure.loadH (c := .list _) rfl (List.Mem.head _) rfl) rfl ?_
  refine LOps.pure (Pure.ixRef (el' := str v[i]) (cs := [str v[i]]) rfl rfl (by omega) (map_get _ _ _ hlt) rfl rfl) rfl ?_
  repeat first | refine LOps.nil ?_ | refine LCode.ret ?_ | refine QThen.normal ?_ | refine QThen.ret ?_ | refine LOps.pure (Pure.as (lv := .atom _) rfl) rfl ?_ | refine LOps.pure (Pure.loadRef (c := .atom _) rfl rfl) rfl ?_
  exact retRet rfl (AllRes.cons (ResIs.tmp (v := .atom _) rfl (LV.Sub.refl _)) AllRes.nil) (str_eq hw.symm)
 ·have hge : v.length ≤ i := by have := of_decide_eq_false h; omega
  have hw : wdAt v i = [] := by unfold wdAt; rw [List.getElem?_eq_none hge]; rfl
  repeat first | refine LOps.nil ?_ | refine LCode.seq ?_ | refine LCode.region ?_ | refine LCode.skip ?_ | refine LCode.ret ?_ | refine QThen.normal ?_ | refine LOps.pure (Pure.as (lv := .atom _) rfl) rfl ?_
  exact retRet rfl (AllRes.cons (ResIs.tmp (v := .atom _) rfl (LV.Sub.refl _)) AllRes.nil) (str_eq hw.symm)
/-- No word is too long. -/
def Small (v : List Wd) : Prop := v.length ≤ 1000000 ∧ ∀ w ∈ v, w.length ≤ 1000000
theorem Small.at {v : List Wd} (h : Small v) (i : Nat) : (wdAt v i).length ≤ 1000000 := by
 unfold wdAt
 cases hi : v[i]? with
 | none => exact Nat.zero_le _
 | some w => exact h.2 w (List.mem_of_getElem? hi)
theorem jump_spec (v : List Wd) (m i : Nat) (hv : Small v) (hi : i ≤ 1000) : LCalls (KC B0 w0) 75 [viewLV v m, int .i64 i] [] (RetIf (OptLV (jumpW v i))) := by
 have h1 := word_spec (B0 := B0) (w0 := w0) v m i (by have := hv.1; omega)
 have h2 := word_spec (B0 := B0) (w0 := w0) v m (i + 1) (by have := hv.1; omega)
 have e2 : int .i64 ((i : Int) + 1) = int .i64 ((i + 1 : Nat) : Int) := int_eq (by omega)
 rw [← e2] at h2
 have hl := hv.at i
 have hJ : jumpW v i = match refW (wdAt v i) with
  | some l => if wdAt v (i + 1) = [63] then some l else none
  | none => none := rfl
 unfold viewLV at h1 h2 ⊢
 refine LCalls.intro Tryz.func75 rfl (n := 24) rfl rfl rfl ?_
 repeat first | refine LCode.seq ?_ | refine LCode.region ?_
 refine LOps.step (S.box (cs := [.list (v.map str), .atom (.map (some m))]) rfl fun b2 => ?_) rfl
 repeat first | refine LOps.nil ?_ | refine LCode.seq ?_ | refine LCode.region ?_ | refine QThen.normal ?_ | refine LOps.pure (Pure.as (lv := .atom _) rfl) rfl ?_ | refine LOps.pure (Pure.ldHAgg (cs' := [_, _]) rfl (List.Mem.head _) rfl rfl) rfl ?_ | refine LOps.pure (Pure.mv (lv := .atom _) rfl) rfl ?_
 refine LOps.step (S.fn [_, _] rfl h1 ?_) rfl
 refine LOps.step (S.fnIf [_] rfl (reference_spec _ (by omega)) ?_) rfl
 rintro lv ⟨s, rfl, hs⟩
 repeat first | refine LOps.nil ?_ | refine LCode.seq ?_ | refine LCode.region ?_ | refine QThen.normal ?_ | refine LOps.pure (Pure.as (lv := .atom _) rfl) rfl ?_ | refine LOps.pure (Pure.mv (lv := .atom _) rfl) rfl ?_ | refine LOps.pure (Pure.mv (lv := .tuple _) rfl) rfl ?_ | refine LOps.pure (Pure.extract (c := .atom _) rfl rfl) rfl ?_
 refine LOps.bcase 17 rfl (fun h => ?_) (fun h => ?_)
 ·obtain ⟨l, hl2⟩ := Option.isSome_iff_exists.1 h
  have hsl := hs l hl2
  rw [hl2] at hJ
  repeat first | refine LOps.pure (Pure.ldHAgg (cs' := [_, _]) rfl (List.Mem.head _) rfl rfl) rfl ?_ | refine LOps.pure (Pure.mv (lv := .atom _) rfl) rfl ?_ | refine LOps.pure (Pure.add rfl rfl (by omega)) rfl ?_ | refine LOps.want rfl rfl ?_
  refine LOps.step (S.fn [_, _] rfl h2 ?_) rfl
  repeat first | refine LOps.nil ?_ | refine LCode.ret ?_ | refine QThen.normal ?_ | refine LOps.pure (Pure.as (lv := .atom _) rfl) rfl ?_ | refine LOps.pure (Pure.seq rfl rfl) rfl ?_ | refine LOps.pure (Pure.pickT (lv := .atom _) rfl rfl) rfl ?_ | refine LOps.want rfl rfl ?_
  exact retRetIf rfl (AllRes.cons (ResIs.tmp (v := .atom _) rfl (LV.Sub.refl _)) (AllRes.cons (ResIs.tmp (v := .atom _) rfl (LV.Sub.refl _)) AllRes.nil)) (OptLV.mk (by rw [hJ]; simp only; split <;> simp_all) (by
   intro l' h'
   rw [hJ] at h'
   simp only at h'
   split at h'
   ·injection h' with h'
    rw [hsl, h']
   ·cases h'))
 ·have hn : refW (wdAt v i) = none := by
   cases h3 : refW (wdAt v i) with
   | none => rfl
   | some l => rw [h3] at h; cases h
  rw [hn] at hJ
  repeat first | refine LOps.nil ?_ | refine LCode.ret ?_ | refine QThen.normal ?_ | refine LOps.pure (Pure.as (lv := .atom _) rfl) rfl ?_ | refine LOps.pure (Pure.pickF (lv := .atom _) rfl rfl) rfl ?_ | refine LOps.skip rfl rfl rfl rfl ?_
  exact retRetIf rfl (AllRes.cons (ResIs.tmp (v := .atom _) rfl (LV.Sub.refl _)) (AllRes.cons (ResIs.tmp (v := .atom _) rfl (LV.Sub.refl _)) AllRes.nil)) (OptLV.mk (by rw [hJ]; rfl) (by
   intro l' h'
   rw [hJ] at h'
   cases h'))
end
end Go.Proofs.YtdakelgkjdaijaaGreatDoor.Pp
