/- Texts joined: RLex1, RLex2, RLex3, LexSpec3, RLex4, RLex5, LexLaw, RParA, LawF. -/
import Derived.Lib.ItoaLen
import Derived.Test.YtfodkbchknknjaaGreatDoorBRowF1
import Derived.Test.YtfodkbchknknjaaGreatDoorBRowF2
import Derived.Test.YtfodkbchknknjaaGreatDoorBRowF4
import Derived.Test.YtfodkbchknknjaaGreatDoorBRowF6
import Derived.Test.YtfodkbchknknjaaGreatDoorBRowF7
import Derived.Test.YtfodkbchknknjaaGreatDoorBRowF8
set_option linter.unusedVariables false
set_option linter.unusedSimpArgs false
namespace Go.Proofs.YtfodkbchknknjaaGreatDoor
open Go.GL Go.RowKit Go.Stele
set_option maxRecDepth 100000
set_option maxHeartbeats 4000000
attribute [local irreducible] LOps LCode LStep LCalls Go.GL.Pure QThen QBlock RetPost LQ LAny LLate LLateOp
section
variable {B0 : Nat} {w0 : World}
theorem rdigit_spec (c : UInt8) : LCalls (KC B0 w0) 101 [int .u8 c.toNat] [] (Ret (bool (isDigit c))) := by
 refine LCalls.intro Tryz.func101 rfl (n := 9) rfl rfl rfl ?_
 repeat first | refine LOps.nil ?_ | refine LCode.seq ?_ | refine LCode.region ?_ | refine QThen.normal ?_ | refine LOps.pure (Pure.as (lv := .atom _) rfl) rfl ?_ | refine LOps.pure (Pure.mv (lv := .atom _) rfl) rfl ?_ | refine LOps.pure (Pure.geq rfl rfl) rfl ?_
 refine LOps.bcase 5 rfl (fun ht => ?_) (fun ht => ?_)
 ·repeat first | refine LOps.nil ?_ | refine LCode.ret ?_ | refine QThen.normal ?_ | refine LOps.pure (Pure.as (lv := .atom _) rfl) rfl ?_ | refine LOps.pure (Pure.mv (lv := .atom _) rfl) rfl ?_ | refine LOps.pure (Pure.leq rfl rfl) rfl ?_ | refine LOps.pure (Pure.pickT (lv := .atom _) rfl rfl) rfl ?_ | refine LOps.want rfl rfl ?_
  exact retRet rfl (AllRes.cons (ResIs.tmp (v := .atom _) rfl (LV.Sub.refl _)) AllRes.nil) (by simp [resLV, isDigit, ht])
 ·repeat first | refine LOps.nil ?_ | refine LCode.ret ?_ | refine QThen.normal ?_ | refine LOps.pure (Pure.as (lv := .atom _) rfl) rfl ?_ | refine LOps.pure (Pure.pickF (lv := .atom _) rfl rfl) rfl ?_ | refine LOps.skip rfl rfl rfl rfl ?_
  exact retRet rfl (AllRes.cons (ResIs.tmp (v := .atom _) rfl (LV.Sub.refl _)) AllRes.nil) (by simp [resLV, isDigit, ht])
theorem rletter_spec (c : UInt8) : LCalls (KC B0 w0) 103 [int .u8 c.toNat] [] (Ret (bool (isLetter c))) := by
 refine LCalls.intro Tryz.func103 rfl (n := 9) rfl rfl rfl ?_
 repeat first | refine LOps.nil ?_ | refine LCode.seq ?_ | refine LCode.region ?_ | refine QThen.normal ?_ | refine LOps.pure (Pure.as (lv := .atom _) rfl) rfl ?_ | refine LOps.pure (Pure.mv (lv := .atom _) rfl) rfl ?_ | refine LOps.pure (Pure.geq rfl rfl) rfl ?_
 refine LOps.bcase 5 rfl (fun ht => ?_) (fun ht => ?_)
 ·repeat first | refine LOps.nil ?_ | refine LCode.ret ?_ | refine QThen.normal ?_ | refine LOps.pure (Pure.as (lv := .atom _) rfl) rfl ?_ | refine LOps.pure (Pure.mv (lv := .atom _) rfl) rfl ?_ | refine LOps.pure (Pure.leq rfl rfl) rfl ?_ | refine LOps.pure (Pure.pickT (lv := .atom _) rfl rfl) rfl ?_ | refine LOps.want rfl rfl ?_
  exact retRet rfl (AllRes.cons (ResIs.tmp (v := .atom _) rfl (LV.Sub.refl _)) AllRes.nil) (by simp [resLV, isLetter, ht])
 ·repeat first | refine LOps.nil ?_ | refine LCode.ret ?_ | refine QThen.normal ?_ | refine LOps.pure (Pure.as (lv := .atom _) rfl) rfl ?_ | refine LOps.pure (Pure.pickF (lv := .atom _) rfl rfl) rfl ?_ | refine LOps.skip rfl rfl rfl rfl ?_
  exact retRet rfl (AllRes.cons (ResIs.tmp (v := .atom _) rfl (LV.Sub.refl _)) AllRes.nil) (by simp [resLV, isLetter, ht])
theorem rpart_spec (c : UInt8) : LCalls (KC B0 w0) 125 [int .u8 c.toNat] [] (Ret (bool (isInner c))) := by
 refine LCalls.intro Tryz.func125 rfl (n := 13) rfl rfl rfl ?_
 repeat first | refine LOps.nil ?_ | refine LCode.seq ?_ | refine LCode.region ?_ | refine QThen.normal ?_ | refine LOps.pure (Pure.as (lv := .atom _) rfl) rfl ?_ | refine LOps.pure (Pure.mv (lv := .atom _) rfl) rfl ?_
 refine LOps.step (S.fn [_] rfl (rletter_spec c) ?_) rfl
 repeat first | refine LOps.pure (Pure.mv (lv := .atom _) rfl) rfl ?_
 refine LOps.bcase 5 rfl (fun ht => ?_) (fun ht => ?_)
 ·repeat first | refine LOps.nil ?_ | refine LCode.ret ?_ | refine QThen.normal ?_ | refine LOps.pure (Pure.as (lv := .atom _) rfl) rfl ?_ | refine LOps.pure (Pure.mv (lv := .atom _) rfl) rfl ?_ | refine LOps.pure (Pure.pickT (lv := .atom _) rfl rfl) rfl ?_ | refine LOps.skip rfl rfl rfl rfl ?_
  exact retRet rfl (AllRes.cons (ResIs.tmp (v := .atom _) rfl (LV.Sub.refl _)) AllRes.nil) (by simp [resLV, isInner, ht])
 ·repeat first | refine LOps.pure (Pure.mv (lv := .atom _) rfl) rfl ?_ | refine LOps.want rfl rfl ?_
  refine LOps.step (S.fn [_] rfl (rdigit_spec c) ?_) rfl
  repeat first | refine LOps.pure (Pure.mv (lv := .atom _) rfl) rfl ?_ | refine LOps.pure (Pure.pickF (lv := .atom _) rfl rfl) rfl ?_
  refine LOps.bcase 9 rfl (fun hd => ?_) (fun hd => ?_)
  ·repeat first | refine LOps.nil ?_ | refine LCode.ret ?_ | refine QThen.normal ?_ | refine LOps.pure (Pure.as (lv := .atom _) rfl) rfl ?_ | refine LOps.pure (Pure.pickT (lv := .atom _) rfl rfl) rfl ?_ | refine LOps.skip rfl rfl rfl rfl ?_
   exact retRet rfl (AllRes.cons (ResIs.tmp (v := .atom _) rfl (LV.Sub.refl _)) AllRes.nil) (by simp [resLV, isInner, ht, hd])
  ·repeat first | refine LOps.nil ?_ | refine LCode.ret ?_ | refine QThen.normal ?_ | refine LOps.pure (Pure.as (lv := .atom _) rfl) rfl ?_ | refine LOps.pure (Pure.mv (lv := .atom _) rfl) rfl ?_ | refine LOps.pure (Pure.pickF (lv := .atom _) rfl rfl) rfl ?_ | refine LOps.pure (Pure.eql rfl rfl) rfl ?_ | refine LOps.want rfl rfl ?_
   exact retRet rfl (AllRes.cons (ResIs.tmp (v := .atom _) rfl (LV.Sub.refl _)) AllRes.nil) (by simp [resLV, isInner, ht, hd])
theorem rKeywords_spec : LCalls (KC B0 w0) 147 [] [] (Ret (.list (keywords.map str))) := by
 refine LCalls.intro Tryz.func147 rfl (n := 2) rfl rfl rfl ?_
 repeat first | refine LOps.nil ?_ | refine LCode.seq ?_ | refine LCode.region ?_ | refine QThen.normal ?_ | refine LOps.pure (Pure.as (lv := .atom _) rfl) rfl ?_
 refine LOps.step (S.lit [_, _, _, _, _, _, _, _] rfl (elemsOk_strs keywords) rfl rfl rfl ?_) rfl
 repeat first | refine LOps.nil ?_ | refine LCode.ret ?_ | refine QThen.normal ?_ | refine LOps.pure (Pure.as (lv := .list _) rfl) rfl ?_
 exact retRet rfl (AllRes.cons (ResIs.tmp (v := .list _) rfl (LV.Sub.refl _)) AllRes.nil) rfl
theorem rKeyword_spec (s : List UInt8) : LCalls (KC B0 w0) 126 [str s] [] (Ret (bool (keywords.contains s))) := by
 refine LCalls.intro Tryz.func126 rfl (n := 18) rfl rfl rfl ?_
 repeat first | refine LOps.nil ?_ | refine LCode.seq ?_ | refine LCode.region ?_ | refine QThen.normal ?_ | refine LOps.pure (Pure.as (lv := .atom _) rfl) rfl ?_
 refine LOps.step (S.fn [] rfl rKeywords_spec ?_) rfl
 repeat first | refine LOps.nil ?_ | refine LCode.seq ?_ | refine LCode.region ?_ | refine LCode.block ?_ | refine QThen.normal ?_ | refine LOps.pure (Pure.as (lv := .atom _) rfl) rfl ?_ | refine LOps.pure (Pure.as (lv := .list _) rfl) rfl ?_
 refine LCode.loopI (fun k ls H => ∃ m : Nat, k = 8 - m ∧ ls = [(0, str s), (3, .list (keywords.map str)), (4, int .i64 m)] ∧ H = [] ∧ m ≤ 8 ∧ keywords.contains s = (keywords.drop m).contains s)
  ⟨_, _, _, ⟨0, rfl, rfl, rfl, by omega, by simp⟩, ⟨rfl, rfl, rfl, trivial⟩, HSub.refl _⟩ ?_
 rintro k ls H ⟨m, rfl, rfl, rfl, hm, hI⟩ j hj
 have h8 : keywords.length = 8 := rfl
 repeat first | refine LOps.nil ?_ | refine LCode.seq ?_ | refine LCode.region ?_ | refine QThen.normal ?_ | refine LOps.pure (Pure.mv (lv := .atom _) rfl) rfl ?_ | refine LOps.pure (Pure.mv (lv := .list _) rfl) rfl ?_ | refine LOps.pure (Pure.llen rfl) rfl ?_ | refine LOps.pure (Pure.lss rfl rfl) rfl ?_
 refine LCode.cond rfl (fun hc => ?_) (fun hc => ?_)
 ·have hlt : m < keywords.length := by have := of_decide_eq_true hc; simp at this; omega
  repeat first | refine LCode.seq ?_ | refine LCode.region ?_ | refine LCode.skip ?_ | refine LCode.block ?_ | refine QThen.normal ?_ | refine LOps.pure (Pure.mv (lv := .atom _) rfl) rfl ?_ | refine LOps.pure (Pure.mv (lv := .list _) rfl) rfl ?_
  refine LOps.pure (Pure.ixRef (el' := str keywords[m]) rfl rfl (by omega) (by simp) rfl rfl) rfl ?_
  repeat first | refine LOps.nil ?_ | refine QThen.normal ?_ | refine LOps.pure (Pure.mv (lv := .atom _) rfl) rfl ?_ | refine LOps.pure (Pure.loadRef (c := .atom _) rfl rfl) rfl ?_ | refine LOps.pure (Pure.seq rfl rfl) rfl ?_
  refine LCode.cond rfl (fun he => ?_) (fun he => ?_)
  ·have hx : keywords[m] = s := by simpa using he
   repeat first | refine LOps.nil ?_ | refine LCode.seq ?_ | refine LCode.region ?_ | refine LCode.ret ?_ | refine QThen.normal ?_ | refine QThen.ret ?_ | refine QBlock.ret ?_ | refine LOps.pure (Pure.as (lv := .atom _) rfl) rfl ?_
   exact retRet hj (AllRes.cons (ResIs.tmp (v := .atom _) rfl (LV.Sub.refl _)) AllRes.nil) (by
    have : keywords.contains s = true := by rw [← hx]; simp
    rw [this]
    rfl)
  ·have hx : ¬ keywords[m] = s := by simpa using he
   repeat first | refine LOps.nil ?_ | refine LCode.region ?_ | refine LCode.skip ?_ | refine QThen.normal ?_ | refine QBlock.normal ?_ | refine LOps.pure (Pure.as (lv := .atom _) rfl) rfl ?_ | refine LOps.pure (Pure.mv (lv := .atom _) rfl) rfl ?_ | refine LOps.pure (Pure.add rfl rfl (by omega)) rfl ?_
   exact ⟨_, _, _, by omega, ⟨m + 1, rfl, rfl, rfl, by omega, by
    rw [hI, List.drop_eq_getElem_cons hlt, List.contains_cons]
    simp [Ne.symm hx]⟩, ⟨rfl, rfl, int_eq (by omega), trivial⟩, HSub.refl _, hj⟩
 ·have hge : keywords.length ≤ m := by have := of_decide_eq_false hc; simp at this; omega
  repeat first | refine LOps.nil ?_ | refine LCode.seq ?_ | refine LCode.region ?_ | refine LCode.ret ?_ | refine LCode.exit ?_ | refine QThen.normal ?_ | refine QThen.exit ?_ | refine QBlock.hit ?_ | refine LOps.pure (Pure.as (lv := .atom _) rfl) rfl ?_
  exact retRet hj (AllRes.cons (ResIs.tmp (v := .atom _) rfl (LV.Sub.refl _)) AllRes.nil) (by
   rw [hI, List.drop_eq_nil_of_le hge]
   rfl)
theorem wrap_u8 {n : Int} (h : 0 ≤ n ∧ n ≤ 255) : IntKind.u8.wrap n = n := by
 simp only [IntKind.wrap, IntKind.bits, IntKind.signed, Bool.false_and]
 simp
 omega
theorem Decimal_spec : ∀ (n : Nat), n ≤ 4611686018427387904 → LCalls (KC B0 w0) 105 [int .i64 n] [] (Ret (str (Go.Lib.decDigits n))) := by
 intro n
 induction n using Nat.strongRecOn with
 | _ n ih =>
  intro hn
  refine LCalls.intro Tryz.func105 rfl (n := 20) rfl rfl rfl ?_
  repeat first | refine LOps.nil ?_ | refine LCode.seq ?_ | refine LCode.region ?_ | refine QThen.normal ?_ | refine LOps.pure (Pure.as (lv := .atom _) rfl) rfl ?_ | refine LOps.pure (Pure.mv (lv := .atom _) rfl) rfl ?_ | refine LOps.pure (Pure.lss rfl rfl) rfl ?_
  refine LCode.cond rfl (fun hc => ?_) (fun hc => ?_)
  ·have hlt : n < 10 := by have := of_decide_eq_true hc; omega
   repeat first | refine LCode.seq ?_ | refine LCode.region ?_ | refine LOps.pure (Pure.mv (lv := .atom _) rfl) rfl ?_ | refine LOps.pure (Pure.add rfl rfl (by omega)) rfl ?_ | refine LOps.pure (Pure.cvt rfl) rfl ?_
   rw [wrap_u8 (by omega)]
   refine LOps.step (S.lit [_] rfl (elemsOk.cons rfl rfl elemsOk.nil) rfl rfl rfl ?_) rfl
   refine LOps.pure (Pure.bytesStr (l := [UInt8.ofNat (48 + n)]) (by
    have h : ((UInt8.ofNat (48 + n)).toNat : Int) = 48 + (n : Int) := by
     rw [UInt8.toNat_ofNat']
     omega
    simp only [List.map_cons, List.map_nil, h]
    rfl) (by simp)) rfl ?_
   repeat first | refine LOps.nil ?_ | refine LCode.ret ?_ | refine QThen.normal ?_ | refine QThen.ret ?_ | refine LOps.pure (Pure.as (lv := .atom _) rfl) rfl ?_
   exact retRet rfl (AllRes.cons (ResIs.tmp (v := .atom _) rfl (LV.Sub.refl _)) AllRes.nil) (by
    rw [Go.Lib.decDigits, dif_pos hlt]
    rfl)
  ·have hge : ¬ n < 10 := by have := of_decide_eq_false hc; omega
   repeat first | refine LCode.seq ?_ | refine LCode.skip ?_ | refine QThen.normal ?_
   have hq : ((n : Int) / 10) = ((n / 10 : Nat) : Int) := by omega
   have hm : ((n : Int) % 10) = ((n % 10 : Nat) : Int) := by omega
   have hbytes : some [int .u8 (IntKind.u8.wrap (48 + (n : Int) % 10))] = some ([UInt8.ofNat (48 + n % 10)].map fun b => int .u8 b.toNat) := by
    have h : ((UInt8.ofNat (48 + n % 10)).toNat : Int) = 48 + ((n % 10 : Nat) : Int) := by
     rw [UInt8.toNat_ofNat']
     omega
    simp only [List.map_cons, List.map_nil, h, hm]
    rw [wrap_u8 (by omega)]
   have hrec : LCalls (KC B0 w0) 105 [int .i64 ((n : Int) / 10)] [] (Ret (str (Go.Lib.decDigits (n / 10)))) := by
    rw [hq]
    exact ih (n / 10) (by omega) (by omega)
   have hlen : (Go.Lib.decDigits (n / 10)).length + [UInt8.ofNat (48 + n % 10)].length ≤ 9223372036854775807 := by
    rw [Go.Lib.decDigits_length]
    have := Go.Lib.nDigits_le20 (n / 10) (by omega)
    simp
    omega
   have hres : Go.Lib.decDigits n = Go.Lib.decDigits (n / 10) ++ [UInt8.ofNat (48 + n % 10)] := by rw [Go.Lib.decDigits, dif_neg hge]
   refine LCode.draw (m := 11) rfl [] ?_
   refine LAny.tk 0 rfl rfl (Pure.mv (lv := .atom _) rfl) ?_
   refine LAny.take (i := 1) (HSub.nil _) rfl (by kernel_rfl) (by kernel_rfl) (by kernel_rfl) rfl (Pure.quo rfl rfl (by decide) (by omega) (by omega)) ?_
   refine LAny.tk 3 rfl rfl (Pure.mv (lv := .atom _) rfl) ?_
   refine LAny.take (i := 4) (HSub.nil _) rfl (by kernel_rfl) (by kernel_rfl) (by kernel_rfl) rfl (Pure.rem rfl rfl (by decide) (by omega)) ?_
   refine LAny.tk 5 rfl rfl (Pure.add rfl rfl (by omega)) ?_
   refine LAny.tk 6 rfl rfl (Pure.cvt rfl) ?_
   refine LAny.late ?_ (HSub.nil _)
   refine LLate.two (i := 2) (j := 7) (by kernel_rfl) ?_ ?_
   ·refine (LLateOp.step (i := 2) (H1 := []) (F := []) rfl (.inl rfl) rfl (List.Perm.refl _) (HSub.nil _) (S.fn [_] rfl hrec ?_))
    refine LLate.one (by kernel_rfl) (LLateOp.step (i := 7) (H1 := []) (F := []) rfl (.inl rfl) rfl (List.Perm.refl _) (HSub.nil _) (S.lit [_] rfl (elemsOk.cons rfl rfl elemsOk.nil) rfl rfl rfl ?_))
    refine LLate.one (by kernel_rfl) (LLateOp.step (i := 8) (H1 := []) (F := []) rfl (.inl rfl) rfl (List.Perm.refl _) (HSub.nil _) (Pure.step (Pure.bytesStr (l := [UInt8.ofNat (48 + n % 10)]) hbytes (by simp)) ?_))
    refine LLate.one (by kernel_rfl) (LLateOp.step (i := 9) (H1 := []) (F := []) rfl (.inl rfl) rfl (List.Perm.refl _) (HSub.nil _) (Pure.step (Pure.sadd (l := Go.Lib.decDigits (n / 10)) (m := [UInt8.ofNat (48 + n % 10)]) rfl rfl hlen) ?_))
    refine LLate.one (by kernel_rfl) (LLateOp.step (i := 10) (H1 := []) (F := []) rfl (.inl rfl) rfl (List.Perm.refl _) (HSub.nil _) (Pure.step (Pure.as (lv := .atom _) rfl) ?_))
    refine LLate.done (by kernel_rfl) ?_
    repeat first | refine LCode.ret ?_ | refine QThen.normal ?_
    exact retRet rfl (AllRes.cons (ResIs.tmp (v := .atom _) rfl (LV.Sub.refl _)) AllRes.nil) (by rw [hres]; rfl)
   ·refine (LLateOp.step (i := 7) (H1 := []) (F := []) rfl (.inl rfl) rfl (List.Perm.refl _) (HSub.nil _) (S.lit [_] rfl (elemsOk.cons rfl rfl elemsOk.nil) rfl rfl rfl ?_))
    refine LLate.two (i := 2) (j := 8) (by kernel_rfl) ?_ ?_
    ·refine (LLateOp.step (i := 2) (H1 := []) (F := []) rfl (.inl rfl) rfl (List.Perm.refl _) (HSub.nil _) (S.fn [_] rfl hrec ?_))
     refine LLate.one (by kernel_rfl) (LLateOp.step (i := 8) (H1 := []) (F := []) rfl (.inl rfl) rfl (List.Perm.refl _) (HSub.nil _) (Pure.step (Pure.bytesStr (l := [UInt8.ofNat (48 + n % 10)]) hbytes (by simp)) ?_))
     refine LLate.one (by kernel_rfl) (LLateOp.step (i := 9) (H1 := []) (F := []) rfl (.inl rfl) rfl (List.Perm.refl _) (HSub.nil _) (Pure.step (Pure.sadd (l := Go.Lib.decDigits (n / 10)) (m := [UInt8.ofNat (48 + n % 10)]) rfl rfl hlen) ?_))
     refine LLate.one (by kernel_rfl) (LLateOp.step (i := 10) (H1 := []) (F := []) rfl (.inl rfl) rfl (List.Perm.refl _) (HSub.nil _) (Pure.step (Pure.as (lv := .atom _) rfl) ?_))
     refine LLate.done (by kernel_rfl) ?_
     repeat first | refine LCode.ret ?_ | refine QThen.normal ?_
     exact retRet rfl (AllRes.cons (ResIs.tmp (v := .atom _) rfl (LV.Sub.refl _)) AllRes.nil) (by rw [hres]; rfl)
    ·refine (LLateOp.step (i := 8) (H1 := []) (F := []) rfl (.inl rfl) rfl (List.Perm.refl _) (HSub.nil _) (Pure.step (Pure.bytesStr (l := [UInt8.ofNat (48 + n % 10)]) hbytes (by simp)) ?_))
     refine LLate.one (by kernel_rfl) (LLateOp.step (i := 2) (H1 := []) (F := []) rfl (.inl rfl) rfl (List.Perm.refl _) (HSub.nil _) (S.fn [_] rfl hrec ?_))
     refine LLate.one (by kernel_rfl) (LLateOp.step (i := 9) (H1 := []) (F := []) rfl (.inl rfl) rfl (List.Perm.refl _) (HSub.nil _) (Pure.step (Pure.sadd (l := Go.Lib.decDigits (n / 10)) (m := [UInt8.ofNat (48 + n % 10)]) rfl rfl hlen) ?_))
     refine LLate.one (by kernel_rfl) (LLateOp.step (i := 10) (H1 := []) (F := []) rfl (.inl rfl) rfl (List.Perm.refl _) (HSub.nil _) (Pure.step (Pure.as (lv := .atom _) rfl) ?_))
     refine LLate.done (by kernel_rfl) ?_
     repeat first | refine LCode.ret ?_ | refine QThen.normal ?_
     exact retRet rfl (AllRes.cons (ResIs.tmp (v := .atom _) rfl (LV.Sub.refl _)) AllRes.nil) (by rw [hres]; rfl)
end
end Go.Proofs.YtfodkbchknknjaaGreatDoor
namespace Go.Proofs.YtfodkbchknknjaaGreatDoor
open Go.GL Go.RowKit Go.Stele
set_option maxRecDepth 100000
set_option maxHeartbeats 4000000
attribute [local irreducible] LOps LCode LStep LCalls Go.GL.Pure QThen QBlock RetPost LQ LAny LLate LLateOp
def encT (r : TokR) : LV := .agg [int .i64 r.1.kind, str r.1.text, int .i64 r.1.line, int .i64 r.2.1, int .i64 r.2.2]
def numStep (a : Nat × Bool) (c : UInt8) : Nat × Bool :=
 (if a.2 then a.1 else 10 * a.1 + (c.toNat - 48), a.2 || decide (4294967295 < (if a.2 then a.1 else 10 * a.1 + (c.toNat - 48))))
theorem numStep_large (n : Nat) : ∀ l : List UInt8, (l.foldl numStep (n, true)) = (n, true)
 | [] => rfl
 | c :: r => by
  rw [List.foldl_cons]
  exact numStep_large n r
theorem numFold_parse : ∀ (l : List UInt8) (n : Nat), n ≤ 4294967295 → (∀ c ∈ l, isDigit c = true) →
  Go.Lib.parseUintM (2 ^ 32 - 1) n l = (if (l.foldl numStep (n, false)).2 then .range else .ok (l.foldl numStep (n, false)).1)
 | [], n, _, _ => by simp [Go.Lib.parseUintM]
 | c :: r, n, hn, h => by
  have hc := h c List.mem_cons_self
  simp only [isDigit, Bool.and_eq_true, decide_eq_true_eq, cv] at hc
  have hcomm : n * 10 + (c.toNat - 48) = 10 * n + (c.toNat - 48) := by omega
  rw [Go.Lib.parseUintM, if_pos (by omega), if_neg (by omega), List.foldl_cons, hcomm]
  by_cases hl : 4294967295 < 10 * n + (c.toNat - 48)
  ·rw [if_pos (by omega)]
   have : numStep (n, false) c = (10 * n + (c.toNat - 48), true) := by simp [numStep, hl]
   rw [this, numStep_large]
   simp
  ·rw [if_neg (by omega)]
   have : numStep (n, false) c = (10 * n + (c.toNat - 48), false) := by simp [numStep, hl]
   rw [this]
   exact numFold_parse r _ (by omega) (fun c hc => h c (List.mem_cons_of_mem _ hc))
theorem takeWhile_all (p : UInt8 → Bool) : ∀ (s : List UInt8), ∀ c ∈ s.takeWhile p, p c = true
 | [], c, hc => by cases hc
 | a :: r, c, hc => by
  by_cases ha : p a = true
  ·rw [List.takeWhile_cons_of_pos ha] at hc
   rcases List.mem_cons.1 hc with rfl | hc
   ·exact ha
   ·exact takeWhile_all p r c hc
  ·rw [List.takeWhile_cons_of_neg ha] at hc
   cases hc
/-- What is known of a place up to which all bytes meet p. -/
theorem stop_at {p : UInt8 → Bool} {s : List UInt8} {m : Nat} (hm : m ≤ s.length) (h : s.takeWhile p = s.take m) : (s.takeWhile p).length = m ∧ ∀ (hlt : m < s.length), p s[m] = false := by
 have hlen : (s.takeWhile p).length = m := by rw [h]; simp; omega
 refine ⟨hlen, fun hlt => ?_⟩
 cases hp : p s[m] with
 | false => rfl
 | true =>
  exfalso
  have h1 : s.takeWhile p = s.take m ++ (s.drop m).takeWhile p := by
   have h2 : s = s.take m ++ s.drop m := (List.take_append_drop m s).symm
   have h3 : ∀ c ∈ s.take m, p c = true := by rw [← h]; exact takeWhile_all p s
   conv => lhs; rw [h2]
   rw [List.takeWhile_append_of_pos h3]
  rw [h, List.drop_eq_getElem_cons hlt, List.takeWhile_cons_of_pos hp] at h1
  have := congrArg List.length h1
  simp at this
section
variable {B0 : Nat} {w0 : World}
theorem rnumber_spec (s : List UInt8) (hs : s.length ≤ 1000000000) (hne : s.takeWhile isDigit ≠ []) : LCalls (KC B0 w0) 102 [str s] [] (Ret (encT (lexNumber s))) := by
 refine LCalls.intro Tryz.func102 rfl (n := 51) rfl rfl rfl ?_
 repeat first | refine LCode.seq ?_ | refine LCode.region ?_
 refine LOps.step (S.alloc fun b => ?_) rfl
 repeat first | refine LOps.nil ?_ | refine LCode.seq ?_ | refine LCode.region ?_ | refine LCode.block ?_ | refine QThen.normal ?_ | refine LOps.pure (Pure.as (lv := .atom _) rfl) rfl ?_
 refine LCode.loopI (fun k ls H => ∃ (m n : Nat) (lg : Bool), k = s.length - m ∧ ls = [(0, str s), (2, ptr b 0), (3, int .i64 n), (4, int .i64 m), (5, bool lg)] ∧ H = [(b, .cells 105 [int .i64 0, str [], int .i64 0, int .i64 0, int .i64 0])] ∧ m ≤ s.length ∧ n ≤ 42949672960 ∧ (lg = false → n ≤ 4294967295) ∧
   s.takeWhile isDigit = s.take m ++ (s.drop m).takeWhile isDigit ∧ (s.takeWhile isDigit).foldl numStep (0, false) = ((s.drop m).takeWhile isDigit).foldl numStep (n, lg))
  ⟨_, _, _, ⟨0, 0, false, rfl, rfl, rfl, by omega, by omega, by omega, by simp, by simp⟩, ⟨rfl, rfl, rfl, rfl, rfl, trivial⟩, HSub.refl _⟩ ?_
 rintro k ls H ⟨m, n, lg, rfl, rfl, rfl, hm, hn, hn2, hI, hF⟩ j hj
 repeat first | refine LCode.seq ?_ | refine LCode.region ?_ | refine LOps.pure (Pure.mv (lv := .atom _) rfl) rfl ?_ | refine LOps.pure (Pure.slen rfl) rfl ?_ | refine LOps.pure (Pure.lss rfl rfl) rfl ?_
 refine LOps.cut [(0, str s), (2, ptr b 0), (3, int .i64 n), (4, int .i64 m), (5, bool lg), (15, bool (match s[m]? with | some c => isDigit c | none => false))] ?_ (fun i hi => ?_)
 ·refine LOps.bcase 10 rfl (fun ht => ?_) (fun ht => ?_)
  ·have hlt : m < s.length := by simpa using ht
   repeat first | refine LOps.pure (Pure.mv (lv := .atom _) rfl) rfl ?_ | refine LOps.want rfl rfl ?_
   refine LOps.pure (Pure.sindex (c := s[m]) rfl rfl (by omega) (by simp)) rfl ?_
   refine LOps.want rfl rfl ?_
   refine LOps.step (S.fn [_] rfl (rdigit_spec _) ?_) rfl
   repeat first | refine LOps.nil ?_ | refine QThen.normal ?_ | refine LOps.pure (Pure.pickT (lv := .atom _) rfl rfl) rfl ?_
   exact ⟨⟨rfl, rfl, rfl, rfl, rfl, bool_eq (by rw [List.getElem?_eq_getElem hlt]), trivial⟩, rfl, rfl⟩
  ·have hge : s.length ≤ m := by simpa using ht
   repeat first | refine LOps.nil ?_ | refine QThen.normal ?_ | refine LOps.pure (Pure.pickF (lv := .atom _) rfl rfl) rfl ?_ | refine LOps.skip rfl rfl rfl rfl ?_
   exact ⟨⟨rfl, rfl, rfl, rfl, rfl, bool_eq (by rw [List.getElem?_eq_none hge]), trivial⟩, rfl, rfl⟩
 ·skip
  refine LCode.cond rfl (fun hc => ?_) (fun hc => ?_)
  ·have hlt : m < s.length := by
    rcases Nat.lt_or_ge m s.length with h | h
    ·exact h
    ·rw [List.getElem?_eq_none h] at hc; cases hc
   rw [List.getElem?_eq_getElem hlt] at hc
   have hd : isDigit s[m] = true := hc
   have hd2 := hd
   simp only [isDigit, Bool.and_eq_true, decide_eq_true_eq, cv] at hd2
   have hI2 := (takeWhile_step hlt hI).1 hd
   have hF2 : (s.takeWhile isDigit).foldl numStep (0, false) = ((s.drop (m + 1)).takeWhile isDigit).foldl numStep (numStep (n, lg) s[m]) := by
    rw [hF, List.drop_eq_getElem_cons hlt, List.takeWhile_cons_of_pos hd, List.foldl_cons]
   repeat first | refine LOps.nil ?_ | refine LCode.seq ?_ | refine LCode.region ?_ | refine LCode.skip ?_ | refine LCode.block ?_ | refine QThen.normal ?_ | refine LOps.pure (Pure.mv (lv := .atom _) rfl) rfl ?_ | refine LOps.pure (Pure.not rfl) rfl ?_
   cases lg with
   | true =>
    refine LCode.cond rfl (fun hb => ?_) (fun hb => ?_)
    ·cases hb
    ·repeat first | refine LOps.nil ?_ | refine LCode.seq ?_ | refine LCode.region ?_ | refine LCode.skip ?_ | refine QThen.normal ?_ | refine QBlock.normal ?_ | refine LOps.pure (Pure.as (lv := .atom _) rfl) rfl ?_ | refine LOps.pure (Pure.mv (lv := .atom _) rfl) rfl ?_ | refine LOps.pure (Pure.pickT (lv := .atom _) rfl rfl) rfl ?_ | refine LOps.pure (Pure.add rfl rfl (by omega)) rfl ?_ | refine LOps.skip rfl rfl rfl rfl ?_
     have hst : numStep (n, true) s[m] = (n, true) := by simp [numStep]
     exact ⟨_, _, _, by omega, ⟨m + 1, n, true, rfl, rfl, rfl, by omega, hn, by simp, hI2, by rw [hF2, hst]⟩, ⟨rfl, rfl, rfl, int_eq (by omega), rfl, trivial⟩, HSub.refl _, hi.trans hj⟩
   | false =>
    refine LCode.cond rfl (fun hb => ?_) (fun hb => ?_)
    ·have hn3 := hn2 rfl
     repeat first | refine LCode.region ?_ | refine LOps.pure (Pure.mv (lv := .atom _) rfl) rfl ?_
     refine LOps.pure (Pure.mulW rfl rfl) rfl ?_
     repeat first | refine LOps.pure (Pure.mv (lv := .atom _) rfl) rfl ?_
     refine LOps.pure (Pure.sindex (c := s[m]) rfl rfl (by omega) (by simp)) rfl ?_
     refine LOps.pure (Pure.subW rfl rfl) rfl ?_
     refine LOps.pure (Pure.cvt rfl) rfl ?_
     have hw1 : IntKind.i64.wrap (10 * (n : Int)) = 10 * (n : Int) := wrap_i64 (by omega)
     have hw2 : IntKind.i64.wrap (IntKind.u8.wrap ((s[m].toNat : Int) - 48)) = ((s[m].toNat - 48 : Nat) : Int) := by
      rw [wrap_u8 (by omega), wrap_i64 (by omega)]
      omega
     rw [hw1, hw2]
     repeat first | refine LOps.nil ?_ | refine LCode.seq ?_ | refine LCode.region ?_ | refine QThen.normal ?_ | refine QBlock.normal ?_ | refine LOps.pure (Pure.as (lv := .atom _) rfl) rfl ?_ | refine LOps.pure (Pure.mv (lv := .atom _) rfl) rfl ?_ | refine LOps.pure (Pure.pickF (lv := .atom _) rfl rfl) rfl ?_ | refine LOps.pure (Pure.add rfl rfl (by omega)) rfl ?_ | refine LOps.pure (Pure.gtr rfl rfl) rfl ?_ | refine LOps.want rfl rfl ?_
     have hst : numStep (n, false) s[m] = (10 * n + (s[m].toNat - 48), decide (4294967295 < 10 * n + (s[m].toNat - 48))) := by simp [numStep]
     exact ⟨_, _, _, by omega, ⟨m + 1, 10 * n + (s[m].toNat - 48), decide (4294967295 < 10 * n + (s[m].toNat - 48)), rfl, rfl, rfl, by omega, by omega, by simp, hI2, by rw [hF2, hst]⟩,
      ⟨rfl, rfl, int_eq (by omega), int_eq (by omega), bool_eq (by rw [decide_eq_decide]; omega), trivial⟩, HSub.refl _, hi.trans hj⟩
    ·cases hb
  ·have hstop : s.takeWhile isDigit = s.take m := by
    rcases Nat.lt_or_ge m s.length with h | h
    ·rw [List.getElem?_eq_getElem h] at hc
     exact (takeWhile_step h hI).2 hc
    ·exact takeWhile_end h hI
   obtain ⟨hlen, hnot⟩ := stop_at hm hstop
   have hend : (s.drop m).takeWhile isDigit = [] := by
    have := congrArg List.length hI
    rw [hlen] at this
    simp only [List.length_append, List.length_take] at this
    exact List.length_eq_zero_iff.1 (by omega)
   rw [hend] at hF
   have hparse : Go.Lib.parseUintB 32 (s.takeWhile isDigit) = (if lg then .range else .ok n) := by
    rw [Go.Lib.parseUintB, if_neg hne, numFold_parse _ _ (by omega) (takeWhile_all _ s), hF, List.foldl_nil]
   repeat first | refine LCode.seq ?_ | refine LCode.region ?_ | refine LCode.exit ?_ | refine QThen.normal ?_ | refine QThen.exit ?_ | refine QBlock.hit ?_ | refine LOps.pure (Pure.mv (lv := .atom _) rfl) rfl ?_ | refine LOps.pure (Pure.slen rfl) rfl ?_ | refine LOps.pure (Pure.lss rfl rfl) rfl ?_
   refine LOps.cut [(0, str s), (2, ptr b 0), (3, int .i64 n), (4, int .i64 m), (5, bool lg), (42, bool (wordNext s (s.takeWhile isDigit).length))] ?_ (fun q hq => ?_)
   ·refine LOps.bcase 37 rfl (fun ht => ?_) (fun ht => ?_)
    ·have hlt : m < s.length := by simpa using ht
     repeat first | refine LOps.pure (Pure.mv (lv := .atom _) rfl) rfl ?_ | refine LOps.want rfl rfl ?_
     refine LOps.pure (Pure.sindex (c := s[m]) rfl rfl (by omega) (by simp)) rfl ?_
     refine LOps.want rfl rfl ?_
     refine LOps.step (S.fn [_] rfl (rpart_spec _) ?_) rfl
     repeat first | refine LOps.nil ?_ | refine QThen.normal ?_ | refine LOps.pure (Pure.pickT (lv := .atom _) rfl rfl) rfl ?_
     exact ⟨⟨rfl, rfl, rfl, rfl, rfl, bool_eq (by rw [hlen, wordNext, List.getElem?_eq_getElem hlt]; simp [isInner, hnot hlt]), trivial⟩, rfl, rfl⟩
    ·have hge : s.length ≤ m := by simpa using ht
     repeat first | refine LOps.nil ?_ | refine QThen.normal ?_ | refine LOps.pure (Pure.pickF (lv := .atom _) rfl rfl) rfl ?_ | refine LOps.skip rfl rfl rfl rfl ?_
     exact ⟨⟨rfl, rfl, rfl, rfl, rfl, bool_eq (by rw [hlen, wordNext, List.getElem?_eq_none hge]), trivial⟩, rfl, rfl⟩
   ·skip
    refine LCode.cond rfl (fun hw => ?_) (fun hw => ?_)
    ·repeat first | refine LOps.nil ?_ | refine LCode.seq ?_ | refine LCode.region ?_ | refine LCode.ret ?_ | refine QThen.normal ?_ | refine QThen.ret ?_ | refine LOps.pure (Pure.bld _ (cs := [_, _, _, _, _]) rfl) rfl ?_ | refine LOps.step (S.store (cs' := [_, _, _, _, _]) rfl Pick.here rfl rfl rfl rfl rfl ?_) rfl
     exact retRet (hq.trans (hi.trans hj)) (AllRes.cons (ResIs.cellAgg rfl (List.Mem.head _) rfl (LV.Sub.refl _)) AllRes.nil) (by rw [lexNumber, if_pos hw]; rfl)
    ·repeat first | refine LOps.nil ?_ | refine LCode.seq ?_ | refine LCode.region ?_ | refine LCode.skip ?_ | refine QThen.normal ?_ | refine LOps.pure (Pure.mv (lv := .atom _) rfl) rfl ?_
     refine LCode.cond rfl (fun hl => ?_) (fun hl => ?_)
     ·repeat first | refine LOps.nil ?_ | refine LCode.seq ?_ | refine LCode.region ?_ | refine LCode.ret ?_ | refine QThen.normal ?_ | refine QThen.ret ?_ | refine LOps.pure (Pure.bld _ (cs := [_, _, _, _, _]) rfl) rfl ?_ | refine LOps.step (S.store (cs' := [_, _, _, _, _]) rfl Pick.here rfl rfl rfl rfl rfl ?_) rfl
      exact retRet (hq.trans (hi.trans hj)) (AllRes.cons (ResIs.cellAgg rfl (List.Mem.head _) rfl (LV.Sub.refl _)) AllRes.nil) (by rw [lexNumber, if_neg (by rw [hw]; decide), hparse, hl]; rfl)
     ·repeat first | refine LCode.seq ?_ | refine LCode.region ?_ | refine LCode.skip ?_ | refine QThen.normal ?_ | refine LOps.pure (Pure.mv (lv := .atom _) rfl) rfl ?_
      refine LOps.step (S.fn [_] rfl (Decimal_spec n (by omega)) ?_) rfl
      repeat first | refine LOps.nil ?_ | refine LCode.ret ?_ | refine QThen.normal ?_ | refine LOps.pure (Pure.mv (lv := .atom _) rfl) rfl ?_ | refine LOps.pure (Pure.bld _ (cs := [_, _, _, _, _]) rfl) rfl ?_ | refine LOps.pure (Pure.bld _ (cs := [_, _, _]) rfl) rfl ?_ | refine LOps.step (S.store (cs' := [_, _, _, _, _]) rfl Pick.here rfl rfl rfl rfl rfl ?_) rfl
      exact retRet (hq.trans (hi.trans hj)) (AllRes.cons (ResIs.cellAgg rfl (List.Mem.head _) rfl (LV.Sub.refl _)) AllRes.nil) (by rw [lexNumber, if_neg (by rw [hw]; decide), hparse, hl, hlen]; rfl)
theorem kw_short : ∀ x ∈ keywords, x.length ≤ 24 := by decide
theorem rname_spec (s : List UInt8) (hs : s.length ≤ 1000000000) : LCalls (KC B0 w0) 104 [str s] [] (Ret (encT (lexName s))) := by
 refine LCalls.intro Tryz.func104 rfl (n := 35) rfl rfl rfl ?_
 repeat first | refine LCode.seq ?_ | refine LCode.region ?_
 refine LOps.step (S.alloc fun b => ?_) rfl
 repeat first | refine LOps.nil ?_ | refine LCode.seq ?_ | refine LCode.region ?_ | refine LCode.block ?_ | refine QThen.normal ?_ | refine LOps.pure (Pure.as (lv := .atom _) rfl) rfl ?_
 refine LCode.loopI (fun k ls H => ∃ (m : Nat), k = s.length - m ∧ ls = [(0, str s), (2, ptr b 0), (3, int .i64 m)] ∧ H = [(b, .cells 105 [int .i64 0, str [], int .i64 0, int .i64 0, int .i64 0])] ∧ m ≤ s.length ∧
   s.takeWhile isInner = s.take m ++ (s.drop m).takeWhile isInner)
  ⟨_, _, _, ⟨0, rfl, rfl, rfl, by omega, by simp⟩, ⟨rfl, rfl, rfl, trivial⟩, HSub.refl _⟩ ?_
 rintro k ls H ⟨m, rfl, rfl, rfl, hm, hI⟩ j hj
 repeat first | refine LCode.seq ?_ | refine LCode.region ?_ | refine LOps.pure (Pure.mv (lv := .atom _) rfl) rfl ?_ | refine LOps.pure (Pure.slen rfl) rfl ?_ | refine LOps.pure (Pure.lss rfl rfl) rfl ?_
 refine LOps.cut [(0, str s), (2, ptr b 0), (3, int .i64 m), (13, bool (match s[m]? with | some c => isInner c | none => false))] ?_ (fun i hi => ?_)
 ·refine LOps.bcase 8 rfl (fun ht => ?_) (fun ht => ?_)
  ·have hlt : m < s.length := by simpa using ht
   repeat first | refine LOps.pure (Pure.mv (lv := .atom _) rfl) rfl ?_ | refine LOps.want rfl rfl ?_
   refine LOps.pure (Pure.sindex (c := s[m]) rfl rfl (by omega) (by simp)) rfl ?_
   refine LOps.want rfl rfl ?_
   refine LOps.step (S.fn [_] rfl (rpart_spec _) ?_) rfl
   repeat first | refine LOps.nil ?_ | refine QThen.normal ?_ | refine LOps.pure (Pure.pickT (lv := .atom _) rfl rfl) rfl ?_
   exact ⟨⟨rfl, rfl, rfl, bool_eq (by rw [List.getElem?_eq_getElem hlt]), trivial⟩, rfl, rfl⟩
  ·have hge : s.length ≤ m := by simpa using ht
   repeat first | refine LOps.nil ?_ | refine QThen.normal ?_ | refine LOps.pure (Pure.pickF (lv := .atom _) rfl rfl) rfl ?_ | refine LOps.skip rfl rfl rfl rfl ?_
   exact ⟨⟨rfl, rfl, rfl, bool_eq (by rw [List.getElem?_eq_none hge]), trivial⟩, rfl, rfl⟩
 ·skip
  refine LCode.cond rfl (fun hc => ?_) (fun hc => ?_)
  ·have hlt : m < s.length := by
    rcases Nat.lt_or_ge m s.length with h | h
    ·exact h
    ·rw [List.getElem?_eq_none h] at hc; cases hc
   rw [List.getElem?_eq_getElem hlt] at hc
   repeat first | refine LOps.nil ?_ | refine LCode.region ?_ | refine LCode.skip ?_ | refine LCode.block ?_ | refine QThen.normal ?_ | refine QBlock.normal ?_ | refine LOps.pure (Pure.as (lv := .atom _) rfl) rfl ?_ | refine LOps.pure (Pure.mv (lv := .atom _) rfl) rfl ?_ | refine LOps.pure (Pure.add rfl rfl (by omega)) rfl ?_
   exact ⟨_, _, _, by omega, ⟨m + 1, rfl, rfl, rfl, by omega, (takeWhile_step hlt hI).1 hc⟩, ⟨rfl, rfl, int_eq (by omega), trivial⟩, HSub.refl _, hi.trans hj⟩
  ·have hstop : s.takeWhile isInner = s.take m := by
    rcases Nat.lt_or_ge m s.length with h | h
    ·rw [List.getElem?_eq_getElem h] at hc
     exact (takeWhile_step h hI).2 hc
    ·exact takeWhile_end h hI
   obtain ⟨hlen, hnot⟩ := stop_at hm hstop
   have hsl : (s.take ((m : Nat) : Int).toNat).drop (Int.toNat 0) = s.takeWhile isInner := by rw [hstop]; simp
   repeat first | refine LCode.seq ?_ | refine LCode.region ?_ | refine LCode.exit ?_ | refine QThen.normal ?_ | refine QThen.exit ?_ | refine QBlock.hit ?_ | refine LOps.pure (Pure.mv (lv := .atom _) rfl) rfl ?_
   refine LOps.pure (Pure.sslice (i := 0) (j := m) rfl rfl ⟨_, rfl⟩ (by omega) (by omega) (by omega)) rfl ?_
   rw [hsl]
   refine LOps.step (S.fn [_] rfl (rKeyword_spec _) ?_) rfl
   repeat first | refine LOps.nil ?_ | refine QThen.normal ?_
   refine LCode.cond rfl (fun hk => ?_) (fun hk => ?_)
   ·have hsh := kw_short _ (List.contains_iff_mem.1 hk)
    repeat first | refine LCode.seq ?_ | refine LCode.region ?_ | refine LOps.pure (Pure.mv (lv := .atom _) rfl) rfl ?_
    refine LOps.pure (Pure.sslice (i := 0) (j := m) rfl rfl ⟨_, rfl⟩ (by omega) (by omega) (by omega)) rfl ?_
    rw [hsl]
    repeat first | refine LOps.nil ?_ | refine LCode.ret ?_ | refine QThen.normal ?_ | refine QThen.ret ?_ | refine LOps.pure (Pure.mv (lv := .atom _) rfl) rfl ?_ | refine LOps.pure (Pure.bld _ (cs := [_, _, _]) rfl) rfl ?_ | refine LOps.pure (Pure.bld _ (cs := [_, _, _, _, _]) rfl) rfl ?_ | refine LOps.step (S.store (cs' := [_, _, _, _, _]) rfl Pick.here rfl rfl rfl rfl rfl ?_) rfl
    exact retRet (hi.trans hj) (AllRes.cons (ResIs.cellAgg rfl (List.Mem.head _) rfl (LV.Sub.refl _)) AllRes.nil) (by rw [lexName, if_neg (by omega), if_pos hk, hlen]; rfl)
   ·repeat first | refine LOps.nil ?_ | refine LCode.seq ?_ | refine LCode.region ?_ | refine LCode.skip ?_ | refine QThen.normal ?_ | refine LOps.pure (Pure.mv (lv := .atom _) rfl) rfl ?_ | refine LOps.pure (Pure.gtr rfl rfl) rfl ?_
    refine LCode.cond rfl (fun hl => ?_) (fun hl => ?_)
    ·repeat first | refine LOps.nil ?_ | refine LCode.seq ?_ | refine LCode.region ?_ | refine LCode.ret ?_ | refine QThen.normal ?_ | refine QThen.ret ?_ | refine LOps.pure (Pure.bld _ (cs := [_, _, _, _, _]) rfl) rfl ?_ | refine LOps.step (S.store (cs' := [_, _, _, _, _]) rfl Pick.here rfl rfl rfl rfl rfl ?_) rfl
     exact retRet (hi.trans hj) (AllRes.cons (ResIs.cellAgg rfl (List.Mem.head _) rfl (LV.Sub.refl _)) AllRes.nil) (by rw [lexName, if_pos (by have := of_decide_eq_true hl; omega)]; rfl)
    ·repeat first | refine LCode.seq ?_ | refine LCode.region ?_ | refine LCode.skip ?_ | refine QThen.normal ?_ | refine LOps.pure (Pure.mv (lv := .atom _) rfl) rfl ?_
     refine LOps.pure (Pure.sslice (i := 0) (j := m) rfl rfl ⟨_, rfl⟩ (by omega) (by omega) (by omega)) rfl ?_
     rw [hsl]
     repeat first | refine LOps.nil ?_ | refine LCode.ret ?_ | refine QThen.normal ?_ | refine LOps.pure (Pure.mv (lv := .atom _) rfl) rfl ?_ | refine LOps.pure (Pure.bld _ (cs := [_, _, _]) rfl) rfl ?_ | refine LOps.pure (Pure.bld _ (cs := [_, _, _, _, _]) rfl) rfl ?_ | refine LOps.step (S.store (cs' := [_, _, _, _, _]) rfl Pick.here rfl rfl rfl rfl rfl ?_) rfl
     exact retRet (hi.trans hj) (AllRes.cons (ResIs.cellAgg rfl (List.Mem.head _) rfl (LV.Sub.refl _)) AllRes.nil) (by rw [lexName, if_neg (by have := of_decide_eq_false hl; omega), if_neg (by rw [hk]; decide), hlen]; rfl)
end
end Go.Proofs.YtfodkbchknknjaaGreatDoor
namespace Go.Proofs.YtfodkbchknknjaaGreatDoor
open Go.GL Go.RowKit Go.Stele
set_option maxRecDepth 100000
set_option maxHeartbeats 4000000
attribute [local irreducible] LOps LCode LStep LCalls Go.GL.Pure QThen QBlock RetPost LQ LAny LLate LLateOp
section
variable {B0 : Nat} {w0 : World}
theorem take_prefix (x s : List UInt8) : (decide (x.length ≤ s.length) && decide (s.take x.length = x)) = x.isPrefixOf s := by
 rw [Bool.eq_iff_iff]
 simp only [Bool.and_eq_true, decide_eq_true_eq, List.isPrefixOf_iff_prefix]
 constructor
 ·rintro ⟨_, h⟩
  rw [← h]
  exact List.take_prefix _ _
 ·intro h
  exact ⟨h.length_le, List.prefix_iff_eq_take.1 h |>.symm⟩
theorem rsign_spec (s : List UInt8) (hs : s.length ≤ 1000000000) : LCalls (KC B0 w0) 106 [str s] [] (Ret (encT (lexSign s))) := by
 refine LCalls.intro Tryz.func106 rfl (n := 46) rfl rfl rfl ?_
 repeat first | refine LCode.seq ?_ | refine LCode.region ?_
 refine LOps.step (S.alloc fun b => ?_) rfl
 repeat first | refine LOps.nil ?_ | refine LCode.seq ?_ | refine LCode.region ?_ | refine QThen.normal ?_
 refine LOps.step (S.lit [_, _, _, _, _, _, _, _, _, _, _, _, _, _, _, _, _, _, _, _, _, _, _, _] rfl (elemsOk_strs signs) rfl rfl rfl ?_) rfl
 repeat first | refine LOps.nil ?_ | refine LCode.seq ?_ | refine LCode.region ?_ | refine LCode.block ?_ | refine QThen.normal ?_ | refine LOps.pure (Pure.as (lv := .list _) rfl) rfl ?_ | refine LOps.pure (Pure.as (lv := .atom _) rfl) rfl ?_
 refine LCode.loopI (fun k ls H => ∃ m : Nat, k = 24 - m ∧ ls = [(0, str s), (2, ptr b 0), (3, .list (signs.map str)), (4, int .i64 m)] ∧ H = [(b, .cells 105 [int .i64 0, str [], int .i64 0, int .i64 0, int .i64 0])] ∧ m ≤ 24 ∧ signs.find? (fun x => x.isPrefixOf s) = (signs.drop m).find? (fun x => x.isPrefixOf s))
  ⟨_, _, _, ⟨0, rfl, rfl, rfl, by omega, by simp⟩, ⟨rfl, rfl, rfl, rfl, trivial⟩, HSub.refl _⟩ ?_
 rintro k ls H ⟨m, rfl, rfl, rfl, hm, hI⟩ j hj
 have h24 : signs.length = 24 := rfl
 repeat first | refine LOps.nil ?_ | refine LCode.seq ?_ | refine LCode.region ?_ | refine QThen.normal ?_ | refine LOps.pure (Pure.mv (lv := .atom _) rfl) rfl ?_ | refine LOps.pure (Pure.mv (lv := .list _) rfl) rfl ?_ | refine LOps.pure (Pure.llen rfl) rfl ?_ | refine LOps.pure (Pure.lss rfl rfl) rfl ?_
 refine LCode.cond rfl (fun hc => ?_) (fun hc => ?_)
 ·have hlt : m < signs.length := by have := of_decide_eq_true hc; simp at this; omega
  repeat first | refine LCode.seq ?_ | refine LCode.skip ?_ | refine LCode.block ?_ | refine QThen.normal ?_
  refine LCode.cut [(0, str s), (2, ptr b 0), (3, .list (signs.map str)), (4, int .i64 m), (33, bool (signs[m].isPrefixOf s))] ?_ (fun i hi => ?_)
  ·refine LCode.quiet (by kernel_rfl) ?_
   repeat first | refine LQ.pure (Pure.mv (lv := .atom _) rfl) rfl ?_ | refine LQ.pure (Pure.mv (lv := .list _) rfl) rfl ?_ | refine LQ.pure (Pure.slen rfl) rfl ?_
   refine LQ.pure (Pure.ixRef (el' := str signs[m]) rfl rfl (by omega) (by simp) rfl rfl) rfl ?_
   repeat first | refine LQ.pure (Pure.mv (lv := .atom _) rfl) rfl ?_ | refine LQ.pure (Pure.slen rfl) rfl ?_ | refine LQ.pure (Pure.loadRef (c := .atom _) rfl rfl) rfl ?_ | refine LQ.pure (Pure.geq rfl rfl) rfl ?_
   refine LQ.bcase 20 rfl (fun ht => ?_) (fun ht => ?_)
   ·have hle : signs[m].length ≤ s.length := by have := of_decide_eq_true ht; omega
    repeat first | refine LQ.pure (Pure.mv (lv := .atom _) rfl) rfl ?_ | refine LQ.pure (Pure.mv (lv := .list _) rfl) rfl ?_ | refine LQ.want rfl rfl ?_
    refine LQ.pure (Pure.ixRef (el' := str signs[m]) rfl rfl (by omega) (by simp) rfl rfl) rfl ?_
    repeat first | refine LQ.pure (Pure.slen rfl) rfl ?_ | refine LQ.pure (Pure.loadRef (c := .atom _) rfl rfl) rfl ?_ | refine LQ.want rfl rfl ?_
    refine LQ.pure (Pure.sslice (i := 0) (j := signs[m].length) rfl rfl ⟨_, rfl⟩ (by omega) (by omega) (by omega)) rfl ?_
    repeat first | refine LQ.pure (Pure.mv (lv := .atom _) rfl) rfl ?_ | refine LQ.pure (Pure.mv (lv := .list _) rfl) rfl ?_ | refine LQ.want rfl rfl ?_
    refine LQ.pure (Pure.ixRef (el' := str signs[m]) rfl rfl (by omega) (by simp) rfl rfl) rfl ?_
    repeat first | refine LQ.pure (Pure.loadRef (c := .atom _) rfl rfl) rfl ?_ | refine LQ.pure (Pure.seq rfl rfl) rfl ?_ | refine LQ.pure (Pure.pickT (lv := .atom _) rfl rfl) rfl ?_ | refine LQ.want rfl rfl ?_ | refine LQ.nil ?_ | refine QThen.normal ?_
    exact ⟨⟨rfl, rfl, rfl, rfl, bool_eq (by
     rw [← take_prefix, decide_eq_true hle]
     simp), trivial⟩, rfl, rfl⟩
   ·have hle : ¬ signs[m].length ≤ s.length := by have := of_decide_eq_false ht; omega
    repeat first | refine LQ.pure (Pure.pickF (lv := .atom _) rfl rfl) rfl ?_ | refine LQ.skip rfl rfl rfl rfl ?_ | refine LQ.nil ?_ | refine QThen.normal ?_
    exact ⟨⟨rfl, rfl, rfl, rfl, bool_eq (by
     rw [← take_prefix, decide_eq_false hle]
     rfl), trivial⟩, rfl, rfl⟩
  ·skip
   refine LCode.cond rfl (fun hp => ?_) (fun hp => ?_)
   ·repeat first | refine LCode.seq ?_
    refine LCode.draw (m := 12) rfl [] ?_
    refine LAny.tk 0 rfl rfl (Pure.mv (lv := .list _) rfl) ?_
    refine LAny.tk 1 rfl rfl (Pure.mv (lv := .atom _) rfl) ?_
    refine LAny.take (i := 2) (HSub.nil _) rfl (by kernel_rfl) (by kernel_rfl) (by kernel_rfl) rfl (Pure.ixRef (el' := str signs[m]) rfl rfl (by omega) (by simp) rfl rfl) ?_
    refine LAny.tk 3 rfl rfl (Pure.loadRef (c := .atom _) rfl rfl) ?_
    refine LAny.tk 4 rfl rfl (Pure.bld _ (cs := [_, _, _]) rfl) ?_
    refine LAny.tk 5 rfl rfl (Pure.mv (lv := .list _) rfl) ?_
    refine LAny.tk 6 rfl rfl (Pure.mv (lv := .atom _) rfl) ?_
    refine LAny.take (i := 7) (HSub.nil _) rfl (by kernel_rfl) (by kernel_rfl) (by kernel_rfl) rfl (Pure.ixRef (el' := str signs[m]) rfl rfl (by omega) (by simp) rfl rfl) ?_
    refine LAny.tk 8 rfl rfl (Pure.loadRef (c := .atom _) rfl rfl) ?_
    refine LAny.tk 9 rfl rfl (Pure.slen rfl) ?_
    refine LAny.tk 10 rfl rfl (Pure.bld _ (cs := [_, _, _, _, _]) rfl) ?_
    refine LAny.late ?_ (HSub.nil _)
    refine LLate.o 11 (LLateOp.whole rfl (.inl rfl) rfl (S.store (cs' := [_, _, _, _, _]) rfl Pick.here rfl rfl rfl rfl rfl ?_))
    refine LLate.done (by kernel_rfl) ?_
    repeat first | refine LCode.ret ?_ | refine QThen.normal ?_ | refine QThen.ret ?_ | refine QBlock.ret ?_
    exact retRet (hi.trans hj) (AllRes.cons (ResIs.cellAgg rfl (List.Mem.head _) rfl (LV.Sub.refl _)) AllRes.nil) (by
     rw [lexSign, hI, List.drop_eq_getElem_cons hlt, List.find?_cons_of_pos (by simpa using hp)]
     rfl)
   ·repeat first | refine LOps.nil ?_ | refine LCode.region ?_ | refine LCode.skip ?_ | refine QThen.normal ?_ | refine QBlock.normal ?_ | refine LOps.pure (Pure.as (lv := .atom _) rfl) rfl ?_ | refine LOps.pure (Pure.mv (lv := .atom _) rfl) rfl ?_ | refine LOps.pure (Pure.add rfl rfl (by omega)) rfl ?_
    exact ⟨_, _, _, by omega, ⟨m + 1, rfl, rfl, rfl, by omega, by
     rw [hI, List.drop_eq_getElem_cons hlt, List.find?_cons_of_neg (by rw [hp]; decide)]⟩, ⟨rfl, rfl, rfl, int_eq (by omega), trivial⟩, HSub.refl _, hi.trans hj⟩
 ·have hge : signs.length ≤ m := by have := of_decide_eq_false hc; simp at this; omega
  repeat first | refine LOps.nil ?_ | refine LCode.seq ?_ | refine LCode.region ?_ | refine LCode.ret ?_ | refine LCode.exit ?_ | refine QThen.normal ?_ | refine QThen.exit ?_ | refine QBlock.hit ?_ | refine LOps.pure (Pure.bld _ (cs := [_, _, _, _, _]) rfl) rfl ?_ | refine LOps.step (S.store (cs' := [_, _, _, _, _]) rfl Pick.here rfl rfl rfl rfl rfl ?_) rfl
  exact retRet hj (AllRes.cons (ResIs.cellAgg rfl (List.Mem.head _) rfl (LV.Sub.refl _)) AllRes.nil) (by
   rw [lexSign, hI, List.drop_eq_nil_of_le hge]
   rfl)
end
end Go.Proofs.YtfodkbchknknjaaGreatDoor
namespace Go.Stele
def nl (c : UInt8) : Int := if decide (cv c = 10) then 1 else 0
def lexR : Nat → List UInt8 → Int → Except (Int × Int) (List Tok)
 | 0, _, _ => .ok []
 | _ + 1, [], _ => .ok []
 | fuel + 1, c :: r, line =>
  if isWhite c then lexR fuel r (line + nl c)
  else if [47, 47].isPrefixOf (c :: r) then lexR fuel ((c :: r).drop ((c :: r).takeWhile notNl).length) (line + nl c)
  else if (lexToken (c :: r)).2.2 ≠ 0 then .error (line + nl c, (lexToken (c :: r)).2.2)
  else (lexR fuel ((c :: r).drop (lexToken (c :: r)).2.1) (line + nl c)).map ({ (lexToken (c :: r)).1 with line := line + nl c } :: ·)
theorem cv_eq (a : UInt8) (n : Nat) (h : n < 256) : decide (cv a = n) = (a == UInt8.ofNat n) := by
 rw [Bool.eq_iff_iff]
 simp only [decide_eq_true_eq, beq_iff_eq, cv]
 constructor
 ·intro h1
  apply UInt8.toNat_inj.1
  rw [UInt8.toNat_ofNat']
  omega
 ·rintro rfl
  rw [UInt8.toNat_ofNat']
  omega
theorem slash2 (a : UInt8) (t : List UInt8) : [47, 47].isPrefixOf (a :: t) = (decide (cv a = 47) && (match t[0]? with | some b => decide (cv b = 47) | none => false)) := by
 have h := fun b => cv_eq b 47 (by decide)
 cases t with
 | nil =>
  simp [List.isPrefixOf]
 | cons b r =>
  simp only [List.isPrefixOf, List.getElem?_cons_zero, Bool.and_true]
  have h1 : decide (cv a = 47) = (a == 47) := h a
  have h2 : decide (cv b = 47) = (b == 47) := h b
  rw [h1, h2, show ((47 : UInt8) == a) = (a == 47) from BEq.comm, show ((47 : UInt8) == b) = (b == 47) from BEq.comm]
end Go.Stele
namespace Go.Proofs.YtfodkbchknknjaaGreatDoor
open Go.GL Go.RowKit Go.Stele
set_option maxRecDepth 100000
set_option maxHeartbeats 4000000
attribute [local irreducible] LOps LCode LStep LCalls Go.GL.Pure QThen QBlock RetPost LQ LAny LLate LLateOp
section
variable {B0 : Nat} {w0 : World}
theorem First_spec (s : List UInt8) (hs : s.length ≤ 1000000000) (hne : s ≠ []) : LCalls (KC B0 w0) 65 [str s] [] (Ret (encT (lexToken s))) := by
 match s, hne with
 | c :: r, _ =>
  refine LCalls.intro Tryz.func65 rfl (n := 53) rfl rfl rfl ?_
  repeat first | refine LCode.seq ?_ | refine LCode.region ?_
  refine LOps.step (S.alloc fun b => ?_) rfl
  repeat first | refine LOps.nil ?_ | refine LCode.seq ?_ | refine LCode.region ?_ | refine QThen.normal ?_ | refine LOps.pure (Pure.mv (lv := .atom _) rfl) rfl ?_
  refine LOps.pure (Pure.sindex (c := c) rfl rfl (by decide) rfl) rfl ?_
  repeat first | refine LOps.nil ?_ | refine LCode.seq ?_ | refine LCode.region ?_ | refine QThen.normal ?_ | refine LOps.pure (Pure.mv (lv := .atom _) rfl) rfl ?_ | refine LOps.pure (Pure.as (lv := .atom _) rfl) rfl ?_
  refine LOps.step (S.fn [_] rfl (rdigit_spec c) ?_) rfl
  repeat first | refine LOps.nil ?_ | refine QThen.normal ?_
  refine LCode.cond rfl (fun hc => ?_) (fun hc => ?_)
  ·repeat first | refine LCode.seq ?_ | refine LCode.region ?_ | refine LOps.pure (Pure.mv (lv := .atom _) rfl) rfl ?_
   refine LOps.step (S.fn [_] rfl (rnumber_spec (c :: r) hs (by rw [List.takeWhile_cons_of_pos hc]; simp)) ?_) rfl
   repeat first | refine LOps.nil ?_ | refine LCode.ret ?_ | refine QThen.normal ?_ | refine QThen.ret ?_ | refine LOps.step (S.store (cs' := [_, _, _, _, _]) rfl Pick.here rfl rfl rfl rfl rfl ?_) rfl
   exact retRet rfl (AllRes.cons (ResIs.cellAgg rfl (List.Mem.head _) rfl (LV.Sub.refl _)) AllRes.nil) (by simp only [lexToken, hc, if_true]; rfl)
  ·repeat first | refine LCode.seq ?_ | refine LCode.region ?_ | refine LCode.skip ?_ | refine QThen.normal ?_ | refine LOps.pure (Pure.mv (lv := .atom _) rfl) rfl ?_
   refine LOps.step (S.fn [_] rfl (rletter_spec c) ?_) rfl
   repeat first | refine LOps.nil ?_ | refine QThen.normal ?_
   refine LCode.cond rfl (fun hl => ?_) (fun hl => ?_)
   ·repeat first | refine LCode.seq ?_ | refine LCode.region ?_ | refine LOps.pure (Pure.mv (lv := .atom _) rfl) rfl ?_
    refine LOps.step (S.fn [_] rfl (rname_spec (c :: r) hs) ?_) rfl
    repeat first | refine LOps.nil ?_ | refine LCode.ret ?_ | refine QThen.normal ?_ | refine QThen.ret ?_ | refine LOps.step (S.store (cs' := [_, _, _, _, _]) rfl Pick.here rfl rfl rfl rfl rfl ?_) rfl
    exact retRet rfl (AllRes.cons (ResIs.cellAgg rfl (List.Mem.head _) rfl (LV.Sub.refl _)) AllRes.nil) (by simp only [lexToken, hc, hl, if_true, Bool.false_eq_true, if_false]; rfl)
   ·repeat first | refine LOps.nil ?_ | refine LCode.seq ?_ | refine LCode.region ?_ | refine LCode.skip ?_ | refine QThen.normal ?_ | refine LOps.pure (Pure.mv (lv := .atom _) rfl) rfl ?_ | refine LOps.pure (Pure.eql rfl rfl) rfl ?_
    refine LCode.cond rfl (fun hq => ?_) (fun hq => ?_)
    ·have htok : lexToken (c :: r) = lexLiteral (c :: r) := by simp only [lexToken, hc, hl, Bool.false_eq_true, if_false]; rw [if_pos hq]
     rw [htok]
     by_cases h3 : (c :: r).length < 3
     ·have hl : lexLiteral (c :: r) = tokErr 3 := by
       match r, h3 with
       | [], _ => rfl
       | [_], _ => rfl
       | _ :: _ :: _, h => exact absurd h (by simp)
      repeat first | refine LCode.seq ?_ | refine LCode.region ?_ | refine LOps.pure (Pure.mv (lv := .atom _) rfl) rfl ?_ | refine LOps.pure (Pure.slen rfl) rfl ?_ | refine LOps.pure (Pure.lss rfl rfl) rfl ?_
      refine LOps.bcase 19 rfl (fun ht => ?_) (fun ht => ?_)
      ·repeat first | refine LOps.nil ?_ | refine QThen.normal ?_ | refine LOps.pure (Pure.mv (lv := .atom _) rfl) rfl ?_ | refine LOps.pure (Pure.pickT (lv := .atom _) rfl rfl) rfl ?_ | refine LOps.skip rfl rfl rfl rfl ?_
       refine LCode.cond rfl (fun hc => ?_) (fun hc => ?_)
       ·repeat first | refine LOps.nil ?_ | refine LCode.seq ?_ | refine LCode.region ?_ | refine LCode.ret ?_ | refine QThen.normal ?_ | refine QThen.ret ?_ | refine LOps.pure (Pure.bld _ (cs := [_, _, _, _, _]) rfl) rfl ?_ | refine LOps.step (S.store (cs' := [_, _, _, _, _]) rfl Pick.here rfl rfl rfl rfl rfl ?_) rfl
        exact retRet rfl (AllRes.cons (ResIs.cellAgg rfl (List.Mem.head _) rfl (LV.Sub.refl _)) AllRes.nil) (by rw [hl]; rfl)
       ·cases hc
      ·exact absurd (of_decide_eq_false ht) (by omega)
     ·match r, h3 with
      | [], h => exact absurd (by simp) h
      | [_], h => exact absurd (by simp) h
      | c1 :: c2 :: r, h =>
       repeat first | refine LCode.seq ?_ | refine LCode.region ?_ | refine LOps.pure (Pure.mv (lv := .atom _) rfl) rfl ?_ | refine LOps.pure (Pure.slen rfl) rfl ?_ | refine LOps.pure (Pure.lss rfl rfl) rfl ?_ | refine LOps.want rfl rfl ?_
       refine LOps.cut [(0, str (c :: c1 :: c2 :: r)), (2, ptr b 0), (43, bool ((!decide (cv c2 = 39)) || decide (cv c1 < 32) || decide (126 < cv c1) || decide (cv c1 = 39) || decide (cv c1 = 92)))] ?_ (fun j hj => ?_)
       ·refine LOps.bcase 19 rfl (fun ht => ?_) (fun ht0 => ?_)
        ·exact absurd (of_decide_eq_true ht) (by simp only [List.length_cons]; omega)
        ·skip
         refine LOps.pure (Pure.sindex (c := c1) rfl rfl (by decide) rfl) rfl ?_
         repeat first | refine LOps.pure (Pure.mv (lv := .atom _) rfl) rfl ?_ | refine LOps.pure (Pure.lss rfl rfl) rfl ?_ | refine LOps.pure (Pure.pickF (lv := .atom _) rfl rfl) rfl ?_ | refine LOps.want rfl rfl ?_
         refine LOps.bcase 24 rfl (fun ht => ?_) (fun ht1 => ?_)
         ·repeat first | refine LOps.nil ?_ | refine QThen.normal ?_ | refine LOps.pure (Pure.mv (lv := .atom _) rfl) rfl ?_ | refine LOps.pure (Pure.pickT (lv := .atom _) rfl rfl) rfl ?_ | refine LOps.skip rfl rfl rfl rfl ?_
          exact ⟨⟨rfl, rfl, bool_eq (by rw [ht]; simp), trivial⟩, rfl, rfl⟩
         ·repeat first | refine LOps.pure (Pure.mv (lv := .atom _) rfl) rfl ?_ | refine LOps.want rfl rfl ?_
          refine LOps.pure (Pure.sindex (c := c1) rfl rfl (by decide) rfl) rfl ?_
          repeat first | refine LOps.pure (Pure.mv (lv := .atom _) rfl) rfl ?_ | refine LOps.pure (Pure.pickF (lv := .atom _) rfl rfl) rfl ?_ | refine LOps.pure (Pure.gtr rfl rfl) rfl ?_ | refine LOps.want rfl rfl ?_
          refine LOps.bcase 29 rfl (fun ht => ?_) (fun ht2 => ?_)
          ·repeat first | refine LOps.nil ?_ | refine QThen.normal ?_ | refine LOps.pure (Pure.mv (lv := .atom _) rfl) rfl ?_ | refine LOps.pure (Pure.pickT (lv := .atom _) rfl rfl) rfl ?_ | refine LOps.skip rfl rfl rfl rfl ?_
           exact ⟨⟨rfl, rfl, bool_eq (by rw [ht]; simp), trivial⟩, rfl, rfl⟩
          ·repeat first | refine LOps.pure (Pure.mv (lv := .atom _) rfl) rfl ?_ | refine LOps.want rfl rfl ?_
           refine LOps.pure (Pure.sindex (c := c1) rfl rfl (by decide) rfl) rfl ?_
           repeat first | refine LOps.pure (Pure.mv (lv := .atom _) rfl) rfl ?_ | refine LOps.pure (Pure.eql rfl rfl) rfl ?_ | refine LOps.pure (Pure.pickF (lv := .atom _) rfl rfl) rfl ?_ | refine LOps.want rfl rfl ?_
           refine LOps.bcase 34 rfl (fun ht => ?_) (fun ht3 => ?_)
           ·repeat first | refine LOps.nil ?_ | refine QThen.normal ?_ | refine LOps.pure (Pure.mv (lv := .atom _) rfl) rfl ?_ | refine LOps.pure (Pure.pickT (lv := .atom _) rfl rfl) rfl ?_ | refine LOps.skip rfl rfl rfl rfl ?_
            exact ⟨⟨rfl, rfl, bool_eq (by rw [ht]; simp), trivial⟩, rfl, rfl⟩
           ·repeat first | refine LOps.pure (Pure.mv (lv := .atom _) rfl) rfl ?_ | refine LOps.want rfl rfl ?_
            refine LOps.pure (Pure.sindex (c := c1) rfl rfl (by decide) rfl) rfl ?_
            repeat first | refine LOps.pure (Pure.mv (lv := .atom _) rfl) rfl ?_ | refine LOps.pure (Pure.eql rfl rfl) rfl ?_ | refine LOps.pure (Pure.pickF (lv := .atom _) rfl rfl) rfl ?_ | refine LOps.want rfl rfl ?_
            refine LOps.bcase 39 rfl (fun ht => ?_) (fun ht4 => ?_)
            ·repeat first | refine LOps.nil ?_ | refine QThen.normal ?_ | refine LOps.pure (Pure.pickT (lv := .atom _) rfl rfl) rfl ?_ | refine LOps.skip rfl rfl rfl rfl ?_
             exact ⟨⟨rfl, rfl, bool_eq (by rw [ht]; simp), trivial⟩, rfl, rfl⟩
            ·repeat first | refine LOps.pure (Pure.mv (lv := .atom _) rfl) rfl ?_ | refine LOps.want rfl rfl ?_
             refine LOps.pure (Pure.sindex (c := c2) rfl rfl (by decide) rfl) rfl ?_
             repeat first | refine LOps.nil ?_ | refine QThen.normal ?_ | refine LOps.pure (Pure.pickF (lv := .atom _) rfl rfl) rfl ?_ | refine LOps.pure (Pure.neq rfl rfl) rfl ?_ | refine LOps.want rfl rfl ?_
             exact ⟨⟨rfl, rfl, bool_eq (by rw [ht1, ht2, ht3, ht4]; simp), trivial⟩, rfl, rfl⟩
       ·skip
        refine LCode.cond rfl (fun hc => ?_) (fun hc => ?_)
        ·repeat first | refine LOps.nil ?_ | refine LCode.seq ?_ | refine LCode.region ?_ | refine LCode.ret ?_ | refine QThen.normal ?_ | refine QThen.ret ?_ | refine LOps.pure (Pure.bld _ (cs := [_, _, _, _, _]) rfl) rfl ?_ | refine LOps.step (S.store (cs' := [_, _, _, _, _]) rfl Pick.here rfl rfl rfl rfl rfl ?_) rfl
         exact retRet hj (AllRes.cons (ResIs.cellAgg rfl (List.Mem.head _) rfl (LV.Sub.refl _)) AllRes.nil) (by rw [lexLiteral, if_pos hc]; rfl)
        ·repeat first | refine LCode.seq ?_ | refine LCode.region ?_ | refine LCode.skip ?_ | refine QThen.normal ?_ | refine LOps.pure (Pure.mv (lv := .atom _) rfl) rfl ?_
         refine LOps.pure (Pure.sindex (c := c1) rfl rfl (by decide) rfl) rfl ?_
         refine LOps.pure (Pure.cvt rfl) rfl ?_
         have hw : IntKind.i64.wrap (c1.toNat : Int) = ((c1.toNat : Nat) : Int) := wrap_i64 (by have := c1.toNat_lt; omega)
         rw [hw]
         refine LOps.step (S.fn [_] rfl (Decimal_spec c1.toNat (by have := c1.toNat_lt; omega)) ?_) rfl
         repeat first | refine LOps.nil ?_ | refine LCode.ret ?_ | refine QThen.normal ?_ | refine QThen.ret ?_ | refine LOps.pure (Pure.bld _ (cs := [_, _, _, _, _]) rfl) rfl ?_ | refine LOps.pure (Pure.bld _ (cs := [_, _, _]) rfl) rfl ?_ | refine LOps.step (S.store (cs' := [_, _, _, _, _]) rfl Pick.here rfl rfl rfl rfl rfl ?_) rfl
         exact retRet hj (AllRes.cons (ResIs.cellAgg rfl (List.Mem.head _) rfl (LV.Sub.refl _)) AllRes.nil) (by rw [lexLiteral, if_neg (by rw [hc]; decide)]; rfl)
    ·have htok : lexToken (c :: r) = lexSign (c :: r) := by simp only [lexToken, hc, hl, Bool.false_eq_true, if_false]; rw [if_neg (by rw [hq]; decide)]
     repeat first | refine LCode.seq ?_ | refine LCode.region ?_ | refine LCode.skip ?_ | refine QThen.normal ?_ | refine LOps.pure (Pure.mv (lv := .atom _) rfl) rfl ?_
     refine LOps.step (S.fn [_] rfl (rsign_spec (c :: r) hs) ?_) rfl
     repeat first | refine LOps.nil ?_ | refine LCode.ret ?_ | refine QThen.normal ?_ | refine LOps.step (S.store (cs' := [_, _, _, _, _]) rfl Pick.here rfl rfl rfl rfl rfl ?_) rfl
     exact retRet rfl (AllRes.cons (ResIs.cellAgg rfl (List.Mem.head _) rfl (LV.Sub.refl _)) AllRes.nil) (by rw [htok]; rfl)
end
end Go.Proofs.YtfodkbchknknjaaGreatDoor
namespace Go.Proofs.YtfodkbchknknjaaGreatDoor
open Go.GL Go.RowKit Go.Stele
set_option maxRecDepth 100000
set_option maxHeartbeats 4000000
attribute [local irreducible] LOps LCode LStep LCalls Go.GL.Pure QThen QBlock RetPost LQ LAny LLate LLateOp
def lexAllR (s : List UInt8) : Except (Int × Int) (List Tok) := if 60000 < s.length then .error (0, 6) else lexR s.length s 1
section
variable {B0 : Nat} {w0 : World}
theorem rTokens_spec (s : List UInt8) : s.length ≤ 1000000000 → LCalls (KC B0 w0) 29 [str s] [] (Ret (encLex (lexAllR s))) := fun hs => by
 refine LCalls.intro Tryz.func29 rfl (n := 88) rfl rfl rfl ?_
 repeat first | refine LOps.nil ?_ | refine LCode.seq ?_ | refine LCode.region ?_ | refine QThen.normal ?_ | refine LOps.pure (Pure.as (lv := .atom _) rfl) rfl ?_ | refine LOps.pure (Pure.mv (lv := .atom _) rfl) rfl ?_ | refine LOps.pure (Pure.slen rfl) rfl ?_ | refine LOps.pure (Pure.gtr rfl rfl) rfl ?_
 refine LCode.cond rfl (fun hc => ?_) (fun hc => ?_)
 ·repeat first | refine LOps.nil ?_ | refine LCode.seq ?_ | refine LCode.region ?_ | refine LCode.ret ?_ | refine QThen.normal ?_ | refine QThen.ret ?_ | refine LOps.pure (Pure.as (lv := .atom _) rfl) rfl ?_
  exact retRet rfl (AllRes.cons (ResIs.tmp (v := nilSlice) rfl LV.Sub.nil) (AllRes.cons (ResIs.tmp (v := .atom _) rfl (LV.Sub.refl _)) (AllRes.cons (ResIs.tmp (v := .atom _) rfl (LV.Sub.refl _)) AllRes.nil))) (by
   rw [lexAllR, if_pos (by have := of_decide_eq_true hc; omega)]
   rfl)
 ·have hlen : s.length ≤ 60000 := by have := of_decide_eq_false hc; omega
  repeat first | refine LCode.seq ?_ | refine LCode.region ?_ | refine LCode.skip ?_ | refine QThen.normal ?_
  refine LOps.step (S.litA [] rfl elemsOk.nil rfl rfl rfl fun b0 => ?_) rfl
  repeat first | refine LOps.nil ?_ | refine LCode.seq ?_ | refine LCode.region ?_ | refine LCode.block ?_ | refine QThen.normal ?_ | refine LOps.pure (Pure.as (lv := .app _ _ _ _) rfl) rfl ?_ | refine LOps.pure (Pure.as (lv := .atom _) rfl) rfl ?_
  refine LCode.loopI (fun k ls H => ∃ (v : LV) (out : List Tok) (i : Nat) (line : Int) (fuel : Nat), k = s.length - i ∧ ls = [(0, str s), (5, v), (6, int .i64 line), (7, int .i64 i)] ∧ Acc 3 v (out.map encTok) H [] ∧
    i ≤ s.length ∧ s.length - i ≤ fuel ∧ 0 ≤ line ∧ line + (s.length - i) ≤ 60001 ∧ out.length + (s.length - i) ≤ 60000 ∧ lexR s.length s 1 = (lexR fuel (s.drop i) line).map (out ++ ·))
   ⟨_, _, _, ⟨.app b0 0 3 [], [], 0, 1, s.length, rfl, rfl, Acc.row (es := []), by omega, by omega, by omega, by omega, by simp; omega, by rw [List.drop_zero]; cases lexR s.length s 1 <;> rfl⟩, ⟨rfl, rfl, rfl, rfl, trivial⟩, HSub.refl _⟩ ?_
  rintro k ls H ⟨v, out, i, line, fuel, rfl, rfl, hacc, hi, hf, hl0, hl1, ho, hI⟩ j hj
  repeat first | refine LOps.nil ?_ | refine LCode.seq ?_ | refine LCode.region ?_ | refine QThen.normal ?_ | refine LOps.pure (Pure.mv (lv := .atom _) rfl) rfl ?_ | refine LOps.pure (Pure.slen rfl) rfl ?_ | refine LOps.pure (Pure.lss rfl rfl) rfl ?_
  refine LCode.cond rfl (fun hne => ?_) (fun hne => ?_)
  ·have hlt : i < s.length := by simpa using hne
   obtain ⟨f, rfl⟩ : ∃ f, fuel = f + 1 := ⟨fuel - 1, by omega⟩
   have hdrop : s.drop i = s[i] :: s.drop (i + 1) := List.drop_eq_getElem_cons hlt
   rw [hdrop, lexR] at hI
   have hnl : 0 ≤ nl s[i] ∧ nl s[i] ≤ 1 := by unfold nl; split <;> omega
   repeat first | refine LCode.seq ?_ | refine LCode.region ?_ | refine LCode.skip ?_ | refine LCode.block ?_ | refine QThen.normal ?_ | refine LOps.pure (Pure.mv (lv := .atom _) rfl) rfl ?_
   refine LOps.pure (Pure.sindex (c := s[i]) rfl rfl (by omega) (by simp)) rfl ?_
   repeat first | refine LOps.nil ?_ | refine LCode.seq ?_ | refine LCode.region ?_ | refine QThen.normal ?_ | refine LOps.pure (Pure.as (lv := .atom _) rfl) rfl ?_ | refine LOps.pure (Pure.mv (lv := .atom _) rfl) rfl ?_ | refine LOps.pure (Pure.eql rfl rfl) rfl ?_
   refine LCode.cut [(0, str s), (5, v), (6, int .i64 (line + nl s[i])), (7, int .i64 i), (8, int .u8 s[i].toNat)] ?_ (fun j2 hj2 => ?_)
   ·refine LCode.cond rfl (fun hn => ?_) (fun hn => ?_)
    ·repeat first | refine LOps.nil ?_ | refine LCode.region ?_ | refine QThen.normal ?_ | refine LOps.pure (Pure.as (lv := .atom _) rfl) rfl ?_ | refine LOps.pure (Pure.mv (lv := .atom _) rfl) rfl ?_ | refine LOps.pure (Pure.add rfl rfl (by omega)) rfl ?_
     exact ⟨⟨rfl, rfl, int_eq (by rw [nl, if_pos hn]), rfl, rfl, trivial⟩, rfl, rfl⟩
    ·repeat first | refine LCode.skip ?_ | refine QThen.normal ?_
     exact ⟨⟨rfl, rfl, int_eq (by rw [nl, if_neg (by rw [show decide (cv s[i] = 10) = false from hn]; decide)]; omega), rfl, rfl, trivial⟩, rfl, rfl⟩
   ·repeat first | refine LCode.seq ?_ | refine LCode.region ?_ | refine LOps.pure (Pure.mv (lv := .atom _) rfl) rfl ?_ | refine LOps.pure (Pure.eql rfl rfl) rfl ?_
    refine LOps.cut [(0, str s), (5, v), (6, int .i64 (line + nl s[i])), (7, int .i64 i), (8, int .u8 s[i].toNat), (34, bool (isWhite s[i]))] ?_ (fun j3 hj3 => ?_)
    ·refine LOps.bcase 27 rfl (fun h1 => ?_) (fun h1 => ?_)
     ·repeat first | refine LOps.nil ?_ | refine QThen.normal ?_ | refine LOps.pure (Pure.mv (lv := .atom _) rfl) rfl ?_ | refine LOps.pure (Pure.pickT (lv := .atom _) rfl rfl) rfl ?_ | refine LOps.skip rfl rfl rfl rfl ?_
      exact ⟨⟨rfl, rfl, rfl, rfl, rfl, bool_eq (by simp [isWhite, h1]), trivial⟩, rfl, rfl⟩
     ·repeat first | refine LOps.pure (Pure.mv (lv := .atom _) rfl) rfl ?_ | refine LOps.pure (Pure.eql rfl rfl) rfl ?_ | refine LOps.pure (Pure.pickF (lv := .atom _) rfl rfl) rfl ?_ | refine LOps.want rfl rfl ?_
      refine LOps.bcase 31 rfl (fun h2 => ?_) (fun h2 => ?_)
      ·repeat first | refine LOps.nil ?_ | refine QThen.normal ?_ | refine LOps.pure (Pure.pickT (lv := .atom _) rfl rfl) rfl ?_ | refine LOps.skip rfl rfl rfl rfl ?_
       exact ⟨⟨rfl, rfl, rfl, rfl, rfl, bool_eq (by simp [isWhite, h1, h2]), trivial⟩, rfl, rfl⟩
      ·repeat first | refine LOps.nil ?_ | refine QThen.normal ?_ | refine LOps.pure (Pure.mv (lv := .atom _) rfl) rfl ?_ | refine LOps.pure (Pure.eql rfl rfl) rfl ?_ | refine LOps.pure (Pure.pickF (lv := .atom _) rfl rfl) rfl ?_ | refine LOps.want rfl rfl ?_
       exact ⟨⟨rfl, rfl, rfl, rfl, rfl, bool_eq (by simp [isWhite, h1, h2]), trivial⟩, rfl, rfl⟩
    ·skip
     refine LCode.cond rfl (fun hw => ?_) (fun hw => ?_)
     ·rw [if_pos hw] at hI
      repeat first | refine LOps.nil ?_ | refine LCode.seq ?_ | refine LCode.region ?_ | refine LCode.exit ?_ | refine QThen.normal ?_ | refine QThen.exit ?_ | refine QBlock.hit ?_ | refine LOps.pure (Pure.as (lv := .atom _) rfl) rfl ?_ | refine LOps.pure (Pure.mv (lv := .atom _) rfl) rfl ?_ | refine LOps.pure (Pure.add rfl rfl (by omega)) rfl ?_
      exact ⟨_, _, _, by omega, ⟨v, out, i + 1, line + nl s[i], f, rfl, rfl, hacc, by omega, by omega, by omega, by omega, by omega, hI⟩, ⟨rfl, rfl, rfl, int_eq (by omega), trivial⟩, HSub.refl _, hj3.trans (hj2.trans hj)⟩
     ·rw [if_neg (by rw [hw]; decide)] at hI
      repeat first | refine LCode.seq ?_ | refine LCode.region ?_ | refine LCode.skip ?_ | refine QThen.normal ?_ | refine LOps.pure (Pure.mv (lv := .atom _) rfl) rfl ?_ | refine LOps.pure (Pure.eql rfl rfl) rfl ?_
      refine LOps.cut [(0, str s), (5, v), (6, int .i64 (line + nl s[i])), (7, int .i64 i), (8, int .u8 s[i].toNat), (52, bool ([47, 47].isPrefixOf (s[i] :: s.drop (i + 1))))] ?_ (fun j4 hj4 => ?_)
      ·refine LOps.bcase 39 rfl (fun h1 => ?_) (fun h1 => ?_)
       ·repeat first | refine LOps.pure (Pure.mv (lv := .atom _) rfl) rfl ?_ | refine LOps.pure (Pure.slen rfl) rfl ?_ | refine LOps.pure (Pure.lss rfl rfl) rfl ?_ | refine LOps.pure (Pure.add rfl rfl (by omega)) rfl ?_ | refine LOps.pure (Pure.pickT (lv := .atom _) rfl rfl) rfl ?_ | refine LOps.want rfl rfl ?_
        refine LOps.bcase 46 rfl (fun h2 => ?_) (fun h2 => ?_)
        ·have hlt2 : i + 1 < s.length := by have := of_decide_eq_true h2; omega
         repeat first | refine LOps.pure (Pure.mv (lv := .atom _) rfl) rfl ?_ | refine LOps.pure (Pure.add rfl rfl (by omega)) rfl ?_ | refine LOps.want rfl rfl ?_
         refine LOps.pure (Pure.sindex (c := s[i + 1]) rfl rfl (by omega) (by rw [show ((i : Int) + 1).toNat = i + 1 by omega]; simp)) rfl ?_
         repeat first | refine LOps.nil ?_ | refine QThen.normal ?_ | refine LOps.pure (Pure.eql rfl rfl) rfl ?_ | refine LOps.pure (Pure.pickT (lv := .atom _) rfl rfl) rfl ?_ | refine LOps.want rfl rfl ?_
         exact ⟨⟨rfl, rfl, rfl, rfl, rfl, bool_eq (by rw [slash2, show decide (cv s[i] = 47) = true from h1]; simp [List.getElem?_drop, List.getElem?_eq_getElem hlt2]), trivial⟩, rfl, rfl⟩
        ·have hge2 : s.length ≤ i + 1 := by have := of_decide_eq_false h2; omega
         repeat first | refine LOps.nil ?_ | refine QThen.normal ?_ | refine LOps.pure (Pure.pickF (lv := .atom _) rfl rfl) rfl ?_ | refine LOps.skip rfl rfl rfl rfl ?_
         exact ⟨⟨rfl, rfl, rfl, rfl, rfl, bool_eq (by rw [slash2]; simp [List.getElem?_drop, List.getElem?_eq_none hge2]), trivial⟩, rfl, rfl⟩
       ·repeat first | refine LOps.nil ?_ | refine QThen.normal ?_ | refine LOps.pure (Pure.mv (lv := .atom _) rfl) rfl ?_ | refine LOps.pure (Pure.pickF (lv := .atom _) rfl rfl) rfl ?_ | refine LOps.skip rfl rfl rfl rfl ?_
        exact ⟨⟨rfl, rfl, rfl, rfl, rfl, bool_eq (by rw [slash2, show decide (cv s[i] = 47) = false from h1]; simp), trivial⟩, rfl, rfl⟩
      ·skip
       refine LCode.cond rfl (fun hp => ?_) (fun hp => ?_)
       ·rw [if_pos hp] at hI
        repeat first | refine LCode.seq ?_ | refine LCode.block ?_
        rw [← hdrop] at hI
        refine LCode.loopI (fun k ls H' => ∃ m : Nat, k = s.length - (i + m) ∧ ls = [(0, str s), (5, v), (6, int .i64 (line + nl s[i])), (7, int .i64 (i + m : Nat))] ∧ H' = H ∧ i + m ≤ s.length ∧ (s.drop i).takeWhile notNl = (s.drop i).take m ++ ((s.drop i).drop m).takeWhile notNl)
         ⟨_, [(0, str s), (5, v), (6, int .i64 (line + nl s[i])), (7, int .i64 (i + 0 : Nat))], _, ⟨0, rfl, rfl, rfl, by omega, by simp⟩, ⟨rfl, rfl, rfl, rfl, trivial⟩, HSub.refl _⟩ ?_
        rintro k ls H' ⟨m, rfl, rfl, rfl, hm, hM⟩ j5 hj5
        have hln : (s.drop i).length = s.length - i := List.length_drop
        repeat first | refine LCode.seq ?_ | refine LCode.region ?_ | refine LOps.pure (Pure.mv (lv := .atom _) rfl) rfl ?_ | refine LOps.pure (Pure.slen rfl) rfl ?_ | refine LOps.pure (Pure.lss rfl rfl) rfl ?_
        refine LOps.cut [(0, str s), (5, v), (6, int .i64 (line + nl s[i])), (7, int .i64 (i + m : Nat)), (62, bool (match (s.drop i)[m]? with | some c => notNl c | none => false))] ?_ (fun j6 hj6 => ?_)
        ·refine LOps.bcase 57 rfl (fun ht => ?_) (fun ht => ?_)
         ·have hlt2 : i + m < s.length := by have := of_decide_eq_true ht; omega
          repeat first | refine LOps.pure (Pure.mv (lv := .atom _) rfl) rfl ?_ | refine LOps.want rfl rfl ?_
          refine LOps.pure (Pure.sindex (c := s[i + m]) rfl rfl (by omega) (by rw [Int.toNat_natCast]; exact List.getElem?_eq_getElem hlt2)) rfl ?_
          repeat first | refine LOps.nil ?_ | refine QThen.normal ?_ | refine LOps.pure (Pure.pickT (lv := .atom _) rfl rfl) rfl ?_ | refine LOps.pure (Pure.neq rfl rfl) rfl ?_ | refine LOps.want rfl rfl ?_
          exact ⟨⟨rfl, rfl, rfl, rfl, bool_eq (by rw [List.getElem?_drop, List.getElem?_eq_getElem hlt2]; rfl), trivial⟩, rfl, rfl⟩
         ·have hge2 : s.length ≤ i + m := by have := of_decide_eq_false ht; omega
          repeat first | refine LOps.nil ?_ | refine QThen.normal ?_ | refine LOps.pure (Pure.pickF (lv := .atom _) rfl rfl) rfl ?_ | refine LOps.skip rfl rfl rfl rfl ?_
          exact ⟨⟨rfl, rfl, rfl, rfl, bool_eq (by rw [List.getElem?_drop, List.getElem?_eq_none hge2]), trivial⟩, rfl, rfl⟩
        ·skip
         refine LCode.cond rfl (fun hc2 => ?_) (fun hc2 => ?_)
         ·have hlt2 : m < (s.drop i).length := by
           rcases Nat.lt_or_ge m (s.drop i).length with h | h
           ·exact h
           ·rw [List.getElem?_eq_none h] at hc2; cases hc2
          rw [List.getElem?_eq_getElem hlt2] at hc2
          repeat first | refine LOps.nil ?_ | refine LCode.region ?_ | refine LCode.skip ?_ | refine LCode.block ?_ | refine QThen.normal ?_ | refine QBlock.normal ?_ | refine LOps.pure (Pure.as (lv := .atom _) rfl) rfl ?_ | refine LOps.pure (Pure.mv (lv := .atom _) rfl) rfl ?_ | refine LOps.pure (Pure.add rfl rfl (by omega)) rfl ?_
          exact ⟨_, _, _, by omega, ⟨m + 1, rfl, rfl, rfl, by omega, (takeWhile_step hlt2 hM).1 hc2⟩, ⟨rfl, rfl, rfl, int_eq (by omega), trivial⟩, HSub.refl _, hj6.trans hj5⟩
         ·have hstop : (s.drop i).takeWhile notNl = (s.drop i).take m := by
           rcases Nat.lt_or_ge m (s.drop i).length with h | h
           ·rw [List.getElem?_eq_getElem h] at hc2
            exact (takeWhile_step h hM).2 hc2
           ·exact takeWhile_end h hM
          obtain ⟨hlen2, _⟩ := stop_at (by omega) hstop
          have hm1 : 1 ≤ m := by
           rw [slash2] at hp
           simp only [Bool.and_eq_true, decide_eq_true_eq] at hp
           have : notNl s[i] = true := by unfold notNl; rw [hp.1]; rfl
           rw [← hlen2, hdrop, List.takeWhile_cons_of_pos this]
           simp
          rw [hlen2, List.drop_drop] at hI
          repeat first | refine LCode.exit ?_ | refine QThen.normal ?_ | refine QThen.exit ?_ | refine QBlock.hit ?_
          exact ⟨_, _, _, by omega, ⟨v, out, i + m, line + nl s[i], f, rfl, rfl, hacc, by omega, by omega, by omega, by omega, by omega, hI⟩, ⟨rfl, rfl, rfl, rfl, trivial⟩, HSub.refl _, hj6.trans (hj5.trans (hj4.trans (hj3.trans (hj2.trans hj))))⟩
       ·rw [if_neg (by rw [hp]; decide)] at hI
        repeat first | refine LCode.seq ?_ | refine LCode.region ?_ | refine LCode.skip ?_ | refine QThen.normal ?_ | refine LOps.pure (Pure.mv (lv := .atom _) rfl) rfl ?_
        refine LOps.pure (Pure.sslice (i := i) (j := s.length) rfl ⟨_, rfl⟩ rfl (by omega) (by omega) (by omega)) rfl ?_
        have hsl : (s.take ((s.length : Nat) : Int).toNat).drop ((i : Nat) : Int).toNat = s[i] :: s.drop (i + 1) := by rw [← hdrop]; simp
        rw [hsl]
        refine LOps.step (S.fn [_] rfl (First_spec (s[i] :: s.drop (i + 1)) (by rw [← hdrop, List.length_drop]; omega) (List.cons_ne_nil _ _)) ?_) rfl
        refine LOps.step (S.alloc fun b => ?_) rfl
        repeat first | refine LOps.nil ?_ | refine LCode.seq ?_ | refine LCode.region ?_ | refine QThen.normal ?_ | refine LOps.pure (Pure.neq rfl rfl) rfl ?_ | refine LOps.pure (Pure.fieldH rfl) rfl ?_ | refine LOps.pure (Pure.loadH (c := .atom _) rfl (List.Mem.head _) rfl) rfl ?_ | refine LOps.step (S.store (cs' := [_, _, _, _, _]) rfl Pick.here rfl rfl rfl rfl rfl ?_) rfl
        refine LCode.cond rfl (fun he => ?_) (fun he => ?_)
        ·have he' : (lexToken (s[i] :: s.drop (i + 1))).2.2 ≠ 0 := by simpa using he
         rw [if_pos he'] at hI
         repeat first | refine LCode.seq ?_
         refine LCode.quiet (by kernel_rfl) ?_
         repeat first | refine LQ.pure (Pure.as (lv := .atom _) rfl) rfl ?_ | refine LQ.pure (Pure.mv (lv := .atom _) rfl) rfl ?_ | refine LQ.pure (Pure.fieldH rfl) rfl ?_ | refine LQ.pure (Pure.loadH (c := .atom _) rfl (List.Mem.head _) rfl) rfl ?_ | refine LQ.nil ?_ | refine QThen.normal ?_
         repeat first | refine LCode.ret ?_ | refine QThen.ret ?_ | refine QBlock.ret ?_
         exact retRet (hj4.trans (hj3.trans (hj2.trans hj))) (AllRes.cons (ResIs.tmp (v := nilSlice) rfl LV.Sub.nil) (AllRes.cons (ResIs.tmp (v := .atom _) rfl (LV.Sub.refl _)) (AllRes.cons (ResIs.tmp (v := .atom _) rfl (LV.Sub.refl _)) AllRes.nil))) (by
          rw [lexAllR, if_neg (by omega), hI]
          rfl)
        ·have he' : (lexToken (s[i] :: s.drop (i + 1))).2.2 = 0 := by simpa using he
         rw [if_neg (by simpa using he')] at hI
         obtain ⟨hs0, hs1⟩ := lexToken_size _ he'
         have hlr : (s[i] :: s.drop (i + 1)).length = s.length - i := by rw [← hdrop, List.length_drop]
         rw [hlr] at hs1
         repeat first | refine LOps.nil ?_ | refine LCode.seq ?_ | refine LCode.region ?_ | refine LCode.skip ?_ | refine QThen.normal ?_ | refine LOps.pure (Pure.mv (lv := .atom _) rfl) rfl ?_ | refine LOps.pure (Pure.fieldH rfl) rfl ?_ | refine LOps.step (S.store (cs' := [_, _, _, _, _]) rfl Pick.here rfl rfl rfl rfl rfl ?_) rfl
         refine LOps.pure (Pure.mv (lv := v) rfl) rfl ?_
         repeat first | refine LOps.pure (Pure.fieldH rfl) rfl ?_ | refine LOps.pure (Pure.ldHAgg (cs' := [_, _, _]) rfl (List.Mem.head _) rfl rfl) rfl ?_
         refine LOps.step (S.lit [_] rfl (elemsOk.cons rfl rfl elemsOk.nil) rfl rfl rfl ?_) rfl
         refine LOps.step (S.acc1 rfl hacc rfl (by simp; rfl) rfl (by simp; omega) fun v' H' hacc' => ?_) rfl
         refine LOps.pure (Pure.as (lv := v') rfl) rfl ?_
         repeat first | refine LOps.nil ?_ | refine LCode.region ?_ | refine QThen.normal ?_ | refine QBlock.normal ?_ | refine LOps.pure (Pure.as (lv := .atom _) rfl) rfl ?_ | refine LOps.pure (Pure.mv (lv := .atom _) rfl) rfl ?_ | refine LOps.pure (Pure.add rfl rfl (by omega)) rfl ?_ | refine LOps.pure (Pure.fieldH rfl) rfl ?_ | refine LOps.pure (Pure.loadH (c := .atom _) rfl (List.Mem.head _) rfl) rfl ?_
         have hacc2 : Acc 3 v' ((out ++ [Tok.mk (lexToken (s[i] :: s.drop (i + 1))).1.kind (lexToken (s[i] :: s.drop (i + 1))).1.text (line + nl s[i])]).map encTok) H' [] := by
          rw [List.map_append]
          exact hacc'
         exact ⟨_, _, _, by omega, ⟨v', out ++ [Tok.mk (lexToken (s[i] :: s.drop (i + 1))).1.kind (lexToken (s[i] :: s.drop (i + 1))).1.text (line + nl s[i])], i + (lexToken (s[i] :: s.drop (i + 1))).2.1, line + nl s[i], f, rfl, rfl, hacc2,
          by omega, by omega, by omega, by omega, by simp only [List.length_append, List.length_singleton]; omega, by
           have hdd : (s[i] :: s.drop (i + 1)).drop (lexToken (s[i] :: s.drop (i + 1))).2.1 = s.drop (i + (lexToken (s[i] :: s.drop (i + 1))).2.1) := by
            conv => lhs; arg 2; rw [← hdrop]
            rw [List.drop_drop]
           rw [hI, map_map_ex, hdd]
           congr 1
           funext x
           simp only [List.append_assoc, List.singleton_append]⟩, ⟨rfl, rfl, rfl, int_eq (by omega), trivial⟩, HSub.drop (HSub.refl _), hj4.trans (hj3.trans (hj2.trans hj))⟩
  ·have hge : s.length ≤ i := by simpa using hne
   repeat first | refine LCode.seq ?_ | refine LCode.region ?_ | refine LCode.exit ?_ | refine QThen.normal ?_ | refine QThen.exit ?_ | refine QBlock.hit ?_
   refine LOps.pure (Pure.mv (lv := v) rfl) rfl ?_
   refine LOps.pure (Pure.as (lv := v) rfl) rfl ?_
   repeat first | refine LOps.nil ?_ | refine LCode.ret ?_ | refine QThen.normal ?_ | refine LOps.pure (Pure.as (lv := .atom _) rfl) rfl ?_
   exact retRet hj (AllRes.cons (ResIs.tmp (v := v) rfl hacc.sub) (AllRes.cons (ResIs.tmp (v := .atom _) rfl (LV.Sub.refl _)) (AllRes.cons (ResIs.tmp (v := .atom _) rfl (LV.Sub.refl _)) AllRes.nil))) (by
    rw [lexAllR, if_neg (by omega), hI, List.drop_eq_nil_of_le hge]
    cases fuel <;> simp [lexR, Except.map, encLex, resLV])
end
end Go.Proofs.YtfodkbchknknjaaGreatDoor
namespace Go.Stele
theorem takeWhile_mem {p : UInt8 → Bool} : ∀ (s : List UInt8), ∀ c ∈ s.takeWhile p, p c = true
 | [], c, hc => by cases hc
 | a :: r, c, hc => by
  by_cases ha : p a = true
  ·rw [List.takeWhile_cons_of_pos ha] at hc
   rcases List.mem_cons.1 hc with rfl | hc
   ·exact ha
   ·exact takeWhile_mem r c hc
  ·rw [List.takeWhile_cons_of_neg ha] at hc
   cases hc
theorem take_takeWhile (p : UInt8 → Bool) (s : List UInt8) : s.take (s.takeWhile p).length = s.takeWhile p := (List.prefix_iff_eq_take.1 (List.takeWhile_prefix p)).symm
theorem count_zero {l : List UInt8} (h : ∀ c ∈ l, c ≠ 10) : l.count 10 = 0 := List.count_eq_zero.2 fun hm => h 10 hm rfl
theorem ne10 {c : UInt8} (h : ¬ cv c = 10) : c ≠ 10 := by
 rintro rfl
 exact h rfl
theorem token_noNl (s : List UInt8) (h : (lexToken s).2.2 = 0) : (s.take (lexToken s).2.1).count 10 = 0 := by
 match s with
 | [] => rfl
 | c :: r =>
  simp only [lexToken] at h ⊢
  split at h <;> rename_i hc
  ·rw [if_pos hc]
   unfold lexNumber at h ⊢
   split at h
   ·simp [tokErr] at h
   ·rename_i hw
    rw [if_neg hw]
    split at h
    ·rw [take_takeWhile]
     refine count_zero fun c hc => ne10 ?_
     have := takeWhile_mem _ c hc
     simp only [isDigit, Bool.and_eq_true, decide_eq_true_eq] at this
     omega
    ·simp [tokErr] at h
  ·rw [if_neg hc]
   split at h <;> rename_i hl
   ·rw [if_pos hl]
    unfold lexName at h ⊢
    split at h
    ·simp [tokErr] at h
    ·rename_i hw
     rw [if_neg hw, take_takeWhile]
     refine count_zero fun c hc => ne10 ?_
     have := takeWhile_mem _ c hc
     simp only [isInner, isDigit, isLetter, Bool.and_eq_true, Bool.or_eq_true, decide_eq_true_eq] at this
     omega
   ·rw [if_neg hl]
    split at h <;> rename_i hq
    ·rw [if_pos hq]
     unfold lexLiteral at h ⊢
     split at h
     ·split at h
      ·simp [tokErr] at h
      ·rename_i b d _ heq hx
       rw [if_neg hx, heq]
       injection heq with h1 h2
       simp only [Bool.or_eq_true, Bool.not_eq_true', decide_eq_true_eq, decide_eq_false_iff_not, not_or] at hx
       simp only [decide_eq_true_eq] at hq
       refine count_zero fun x hx' => ne10 ?_
       simp only [List.take_succ_cons, List.take_zero, List.mem_cons, List.not_mem_nil, or_false] at hx'
       rcases hx' with rfl | rfl | rfl
       ·rw [h1] at hq; omega
       ·omega
       ·omega
     ·simp [tokErr] at h
    ·rw [if_neg hq]
     unfold lexSign at h ⊢
     split at h
     ·rename_i x hx
      have h1 := List.find?_some hx
      have h2 := List.mem_of_find?_eq_some hx
      have h3 := List.prefix_iff_eq_take.1 (List.isPrefixOf_iff_prefix.1 h1)
      show ((c :: r).take x.length).count 10 = 0
      rw [← h3]
      have : ∀ x ∈ signs, x.count 10 = 0 := by decide
      exact this x h2
     ·simp [tokErr] at h
theorem lexR_fuel : ∀ (f f' : Nat) (s : List UInt8) (line : Int), s.length ≤ f → s.length ≤ f' → lexR f s line = lexR f' s line := by
 intro f
 induction f with
 | zero =>
  intro f' s line h1 h2
  have : s = [] := List.length_eq_zero_iff.1 (by omega)
  subst this
  cases f' <;> rfl
 | succ f ih =>
  intro f' s line h1 h2
  cases s with
  | nil => cases f' <;> rfl
  | cons c r =>
   obtain ⟨g, rfl⟩ : ∃ g, f' = g + 1 := ⟨f' - 1, by simp at h2; omega⟩
   simp only [List.length_cons] at h1 h2
   simp only [lexR]
   split
   ·exact ih _ _ _ (by omega) (by omega)
   ·split
    ·rename_i hp
     have hpos : 0 < ((c :: r).takeWhile notNl).length := by
      rw [slash2] at hp
      simp only [Bool.and_eq_true, decide_eq_true_eq] at hp
      have : notNl c = true := by unfold notNl; rw [hp.1]; rfl
      rw [List.takeWhile_cons_of_pos this]
      simp
     exact ih _ _ _ (by simp only [List.length_drop, List.length_cons]; omega) (by simp only [List.length_drop, List.length_cons]; omega)
    ·split
     ·rfl
     ·rename_i he
      have := (lexToken_size (c :: r) (by simpa using he)).1
      rw [ih g _ _ (by simp only [List.length_drop, List.length_cons]; omega) (by simp only [List.length_drop, List.length_cons]; omega)]
theorem nl_count (c : UInt8) (w : List UInt8) : nl c + ((w.count 10 : Nat) : Int) = (((c :: w).count 10 : Nat) : Int) := by
 unfold nl
 rw [List.count_cons]
 have h : decide (cv c = 10) = (c == 10) := cv_eq c 10 (by decide)
 rw [h]
 by_cases hc : c = 10
 ·subst hc; simp; omega
 ·have : (c == 10) = false := by simpa using hc
  rw [this]
  simp
theorem lexR_white : ∀ (w t : List UInt8) (line : Int) (f : Nat), (∀ c ∈ w, isWhite c = true) → (w ++ t).length ≤ f → lexR f (w ++ t) line = lexR f t (line + (w.count 10 : Nat))
 | [], t, line, f, _, _ => by simp
 | c :: w, t, line, f, h, hf => by
  obtain ⟨g, rfl⟩ : ∃ g, f = g + 1 := ⟨f - 1, by simp at hf; omega⟩
  simp only [List.cons_append, List.length_cons] at hf
  have hc := h c List.mem_cons_self
  rw [List.cons_append, lexR, if_pos hc, lexR_white w t _ g (fun c hc => h c (List.mem_cons_of_mem _ hc)) (by omega), lexR_fuel g (g + 1) t _ (by simp at hf; omega) (by simp at hf; omega), Int.add_assoc, nl_count]
theorem lex_agree : ∀ (f : Nat) (s : List UInt8) (line : Int), s.length ≤ f → lexP f s line = lexR f s line := by
 intro f
 induction f with
 | zero =>
  intro s line h
  have : s = [] := List.length_eq_zero_iff.1 (by omega)
  subst this
  rfl
 | succ f ih =>
  intro s line h
  cases s with
  | nil => simp [lexP, lexR]
  | cons c r =>
   simp only [List.length_cons] at h
   rw [lexP, if_neg (by simp)]
   by_cases hz : skipLen (c :: r) = 0
   ·rw [if_pos hz]
    have hp : [47, 47].isPrefixOf (c :: r) = false := by
     cases hp : [47, 47].isPrefixOf (c :: r) with
     | false => rfl
     | true =>
      exfalso
      rw [skipLen, if_pos hp] at hz
      rw [slash2] at hp
      simp only [Bool.and_eq_true, decide_eq_true_eq] at hp
      have : notNl c = true := by unfold notNl; rw [hp.1]; rfl
      rw [List.takeWhile_cons_of_pos this] at hz
      simp at hz
    have hw : isWhite c = false := by
     cases hw : isWhite c with
     | false => rfl
     | true =>
      exfalso
      rw [skipLen, if_neg (by rw [hp]; decide), List.takeWhile_cons_of_pos hw] at hz
      simp at hz
    have hn : nl c = 0 := by
     unfold nl
     rw [if_neg]
     intro h10
     simp only [decide_eq_true_eq] at h10
     simp [isWhite, h10] at hw
    have hR : lexR (f + 1) (c :: r) line = if (lexToken (c :: r)).2.2 ≠ 0 then .error (line + nl c, (lexToken (c :: r)).2.2)
      else (lexR f ((c :: r).drop (lexToken (c :: r)).2.1) (line + nl c)).map ({ (lexToken (c :: r)).1 with line := line + nl c } :: ·) := by
     rw [lexR, if_neg (by rw [hw]; decide), if_neg (by rw [hp]; decide)]
    rw [hR, hn, Int.add_zero]
    by_cases he : (lexToken (c :: r)).2.2 = 0
    ·rw [if_neg (by simpa using he), if_neg (by simpa using he), token_noNl _ he]
     have := (lexToken_size (c :: r) he).1
     rw [ih _ _ (by simp only [List.length_drop, List.length_cons]; omega)]
     simp
    ·rw [if_pos (by simpa using he), if_pos (by simpa using he)]
   ·rw [if_neg hz]
    cases hp : [47, 47].isPrefixOf (c :: r) with
    | true =>
     have hlen : skipLen (c :: r) = ((c :: r).takeWhile notNl).length := by rw [skipLen, if_pos hp]
     have hc47 : cv c = 47 := by
      rw [slash2] at hp
      simp only [Bool.and_eq_true, decide_eq_true_eq] at hp
      exact hp.1
     have hw : isWhite c = false := by simp [isWhite, hc47]
     have hn : nl c = 0 := by simp [nl, hc47]
     have hcnt : ((c :: r).take (skipLen (c :: r))).count 10 = 0 := by
      rw [hlen, take_takeWhile]
      refine count_zero fun x hx => ne10 ?_
      have := takeWhile_mem _ x hx
      simpa [notNl] using this
     rw [lexR, if_neg (by rw [hw]; decide), if_pos hp, hn, hcnt, hlen, ih _ _ (by simp only [List.length_drop, List.length_cons]; omega)]
     simp
    | false =>
     have hlen : skipLen (c :: r) = ((c :: r).takeWhile isWhite).length := by rw [skipLen, if_neg (by rw [hp]; decide)]
     have hsplit : (c :: r) = (c :: r).takeWhile isWhite ++ (c :: r).drop (skipLen (c :: r)) := by
      rw [hlen]
      conv => lhs; rw [← List.take_append_drop ((c :: r).takeWhile isWhite).length (c :: r), take_takeWhile]
     have hR : lexR (f + 1) (c :: r) line = lexR (f + 1) ((c :: r).drop (skipLen (c :: r))) (line + (((c :: r).takeWhile isWhite).count 10 : Nat)) := by
      conv => lhs; rw [hsplit]
      exact lexR_white _ _ _ _ (takeWhile_mem _) (by rw [← hsplit]; simp; omega)
     rw [hR, ih _ _ (by simp only [List.length_drop, List.length_cons]; omega), lexR_fuel f (f + 1) _ _ (by simp only [List.length_drop, List.length_cons]; omega) (by simp only [List.length_drop, List.length_cons]; omega)]
     have ht : (c :: r).take (skipLen (c :: r)) = (c :: r).takeWhile isWhite := by rw [hlen, take_takeWhile]
     rw [ht]
end Go.Stele
namespace Go.Proofs.YtfodkbchknknjaaGreatDoor
open Go.GL Go.RowKit Go.Stele
set_option maxRecDepth 100000
set_option maxHeartbeats 4000000
theorem lexAllR_eq (s : List UInt8) : lexAllR s = lexAllP s := by
 unfold lexAllR lexAllP
 split
 ·rfl
 ·exact (lex_agree _ _ _ (Nat.le_refl _)).symm
theorem lexLiteral_kind (s : List UInt8) (h : (lexLiteral s).2.2 = 0) : (lexLiteral s).1.kind = 1 := by
 unfold lexLiteral at h ⊢
 split at h
 ·split at h
  ·simp [tokErr] at h
  ·rename_i hx
   rw [if_neg hx]
 ·simp [tokErr] at h
theorem lexToken_kw (s : List UInt8) (h : (lexToken s).2.2 = 0) (hk : (lexToken s).1.kind = 3) : keywords.contains (lexToken s).1.text = true := by
 match s with
 | [] => simp [lexToken, tokErr] at h
 | c :: r =>
  simp only [lexToken] at h hk ⊢
  split at h <;> rename_i hc
  ·rw [if_pos hc] at hk ⊢
   unfold lexNumber at h hk
   split at h
   ·simp [tokErr] at h
   ·rename_i hw
    rw [if_neg hw] at hk
    split at h
    ·rename_i u hu
     rw [hu] at hk
     cases hk
    ·simp [tokErr] at h
  ·rw [if_neg hc] at hk ⊢
   split at h <;> rename_i hl
   ·rw [if_pos hl] at hk ⊢
    unfold lexName at h hk ⊢
    split at h
    ·simp [tokErr] at h
    ·rename_i hw
     rw [if_neg hw] at hk ⊢
     simp only at hk ⊢
     split at hk
     ·rename_i hkw
      exact hkw
     ·cases hk
   ·rw [if_neg hl] at hk ⊢
    split at h <;> rename_i hq
    ·rw [if_pos hq] at hk
     rw [lexLiteral_kind _ h] at hk
     cases hk
    ·rw [if_neg hq] at hk ⊢
     unfold lexSign at h hk ⊢
     split at h
     ·rename_i x hx
      rw [hx] at hk
      cases hk
     ·simp [tokErr] at h
theorem lexP_kw : ∀ (f : Nat) (s : List UInt8) (line : Int) (T : List Tok), lexP f s line = .ok T → ∀ t ∈ T, t.kind = 3 → keywords.contains t.text = true
 | 0, s, line, T, h => by
  rw [lexP] at h
  cases h
  simp
 | f + 1, s, line, T, h => by
  rw [lexP] at h
  split at h
  ·cases h
   simp
  ·split at h
   ·split at h
    ·cases h
    ·rename_i he
     obtain ⟨T', h1, rfl⟩ := map_ok h
     have k2 := lexP_kw f _ _ _ h1
     intro t ht
     rcases List.mem_cons.1 ht with rfl | ht
     ·exact lexToken_kw s (by omega)
     ·exact k2 t ht
   ·exact lexP_kw f _ _ _ h
theorem rtok_lex {s : List UInt8} {T : List Tok} (h : lexAllP s = .ok T) (hp : 0 < T.length) : RTOK T := by
 unfold lexAllP at h
 split at h
 ·cases h
 ·obtain ⟨h1, h2⟩ := lexP_ok _ _ _ _ h
  exact ⟨by omega, hp, h2, lexP_kw _ _ _ _ h⟩
theorem le_word {T : List Tok} {k : Int} {i o i' o' : Nat} {s : List UInt8} (h : some (sWord T k i o) = some (.ok s i' o')) : i ≤ i' := by
 injection h with h
 have := sWord_good T k i o
 rw [h] at this
 exact And.left this
theorem le_need {T : List Tok} {x : List UInt8} {i o i' o' : Nat} {u : Unit} (h : some (sNeed T x i o) = some (.ok u i' o')) : i ≤ i' := by
 injection h with h
 have := sNeed_good T x i o
 rw [h] at this
 exact And.left this
theorem le_begin {T : List Tok} {x : List UInt8} {i o i' o' : Nat} {u : Unit} (h : some (sBegin T x i o) = some (.ok u i' o')) : i ≤ i' := by
 injection h with h
 have := (sBegin_ok h).1
 omega
theorem le_end {T : List Tok} {x : List UInt8} {i o i' o' : Nat} {u : Unit} (h : some (sEnd T x i o) = some (.ok u i' o')) : i ≤ i' := by
 injection h with h
 have := (sEnd_ok h).1
 omega
theorem le_num {T : List Tok} {i o i' o' n : Nat} (h : some (sNumber T i o) = some (.ok n i' o')) : i ≤ i' := by
 injection h with h
 have := sNumber_good T i o
 rw [h] at this
 exact And.left this
theorem hsubW {a b c : Nat × LObj} {X Y : Heap} : HSub (a :: b :: c :: (X ++ Y)) (a :: b :: c :: (Y ++ X)) := ⟨[], by rw [List.append_nil]; exact (((List.perm_append_comm).cons c).cons b).cons a⟩
/-- The program so far, and what is left to read of a row of variables. -/
def PSt (T : List Tok) (a b : Nat) (acc : List (List UInt8)) (p : Pr) (i : Nat) (ln er : Int) (r : Res Pr) : Prop := stO 0 i ln er (fun i o => obind (sVars T a acc i o) fun l i o => sProg T b { p with vars := p.vars ++ l } i o) = some r
theorem prog_in {T : List Tok} {k i : Nat} {p : Pr} {ln er : Int} {r : Res Pr} (h : stO 0 i ln er (fun i o => sProg T k p i o) = some r) : ∃ a b, a ≤ k + 1 ∧ b ≤ k ∧ PSt T a b [] p i ln er r := by
 by_cases he : er = 0
 ·subst he
  rw [stO_ok] at h
  cases k with
  | zero => rw [sProg] at h; cases h
  | succ k =>
   by_cases ht : isTok T i [kwVar] = true
   ·have hlt := isTok_lt ht
    rw [sProg, if_neg (by omega), if_pos ht] at h
    exact ⟨k, k, by omega, by omega, h⟩
   ·refine ⟨1, k + 1, by omega, Nat.le_refl _, ?_⟩
    unfold PSt
    rw [stO_ok, sVars, if_neg ht]
    show sProg T (k + 1) { p with vars := p.vars ++ [] } i 0 = _
    rw [List.append_nil]
    exact h
 ·exact ⟨0, 0, Nat.zero_le _, Nat.zero_le _, (stO_dead he).trans ((stO_dead he).symm.trans h)⟩
theorem pst_end {T : List Tok} {a b i : Nat} {acc : List (List UInt8)} {p : Pr} {ln er : Int} {r : Res Pr} (hc : (decide (er = 0) && isTok T i [kwVar]) = false) (h : PSt T a b acc p i ln er r) : stO 0 i ln er (fun i o => sProg T b { p with vars := p.vars ++ acc } i o) = some r := vars_end hc h
attribute [local irreducible] LOps LCode LStep LCalls Go.GL.Pure QThen QBlock RetPost LQ LAny LLate LLateOp LS
section
variable {B0 : Nat} {w0 : World}
theorem rparse_spec (s : List UInt8) (hs : s.length ≤ 1000000000) : LCalls (KC B0 w0) 13 [str s] [] (Ret (encParse (parseP s))) := by
 have htok := rTokens_spec (B0 := B0) (w0 := w0) s hs
 rw [lexAllR_eq] at htok
 refine LCalls.intro Tryz.func13 rfl (n := 113) rfl rfl rfl ?_
 repeat first | refine LCode.seq ?_ | refine LCode.region ?_
 refine LOps.step (S.alloc fun b2 => ?_) rfl
 repeat first | refine LOps.nil ?_ | refine LCode.seq ?_ | refine LCode.region ?_ | refine QThen.normal ?_ | refine LOps.pure (Pure.as (lv := .atom _) rfl) rfl ?_ | refine LOps.pure (Pure.mv (lv := .atom _) rfl) rfl ?_
 cases hL : lexAllP s with
 | error le =>
  obtain ⟨l, e⟩ := le
  rw [hL] at htok
  have he := lexAllP_err hL
  refine LOps.step (S.fn [_] rfl htok ?_) rfl
  refine LOps.pure (Pure.mv rfl) rfl ?_
  refine LOps.pure (Pure.extract (vs := [.list [], int .i64 l, int .i64 e]) rfl rfl) rfl ?_
  refine LOps.pure (Pure.extract (vs := [.list [], int .i64 l, int .i64 e]) rfl rfl) rfl ?_
  refine LOps.pure (Pure.extract (vs := [.list [], int .i64 l, int .i64 e]) rfl rfl) rfl ?_
  repeat first | refine LOps.nil ?_ | refine LCode.seq ?_ | refine LCode.region ?_ | refine QThen.normal ?_ | refine LOps.pure (Pure.as (lv := .atom _) rfl) rfl ?_ | refine LOps.pure (Pure.mv (lv := .atom _) rfl) rfl ?_ | refine LOps.pure (Pure.as (lv := .list _) rfl) rfl ?_ | refine LOps.pure (Pure.neq rfl rfl) rfl ?_
  refine LCode.cond rfl (fun hc => ?_) (fun hc => ?_)
  ·repeat first | refine LOps.nil ?_ | refine LCode.seq ?_ | refine LCode.region ?_ | refine LCode.ret ?_ | refine QThen.normal ?_ | refine QThen.ret ?_ | refine LOps.pure (Pure.as (lv := .atom _) rfl) rfl ?_ | refine LOps.pure (Pure.mv (lv := .atom _) rfl) rfl ?_ | refine LOps.pure (Pure.bld _ (cs := [_, _, _]) rfl) rfl ?_ | refine LOps.step (S.store (cs' := [_, _, _]) rfl Pick.here rfl rfl rfl rfl rfl ?_) rfl
   have hp : parseP s = (noPr, l, e) := by rw [parseP, hL]
   rw [hp]
   exact retRet rfl (AllRes.cons (ResIs.cellAgg (k := 3) rfl (List.Mem.head _) rfl (LV.Sub.agg (bs := [.list [], .list [], .list []]) ⟨LV.Sub.nil, LV.Sub.nil, LV.Sub.nil, trivial⟩)) (AllRes.cons (ResIs.tmp (v := .atom _) rfl (LV.Sub.refl _)) (AllRes.cons (ResIs.tmp (v := .atom _) rfl (LV.Sub.refl _)) AllRes.nil))) rfl
  ·exact absurd (by simpa using hc) he
 | ok T =>
  rw [hL] at htok
  have hTl : T.length ≤ 60000 := by
   have hL' := hL
   unfold lexAllP at hL'
   split at hL'
   ·cases hL'
   ·have := (lexP_ok _ _ _ _ hL').1
    omega
  have hml : (T.map encTok).length = T.length := List.length_map _
  obtain ⟨F, hF⟩ : ∃ F, F = 10 * T.length + 20 := ⟨_, rfl⟩
  have hFl : F ≤ 1000000 := by omega
  obtain ⟨r, hr⟩ := sProg_ends T F noPr 0 0 (Nat.zero_le _) (by omega)
  have hp : parseP s = resP r := by
   rw [parseP, hL]
   simp only [← hF, hr]
   cases r <;> rfl
  rw [hp]
  refine LOps.step (S.fn [_] rfl htok ?_) rfl
  refine LOps.pure (Pure.mv rfl) rfl ?_
  refine LOps.pure (Pure.extract (vs := [.list (T.map encTok), int .i64 0, int .i64 0]) rfl rfl) rfl ?_
  refine LOps.pure (Pure.extract (vs := [.list (T.map encTok), int .i64 0, int .i64 0]) rfl rfl) rfl ?_
  refine LOps.pure (Pure.extract (vs := [.list (T.map encTok), int .i64 0, int .i64 0]) rfl rfl) rfl ?_
  repeat first | refine LOps.nil ?_ | refine LCode.seq ?_ | refine LCode.region ?_ | refine QThen.normal ?_ | refine LOps.pure (Pure.as (lv := .atom _) rfl) rfl ?_ | refine LOps.pure (Pure.mv (lv := .atom _) rfl) rfl ?_ | refine LOps.pure (Pure.as (lv := .list _) rfl) rfl ?_ | refine LOps.pure (Pure.neq rfl rfl) rfl ?_
  refine LCode.cond rfl (fun hc => ?_) (fun hc => ?_)
  ·cases hc
  repeat first | refine LCode.seq ?_ | refine LCode.region ?_ | refine LCode.skip ?_ | refine QThen.normal ?_ | refine LOps.pure (Pure.mv (lv := .list _) rfl) rfl ?_ | refine LOps.pure (Pure.bld _ (cs := [_, _, _, _, _]) rfl) rfl ?_
  refine LOps.step (S.box (cs := [_, _, _, _, _]) rfl fun rb => ?_) rfl
  repeat first | refine LOps.nil ?_ | refine LCode.seq ?_ | refine LCode.region ?_ | refine QThen.normal ?_ | refine LOps.pure (Pure.as (lv := .atom _) rfl) rfl ?_
  refine LOps.step (S.alloc fun b9 => ?_) rfl
  repeat first | refine LOps.nil ?_ | refine LCode.seq ?_ | refine LCode.block ?_ | refine QThen.normal ?_
  obtain ⟨a0, b0, ha0, hb0, hst0⟩ := prog_in (T := T) (k := F) (i := 0) (p := noPr) (ln := 0) (er := 0) hr
  refine LCode.loopI (fun k ls H => ∃ (a b : Nat) (acc : List (List UInt8)) (p : Pr) (v1 v2 v3 : LV) (i : Nat) (op ln er : Int) (H1 H2 H3 : Heap), a ≤ F + 1 ∧ b ≤ F ∧ k = b * (F + 2) + a ∧ ls = [(2, ptr b2 0), (3, int .i64 0), (4, int .i64 0), (5, .list (T.map encTok)), (8, ptr rb 0), (9, ptr b9 0)] ∧
    H = rdH rb T i op ln er :: (b9, .cells 27 [v1, v2, v3]) :: (b2, .cells 27 [nilSlice, nilSlice, nilSlice]) :: (H1 ++ (H2 ++ H3)) ∧
    Acc 1 v1 ((p.vars ++ acc).map str) H1 [] ∧ Acc 2 v2 (p.arrays.map encAr) H2 [] ∧ Acc 4 v3 (p.funcs.map encFn) H3 [] ∧ Wf T 0 i op ln er ∧ (p.vars ++ acc).length ≤ 400000 ∧ (er = 0 → (p.vars ++ acc).length ≤ i) ∧ p.arrays.length + b ≤ F ∧ p.funcs.length + b ≤ F ∧ PSt T a b acc p i ln er r)
   ⟨_, _, _, ⟨a0, b0, [], noPr, nilSlice, nilSlice, nilSlice, 0, 0, 0, 0, [], [], [], ha0, hb0, rfl, rfl, rfl, Acc.nil, Acc.nil, Acc.nil, fun _ => ⟨rfl, Nat.zero_le _, rfl, by omega⟩, by simp [noPr], fun _ => by simp [noPr], by simp [noPr]; omega, by simp [noPr]; omega, hst0⟩, ⟨rfl, rfl, rfl, rfl, rfl, rfl, trivial⟩, HSub.pick (Pick.there Pick.here) (HSub.refl _)⟩ ?_
  rintro k ls H ⟨a, b, acc, p, v1, v2, v3, i, op, ln, er, H1, H2, H3, ha, hb, rfl, rfl, rfl, ha1, ha2, ha3, hw, hvl, hva, hal, hfl, hI⟩ j hj
  by_cases he : er = 0
  case neg =>
   have hz : decide (er = 0) = false := decide_eq_false he
   have hres : some (Res.err ln er) = some r := (stO_dead he).symm.trans hI
   cases hres
   repeat first | refine LCode.seq ?_ | refine LCode.region ?_ | refine LOps.pure (Pure.mv (lv := .atom _) rfl) rfl ?_ | refine LOps.pure (Pure.nilCheckH rfl) rfl ?_ | refine LOps.pure (Pure.fieldH rfl) rfl ?_ | refine LOps.pure (Pure.loadH (c := .atom _) rfl (List.Mem.head _) rfl) rfl ?_ | refine LOps.pure (Pure.eql rfl rfl) rfl ?_
   refine LOps.bcase 30 rfl (fun h => ?_) (fun h => ?_)
   ·rw [hz] at h
    cases h
   repeat first | refine LOps.nil ?_ | refine QThen.normal ?_ | refine LOps.pure (Pure.pickF (lv := .atom _) rfl rfl) rfl ?_ | refine LOps.skip rfl rfl rfl rfl ?_
   refine LCode.cond rfl (fun h2 => ?_) (fun h2 => ?_)
   ·cases h2
   repeat first | refine LOps.nil ?_ | refine LCode.seq ?_ | refine LCode.region ?_ | refine LCode.exit ?_ | refine QThen.normal ?_ | refine QThen.exit ?_ | refine QBlock.hit ?_ | refine LOps.pure (Pure.mv (lv := .atom _) rfl) rfl ?_ | refine LOps.pure (Pure.neq rfl rfl) rfl ?_ | refine LOps.pure (Pure.nilCheckH rfl) rfl ?_ | refine LOps.pure (Pure.fieldH rfl) rfl ?_ | refine LOps.pure (Pure.loadH (c := .atom _) rfl (List.Mem.head _) rfl) rfl ?_
   refine LCode.cond rfl (fun h2 => ?_) (fun h2 => ?_)
   case refine_2 => exact absurd (by simpa using h2) he
   repeat first | refine LCode.seq ?_
   refine LCode.draw (m := 12) rfl [rdH rb T i op ln er] ?_
   refine LAny.tk 0 rfl rfl (Pure.bld _ (cs := [_, _, _]) rfl) ?_
   refine LAny.tk 1 rfl rfl (Pure.mv (lv := .atom _) rfl) ?_
   refine LAny.tk 2 rfl rfl (Pure.nilCheckH rfl) ?_
   refine LAny.tk 3 rfl rfl (Pure.fieldH rfl) ?_
   refine LAny.tk 4 rfl rfl (Pure.loadH (c := .atom _) rfl (List.Mem.head _) rfl) ?_
   refine LAny.tk 5 rfl rfl (Pure.mv (lv := .atom _) rfl) ?_
   refine LAny.tk 6 rfl rfl (Pure.nilCheckH rfl) ?_
   refine LAny.tk 7 rfl rfl (Pure.fieldH rfl) ?_
   refine LAny.tk 8 rfl rfl (Pure.loadH (c := .atom _) rfl (List.Mem.head _) rfl) ?_
   refine LAny.late ?_ (HSub.pick Pick.here (HSub.nil _))
   refine LLate.o 9 (LLateOp.step (H1 := [(b2, .cells 27 [nilSlice, nilSlice, nilSlice])]) rfl (.inl rfl) rfl (Pick.there (Pick.there Pick.here)) (HSub.pick Pick.here (HSub.nil _)) (S.store (cs' := [_, _, _]) rfl Pick.here rfl rfl rfl rfl rfl ?_))
   refine LLate.any [rdH rb T i op ln er] (fun p hp => hp) ?_
   refine LAny.tk 10 rfl rfl (Pure.as (lv := .atom _) rfl) ?_
   refine LAny.tk 11 rfl rfl (Pure.as (lv := .atom _) rfl) ?_
   refine LAny.late (LLate.done (by kernel_rfl) ?_) (HSub.pick (Pick.there Pick.here) (HSub.nil _))
   repeat first | refine LCode.ret ?_ | refine QThen.normal ?_ | refine QThen.ret ?_
   exact retRet hj (AllRes.cons (ResIs.cellAgg (k := 3) rfl (List.Mem.head _) rfl (LV.Sub.agg (bs := [.list [], .list [], .list []]) ⟨LV.Sub.nil, LV.Sub.nil, LV.Sub.nil, trivial⟩)) (AllRes.cons (ResIs.tmp (v := .atom _) rfl (LV.Sub.refl _)) (AllRes.cons (ResIs.tmp (v := .atom _) rfl (LV.Sub.refl _)) AllRes.nil))) rfl
  subst he
  obtain ⟨rfl, hi, rfl, _⟩ := hw rfl
  have hva := hva rfl
  repeat first | refine LOps.nil ?_ | refine LCode.seq ?_ | refine LCode.region ?_ | refine QThen.normal ?_ | refine LOps.pure (Pure.mv (lv := .atom _) rfl) rfl ?_ | refine LOps.pure (Pure.mv (lv := .list _) rfl) rfl ?_ | refine LOps.pure (Pure.nilCheckH rfl) rfl ?_ | refine LOps.pure (Pure.fieldH rfl) rfl ?_ | refine LOps.pure (Pure.loadH (c := .atom _) rfl (List.Mem.head _) rfl) rfl ?_ | refine LOps.pure (Pure.eql rfl rfl) rfl ?_ | refine LOps.pure (Pure.llen rfl) rfl ?_ | refine LOps.pure (Pure.lss rfl rfl) rfl ?_ | refine LOps.pure (Pure.pickT (lv := .atom _) rfl rfl) rfl ?_ | refine LOps.want rfl rfl ?_
  refine LCode.cond rfl (fun hc => ?_) (fun hc => ?_)
  ·have hlt : i < T.length := by have := of_decide_eq_true hc; omega
   have hT := rtok_lex hL (by omega)
   have hl := hT.len
   have hwn : Wf T 0 (i + 1) ((0 : Nat) : Int) 0 0 := fun _ => ⟨rfl, hlt, rfl, by omega⟩
   repeat first | refine LCode.seq ?_ | refine LCode.region ?_ | refine LCode.skip ?_ | refine LCode.block ?_ | refine QThen.normal ?_ | refine LOps.pure (Pure.mv (lv := .atom _) rfl) rfl ?_
   refine LOps.step (S.fnH [_, _] rfl Pick.here (qnext_spec rb T i _ 0 0 kwVar hl) ?_) rfl
   repeat first | refine LOps.nil ?_ | refine QThen.normal ?_ | refine LOps.pure (Pure.as (lv := .atom _) rfl) rfl ?_
   refine LCode.cond rfl (fun hv => ?_) (fun hv => ?_)
   ·rw [andz] at hv
    obtain ⟨a, rfl, hI2⟩ := vars_next hv hI
    repeat first | refine LOps.nil ?_ | refine LCode.seq ?_ | refine LCode.region ?_ | refine QThen.normal ?_ | refine LOps.pure (Pure.mv (lv := .atom _) rfl) rfl ?_ | refine LOps.pure (Pure.nilCheckH rfl) rfl ?_ | refine LOps.pure (Pure.fieldH rfl) rfl ?_ | refine LOps.pure (Pure.loadH (c := .atom _) rfl (List.Mem.head _) rfl) rfl ?_ | refine LOps.pure (Pure.add rfl rfl (by omega)) rfl ?_ | refine LOps.step (S.store (cs' := [_, _, _, _, _]) rfl Pick.here rfl rfl rfl rfl rfl ?_) rfl
    refine LCode.draw (m := 7) rfl [] ?_
    refine LAny.tk 0 rfl rfl (Pure.fieldH rfl) ?_
    refine LAny.tk 2 rfl rfl (Pure.mv (lv := .atom _) rfl) ?_
    refine LAny.late ?_ (HSub.nil _)
    refine LLate.two (i := 1) (j := 3) (by kernel_rfl) ?_ ?_
    ·refine LLateOp.pureH rfl rfl (Pure.loadH (c := v1) rfl (List.Mem.tail _ (List.Mem.head _)) rfl) ?_
     refine LLate.o 3 (LLateOp.whole rfl (.inl rfl) rfl (S.callB (i := i + 1) (op := ((0 : Nat) : Int)) [_] rfl Pick.here hI2 (fun r1 h1 => qnames_spec rb T hT a 0 (i + 1) _ 0 0 hwn r1 h1) fun ns i7 op7 ln7 er7 hb7 hw7 hal7 hI3 => ?_))
     refine LLate.o 4 (LLateOp.whole rfl (.inl rfl) rfl (S.accF permV rfl ha1 rfl (strs_len ns) (strs_ok ns) (by simp at hvl ⊢; omega) fun v' H' ha' => ?_))
     refine LLate.o 5 (LLateOp.pureH rfl rfl (Pure.fieldH rfl) ?_)
     refine LLate.o 6 (LLateOp.whole rfl (.inl rfl) rfl (S.store (cs' := [v', v2, v3]) rfl (Pick.there Pick.here) (Acc.cell ha').1 rfl rfl (Acc.cell ha').2 rfl ?_))
     refine LLate.done (by kernel_rfl) ?_
     repeat first | refine LCode.region ?_ | refine QThen.normal ?_ | refine LOps.pure (Pure.mv (lv := .atom _) rfl) rfl ?_
     refine LOps.step (S.callQ [_, _] rfl (Pick.there Pick.here) hI3 (fun r1 h1 => qwant_spec rb T 0 i7 op7 ln7 er7 [59] hl hT.pos hw7 r1 h1) fun u4 i8 op8 ln8 er8 hw8 hal8 hI4 => ?_) rfl
     repeat first | refine LOps.nil ?_ | refine QThen.normal ?_ | refine QBlock.normal ?_
     exact ⟨_, _, _, by omega, ⟨a, b, acc ++ ns, p, v', v2, v3, i8, op8, ln8, er8, H', H2, H3, by omega, hb, rfl, rfl, rfl, by rw [← List.append_assoc, List.map_append]; exact ha', ha2, ha3, hw8, by simp at hvl hva ⊢; omega, fun h8 => by
      obtain ⟨h7, h9⟩ := hal8 h8
      obtain ⟨_, h10⟩ := hal7 h7
      have h11 := names_len h10
      have h12 := le_need h9
      simp at hva ⊢
      omega, hal, hfl, hI4⟩, ⟨rfl, rfl, rfl, rfl, rfl, rfl, trivial⟩, hsubW, hj⟩
    ·refine LLateOp.whole rfl (.inl rfl) rfl (S.callB (i := i + 1) (op := ((0 : Nat) : Int)) [_] rfl Pick.here hI2 (fun r1 h1 => qnames_spec rb T hT a 0 (i + 1) _ 0 0 hwn r1 h1) fun ns i7 op7 ln7 er7 hb7 hw7 hal7 hI3 => ?_)
     refine LLate.o 1 (LLateOp.pureH rfl rfl (Pure.loadH (c := v1) rfl (List.Mem.tail _ (List.Mem.head _)) rfl) ?_)
     refine LLate.o 4 (LLateOp.whole rfl (.inl rfl) rfl (S.accF permV rfl ha1 rfl (strs_len ns) (strs_ok ns) (by simp at hvl ⊢; omega) fun v' H' ha' => ?_))
     refine LLate.o 5 (LLateOp.pureH rfl rfl (Pure.fieldH rfl) ?_)
     refine LLate.o 6 (LLateOp.whole rfl (.inl rfl) rfl (S.store (cs' := [v', v2, v3]) rfl (Pick.there Pick.here) (Acc.cell ha').1 rfl rfl (Acc.cell ha').2 rfl ?_))
     refine LLate.done (by kernel_rfl) ?_
     repeat first | refine LCode.region ?_ | refine QThen.normal ?_ | refine LOps.pure (Pure.mv (lv := .atom _) rfl) rfl ?_
     refine LOps.step (S.callQ [_, _] rfl (Pick.there Pick.here) hI3 (fun r1 h1 => qwant_spec rb T 0 i7 op7 ln7 er7 [59] hl hT.pos hw7 r1 h1) fun u4 i8 op8 ln8 er8 hw8 hal8 hI4 => ?_) rfl
     repeat first | refine LOps.nil ?_ | refine QThen.normal ?_ | refine QBlock.normal ?_
     exact ⟨_, _, _, by omega, ⟨a, b, acc ++ ns, p, v', v2, v3, i8, op8, ln8, er8, H', H2, H3, by omega, hb, rfl, rfl, rfl, by rw [← List.append_assoc, List.map_append]; exact ha', ha2, ha3, hw8, by simp at hvl hva ⊢; omega, fun h8 => by
      obtain ⟨h7, h9⟩ := hal8 h8
      obtain ⟨_, h10⟩ := hal7 h7
      have h11 := names_len h10
      have h12 := le_need h9
      simp at hva ⊢
      omega, hal, hfl, hI4⟩, ⟨rfl, rfl, rfl, rfl, rfl, rfl, trivial⟩, hsubW, hj⟩
   have hI3 := pst_end hv hI
   rw [andz] at hv
   rw [stO_ok] at hI3
   obtain ⟨b1, rfl⟩ : ∃ g, b = g + 1 := by
    cases b with
    | zero => rw [sProg] at hI3; cases hI3
    | succ g => exact ⟨g, rfl⟩
   rw [sProg, if_neg (by omega), if_neg (by rw [hv]; decide)] at hI3
   have hms : ∀ a' b', a' ≤ b1 + 1 → b' ≤ b1 → b' * (F + 2) + a' < (b1 + 1) * (F + 2) + a := fun a' b' h1 h2 => by
    have := Nat.mul_le_mul_right (F + 2) h2
    rw [Nat.succ_mul]
    omega
   repeat first | refine LCode.seq ?_ | refine LCode.region ?_ | refine LOps.pure (Pure.mv (lv := .atom _) rfl) rfl ?_
   refine LOps.step (S.fnH [_, _] rfl Pick.here (qnext_spec rb T i _ 0 0 kwArray hl) ?_) rfl
   repeat first | refine LOps.nil ?_ | refine QThen.normal ?_ | refine LOps.pure (Pure.as (lv := .atom _) rfl) rfl ?_
   refine LCode.cond rfl (fun hq => ?_) (fun hq => ?_)
   ·rw [andz] at hq
    rw [if_pos hq] at hI3
    unfold sArray at hI3
    simp only [obind_assoc] at hI3
    have hI4 : stO 0 (i + 1) 0 0 (fun i o => obind (some (sWord T 2 i o)) fun nm i o => obind (some (sBegin T [91] i o)) fun _ i o => obind (some (sNumber T i o)) fun n i o => obind (some (sEnd T [93] i o)) fun _ i o => obind (some (sNeed T [59] i o)) fun _ i o =>
     sProg T b1 ⟨p.vars ++ acc, p.arrays ++ [⟨nm, n⟩], p.funcs⟩ i o) = some r := hI3
    repeat first | refine LOps.nil ?_ | refine LCode.seq ?_ | refine LCode.region ?_ | refine QThen.normal ?_ | refine LOps.pure (Pure.mv (lv := .atom _) rfl) rfl ?_ | refine LOps.pure (Pure.nilCheckH rfl) rfl ?_ | refine LOps.pure (Pure.fieldH rfl) rfl ?_ | refine LOps.pure (Pure.loadH (c := .atom _) rfl (List.Mem.head _) rfl) rfl ?_ | refine LOps.pure (Pure.add rfl rfl (by omega)) rfl ?_ | refine LOps.step (S.store (cs' := [_, _, _, _, _]) rfl Pick.here rfl rfl rfl rfl rfl ?_) rfl
    refine LOps.step (S.callQ (i := i + 1) (op := ((0 : Nat) : Int)) [_] rfl Pick.here hI4 (fun r1 h1 => qname_spec rb T 0 (i + 1) _ 0 0 hl hT.pos hwn r1 h1) fun nm i1 op1 ln1 er1 hw1 hal1 hI5 => ?_) rfl
    repeat first | refine LOps.pure (Pure.bld _ (cs := [_, _]) rfl) rfl ?_
    refine LOps.step (S.alloc fun b10 => ?_) rfl
    repeat first | refine LOps.nil ?_ | refine LCode.seq ?_ | refine LCode.region ?_ | refine QThen.normal ?_ | refine LOps.pure (Pure.mv (lv := .atom _) rfl) rfl ?_ | refine LOps.step (S.store (cs' := [_, _]) rfl Pick.here rfl rfl rfl rfl rfl ?_) rfl
    refine LOps.step (S.callQ [_, _] rfl (Pick.there Pick.here) hI5 (fun r1 h1 => qenter_spec rb T 0 i1 op1 ln1 er1 [91] hl hT.pos hw1 r1 h1) fun u2 i2 op2 ln2 er2 hw2 hal2 hI6 => ?_) rfl
    repeat first | refine LOps.nil ?_ | refine LCode.seq ?_ | refine LCode.region ?_ | refine QThen.normal ?_ | refine LOps.pure (Pure.mv (lv := .atom _) rfl) rfl ?_
    refine LOps.step (S.callB [_] rfl Pick.here hI6 (fun r1 h1 => qnumber_specB rb T hT (0 + 1) i2 op2 ln2 er2 hw2 r1 h1) fun n i3 op3 ln3 er3 hn3 hw3 hal3 hI7 => ?_) rfl
    refine LOps.pure (Pure.cvt rfl) rfl ?_
    rw [show IntKind.i64.wrap (n : Int) = (n : Int) from wrap_i64 (by omega)]
    repeat first | refine LOps.nil ?_ | refine LCode.seq ?_ | refine LCode.region ?_ | refine QThen.normal ?_ | refine LOps.pure (Pure.mv (lv := .atom _) rfl) rfl ?_ | refine LOps.pure (Pure.fieldH rfl) rfl ?_ | refine LOps.step (S.store (cs' := [_, _]) rfl (Pick.there Pick.here) rfl rfl rfl rfl rfl ?_) rfl
    refine LOps.step (S.callQ [_, _] rfl (Pick.there Pick.here) hI7 (fun r1 h1 => qleave_spec rb T 0 i3 op3 ln3 er3 [93] hl hT.pos hw3 r1 h1) fun u4 i4 op4 ln4 er4 hw4 hal4 hI8 => ?_) rfl
    repeat first | refine LOps.nil ?_ | refine LCode.seq ?_ | refine LCode.region ?_ | refine QThen.normal ?_ | refine LOps.pure (Pure.mv (lv := .atom _) rfl) rfl ?_
    refine LOps.step (S.callQ [_, _] rfl Pick.here hI8 (fun r1 h1 => qwant_spec rb T 0 i4 op4 ln4 er4 [59] hl hT.pos hw4 r1 h1) fun u5 i5 op5 ln5 er5 hw5 hal5 hI9 => ?_) rfl
    repeat first | refine LOps.nil ?_ | refine LCode.region ?_ | refine QThen.normal ?_ | refine LOps.pure (Pure.fieldH rfl) rfl ?_
    refine LOps.pure (Pure.loadH (c := v2) rfl (List.Mem.tail _ (List.Mem.tail _ (List.Mem.head _))) rfl) rfl ?_
    repeat first | refine LOps.pure (Pure.ldHAgg (cs' := [_, _]) rfl (List.Mem.tail _ (List.Mem.head _)) rfl rfl) rfl ?_
    refine LOps.step (S.lit (es := [encAr ⟨nm, n⟩]) [_] rfl (elemsOk.cons rfl rfl elemsOk.nil) rfl rfl rfl ?_) rfl
    refine LOps.weak (H' := rdH rb T i5 op5 ln5 er5 :: (b9, .cells 27 [v1, v2, v3]) :: (b2, .cells 27 [nilSlice, nilSlice, nilSlice]) :: (H1 ++ (H2 ++ H3))) (HSub.pick Pick.here (HSub.drop (HSub.refl _))) ?_
    refine LOps.step (S.accF permA rfl ha2 rfl (by simp; rfl) rfl (by simp; omega) fun v' H' ha' => ?_) rfl
    repeat first | refine LOps.pure (Pure.fieldH rfl) rfl ?_
    refine LOps.step (S.store (cs' := [v1, v', v3]) rfl (Pick.there Pick.here) (Acc.cell ha').1 rfl rfl (Acc.cell ha').2 rfl ?_) rfl
    repeat first | refine LOps.nil ?_ | refine QThen.normal ?_ | refine QBlock.normal ?_
    obtain ⟨a', b', hA', hB', hst⟩ := prog_in hI9
    exact ⟨_, _, _, hms a' b' hA' hB', ⟨a', b', [], ⟨p.vars ++ acc, p.arrays ++ [⟨nm, n⟩], p.funcs⟩, v1, v', v3, i5, op5, ln5, er5, H1, H', H3, by omega, by omega, rfl, rfl, rfl, by simpa using ha1, by rw [List.map_append]; exact ha', ha3, hw5, by simpa using hvl, fun h5 => by
     obtain ⟨h4, g5⟩ := hal5 h5
     obtain ⟨h3, g4⟩ := hal4 h4
     obtain ⟨h2, g3⟩ := hal3 h3
     obtain ⟨h1, g2⟩ := hal2 h2
     obtain ⟨_, g1⟩ := hal1 h1
     have := le_need g5
     have := le_end g4
     have := le_num g3
     have := le_begin g2
     have := le_word g1
     simp at hva ⊢
     omega, by simp; omega, by simp; omega, hst⟩, ⟨rfl, rfl, rfl, rfl, rfl, rfl, trivial⟩, hsubA, hj⟩
   rw [andz] at hq
   rw [if_neg (by rw [hq]; decide)] at hI3
   repeat first | refine LCode.seq ?_ | refine LCode.region ?_ | refine LOps.pure (Pure.mv (lv := .atom _) rfl) rfl ?_
   refine LOps.step (S.fnH [_, _] rfl Pick.here (qnext_spec rb T i _ 0 0 kwFunc hl) ?_) rfl
   repeat first | refine LOps.nil ?_ | refine QThen.normal ?_ | refine LOps.pure (Pure.as (lv := .atom _) rfl) rfl ?_
   refine LCode.cond rfl (fun hf => ?_) (fun hf => ?_)
   ·rw [andz] at hf
    rw [if_pos hf] at hI3
    have hI4 : stO 0 i 0 0 (fun i o => obind (sFunc T b1 (i + 1) o) fun fn i o => sProg T b1 ⟨p.vars ++ acc, p.arrays, p.funcs ++ [fn]⟩ i o) = some r := hI3
    refine LCode.draw (m := 8) rfl [] ?_
    refine LAny.tk 0 rfl rfl (Pure.fieldH rfl) ?_
    refine LAny.tk 2 rfl rfl (Pure.mv (lv := .atom _) rfl) ?_
    refine LAny.late ?_ (HSub.nil _)
    refine LLate.two (i := 1) (j := 3) (by kernel_rfl) ?_ ?_
    ·refine LLateOp.pureH rfl rfl (Pure.loadH (c := v3) rfl (List.Mem.tail _ (List.Mem.head _)) rfl) ?_
     refine LLate.o 3 (LLateOp.whole rfl (.inl rfl) rfl (S.callQ (op := ((0 : Nat) : Int)) [_] rfl Pick.here hI4 (fun r1 h1 => qfunc_spec rb T hT b1 0 i hlt (by omega) r1 h1) fun fn i5 op5 ln5 er5 hw5 hal5 hI5 => ?_))
     refine LLate.o 4 (LLateOp.whole rfl (.inl rfl) rfl (S.lit [_] rfl (elemsOk.cons rfl rfl elemsOk.nil) rfl rfl rfl ?_))
     refine LLate.o 5 (LLateOp.whole rfl (.inl rfl) rfl (S.accF permF rfl ha3 rfl (by simp; rfl) rfl (by simp; omega) fun v' H' ha' => ?_))
     refine LLate.o 6 (LLateOp.pureH rfl rfl (Pure.fieldH rfl) ?_)
     refine LLate.o 7 (LLateOp.whole rfl (.inl rfl) rfl (S.store (cs' := [v1, v2, v']) rfl (Pick.there Pick.here) (Acc.cell ha').1 rfl rfl (Acc.cell ha').2 rfl ?_))
     refine LLate.done (by kernel_rfl) ?_
     repeat first | refine QThen.normal ?_ | refine QBlock.normal ?_
     obtain ⟨a', b', hA', hB', hst⟩ := prog_in hI5
     exact ⟨_, _, _, hms a' b' hA' hB', ⟨a', b', [], ⟨p.vars ++ acc, p.arrays, p.funcs ++ [fn]⟩, v1, v2, v', i5, op5, ln5, er5, H1, H2, H', by omega, by omega, rfl, rfl, rfl, by simpa using ha1, ha2, by rw [List.map_append]; exact ha', hw5, by simpa using hvl, fun h5 => by
      obtain ⟨_, g5⟩ := hal5 h5
      obtain ⟨g6, _⟩ := sFunc_good T b1 (i + 1) 0 _ g5
      simp at hva ⊢
      omega, by simp; omega, by simp; omega, hst⟩, ⟨rfl, rfl, rfl, rfl, rfl, rfl, trivial⟩, hsubF, hj⟩
    ·refine LLateOp.whole rfl (.inl rfl) rfl (S.callQ (op := ((0 : Nat) : Int)) [_] rfl Pick.here hI4 (fun r1 h1 => qfunc_spec rb T hT b1 0 i hlt (by omega) r1 h1) fun fn i5 op5 ln5 er5 hw5 hal5 hI5 => ?_)
     refine LLate.two (i := 1) (j := 4) (by kernel_rfl) ?_ ?_
     ·refine LLateOp.pureH rfl rfl (Pure.loadH (c := v3) rfl (List.Mem.tail _ (List.Mem.head _)) rfl) ?_
      refine LLate.o 4 (LLateOp.whole rfl (.inl rfl) rfl (S.lit [_] rfl (elemsOk.cons rfl rfl elemsOk.nil) rfl rfl rfl ?_))
      refine LLate.o 5 (LLateOp.whole rfl (.inl rfl) rfl (S.accF permF rfl ha3 rfl (by simp; rfl) rfl (by simp; omega) fun v' H' ha' => ?_))
      refine LLate.o 6 (LLateOp.pureH rfl rfl (Pure.fieldH rfl) ?_)
      refine LLate.o 7 (LLateOp.whole rfl (.inl rfl) rfl (S.store (cs' := [v1, v2, v']) rfl (Pick.there Pick.here) (Acc.cell ha').1 rfl rfl (Acc.cell ha').2 rfl ?_))
      refine LLate.done (by kernel_rfl) ?_
      repeat first | refine QThen.normal ?_ | refine QBlock.normal ?_
      obtain ⟨a', b', hA', hB', hst⟩ := prog_in hI5
      exact ⟨_, _, _, hms a' b' hA' hB', ⟨a', b', [], ⟨p.vars ++ acc, p.arrays, p.funcs ++ [fn]⟩, v1, v2, v', i5, op5, ln5, er5, H1, H2, H', by omega, by omega, rfl, rfl, rfl, by simpa using ha1, ha2, by rw [List.map_append]; exact ha', hw5, by simpa using hvl, fun h5 => by
       obtain ⟨_, g5⟩ := hal5 h5
       obtain ⟨g6, _⟩ := sFunc_good T b1 (i + 1) 0 _ g5
       simp at hva ⊢
       omega, by simp; omega, by simp; omega, hst⟩, ⟨rfl, rfl, rfl, rfl, rfl, rfl, trivial⟩, hsubF, hj⟩
     ·refine LLateOp.whole rfl (.inl rfl) rfl (S.lit [_] rfl (elemsOk.cons rfl rfl elemsOk.nil) rfl rfl rfl ?_)
      refine LLate.o 1 (LLateOp.pureH rfl rfl (Pure.loadH (c := v3) rfl (List.Mem.tail _ (List.Mem.head _)) rfl) ?_)
      refine LLate.o 5 (LLateOp.whole rfl (.inl rfl) rfl (S.accF permF rfl ha3 rfl (by simp; rfl) rfl (by simp; omega) fun v' H' ha' => ?_))
      refine LLate.o 6 (LLateOp.pureH rfl rfl (Pure.fieldH rfl) ?_)
      refine LLate.o 7 (LLateOp.whole rfl (.inl rfl) rfl (S.store (cs' := [v1, v2, v']) rfl (Pick.there Pick.here) (Acc.cell ha').1 rfl rfl (Acc.cell ha').2 rfl ?_))
      refine LLate.done (by kernel_rfl) ?_
      repeat first | refine QThen.normal ?_ | refine QBlock.normal ?_
      obtain ⟨a', b', hA', hB', hst⟩ := prog_in hI5
      exact ⟨_, _, _, hms a' b' hA' hB', ⟨a', b', [], ⟨p.vars ++ acc, p.arrays, p.funcs ++ [fn]⟩, v1, v2, v', i5, op5, ln5, er5, H1, H2, H', by omega, by omega, rfl, rfl, rfl, by simpa using ha1, ha2, by rw [List.map_append]; exact ha', hw5, by simpa using hvl, fun h5 => by
       obtain ⟨_, g5⟩ := hal5 h5
       obtain ⟨g6, _⟩ := sFunc_good T b1 (i + 1) 0 _ g5
       simp at hva ⊢
       omega, by simp; omega, by simp; omega, hst⟩, ⟨rfl, rfl, rfl, rfl, rfl, rfl, trivial⟩, hsubF, hj⟩
   rw [andz] at hf
   rw [if_neg (by rw [hf]; decide)] at hI3
   repeat first | refine LCode.region ?_ | refine LOps.pure (Pure.mv (lv := .atom _) rfl) rfl ?_
   refine LOps.step (S.fnH [_, _] rfl Pick.here (qfail_alive rb T i _ 3 hl hT.pos (by omega)) ?_) rfl
   repeat first | refine LOps.nil ?_ | refine QThen.normal ?_ | refine QBlock.normal ?_
   exact ⟨_, _, _, hms 0 0 (Nat.zero_le _) (Nat.zero_le _), ⟨0, 0, acc, p, v1, v2, v3, i, _, _, 3, H1, H2, H3, Nat.zero_le _, Nat.zero_le _, rfl, rfl, rfl, ha1, ha2, ha3, wf_dead (by decide), hvl, fun h => absurd h (by decide), by omega, by omega, (stO_dead (by decide)).trans hI3⟩, ⟨rfl, rfl, rfl, rfl, rfl, rfl, trivial⟩, HSub.refl _, hj⟩
  ·have hge : T.length ≤ i := by have := of_decide_eq_false hc; omega
   have hI3 := pst_end (by rw [tok_none hge]; rfl) hI
   rw [stO_ok] at hI3
   obtain ⟨b1, rfl⟩ : ∃ g, b = g + 1 := by
    cases b with
    | zero => rw [sProg] at hI3; cases hI3
    | succ g => exact ⟨g, rfl⟩
   rw [sProg, if_pos hge] at hI3
   cases hI3
   refine LCode.cellSub (Pick.there Pick.here) (cs' := [.list ((p.vars ++ acc).map str), .list (p.arrays.map encAr), .list (p.funcs.map encFn)]) ⟨ha1.sub, ha2.sub, ha3.sub, trivial⟩ ?_
   repeat first | refine LOps.nil ?_ | refine LCode.seq ?_ | refine LCode.region ?_ | refine LCode.exit ?_ | refine QThen.normal ?_ | refine QThen.exit ?_ | refine QBlock.hit ?_ | refine LOps.pure (Pure.mv (lv := .atom _) rfl) rfl ?_ | refine LOps.pure (Pure.neq rfl rfl) rfl ?_ | refine LOps.pure (Pure.nilCheckH rfl) rfl ?_ | refine LOps.pure (Pure.fieldH rfl) rfl ?_ | refine LOps.pure (Pure.loadH (c := .atom _) rfl (List.Mem.tail _ (List.Mem.head _)) rfl) rfl ?_
   refine LCode.cond rfl (fun h2 => ?_) (fun h2 => ?_)
   ·cases h2
   repeat first | refine LOps.nil ?_ | refine LCode.seq ?_ | refine LCode.region ?_ | refine LCode.skip ?_ | refine LCode.ret ?_ | refine QThen.normal ?_ | refine LOps.pure (Pure.as (lv := .atom _) rfl) rfl ?_ | refine LOps.pure (Pure.ldHAgg (cs' := [_, _, _]) rfl (List.Mem.head _) rfl rfl) rfl ?_ | refine LOps.step (S.store (cs' := [_, _, _]) rfl (Pick.there (Pick.there Pick.here)) rfl rfl rfl rfl rfl ?_) rfl
   exact retRet hj (AllRes.cons (ResIs.cellAgg rfl (List.Mem.head _) rfl (LV.Sub.refl _)) (AllRes.cons (ResIs.tmp (v := .atom _) rfl (LV.Sub.refl _)) (AllRes.cons (ResIs.tmp (v := .atom _) rfl (LV.Sub.refl _)) AllRes.nil))) rfl
end
end Go.Proofs.YtfodkbchknknjaaGreatDoor
namespace Go.Proofs.YtfodkbchknknjaaGreatDoor
open Go.GL Go.RowKit Go.Stele
set_option maxRecDepth 100000
set_option maxHeartbeats 4000000
theorem Pure.beqT {C : Ctx} {e : Env} {H : Heap} {dst : Option Nat} {ty : TypeId} {pos : String} {aft : Array Edge} {g : Option (Nat × Bool)} {xT yT : TypeId} {x y : Operand} {a : Bool} (hu : C.P.underlying xT = some .bool) (hx : e.ev x = bool a) (hy : e.ev y = bool a) :
  Go.GL.Pure C ⟨dst, .binOp .eql xT x y yT, ty, pos, aft, g⟩ e H (bool true) := .of_any fun ρ w L h => ⟨_, rep_atom, fun w' => by
 have he : eqGuard .eql xT x y (.bool a) (.bool a) = Pure.pure () := rfl
 have hd : ∀ d, (Op.equalIn (d + 1) xT (.bool a) (.bool a)).run C.P w' = .ok true w' := fun d => by simp [Op.equalIn, run_underlying' hu]
 have hq : (Op.equal xT (.bool a) (.bool a)).run C.P w' = .ok true w' := hd 9999
 have hb : binOp .eql xT (.bool a) (.bool a) = (do Pure.pure (.bool (← Op.equal xT (.bool a) (.bool a)))) := rfl
 simp only [execOp, atom_of h hx, atom_of h hy, he, hb, Sem.run_bind, Sem.run_pure, Result.andThen_ok, hq]⟩
theorem Pure.seqT {C : Ctx} {e : Env} {H : Heap} {dst : Option Nat} {ty : TypeId} {pos : String} {aft : Array Edge} {g : Option (Nat × Bool)} {xT yT : TypeId} {x y : Operand} {l : List UInt8} (hx : e.ev x = str l) (hy : e.ev y = str l) :
  Go.GL.Pure C ⟨dst, .binOp .eql xT x y yT, ty, pos, aft, g⟩ e H (bool true) := by
 have := Go.GL.Pure.seq (C := C) (H := H) (dst := dst) (ty := ty) (pos := pos) (aft := aft) (g := g) (xT := xT) (yT := yT) hx hy
 rwa [decide_eq_true rfl] at this
attribute [local irreducible] LOps LCode LStep LCalls Go.GL.Pure QThen QBlock RetPost LQ LAny LLate LLateOp
section
variable {B0 : Nat} {w0 : World}
theorem format_law (hG : GW B0 w0) (a b : List UInt8) : LCalls (KC B0 w0) 9 [str a, str b] [] (Ret (bool true)) := by
 refine LCalls.intro Tryz.func9 rfl (n := 52) rfl rfl rfl ?_
 repeat first | refine LOps.nil ?_ | refine LCode.seq ?_ | refine LCode.region ?_ | refine QThen.normal ?_ | refine LOps.pure (Pure.as (lv := .atom _) rfl) rfl ?_
 refine LOps.step (S.fn [] rfl (alive_spec hG) ?_) rfl
 repeat first | refine LOps.nil ?_ | refine QThen.normal ?_ | refine LOps.pure (Pure.not rfl) rfl ?_
 refine LCode.cond rfl (fun h0 => ?_) (fun h0 => ?_)
 ·cases h0
 repeat first | refine LCode.seq ?_ | refine LCode.region ?_ | refine LCode.skip ?_ | refine QThen.normal ?_ | refine LOps.pure (Pure.mv (lv := .atom _) rfl) rfl ?_ | refine LOps.pure (Pure.slen rfl) rfl ?_ | refine LOps.pure (Pure.gtr rfl rfl) rfl ?_
 refine LOps.bcase 16 rfl (fun h1 => ?_) (fun h1 => ?_)
 ·repeat first | refine LOps.nil ?_ | refine QThen.normal ?_ | refine LOps.pure (Pure.pickT (lv := .atom _) rfl rfl) rfl ?_ | refine LOps.skip rfl rfl rfl rfl ?_
  refine LCode.cond rfl (fun h2 => ?_) (fun h2 => ?_)
  ·repeat first | refine LOps.nil ?_ | refine LCode.seq ?_ | refine LCode.region ?_ | refine LCode.ret ?_ | refine QThen.normal ?_ | refine QThen.ret ?_ | refine LOps.pure (Pure.as (lv := .atom _) rfl) rfl ?_
   exact retRet rfl (AllRes.cons (ResIs.tmp (v := .atom _) rfl (LV.Sub.refl _)) AllRes.nil) rfl
  ·cases h2
 repeat first | refine LOps.nil ?_ | refine QThen.normal ?_ | refine LOps.pure (Pure.mv (lv := .atom _) rfl) rfl ?_ | refine LOps.pure (Pure.slen rfl) rfl ?_ | refine LOps.pure (Pure.gtr rfl rfl) rfl ?_ | refine LOps.pure (Pure.pickF (lv := .atom _) rfl rfl) rfl ?_ | refine LOps.want rfl rfl ?_
 refine LCode.cond rfl (fun h2 => ?_) (fun h2 => ?_)
 ·repeat first | refine LOps.nil ?_ | refine LCode.seq ?_ | refine LCode.region ?_ | refine LCode.ret ?_ | refine QThen.normal ?_ | refine QThen.ret ?_ | refine LOps.pure (Pure.as (lv := .atom _) rfl) rfl ?_
  exact retRet rfl (AllRes.cons (ResIs.tmp (v := .atom _) rfl (LV.Sub.refl _)) AllRes.nil) rfl
 have hla : a.length ≤ 1500 := by have := of_decide_eq_false h1; omega
 have hlb : b.length ≤ 1500 := by have := of_decide_eq_false h2; omega
 have hp := rparse_spec (B0 := B0) (w0 := w0) a (by omega)
 have hq := rparse_spec (B0 := B0) (w0 := w0) b (by omega)
 have hpo := parseP_ok a
 have hqo := parseP_ok b
 obtain ⟨ts, hpp, hts, _⟩ := parse_print hla
 generalize parseP a = r at hp hpo hpp
 generalize parseP b = r' at hq hqo
 obtain ⟨p, l, e⟩ := r
 obtain ⟨q, l', e'⟩ := r'
 simp only at hpo hpp hqo
 have hfo := fmt_ok hpp hts hpo.size
 have f1 := Format_spec hG p hfo
 have f2 := rFormat_spec (B0 := B0) (w0 := w0) p ts hpp hts hfo
 have e1 := pequal_spec (B0 := B0) (w0 := w0) p q hpo hqo
 have e2 := equal_spec (B0 := B0) (w0 := w0) p q hpo hqo
 have e3 := pequal_spec (B0 := B0) (w0 := w0) p p hpo hpo
 rw [(eqPr_iff p p).2 rfl] at e3
 generalize eqPr p q = pq at e1 e2
 repeat first | refine LCode.seq ?_ | refine LCode.region ?_ | refine LCode.skip ?_ | refine QThen.normal ?_ | refine LOps.pure (Pure.mv (lv := .atom _) rfl) rfl ?_
 refine LOps.step (S.fn [_] rfl hp ?_) rfl
 refine LOps.pure (Pure.mv rfl) rfl ?_
 refine LOps.pure (Pure.extract (vs := [encPr p, int .i64 l, int .i64 e]) rfl rfl) rfl ?_
 refine LOps.pure (Pure.extract (vs := [encPr p, int .i64 l, int .i64 e]) rfl rfl) rfl ?_
 refine LOps.pure (Pure.extract (vs := [encPr p, int .i64 l, int .i64 e]) rfl rfl) rfl ?_
 refine LOps.step (S.alloc fun b5 => ?_) rfl
 repeat first | refine LOps.nil ?_ | refine LCode.seq ?_ | refine LCode.region ?_ | refine QThen.normal ?_ | refine LOps.pure (Pure.as (lv := .atom _) rfl) rfl ?_ | refine LOps.pure (Pure.mv (lv := .atom _) rfl) rfl ?_ | refine LOps.step (S.store (cs' := [_, _, _]) rfl Pick.here rfl rfl rfl rfl rfl ?_) rfl
 refine LOps.step (S.fn [_] rfl hq ?_) rfl
 refine LOps.pure (Pure.mv rfl) rfl ?_
 refine LOps.pure (Pure.extract (vs := [encPr q, int .i64 l', int .i64 e']) rfl rfl) rfl ?_
 refine LOps.pure (Pure.extract (vs := [encPr q, int .i64 l', int .i64 e']) rfl rfl) rfl ?_
 refine LOps.pure (Pure.extract (vs := [encPr q, int .i64 l', int .i64 e']) rfl rfl) rfl ?_
 refine LOps.step (S.alloc fun b8 => ?_) rfl
 repeat first | refine LOps.nil ?_ | refine LCode.seq ?_ | refine QThen.normal ?_ | refine LOps.pure (Pure.as (lv := .atom _) rfl) rfl ?_ | refine LOps.step (S.store (cs' := [_, _, _]) rfl Pick.here rfl rfl rfl rfl rfl ?_) rfl
 refine LCode.draw (m := 20) rfl [(b8, .cells 27 [.list (q.vars.map str), .list (q.arrays.map encAr), .list (q.funcs.map encFn)]), (b5, .cells 27 [.list (p.vars.map str), .list (p.arrays.map encAr), .list (p.funcs.map encFn)])] ?_
 refine LAny.tk 0 rfl rfl (Pure.ldHAgg (cs' := [_, _, _]) rfl (List.Mem.tail _ (List.Mem.head _)) rfl rfl) ?_
 refine LAny.tk 2 rfl rfl (Pure.ldHAgg (cs' := [_, _, _]) rfl (List.Mem.tail _ (List.Mem.head _)) rfl rfl) ?_
 refine LAny.late ?_ (HSub.refl _)
 refine LLate.o 1 (LLateOp.step (H1 := []) rfl (.inl rfl) rfl (List.Perm.refl _) (HSub.refl _) (S.fn [_] rfl f1 ?_))
 refine LLate.o 3 (LLateOp.step (H1 := []) rfl (.inl rfl) rfl (List.Perm.refl _) (HSub.refl _) (S.fn [_] rfl f2 ?_))
 refine LLate.any [(b8, .cells 27 [.list (q.vars.map str), .list (q.arrays.map encAr), .list (q.funcs.map encFn)]), (b5, .cells 27 [.list (p.vars.map str), .list (p.arrays.map encAr), .list (p.funcs.map encFn)])] (fun _ h => h) ?_
 refine LAny.take (i := 4) (HSub.refl _) rfl (by kernel_rfl) (by kernel_rfl) (by kernel_rfl) rfl (Pure.seqT rfl rfl) ?_
 refine LAny.tk 5 rfl rfl (Pure.mv (lv := .atom _) rfl) ?_
 refine LAny.tkW 6 rfl rfl rfl rfl (Pure.ldHAgg (cs' := [_, _, _]) rfl (List.Mem.tail _ (List.Mem.head _)) rfl rfl) ?_
 refine LAny.tkW 7 rfl rfl rfl rfl (Pure.ldHAgg (cs' := [_, _, _]) rfl (List.Mem.head _) rfl rfl) ?_
 refine LAny.tkW 9 rfl rfl rfl rfl (Pure.ldHAgg (cs' := [_, _, _]) rfl (List.Mem.tail _ (List.Mem.head _)) rfl rfl) ?_
 refine LAny.tkW 10 rfl rfl rfl rfl (Pure.ldHAgg (cs' := [_, _, _]) rfl (List.Mem.head _) rfl rfl) ?_
 refine LAny.late ?_ (HSub.refl _)
 refine LLate.o 8 (LLateOp.step (H1 := []) rfl (.inr ⟨_, _, _, rfl, rfl, rfl⟩) rfl (List.Perm.refl _) (HSub.refl _) (S.fn [_, _] rfl e1 ?_))
 refine LLate.o 11 (LLateOp.step (H1 := []) rfl (.inr ⟨_, _, _, rfl, rfl, rfl⟩) rfl (List.Perm.refl _) (HSub.refl _) (S.fn [_, _] rfl e2 ?_))
 refine LLate.any [(b8, .cells 27 [.list (q.vars.map str), .list (q.arrays.map encAr), .list (q.funcs.map encFn)]), (b5, .cells 27 [.list (p.vars.map str), .list (p.arrays.map encAr), .list (p.funcs.map encFn)])] (fun _ h => h) ?_
 refine LAny.takeWant (i := 12) (HSub.refl _) rfl rfl rfl (by kernel_rfl) (by kernel_rfl) (by kernel_rfl) rfl (Pure.beqT (by kernel_rfl) rfl rfl) ?_
 refine LAny.tk 13 rfl rfl (Pure.pickT (lv := .atom _) rfl rfl) ?_
 refine LAny.tk 14 rfl rfl (Pure.mv (lv := .atom _) rfl) ?_
 refine LAny.tkW 15 rfl rfl rfl rfl (Pure.ldHAgg (cs' := [_, _, _]) rfl (List.Mem.tail _ (List.Mem.head _)) rfl rfl) ?_
 refine LAny.tkW 16 rfl rfl rfl rfl (Pure.ldHAgg (cs' := [_, _, _]) rfl (List.Mem.tail _ (List.Mem.head _)) rfl rfl) ?_
 refine LAny.late ?_ (HSub.refl _)
 refine LLate.o 17 (LLateOp.step (H1 := []) rfl (.inr ⟨_, _, _, rfl, rfl, rfl⟩) rfl (List.Perm.refl _) (HSub.refl _) (S.fn [_, _] rfl e3 ?_))
 refine LLate.any [(b8, .cells 27 [.list (q.vars.map str), .list (q.arrays.map encAr), .list (q.funcs.map encFn)]), (b5, .cells 27 [.list (p.vars.map str), .list (p.arrays.map encAr), .list (p.funcs.map encFn)])] (fun _ h => h) ?_
 refine LAny.tk 18 rfl rfl (Pure.pickT (lv := .atom _) rfl rfl) ?_
 refine LAny.tk 19 rfl rfl (Pure.as (lv := .atom _) rfl) ?_
 refine LAny.late ?_ (HSub.refl _)
 refine LLate.done (by kernel_rfl) ?_
 repeat first | refine LCode.ret ?_ | refine QThen.normal ?_
 exact retRet rfl (AllRes.cons (ResIs.tmp (v := .atom _) rfl (LV.Sub.refl _)) AllRes.nil) rfl
end
end Go.Proofs.YtfodkbchknknjaaGreatDoor
