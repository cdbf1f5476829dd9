/- Texts joined: PtC, PtD, PtE, PtF, PtG, PtH, PtI, PtJ, PtK, PtL. -/
import Derived.Test.YtdakelgkjdaijaaGreatDoorBRowP23
import Derived.Test.YtdakelgkjdaijaaGreatDoorBRowP25
set_option linter.unusedVariables false
set_option linter.unusedSimpArgs false
namespace Go.Proofs.YtdakelgkjdaijaaGreatDoor.Pp
open Go.GL Go.RowKit Go.Stele
open Go.Proofs.YtdakelgkjdaijaaGreatDoor.Asm (OptLV OptLV.mk ite_some)
set_option maxRecDepth 100000
set_option maxHeartbeats 4000000
theorem xor32 {a b : Nat} (ha : a < 4294967296) (hb : b < 4294967296) : IntKind.u32.wrap (((BitVec.ofInt IntKind.u32.bits (a : Int) ^^^ BitVec.ofInt IntKind.u32.bits (b : Int)).toNat : Nat) : Int) = ((a ^^^ b : Nat) : Int) := by
 have h1 : (BitVec.ofInt 32 (a : Int) ^^^ BitVec.ofInt 32 (b : Int)).toNat = a ^^^ b := by
  rw [BitVec.ofInt_natCast, BitVec.ofInt_natCast, BitVec.toNat_xor, BitVec.toNat_ofNat, BitVec.toNat_ofNat, Nat.mod_eq_of_lt ha, Nat.mod_eq_of_lt hb]
 have h2 : a ^^^ b < 4294967296 := Nat.xor_lt_two_pow (n := 32) ha hb
 show IntKind.u32.wrap (((BitVec.ofInt 32 (a : Int) ^^^ BitVec.ofInt 32 (b : Int)).toNat : Nat) : Int) = _
 rw [h1, wrapU32 (by omega)]
theorem wadd (a b : Nat) : IntKind.u32.wrap ((a : Int) + b) = (((a + b) % 4294967296 : Nat) : Int) := by
 rw [wrapU32m]
 omega
theorem wsub {a b : Nat} (hb : b < 4294967296) : IntKind.u32.wrap ((a : Int) - b) = (((a + 4294967296 - b) % 4294967296 : Nat) : Int) := by
 rw [wrapU32m]
 omega
theorem wmul (a b : Nat) : IntKind.u32.wrap ((a : Int) * b) = ((a * b % 4294967296 : Nat) : Int) := by
 rw [wrapU32m, Int.natCast_emod, Int.natCast_mul]
 rfl
theorem resT {n : Int} {m : Nat} {o : Option Nat} (ho : o = some m) (h : n = (m : Int)) : resLV [int .u32 n, bool true] = LV.tuple [int .u32 ((o.getD 0 : Nat) : Int), bool o.isSome] := by
 subst h
 subst ho
 rfl
attribute [local irreducible] LOps LCode LStep LCalls Go.GL.Pure QThen QBlock RetPost LQ LAny LLate LLateOp
section
variable {B0 : Nat} {w0 : World}
theorem compute_spec (a b : Nat) (op : Wd) (ha : a < 4294967296) (hb : b < 4294967296) : LCalls (KC B0 w0) 148 [int .u32 a, str op, int .u32 b] [] (Ret (.tuple [int .u32 ((compW a op b).getD 0 : Nat), bool (compW a op b).isSome])) := by
 have hC : compW a op b = compW a op b := rfl
 conv at hC => rhs; unfold compW
 refine LCalls.intro Tryz.func148 rfl (n := 47) rfl rfl rfl ?_
 repeat first | refine LOps.nil ?_ | refine LCode.seq ?_ | refine LCode.region ?_ | refine LCode.block ?_ | refine QThen.normal ?_ | refine LOps.pure (Pure.as (lv := .atom _) rfl) rfl ?_ | refine LOps.pure (Pure.mv (lv := .atom _) rfl) rfl ?_ | refine LOps.pure (Pure.seq rfl rfl) rfl ?_
 refine LCode.cond rfl (fun h1 => ?_) (fun h1 => ?_)
 ·rw [if_pos (of_decide_eq_true h1)] at hC
  repeat first | refine LCode.seq ?_ | refine LCode.region ?_ | refine LOps.pure (Pure.mv (lv := .atom _) rfl) rfl ?_
  refine LOps.pure (Pure.addW rfl rfl) rfl ?_
  repeat first | refine LOps.nil ?_ | refine LCode.ret ?_ | refine QThen.normal ?_ | refine QThen.ret ?_ | refine QBlock.ret ?_ | refine LOps.pure (Pure.as (lv := .atom _) rfl) rfl ?_
  exact retRet rfl (AllRes.cons (ResIs.tmp (v := .atom _) rfl (LV.Sub.refl _)) (AllRes.cons (ResIs.tmp (v := .atom _) rfl (LV.Sub.refl _)) AllRes.nil)) (resT hC (wadd a b))
 rw [if_neg (of_decide_eq_false h1)] at hC
 repeat first | refine LOps.nil ?_ | refine LCode.seq ?_ | refine LCode.region ?_ | refine QThen.normal ?_ | refine LOps.pure (Pure.as (lv := .atom _) rfl) rfl ?_ | refine LOps.pure (Pure.seq rfl rfl) rfl ?_
 refine LCode.cond rfl (fun h2 => ?_) (fun h2 => ?_)
 ·rw [if_pos (of_decide_eq_true h2)] at hC
  repeat first | refine LCode.seq ?_ | refine LCode.region ?_ | refine LOps.pure (Pure.mv (lv := .atom _) rfl) rfl ?_
  refine LOps.pure (Pure.subW rfl rfl) rfl ?_
  repeat first | refine LOps.nil ?_ | refine LCode.ret ?_ | refine QThen.normal ?_ | refine QThen.ret ?_ | refine QBlock.ret ?_ | refine LOps.pure (Pure.as (lv := .atom _) rfl) rfl ?_
  exact retRet rfl (AllRes.cons (ResIs.tmp (v := .atom _) rfl (LV.Sub.refl _)) (AllRes.cons (ResIs.tmp (v := .atom _) rfl (LV.Sub.refl _)) AllRes.nil)) (resT hC (wsub hb))
 rw [if_neg (of_decide_eq_false h2)] at hC
 repeat first | refine LOps.nil ?_ | refine LCode.seq ?_ | refine LCode.region ?_ | refine QThen.normal ?_ | refine LOps.pure (Pure.as (lv := .atom _) rfl) rfl ?_ | refine LOps.pure (Pure.seq rfl rfl) rfl ?_
 refine LCode.cond rfl (fun h3 => ?_) (fun h3 => ?_)
 ·rw [if_pos (of_decide_eq_true h3)] at hC
  repeat first | refine LCode.seq ?_ | refine LCode.region ?_ | refine LOps.pure (Pure.mv (lv := .atom _) rfl) rfl ?_
  refine LOps.pure (Pure.mulW rfl rfl) rfl ?_
  repeat first | refine LOps.nil ?_ | refine LCode.ret ?_ | refine QThen.normal ?_ | refine QThen.ret ?_ | refine QBlock.ret ?_ | refine LOps.pure (Pure.as (lv := .atom _) rfl) rfl ?_
  exact retRet rfl (AllRes.cons (ResIs.tmp (v := .atom _) rfl (LV.Sub.refl _)) (AllRes.cons (ResIs.tmp (v := .atom _) rfl (LV.Sub.refl _)) AllRes.nil)) (resT hC (wmul a b))
 rw [if_neg (of_decide_eq_false h3)] at hC
 repeat first | refine LOps.nil ?_ | refine LCode.seq ?_ | refine LCode.region ?_ | refine QThen.normal ?_ | refine LOps.pure (Pure.as (lv := .atom _) rfl) rfl ?_ | refine LOps.pure (Pure.seq rfl rfl) rfl ?_
 refine LCode.cond rfl (fun h4 => ?_) (fun h4 => ?_)
 ·rw [if_pos (of_decide_eq_true h4)] at hC
  repeat first | refine LCode.seq ?_ | refine LCode.region ?_ | refine LOps.pure (Pure.mv (lv := .atom _) rfl) rfl ?_
  refine LOps.pure (Pure.xorW rfl rfl) rfl ?_
  repeat first | refine LOps.nil ?_ | refine LCode.ret ?_ | refine QThen.normal ?_ | refine QThen.ret ?_ | refine QBlock.ret ?_ | refine LOps.pure (Pure.as (lv := .atom _) rfl) rfl ?_
  exact retRet rfl (AllRes.cons (ResIs.tmp (v := .atom _) rfl (LV.Sub.refl _)) (AllRes.cons (ResIs.tmp (v := .atom _) rfl (LV.Sub.refl _)) AllRes.nil)) (resT hC (xor32 ha hb))
 rw [if_neg (of_decide_eq_false h4)] at hC
 repeat first | refine LOps.nil ?_ | refine LCode.seq ?_ | refine LCode.region ?_ | refine QThen.normal ?_ | refine LOps.pure (Pure.as (lv := .atom _) rfl) rfl ?_ | refine LOps.pure (Pure.seq rfl rfl) rfl ?_
 refine LCode.cond rfl (fun h5 => ?_) (fun h5 => ?_)
 ·rw [if_pos (of_decide_eq_true h5)] at hC
  repeat first | refine LOps.nil ?_ | refine LCode.seq ?_ | refine LCode.region ?_ | refine QThen.normal ?_ | refine LOps.pure (Pure.mv (lv := .atom _) rfl) rfl ?_ | refine LOps.pure (Pure.lss rfl rfl) rfl ?_
  refine LCode.cond rfl (fun h6 => ?_) (fun h6 => ?_)
  ·have hlt : a < b := by have := of_decide_eq_true h6; omega
   repeat first | refine LOps.nil ?_ | refine LCode.seq ?_ | refine LCode.region ?_ | refine LCode.ret ?_ | refine QThen.normal ?_ | refine QThen.ret ?_ | refine QBlock.ret ?_ | refine LOps.pure (Pure.as (lv := .atom _) rfl) rfl ?_
   exact retRet rfl (AllRes.cons (ResIs.tmp (v := .atom _) rfl (LV.Sub.refl _)) (AllRes.cons (ResIs.tmp (v := .atom _) rfl (LV.Sub.refl _)) AllRes.nil)) (by rw [hC, if_pos hlt]; rfl)
  ·have hlt : ¬ a < b := by have := of_decide_eq_false h6; omega
   repeat first | refine LOps.nil ?_ | refine LCode.seq ?_ | refine LCode.region ?_ | refine LCode.skip ?_ | refine LCode.ret ?_ | refine QThen.normal ?_ | refine QThen.ret ?_ | refine QBlock.ret ?_ | refine LOps.pure (Pure.as (lv := .atom _) rfl) rfl ?_
   exact retRet rfl (AllRes.cons (ResIs.tmp (v := .atom _) rfl (LV.Sub.refl _)) (AllRes.cons (ResIs.tmp (v := .atom _) rfl (LV.Sub.refl _)) AllRes.nil)) (by rw [hC, if_neg hlt]; rfl)
 rw [if_neg (of_decide_eq_false h5)] at hC
 repeat first | refine LOps.nil ?_ | refine LCode.seq ?_ | refine LCode.region ?_ | refine QThen.normal ?_ | refine LOps.pure (Pure.as (lv := .atom _) rfl) rfl ?_ | refine LOps.pure (Pure.seq rfl rfl) rfl ?_
 refine LCode.cut [(0, int .u32 a), (1, str op), (2, int .u32 b), (34, bool (decide (op = [47] ∨ op = [37])))] ?_ (fun j hj => ?_)
 ·refine LCode.cond rfl (fun h6 => ?_) (fun h6 => ?_)
  ·repeat first | refine LCode.skip ?_ | refine QThen.normal ?_
   exact ⟨⟨rfl, rfl, rfl, bool_eq (by simp [of_decide_eq_true h6]), trivial⟩, rfl, rfl⟩
  ·repeat first | refine LOps.nil ?_ | refine LCode.region ?_ | refine QThen.normal ?_ | refine LOps.pure (Pure.as (lv := .atom _) rfl) rfl ?_ | refine LOps.pure (Pure.seq rfl rfl) rfl ?_
   exact ⟨⟨rfl, rfl, rfl, bool_eq (by simp [of_decide_eq_false h6]), trivial⟩, rfl, rfl⟩
 refine LCode.cond rfl (fun h6 => ?_) (fun h6 => ?_)
 ·have h6' : op = [47] ∨ op = [37] := of_decide_eq_true h6
  repeat first | refine LOps.nil ?_ | refine LCode.seq ?_ | refine LCode.region ?_ | refine QThen.normal ?_ | refine LOps.pure (Pure.mv (lv := .atom _) rfl) rfl ?_ | refine LOps.pure (Pure.eql rfl rfl) rfl ?_
  refine LCode.cond rfl (fun h7 => ?_) (fun h7 => ?_)
  ·have hb0 : b = 0 := by have := of_decide_eq_true h7; omega
   have hCn : compW a op b = none := by
    rw [hC]
    rcases h6' with h | h
    ·rw [if_pos h, if_pos hb0]
    ·rw [if_neg (by rw [h]; decide), if_pos h, if_pos hb0]
   repeat first | refine LOps.nil ?_ | refine LCode.seq ?_ | refine LCode.region ?_ | refine LCode.ret ?_ | refine QThen.normal ?_ | refine QThen.ret ?_ | refine QBlock.ret ?_ | refine LOps.pure (Pure.as (lv := .atom _) rfl) rfl ?_
   exact retRet hj (AllRes.cons (ResIs.tmp (v := .atom _) rfl (LV.Sub.refl _)) (AllRes.cons (ResIs.tmp (v := .atom _) rfl (LV.Sub.refl _)) AllRes.nil)) (by rw [hCn]; rfl)
  ·have hb0 : ¬ b = 0 := by have := of_decide_eq_false h7; omega
   repeat first | refine LOps.nil ?_ | refine LCode.seq ?_ | refine LCode.region ?_ | refine LCode.skip ?_ | refine QThen.normal ?_ | refine LOps.pure (Pure.mv (lv := .atom _) rfl) rfl ?_ | refine LOps.pure (Pure.seq rfl rfl) rfl ?_
   refine LCode.cond rfl (fun h8 => ?_) (fun h8 => ?_)
   ·rw [if_pos (of_decide_eq_true h8), if_neg hb0] at hC
    have hle : a / b ≤ a := Nat.div_le_self _ _
    have e1 : IntKind.u32.wrap ((a : Int).tdiv (b : Int)) = ((a / b : Nat) : Int) := by
     rw [Int.tdiv_eq_ediv_of_nonneg (by omega), ← Int.natCast_ediv]
     exact wrapU32 ⟨Int.natCast_nonneg _, Int.ofNat_le.2 (show a / b ≤ 4294967295 by omega)⟩
    repeat first | refine LCode.seq ?_ | refine LCode.region ?_ | refine LOps.pure (Pure.mv (lv := .atom _) rfl) rfl ?_
    refine LOps.pure (Pure.quoW rfl rfl (by omega)) rfl ?_
    repeat first | refine LOps.nil ?_ | refine LCode.ret ?_ | refine QThen.normal ?_ | refine QThen.ret ?_ | refine QBlock.ret ?_ | refine LOps.pure (Pure.as (lv := .atom _) rfl) rfl ?_
    exact retRet hj (AllRes.cons (ResIs.tmp (v := .atom _) rfl (LV.Sub.refl _)) (AllRes.cons (ResIs.tmp (v := .atom _) rfl (LV.Sub.refl _)) AllRes.nil)) (resT hC e1)
   ·have h9 : op = [37] := by
     rcases h6' with h | h
     ·exact absurd h (of_decide_eq_false h8)
     ·exact h
    rw [if_neg (of_decide_eq_false h8), if_pos h9, if_neg hb0] at hC
    have e1 : (a : Int).tmod (b : Int) = ((a % b : Nat) : Int) := by
     rw [Int.tmod_eq_emod_of_nonneg (by omega), ← Int.natCast_emod]
    repeat first | refine LCode.seq ?_ | refine LCode.region ?_ | refine LCode.skip ?_ | refine QThen.normal ?_ | refine LOps.pure (Pure.mv (lv := .atom _) rfl) rfl ?_
    refine LOps.pure (Pure.remW rfl rfl (by omega)) rfl ?_
    repeat first | refine LOps.nil ?_ | refine LCode.ret ?_ | refine QThen.normal ?_ | refine QThen.ret ?_ | refine QBlock.ret ?_ | refine LOps.pure (Pure.as (lv := .atom _) rfl) rfl ?_
    exact retRet hj (AllRes.cons (ResIs.tmp (v := .atom _) rfl (LV.Sub.refl _)) (AllRes.cons (ResIs.tmp (v := .atom _) rfl (LV.Sub.refl _)) AllRes.nil)) (resT hC e1)
 ·have h6' : ¬ (op = [47] ∨ op = [37]) := of_decide_eq_false h6
  have hCn : compW a op b = none := by
   rw [hC, if_neg (fun h => h6' (.inl h)), if_neg (fun h => h6' (.inr h))]
  repeat first | refine LOps.nil ?_ | refine LCode.seq ?_ | refine LCode.region ?_ | refine LCode.skip ?_ | refine LCode.ret ?_ | refine QThen.normal ?_ | refine QBlock.normal ?_ | refine LOps.pure (Pure.as (lv := .atom _) rfl) rfl ?_
  exact retRet hj (AllRes.cons (ResIs.tmp (v := .atom _) rfl (LV.Sub.refl _)) (AllRes.cons (ResIs.tmp (v := .atom _) rfl (LV.Sub.refl _)) AllRes.nil)) (by rw [hCn]; rfl)
theorem joined_spec (hG : GW B0 w0) (x op y : Wd) (hx : x.length ≤ 1000000) (hy : y.length ≤ 1000000) : LCalls (KC B0 w0) 71 [str x, str op, str y] [] (RetIf (OptLV (joinedW x op y))) := by
 have n1 := number_spec hG x (by omega)
 have n2 := number_spec hG y (by omega)
 have hJ : joinedW x op y = match numW x, numW y with
  | some a, some b => match compW a op b with
   | some c => if (Go.Lib.decDigits c).length ≤ x.length + y.length + 1 then some (Go.Lib.decDigits c) else none
   | none => none
  | _, _ => none := rfl
 have ha : (numW x).getD 0 < 4294967296 := by
  cases h : numW x with
  | none => decide
  | some u => exact numW_lt h
 have hb : (numW y).getD 0 < 4294967296 := by
  cases h : numW y with
  | none => decide
  | some u => exact numW_lt h
 have n3 := compute_spec (B0 := B0) (w0 := w0) _ _ op ha hb
 have hc : (compW ((numW x).getD 0) op ((numW y).getD 0)).getD 0 < 4294967296 := by
  cases h : compW ((numW x).getD 0) op ((numW y).getD 0) with
  | none => decide
  | some u => exact comp_lt ha hb h
 have hdl := dec_len hc
 refine LCalls.intro Tryz.func71 rfl (n := 54) rfl rfl rfl ?_
 repeat first | refine LOps.nil ?_ | refine LCode.seq ?_ | refine LCode.region ?_ | refine QThen.normal ?_ | refine LOps.pure (Pure.as (lv := .atom _) rfl) rfl ?_ | refine LOps.pure (Pure.mv (lv := .atom _) rfl) rfl ?_
 refine LOps.step (S.fn [_] rfl n1 ?_) rfl
 repeat first | refine LOps.nil ?_ | refine LCode.seq ?_ | refine LCode.region ?_ | refine QThen.normal ?_ | refine LOps.pure (Pure.as (lv := .atom _) rfl) rfl ?_ | refine LOps.pure (Pure.mv (lv := .atom _) rfl) rfl ?_ | refine LOps.pure (Pure.mv (lv := .tuple _) rfl) rfl ?_ | refine LOps.pure (Pure.extract (c := .atom _) rfl rfl) rfl ?_
 refine LOps.step (S.fn [_] rfl n2 ?_) rfl
 repeat first | refine LOps.nil ?_ | refine LCode.seq ?_ | refine LCode.region ?_ | refine QThen.normal ?_ | refine LOps.pure (Pure.as (lv := .atom _) rfl) rfl ?_ | refine LOps.pure (Pure.mv (lv := .atom _) rfl) rfl ?_ | refine LOps.pure (Pure.mv (lv := .tuple _) rfl) rfl ?_ | refine LOps.pure (Pure.extract (c := .atom _) rfl rfl) rfl ?_
 refine LOps.step (S.fn [_, _, _] rfl n3 ?_) rfl
 repeat first | refine LOps.nil ?_ | refine LCode.seq ?_ | refine LCode.region ?_ | refine QThen.normal ?_ | refine LOps.pure (Pure.as (lv := .atom _) rfl) rfl ?_ | refine LOps.pure (Pure.mv (lv := .atom _) rfl) rfl ?_ | refine LOps.pure (Pure.mv (lv := .tuple _) rfl) rfl ?_ | refine LOps.pure (Pure.extract (c := .atom _) rfl rfl) rfl ?_ | refine LOps.pure (Pure.cvt rfl) rfl ?_
 refine LOps.step (S.fn [_, _] (show _ = [int .u64 (IntKind.u64.wrap (((compW ((numW x).getD 0) op ((numW y).getD 0)).getD 0 : Nat) : Int)), int .i64 10] from rfl) (by rw [wrapU64 (by omega)]; exact fmtUint_spec hG _ (by omega)) ?_) rfl
 repeat first | refine LOps.nil ?_ | refine LCode.seq ?_ | refine LCode.region ?_ | refine QThen.normal ?_ | refine LOps.pure (Pure.as (lv := .atom _) rfl) rfl ?_ | refine LOps.pure (Pure.mv (lv := .atom _) rfl) rfl ?_
 refine LOps.bcase 37 rfl (fun h1 => ?_) (fun h1 => ?_)
 ·obtain ⟨a, ha2⟩ := Option.isSome_iff_exists.1 h1
  repeat first | refine LOps.pure (Pure.mv (lv := .atom _) rfl) rfl ?_ | refine LOps.pure (Pure.pickT (lv := .atom _) rfl rfl) rfl ?_ | refine LOps.want rfl rfl ?_
  refine LOps.bcase 40 rfl (fun h2 => ?_) (fun h2 => ?_)
  ·obtain ⟨b, hb2⟩ := Option.isSome_iff_exists.1 h2
   rw [ha2, hb2] at hJ
   rw [ha2, hb2]
   simp only at hJ
   simp only [Option.getD_some]
   repeat first | refine LOps.pure (Pure.mv (lv := .atom _) rfl) rfl ?_ | refine LOps.pure (Pure.pickT (lv := .atom _) rfl rfl) rfl ?_ | refine LOps.want rfl rfl ?_
   refine LOps.bcase 43 rfl (fun h3 => ?_) (fun h3 => ?_)
   ·obtain ⟨c, hc2⟩ := Option.isSome_iff_exists.1 h3
    rw [ha2, hb2] at hdl
    simp only [Option.getD_some] at hdl
    rw [hc2] at hJ hdl
    rw [hc2]
    simp only [Option.getD_some] at hJ hdl ⊢
    repeat first | refine LOps.nil ?_ | refine LCode.ret ?_ | refine QThen.normal ?_ | refine LOps.pure (Pure.as (lv := .atom _) rfl) rfl ?_ | refine LOps.pure (Pure.mv (lv := .atom _) rfl) rfl ?_ | refine LOps.pure (Pure.pickT (lv := .atom _) rfl rfl) rfl ?_ | refine LOps.pure (Pure.slen rfl) rfl ?_ | refine LOps.pure (Pure.add rfl rfl (by omega)) rfl ?_ | refine LOps.pure (Pure.leq rfl rfl) rfl ?_ | refine LOps.want rfl rfl ?_
    exact retRetIf rfl (AllRes.cons (ResIs.tmp (v := .atom _) rfl (LV.Sub.refl _)) (AllRes.cons (ResIs.tmp (v := .atom _) rfl (LV.Sub.refl _)) AllRes.nil)) (OptLV.mk (by
     rw [hJ]
     by_cases hle : (Go.Lib.decDigits c).length ≤ x.length + y.length + 1
     ·rw [if_pos hle, decide_eq_true (by omega)]; rfl
     ·rw [if_neg hle, decide_eq_false (by omega)]; rfl) (by
     intro l' h'
     rw [hJ] at h'
     split at h'
     ·injection h'
     ·cases h'))
   ·have hn : compW a op b = none := by
     cases h4 : compW a op b with
     | none => rfl
     | some l => rw [h4] at h3; cases h3
    rw [hn] at hJ
    repeat first | refine LOps.nil ?_ | refine LCode.ret ?_ | refine QThen.normal ?_ | refine LOps.pure (Pure.as (lv := .atom _) rfl) rfl ?_ | refine LOps.pure (Pure.pickF (lv := .atom _) rfl rfl) rfl ?_ | refine LOps.skip rfl rfl rfl rfl ?_
    exact retRetIf rfl (AllRes.cons (ResIs.tmp (v := .atom _) rfl (LV.Sub.refl _)) (AllRes.cons (ResIs.tmp (v := .atom _) rfl (LV.Sub.refl _)) AllRes.nil)) (OptLV.mk (by rw [hJ]; rfl) (by
     intro l' h'
     rw [hJ] at h'
     cases h'))
  ·have hn : numW y = none := by
    cases h3 : numW y with
    | none => rfl
    | some l => rw [h3] at h2; cases h2
   rw [ha2, hn] at hJ
   repeat first | refine LOps.nil ?_ | refine LCode.ret ?_ | refine QThen.normal ?_ | refine LOps.pure (Pure.as (lv := .atom _) rfl) rfl ?_ | refine LOps.pure (Pure.mv (lv := .atom _) rfl) rfl ?_ | refine LOps.pure (Pure.pickF (lv := .atom _) rfl rfl) rfl ?_ | refine LOps.skip rfl rfl rfl rfl ?_
   exact retRetIf rfl (AllRes.cons (ResIs.tmp (v := .atom _) rfl (LV.Sub.refl _)) (AllRes.cons (ResIs.tmp (v := .atom _) rfl (LV.Sub.refl _)) AllRes.nil)) (OptLV.mk (by rw [hJ]; rfl) (by
    intro l' h'
    rw [hJ] at h'
    cases h'))
 ·have hn : numW x = none := by
   cases h3 : numW x with
   | none => rfl
   | some l => rw [h3] at h1; cases h1
  rw [hn] at hJ
  repeat first | refine LOps.nil ?_ | refine LCode.ret ?_ | refine QThen.normal ?_ | refine LOps.pure (Pure.as (lv := .atom _) rfl) rfl ?_ | refine LOps.pure (Pure.mv (lv := .atom _) rfl) rfl ?_ | refine LOps.pure (Pure.pickF (lv := .atom _) rfl rfl) rfl ?_ | refine LOps.skip rfl rfl rfl rfl ?_
  exact retRetIf rfl (AllRes.cons (ResIs.tmp (v := .atom _) rfl (LV.Sub.refl _)) (AllRes.cons (ResIs.tmp (v := .atom _) rfl (LV.Sub.refl _)) AllRes.nil)) (OptLV.mk (by rw [hJ]; rfl) (by
   intro l' h'
   rw [hJ] at h'
   cases h'))
end
end Go.Proofs.YtdakelgkjdaijaaGreatDoor.Pp
namespace Go.Proofs.YtdakelgkjdaijaaGreatDoor.Pp
open Go.GL Go.RowKit Go.Stele
open Go.Proofs.YtdakelgkjdaijaaGreatDoor.Asm (OptLV OptLV.mk ite_some)
set_option maxRecDepth 100000
set_option maxHeartbeats 4000000
/-- What a rule returns. -/
def ruleLV (r : RuleW) : LV := .tuple [int .i64 r.1, .list (r.2.map str)]
attribute [local irreducible] LOps LCode LStep LCalls Go.GL.Pure QThen QBlock RetPost LQ LAny LLate LLateOp
section
variable {B0 : Nat} {w0 : World}
theorem fold_spec (hG : GW B0 w0) (v : List Wd) (m : Nat) (hv : Small v) : LCalls (KC B0 w0) 32 [viewLV v m] [] (Ret (ruleLV (rFold v))) := by
 have k0 := word_spec (B0 := B0) (w0 := w0) v m 0 (by have := hv.1; omega)
 have k1 := word_spec (B0 := B0) (w0 := w0) v m 1 (by have := hv.1; omega)
 have k2 := word_spec (B0 := B0) (w0 := w0) v m 2 (by have := hv.1; omega)
 have kj := joined_spec hG (wdAt v 0) (wdAt v 2) (wdAt v 1) (hv.at 0) (hv.at 1)
 have hF : rFold v = match joinedW (wdAt v 0) (wdAt v 2) (wdAt v 1) with
  | some s => (3, [s])
  | none => (0, []) := rfl
 unfold viewLV at k0 k1 k2 ⊢
 generalize joinedW (wdAt v 0) (wdAt v 2) (wdAt v 1) = o at kj hF
 refine LCalls.intro Tryz.func32 rfl (n := 19) rfl rfl rfl ?_
 repeat first | refine LCode.seq ?_ | refine LCode.region ?_
 refine LOps.step (S.box (cs := [.list (v.map str), .atom (.map (some m))]) rfl fun b1 => ?_) rfl
 repeat first | refine LOps.nil ?_ | refine LCode.seq ?_ | refine QThen.normal ?_ | refine LOps.pure (Pure.as (lv := .atom _) rfl) rfl ?_
 refine LCode.draw (m := 12) rfl [(b1, .cells 92 [.list (v.map str), .atom (.map (some m))])] ?_
 refine LAny.tk 0 rfl rfl (Pure.ldHAgg (cs' := [_, _]) rfl (List.Mem.head _) rfl rfl) ?_
 refine LAny.tk 2 rfl rfl (Pure.ldHAgg (cs' := [_, _]) rfl (List.Mem.head _) rfl rfl) ?_
 refine LAny.tk 4 rfl rfl (Pure.ldHAgg (cs' := [_, _]) rfl (List.Mem.head _) rfl rfl) ?_
 refine LAny.late ?_ (HSub.refl _)
 refine LLate.o 1 (LLateOp.step (H1 := []) rfl (.inl rfl) rfl (List.Perm.refl _) (HSub.refl _) (S.fn [_, _] rfl k0 ?_))
 refine LLate.o 3 (LLateOp.step (H1 := []) rfl (.inl rfl) rfl (List.Perm.refl _) (HSub.refl _) (S.fn [_, _] rfl k2 ?_))
 refine LLate.o 5 (LLateOp.step (H1 := []) rfl (.inl rfl) rfl (List.Perm.refl _) (HSub.refl _) (S.fn [_, _] rfl k1 ?_))
 refine LLate.o 6 (LLateOp.step (H1 := []) rfl (.inl rfl) rfl (List.Perm.refl _) (HSub.refl _) (S.fnIf [_, _, _] rfl kj ?_))
 rintro lv ⟨s, rfl, hs⟩
 refine LLate.any [(b1, .cells 92 [.list (v.map str), .atom (.map (some m))])] (fun _ h => h) ?_
 refine LAny.tk 7 rfl rfl (Pure.mv (lv := .tuple _) rfl) ?_
 refine LAny.tk 8 rfl rfl (Pure.extract (c := .atom _) rfl rfl) ?_
 refine LAny.tk 9 rfl rfl (Pure.extract (c := .atom _) rfl rfl) ?_
 refine LAny.tk 10 rfl rfl (Pure.as (lv := .atom _) rfl) ?_
 refine LAny.tk 11 rfl rfl (Pure.as (lv := .atom _) rfl) ?_
 refine LAny.late ?_ (HSub.refl _)
 refine LLate.done (by kernel_rfl) ?_
 repeat first | refine QThen.normal ?_
 repeat first | refine LOps.nil ?_ | refine LCode.seq ?_ | refine LCode.region ?_ | refine QThen.normal ?_ | refine LOps.pure (Pure.mv (lv := .atom _) rfl) rfl ?_
 refine LCode.cond rfl (fun h => ?_) (fun h => ?_)
 ·obtain ⟨l, rfl⟩ := Option.isSome_iff_exists.1 h
  obtain rfl := hs l rfl
  repeat first | refine LCode.seq ?_ | refine LCode.region ?_ | refine LOps.pure (Pure.mv (lv := .atom _) rfl) rfl ?_
  refine LOps.step (S.lit [_] rfl (elemsOk.cons rfl rfl elemsOk.nil) rfl rfl rfl ?_) rfl
  repeat first | refine LOps.nil ?_ | refine LCode.ret ?_ | refine QThen.normal ?_ | refine QThen.ret ?_ | refine LOps.pure (Pure.as (lv := .atom _) rfl) rfl ?_ | refine LOps.pure (Pure.as (lv := .list _) rfl) rfl ?_
  exact retRet rfl (AllRes.cons (ResIs.tmp (v := .atom _) rfl (LV.Sub.refl _)) (AllRes.cons (ResIs.tmp (v := .list _) rfl (LV.Sub.refl _)) AllRes.nil)) (by rw [hF]; rfl)
 ·obtain rfl : o = none := by
   cases o with
   | none => rfl
   | some l => cases h
  repeat first | refine LOps.nil ?_ | refine LCode.seq ?_ | refine LCode.region ?_ | refine LCode.skip ?_ | refine LCode.ret ?_ | refine QThen.normal ?_ | refine LOps.pure (Pure.as (lv := .atom _) rfl) rfl ?_
  exact retRet rfl (AllRes.cons (ResIs.tmp (v := .atom _) rfl (LV.Sub.refl _)) (AllRes.cons (ResIs.tmp (v := nilSlice) rfl LV.Sub.nil) AllRes.nil)) (by rw [hF]; rfl)
theorem never_spec (hG : GW B0 w0) (v : List Wd) (m : Nat) (hv : Small v) : LCalls (KC B0 w0) 37 [viewLV v m] [] (Ret (ruleLV (rNever v))) := by
 have k0 := word_spec (B0 := B0) (w0 := w0) v m 0 (by have := hv.1; omega)
 have kn := number_spec hG (wdAt v 0) (by have := hv.at 0; omega)
 have kj := jump_spec (B0 := B0) (w0 := w0) v m 1 hv (by omega)
 have hF : rNever v = match numW (wdAt v 0) with
  | some n => if n ≠ 0 ∧ (jumpW v 1).isSome = true then (3, []) else (0, [])
  | none => (0, []) := rfl
 unfold viewLV at k0 kj ⊢
 generalize numW (wdAt v 0) = on at kn hF
 generalize jumpW v 1 = oj at kj hF
 refine LCalls.intro Tryz.func37 rfl (n := 27) rfl rfl rfl ?_
 repeat first | refine LCode.seq ?_ | refine LCode.region ?_
 refine LOps.step (S.box (cs := [.list (v.map str), .atom (.map (some m))]) rfl fun b1 => ?_) rfl
 repeat first | refine LOps.nil ?_ | refine LCode.seq ?_ | refine LCode.region ?_ | refine QThen.normal ?_ | refine LOps.pure (Pure.as (lv := .atom _) rfl) rfl ?_ | refine LOps.pure (Pure.ldHAgg (cs' := [_, _]) rfl (List.Mem.head _) rfl rfl) rfl ?_
 refine LOps.step (S.fn [_, _] rfl k0 ?_) rfl
 refine LOps.step (S.fn [_] rfl kn ?_) rfl
 repeat first | refine LOps.nil ?_ | refine LCode.seq ?_ | refine LCode.region ?_ | refine QThen.normal ?_ | refine LOps.pure (Pure.as (lv := .atom _) rfl) rfl ?_ | refine LOps.pure (Pure.ldHAgg (cs' := [_, _]) rfl (List.Mem.head _) rfl rfl) rfl ?_ | refine LOps.pure (Pure.mv (lv := .tuple _) rfl) rfl ?_ | refine LOps.pure (Pure.extract (c := .atom _) rfl rfl) rfl ?_
 refine LOps.step (S.fnIf [_, _] rfl kj ?_) rfl
 rintro lv ⟨s, rfl, hs⟩
 repeat first | refine LOps.nil ?_ | refine LCode.seq ?_ | refine LCode.region ?_ | refine QThen.normal ?_ | refine LOps.pure (Pure.as (lv := .atom _) rfl) rfl ?_ | refine LOps.pure (Pure.mv (lv := .tuple _) rfl) rfl ?_ | refine LOps.pure (Pure.extract (c := .atom _) rfl rfl) rfl ?_ | refine LOps.pure (Pure.mv (lv := .atom _) rfl) rfl ?_
 refine LOps.bcase 20 rfl (fun h1 => ?_) (fun h1 => ?_)
 ·rw [h1] at hF
  cases on with
  | none =>
   repeat first | refine LOps.nil ?_ | refine QThen.normal ?_ | refine LOps.pure (Pure.mv (lv := .atom _) rfl) rfl ?_ | refine LOps.pure (Pure.pickT (lv := .atom _) rfl rfl) rfl ?_ | refine LOps.pure (Pure.pickF (lv := .atom _) rfl rfl) rfl ?_ | refine LOps.want rfl rfl ?_ | refine LOps.skip rfl rfl rfl rfl ?_
   refine LCode.cond rfl (fun h => ?_) (fun h => ?_)
   ·cases h
   ·repeat first | refine LOps.nil ?_ | refine LCode.seq ?_ | refine LCode.region ?_ | refine LCode.skip ?_ | refine LCode.ret ?_ | refine QThen.normal ?_ | refine LOps.pure (Pure.as (lv := .atom _) rfl) rfl ?_
    exact retRet rfl (AllRes.cons (ResIs.tmp (v := .atom _) rfl (LV.Sub.refl _)) (AllRes.cons (ResIs.tmp (v := nilSlice) rfl LV.Sub.nil) AllRes.nil)) (by rw [hF]; rfl)
  | some n =>
   repeat first | refine LOps.nil ?_ | refine QThen.normal ?_ | refine LOps.pure (Pure.mv (lv := .atom _) rfl) rfl ?_ | refine LOps.pure (Pure.pickT (lv := .atom _) rfl rfl) rfl ?_ | refine LOps.pure (Pure.neq rfl rfl) rfl ?_ | refine LOps.want rfl rfl ?_
   refine LCode.cond rfl (fun h => ?_) (fun h => ?_)
   ·have hn : n ≠ 0 := by
     intro h0
     subst h0
     exact absurd h (by decide)
    simp only [hn, ne_eq, not_false_eq_true, and_self, if_true] at hF
    repeat first | refine LOps.nil ?_ | refine LCode.seq ?_ | refine LCode.region ?_ | refine LCode.ret ?_ | refine QThen.normal ?_ | refine QThen.ret ?_ | refine LOps.pure (Pure.as (lv := .atom _) rfl) rfl ?_
    exact retRet rfl (AllRes.cons (ResIs.tmp (v := .atom _) rfl (LV.Sub.refl _)) (AllRes.cons (ResIs.tmp (v := nilSlice) rfl LV.Sub.nil) AllRes.nil)) (by rw [hF]; rfl)
   ·have hn : n = 0 := by
     have h0 : ¬ ¬ ((n : Int) = 0) := by simpa using h
     omega
    subst hn
    repeat first | refine LOps.nil ?_ | refine LCode.seq ?_ | refine LCode.region ?_ | refine LCode.skip ?_ | refine LCode.ret ?_ | refine QThen.normal ?_ | refine LOps.pure (Pure.as (lv := .atom _) rfl) rfl ?_
    exact retRet rfl (AllRes.cons (ResIs.tmp (v := .atom _) rfl (LV.Sub.refl _)) (AllRes.cons (ResIs.tmp (v := nilSlice) rfl LV.Sub.nil) AllRes.nil)) (by rw [hF]; rfl)
 ·rw [h1] at hF
  repeat first | refine LOps.nil ?_ | refine QThen.normal ?_ | refine LOps.pure (Pure.mv (lv := .atom _) rfl) rfl ?_ | refine LOps.pure (Pure.pickF (lv := .atom _) rfl rfl) rfl ?_ | refine LOps.skip rfl rfl rfl rfl ?_
  refine LCode.cond rfl (fun h => ?_) (fun h => ?_)
  ·cases h
  ·repeat first | refine LOps.nil ?_ | refine LCode.seq ?_ | refine LCode.region ?_ | refine LCode.skip ?_ | refine LCode.ret ?_ | refine QThen.normal ?_ | refine LOps.pure (Pure.as (lv := .atom _) rfl) rfl ?_
   exact retRet rfl (AllRes.cons (ResIs.tmp (v := .atom _) rfl (LV.Sub.refl _)) (AllRes.cons (ResIs.tmp (v := nilSlice) rfl LV.Sub.nil) AllRes.nil)) (by
    rw [hF]
    cases on <;> simp <;> rfl)
theorem unused_spec (v : List Wd) (m : Nat) (hv : Small v) {es : Array MapEntry} {clock : Nat} {p : List UInt8 → Bool} (hs : SetMap es p) : LCalls (KC B0 w0) 40 [viewLV v m] [(m, .obj (.map es clock))] (fun r H => r = .ret (ruleLV (rUnused p v)) ∧ H = [(m, .obj (.map es clock))]) := by
 have k0 := word_spec (B0 := B0) (w0 := w0) v m 0 (by have := hv.1; omega)
 have kd := definition_spec (B0 := B0) (w0 := w0) (wdAt v 0) (by have := hv.at 0; omega)
 have hF : rUnused p v = match defW (wdAt v 0) with
  | some l => if p l = true then (0, []) else (1, [])
  | none => (0, []) := rfl
 unfold viewLV at k0 ⊢
 generalize defW (wdAt v 0) = o at kd hF
 refine LCalls.intro Tryz.func40 rfl (n := 20) rfl rfl rfl ?_
 repeat first | refine LCode.seq ?_ | refine LCode.region ?_
 refine LOps.step (S.box (cs := [.list (v.map str), .atom (.map (some m))]) rfl fun b1 => ?_) rfl
 repeat first | refine LOps.nil ?_ | refine LCode.seq ?_ | refine LCode.region ?_ | refine QThen.normal ?_ | refine LOps.pure (Pure.as (lv := .atom _) rfl) rfl ?_ | refine LOps.pure (Pure.ldHAgg (cs' := [_, _]) rfl (List.Mem.head _) rfl rfl) rfl ?_
 refine LOps.step (S.fn [_, _] rfl k0 ?_) rfl
 refine LOps.step (S.fnIf [_] rfl kd ?_) rfl
 rintro lv ⟨s, rfl, hs2⟩
 repeat first | refine LOps.nil ?_ | refine LCode.seq ?_ | refine LCode.region ?_ | refine QThen.normal ?_ | refine LOps.pure (Pure.as (lv := .atom _) rfl) rfl ?_ | refine LOps.pure (Pure.mv (lv := .tuple _) rfl) rfl ?_ | refine LOps.pure (Pure.extract (c := .atom _) rfl rfl) rfl ?_ | refine LOps.pure (Pure.mv (lv := .atom _) rfl) rfl ?_
 refine LOps.bcase 13 rfl (fun h1 => ?_) (fun h1 => ?_)
 ·obtain ⟨l, rfl⟩ := Option.isSome_iff_exists.1 h1
  obtain rfl := hs2 l rfl
  simp only at hF
  repeat first | refine LOps.pure (Pure.mv (lv := .atom _) rfl) rfl ?_ | refine LOps.pure (Pure.fieldH rfl) rfl ?_ | refine LOps.pure (Pure.loadH (c := .atom _) rfl (List.Mem.head _) rfl) rfl ?_ | refine LOps.want rfl rfl ?_
  refine LOps.pure (Pure.setGet (t := 84) (kt := 9) (el := 4) (by kernel_rfl) (by kernel_rfl) (fun w => (Go.zero_of_info (P := Tryz.prog) (n := 1) (by kernel_rfl)).1 w) rfl rfl (List.Mem.tail _ (List.Mem.head _)) hs) rfl ?_
  repeat first | refine LOps.nil ?_ | refine QThen.normal ?_ | refine LOps.pure (Pure.not rfl) rfl ?_ | refine LOps.pure (Pure.pickT (lv := .atom _) rfl rfl) rfl ?_ | refine LOps.want rfl rfl ?_
  refine LCode.cond rfl (fun h => ?_) (fun h => ?_)
  ·have hp : p s = false := by simpa using h
   repeat first | refine LOps.nil ?_ | refine LCode.seq ?_ | refine LCode.region ?_ | refine LCode.ret ?_ | refine QThen.normal ?_ | refine QThen.ret ?_ | refine LOps.pure (Pure.as (lv := .atom _) rfl) rfl ?_
   exact RetPost.ret rfl (AllRes.cons (ResIs.tmp (v := .atom _) rfl (LV.Sub.refl _)) (AllRes.cons (ResIs.tmp (v := nilSlice) rfl LV.Sub.nil) AllRes.nil)) (HSub.drop (HSub.refl _)) ⟨by rw [hF, hp]; rfl, rfl⟩
  ·have hp : p s = true := by simpa using h
   repeat first | refine LOps.nil ?_ | refine LCode.seq ?_ | refine LCode.region ?_ | refine LCode.skip ?_ | refine LCode.ret ?_ | refine QThen.normal ?_ | refine LOps.pure (Pure.as (lv := .atom _) rfl) rfl ?_
   exact RetPost.ret rfl (AllRes.cons (ResIs.tmp (v := .atom _) rfl (LV.Sub.refl _)) (AllRes.cons (ResIs.tmp (v := nilSlice) rfl LV.Sub.nil) AllRes.nil)) (HSub.drop (HSub.refl _)) ⟨by rw [hF, hp]; rfl, rfl⟩
 ·obtain rfl : o = none := by
   cases o with
   | none => rfl
   | some l => cases h1
  repeat first | refine LOps.nil ?_ | refine QThen.normal ?_ | refine LOps.pure (Pure.pickF (lv := .atom _) rfl rfl) rfl ?_ | refine LOps.skip rfl rfl rfl rfl ?_
  refine LCode.cond rfl (fun h => ?_) (fun h => ?_)
  ·cases h
  ·repeat first | refine LOps.nil ?_ | refine LCode.seq ?_ | refine LCode.region ?_ | refine LCode.skip ?_ | refine LCode.ret ?_ | refine QThen.normal ?_ | refine LOps.pure (Pure.as (lv := .atom _) rfl) rfl ?_
   exact RetPost.ret rfl (AllRes.cons (ResIs.tmp (v := .atom _) rfl (LV.Sub.refl _)) (AllRes.cons (ResIs.tmp (v := nilSlice) rfl LV.Sub.nil) AllRes.nil)) (HSub.drop (HSub.refl _)) ⟨by rw [hF]; rfl, rfl⟩
end
end Go.Proofs.YtdakelgkjdaijaaGreatDoor.Pp
namespace Go.Proofs.YtdakelgkjdaijaaGreatDoor.Pp
open Go.GL Go.RowKit Go.Stele
open Go.Proofs.YtdakelgkjdaijaaGreatDoor.Asm (OptLV OptLV.mk ite_some)
set_option maxRecDepth 100000
set_option maxHeartbeats 4000000
/-- Whether these words stand from i on. -/
def isW (v : List Wd) : Nat → List Wd → Bool
 | _, [] => true
 | i, w :: r => decide (wdAt v i = w) && isW v (i + 1) r
attribute [local irreducible] LOps LCode LStep LCalls Go.GL.Pure QThen QBlock RetPost LQ LAny LLate LLateOp
section
variable {B0 : Nat} {w0 : World}
theorem is_spec (v : List Wd) (m i : Nat) (ws : List Wd) (hv : Small v) (hi : i ≤ 1000) (hw : ws.length ≤ 1000) : LCalls (KC B0 w0) 74 [viewLV v m, int .i64 i, .list (ws.map str)] [] (Ret (bool (isW v i ws))) := by
 have hla : (ws.map str).length = ws.length := List.length_map _
 have kw : ∀ k, LCalls (KC B0 w0) 72 [viewLV v m, int .i64 (k : Nat)] [] (Ret (str (wdAt v k))) := fun k => word_spec v m k (by have := hv.1; omega)
 unfold viewLV at kw ⊢
 refine LCalls.intro Tryz.func74 rfl (n := 24) rfl rfl rfl ?_
 repeat first | refine LCode.seq ?_ | refine LCode.region ?_
 refine LOps.step (S.box (cs := [.list (v.map str), .atom (.map (some m))]) rfl fun b3 => ?_) rfl
 repeat first | refine LOps.nil ?_ | refine LCode.seq ?_ | refine LCode.region ?_ | refine LCode.block ?_ | refine QThen.normal ?_ | refine LOps.pure (Pure.as (lv := .atom _) rfl) rfl ?_ | refine LOps.pure (Pure.mv (lv := .list _) rfl) rfl ?_ | refine LOps.pure (Pure.mv (lv := .atom _) rfl) rfl ?_ | refine LOps.pure (Pure.llen rfl) rfl ?_
 refine LCode.loopI (fun k ls H => ∃ j, j ≤ ws.length ∧ k = ws.length - j ∧ ls = [(1, int .i64 i), (3, ptr b3 0), (9, .list (ws.map str)), (10, int .i64 ws.length), (11, int .i64 j)] ∧ H = [(b3, .cells 92 [.list (v.map str), .atom (.map (some m))])] ∧ isW v i ws = isW v (i + j) (ws.drop j))
  ⟨_, _, _, ⟨0, Nat.zero_le _, rfl, rfl, rfl, rfl⟩, ⟨rfl, rfl, rfl, int_eq (by omega), rfl, trivial⟩, HSub.refl _⟩ ?_
 rintro k ls H ⟨j, hj, rfl, rfl, rfl, hE⟩ j1 hj1
 repeat first | refine LOps.nil ?_ | refine LCode.seq ?_ | refine LCode.region ?_ | refine QThen.normal ?_ | refine LOps.pure (Pure.lss rfl rfl) rfl ?_
 refine LCode.cond rfl (fun hc => ?_) (fun hc => ?_)
 ·have hlt : j < ws.length := by have := of_decide_eq_true hc; omega
  rw [List.drop_eq_getElem_cons hlt, isW] at hE
  have k1 := kw (i + j)
  have e1 : int .i64 ((i + j : Nat) : Int) = int .i64 ((i : Int) + j) := int_eq (by omega)
  rw [e1] at k1
  repeat first | refine LCode.seq ?_ | refine LCode.region ?_ | refine LCode.skip ?_ | refine LCode.block ?_ | refine QThen.normal ?_ | refine LOps.pure (Pure.mv (lv := .atom _) rfl) rfl ?_
  refine LOps.pure (Pure.ixRef (el' := str ws[j]) (cs := [str ws[j]]) rfl rfl (by omega) (map_get _ _ _ hlt) rfl rfl) rfl ?_
  repeat first | refine LOps.nil ?_ | refine LCode.seq ?_ | refine LCode.region ?_ | refine QThen.normal ?_ | refine LOps.pure (Pure.as (lv := .atom _) rfl) rfl ?_ | refine LOps.pure (Pure.mv (lv := .atom _) rfl) rfl ?_ | refine LOps.pure (Pure.loadRef (c := .atom _) rfl rfl) rfl ?_ | refine LOps.pure (Pure.ldHAgg (cs' := [_, _]) rfl (List.Mem.head _) rfl rfl) rfl ?_ | refine LOps.pure (Pure.add rfl rfl (by omega)) rfl ?_
  refine LOps.step (S.fn [_, _] rfl k1 ?_) rfl
  repeat first | refine LOps.nil ?_ | refine QThen.normal ?_ | refine LOps.pure (Pure.mv (lv := .atom _) rfl) rfl ?_ | refine LOps.pure (Pure.sneq rfl rfl) rfl ?_
  refine LCode.cond rfl (fun h => ?_) (fun h => ?_)
  ·have hne : ¬ wdAt v (i + j) = ws[j] := by simpa using h
   rw [decide_eq_false hne, Bool.false_and] at hE
   repeat first | refine LOps.nil ?_ | refine LCode.seq ?_ | refine LCode.region ?_ | refine LCode.ret ?_ | refine QThen.normal ?_ | refine QThen.ret ?_ | refine QBlock.ret ?_ | refine LOps.pure (Pure.as (lv := .atom _) rfl) rfl ?_
   exact retRet hj1 (AllRes.cons (ResIs.tmp (v := .atom _) rfl (LV.Sub.refl _)) AllRes.nil) (bool_eq hE.symm)
  ·have he : wdAt v (i + j) = ws[j] := by simpa using h
   rw [decide_eq_true he, Bool.true_and] at hE
   repeat first | refine LOps.nil ?_ | refine LCode.region ?_ | refine LCode.skip ?_ | refine QThen.normal ?_ | refine QBlock.normal ?_ | refine LOps.pure (Pure.mv (lv := .atom _) rfl) rfl ?_ | refine LOps.pure (Pure.add rfl rfl (by omega)) rfl ?_
   exact ⟨_, _, _, by omega, ⟨j + 1, by omega, rfl, rfl, rfl, by rw [hE, Nat.add_assoc]⟩, ⟨rfl, rfl, rfl, rfl, int_eq (by omega), trivial⟩, HSub.refl _, hj1⟩
 ·have hj' : j = ws.length := by have := of_decide_eq_false hc; omega
  subst hj'
  rw [List.drop_length, isW] at hE
  repeat first | refine LOps.nil ?_ | refine LCode.seq ?_ | refine LCode.region ?_ | refine LCode.ret ?_ | refine LCode.exit ?_ | refine QThen.normal ?_ | refine QThen.exit ?_ | refine QBlock.hit ?_ | refine LOps.pure (Pure.as (lv := .atom _) rfl) rfl ?_
  exact retRet hj1 (AllRes.cons (ResIs.tmp (v := .atom _) rfl (LV.Sub.refl _)) AllRes.nil) (bool_eq hE.symm)
theorem neutral_spec (v : List Wd) (m : Nat) (hv : Small v) : LCalls (KC B0 w0) 33 [viewLV v m] [] (Ret (ruleLV (rNeutral v))) := by
 have k0 := word_spec (B0 := B0) (w0 := w0) v m 0 (by have := hv.1; omega)
 have k1 := word_spec (B0 := B0) (w0 := w0) v m 1 (by have := hv.1; omega)
 have hF : rNeutral v = if wdAt v 0 = [48] ∧ (wdAt v 1 = [43] ∨ wdAt v 1 = [45] ∨ wdAt v 1 = [94]) ∨ wdAt v 0 = [49] ∧ (wdAt v 1 = [42] ∨ wdAt v 1 = [47]) then (2, []) else (0, []) := rfl
 unfold viewLV at k0 k1 ⊢
 generalize wdAt v 0 = a at k0 hF
 generalize wdAt v 1 = b at k1 hF
 refine LCalls.intro Tryz.func33 rfl (n := 36) rfl rfl rfl ?_
 repeat first | refine LCode.seq ?_ | refine LCode.region ?_
 refine LOps.step (S.box (cs := [.list (v.map str), .atom (.map (some m))]) rfl fun b1 => ?_) rfl
 repeat first | refine LOps.nil ?_ | refine LCode.seq ?_ | refine QThen.normal ?_ | refine LOps.pure (Pure.as (lv := .atom _) rfl) rfl ?_
 refine LCode.draw (m := 6) rfl [(b1, .cells 92 [.list (v.map str), .atom (.map (some m))])] ?_
 refine LAny.tk 0 rfl rfl (Pure.ldHAgg (cs' := [_, _]) rfl (List.Mem.head _) rfl rfl) ?_
 refine LAny.tk 2 rfl rfl (Pure.ldHAgg (cs' := [_, _]) rfl (List.Mem.head _) rfl rfl) ?_
 refine LAny.late ?_ (HSub.refl _)
 refine LLate.o 1 (LLateOp.step (H1 := []) rfl (.inl rfl) rfl (List.Perm.refl _) (HSub.refl _) (S.fn [_, _] rfl k0 ?_))
 refine LLate.o 3 (LLateOp.step (H1 := []) rfl (.inl rfl) rfl (List.Perm.refl _) (HSub.refl _) (S.fn [_, _] rfl k1 ?_))
 refine LLate.any [(b1, .cells 92 [.list (v.map str), .atom (.map (some m))])] (fun _ h => h) ?_
 refine LAny.tk 4 rfl rfl (Pure.as (lv := .atom _) rfl) ?_
 refine LAny.tk 5 rfl rfl (Pure.as (lv := .atom _) rfl) ?_
 refine LAny.late ?_ (HSub.refl _)
 refine LLate.done (by kernel_rfl) ?_
 repeat first | refine QThen.normal ?_
 repeat first | refine LCode.seq ?_ | refine LCode.region ?_ | refine LOps.pure (Pure.mv (lv := .atom _) rfl) rfl ?_ | refine LOps.pure (Pure.seq rfl rfl) rfl ?_
 refine LOps.cut [(1, ptr b1 0), (35, bool (decide (a = [48] ∧ (b = [43] ∨ b = [45] ∨ b = [94]) ∨ a = [49] ∧ (b = [42] ∨ b = [47]))))] ?_ (fun j hj => ?_)
 ·refine LOps.bcase 12 rfl (fun h1 => ?_) (fun h1 => ?_)
  ·have e1 : a = [48] := of_decide_eq_true h1
   have n1 : ¬ a = [49] := by rw [e1]; decide
   repeat first | refine LOps.pure (Pure.mv (lv := .atom _) rfl) rfl ?_ | refine LOps.pure (Pure.seq rfl rfl) rfl ?_ | refine LOps.want rfl rfl ?_
   refine LOps.bcase 15 rfl (fun h2 => ?_) (fun h2 => ?_)
   ·have e2 : b = [43] := of_decide_eq_true h2
    repeat first | refine LOps.nil ?_ | refine QThen.normal ?_ | refine LOps.pure (Pure.mv (lv := .atom _) rfl) rfl ?_ | refine LOps.pure (Pure.pickT (lv := .atom _) rfl rfl) rfl ?_ | refine LOps.want rfl rfl ?_ | refine LOps.skip rfl rfl rfl rfl ?_ | refine LOps.skipU rfl rfl rfl ?_
    exact ⟨⟨rfl, bool_eq (by simp [e1, e2]), trivial⟩, rfl, rfl⟩
   ·have e2 : ¬ b = [43] := of_decide_eq_false h2
    repeat first | refine LOps.pure (Pure.mv (lv := .atom _) rfl) rfl ?_ | refine LOps.pure (Pure.seq rfl rfl) rfl ?_ | refine LOps.pure (Pure.pickF (lv := .atom _) rfl rfl) rfl ?_ | refine LOps.want rfl rfl ?_
    refine LOps.bcase 19 rfl (fun h3 => ?_) (fun h3 => ?_)
    ·have e3 : b = [45] := of_decide_eq_true h3
     repeat first | refine LOps.nil ?_ | refine QThen.normal ?_ | refine LOps.pure (Pure.mv (lv := .atom _) rfl) rfl ?_ | refine LOps.pure (Pure.pickT (lv := .atom _) rfl rfl) rfl ?_ | refine LOps.want rfl rfl ?_ | refine LOps.skip rfl rfl rfl rfl ?_ | refine LOps.skipU rfl rfl rfl ?_
     exact ⟨⟨rfl, bool_eq (by simp [e1, e3]), trivial⟩, rfl, rfl⟩
    ·have e3 : ¬ b = [45] := of_decide_eq_false h3
     repeat first | refine LOps.pure (Pure.mv (lv := .atom _) rfl) rfl ?_ | refine LOps.pure (Pure.seq rfl rfl) rfl ?_ | refine LOps.pure (Pure.pickT (lv := .atom _) rfl rfl) rfl ?_ | refine LOps.pure (Pure.pickF (lv := .atom _) rfl rfl) rfl ?_ | refine LOps.want rfl rfl ?_
     refine LOps.bcase 24 rfl (fun h4 => ?_) (fun h4 => ?_)
     ·have e4 : b = [94] := of_decide_eq_true h4
      repeat first | refine LOps.nil ?_ | refine QThen.normal ?_ | refine LOps.pure (Pure.pickT (lv := .atom _) rfl rfl) rfl ?_ | refine LOps.skip rfl rfl rfl rfl ?_ | refine LOps.skipU rfl rfl rfl ?_
      exact ⟨⟨rfl, bool_eq (by simp [e1, e4]), trivial⟩, rfl, rfl⟩
     ·have e4 : ¬ b = [94] := of_decide_eq_false h4
      repeat first | refine LOps.pure (Pure.mv (lv := .atom _) rfl) rfl ?_ | refine LOps.pure (Pure.seq rfl rfl) rfl ?_ | refine LOps.want rfl rfl ?_
      refine LOps.bcase 27 rfl (fun h5 => absurd (of_decide_eq_true h5) n1) (fun h5 => ?_)
      repeat first | refine LOps.nil ?_ | refine QThen.normal ?_ | refine LOps.pure (Pure.pickF (lv := .atom _) rfl rfl) rfl ?_ | refine LOps.want rfl rfl ?_ | refine LOps.skip rfl rfl rfl rfl ?_ | refine LOps.skipU rfl rfl rfl ?_
      exact ⟨⟨rfl, bool_eq (by simp [e2, e3, e4, n1]), trivial⟩, rfl, rfl⟩
  ·have e1 : ¬ a = [48] := of_decide_eq_false h1
   repeat first | refine LOps.pure (Pure.mv (lv := .atom _) rfl) rfl ?_ | refine LOps.pure (Pure.seq rfl rfl) rfl ?_ | refine LOps.pure (Pure.pickF (lv := .atom _) rfl rfl) rfl ?_ | refine LOps.want rfl rfl ?_ | refine LOps.skip rfl rfl rfl rfl ?_ | refine LOps.skipU rfl rfl rfl ?_
   refine LOps.bcase 27 rfl (fun h2 => ?_) (fun h2 => ?_)
   ·have e2 : a = [49] := of_decide_eq_true h2
    repeat first | refine LOps.pure (Pure.mv (lv := .atom _) rfl) rfl ?_ | refine LOps.pure (Pure.seq rfl rfl) rfl ?_ | refine LOps.want rfl rfl ?_
    refine LOps.bcase 30 rfl (fun h3 => ?_) (fun h3 => ?_)
    ·have e3 : b = [42] := of_decide_eq_true h3
     repeat first | refine LOps.nil ?_ | refine QThen.normal ?_ | refine LOps.pure (Pure.pickT (lv := .atom _) rfl rfl) rfl ?_ | refine LOps.pure (Pure.pickF (lv := .atom _) rfl rfl) rfl ?_ | refine LOps.want rfl rfl ?_ | refine LOps.skip rfl rfl rfl rfl ?_
     exact ⟨⟨rfl, bool_eq (by simp [e2, e3]), trivial⟩, rfl, rfl⟩
    ·have e3 : ¬ b = [42] := of_decide_eq_false h3
     repeat first | refine LOps.nil ?_ | refine QThen.normal ?_ | refine LOps.pure (Pure.mv (lv := .atom _) rfl) rfl ?_ | refine LOps.pure (Pure.seq rfl rfl) rfl ?_ | refine LOps.pure (Pure.pickT (lv := .atom _) rfl rfl) rfl ?_ | refine LOps.pure (Pure.pickF (lv := .atom _) rfl rfl) rfl ?_ | refine LOps.want rfl rfl ?_
     exact ⟨⟨rfl, bool_eq (by simp [e2, e3]), trivial⟩, rfl, rfl⟩
   ·have e2 : ¬ a = [49] := of_decide_eq_false h2
    repeat first | refine LOps.nil ?_ | refine QThen.normal ?_ | refine LOps.pure (Pure.pickF (lv := .atom _) rfl rfl) rfl ?_ | refine LOps.want rfl rfl ?_ | refine LOps.skip rfl rfl rfl rfl ?_ | refine LOps.skipU rfl rfl rfl ?_
    exact ⟨⟨rfl, bool_eq (by simp [e1, e2]), trivial⟩, rfl, rfl⟩
 refine LCode.cond rfl (fun h => ?_) (fun h => ?_)
 ·rw [if_pos (of_decide_eq_true h)] at hF
  repeat first | refine LOps.nil ?_ | refine LCode.seq ?_ | refine LCode.region ?_ | refine LCode.ret ?_ | refine QThen.normal ?_ | refine QThen.ret ?_ | refine LOps.pure (Pure.as (lv := .atom _) rfl) rfl ?_
  exact retRet hj (AllRes.cons (ResIs.tmp (v := .atom _) rfl (LV.Sub.refl _)) (AllRes.cons (ResIs.tmp (v := nilSlice) rfl LV.Sub.nil) AllRes.nil)) (by rw [hF]; rfl)
 ·rw [if_neg (of_decide_eq_false h)] at hF
  repeat first | refine LOps.nil ?_ | refine LCode.seq ?_ | refine LCode.region ?_ | refine LCode.skip ?_ | refine LCode.ret ?_ | refine QThen.normal ?_ | refine LOps.pure (Pure.as (lv := .atom _) rfl) rfl ?_
  exact retRet hj (AllRes.cons (ResIs.tmp (v := .atom _) rfl (LV.Sub.refl _)) (AllRes.cons (ResIs.tmp (v := nilSlice) rfl LV.Sub.nil) AllRes.nil)) (by rw [hF]; rfl)
end
end Go.Proofs.YtdakelgkjdaijaaGreatDoor.Pp
namespace Go.Proofs.YtdakelgkjdaijaaGreatDoor.Pp
open Go.GL Go.RowKit Go.Stele
open Go.Proofs.YtdakelgkjdaijaaGreatDoor.Asm (OptLV OptLV.mk ite_some)
set_option maxRecDepth 100000
set_option maxHeartbeats 4000000
theorem nextW_step (l : Wd) (v : List Wd) (i : Nat) : nextW l (v.drop i) = match defW (wdAt v i) with
  | some d => decide (d = l) || nextW l (v.drop (i + 1))
  | none => false := by
 by_cases h : i < v.length
 ·have e : wdAt v i = v[i] := by unfold wdAt; rw [List.getElem?_eq_getElem h]; rfl
  rw [List.drop_eq_getElem_cons h, nextW, e]
  first | done | (cases defW v[i] <;> rfl)
 ·have e : wdAt v i = [] := by unfold wdAt; rw [List.getElem?_eq_none (by omega)]; rfl
  rw [List.drop_eq_nil_of_le (by omega), e]
  rfl
theorem defW_lt {v : List Wd} {i : Nat} {d : Wd} (h : defW (wdAt v i) = some d) : i < v.length := by
 by_cases hl : i < v.length
 ·exact hl
 ·have e : wdAt v i = [] := by unfold wdAt; rw [List.getElem?_eq_none (by omega)]; rfl
  rw [e] at h
  cases h
attribute [local irreducible] LOps LCode LStep LCalls Go.GL.Pure QThen QBlock RetPost LQ LAny LLate LLateOp
section
variable {B0 : Nat} {w0 : World}
theorem next_spec (v : List Wd) (m : Nat) (hv : Small v) : LCalls (KC B0 w0) 38 [viewLV v m] [] (Ret (ruleLV (rNext v))) := by
 have k0 := word_spec (B0 := B0) (w0 := w0) v m 0 (by have := hv.1; omega)
 have kj := jump_spec (B0 := B0) (w0 := w0) v m 1 hv (by omega)
 have kw : ∀ k, LCalls (KC B0 w0) 72 [viewLV v m, int .i64 (k : Nat)] [] (Ret (str (wdAt v k))) := fun k => word_spec v m k (by have := hv.1; omega)
 have kd : ∀ k, LCalls (KC B0 w0) 76 [str (wdAt v k)] [] (RetIf (OptLV (defW (wdAt v k)))) := fun k => definition_spec (wdAt v k) (by have := hv.at k; omega)
 have hF : rNext v = match jumpW v 1 with
  | some l => if wdAt v 0 = [48] ∧ nextW l (v.drop 3) = true then (3, []) else (0, [])
  | none => (0, []) := rfl
 unfold viewLV at k0 kj kw ⊢
 generalize jumpW v 1 = oj at kj hF
 generalize wdAt v 0 = a at k0 hF
 refine LCalls.intro Tryz.func38 rfl (n := 35) rfl rfl rfl ?_
 repeat first | refine LCode.seq ?_ | refine LCode.region ?_
 refine LOps.step (S.box (cs := [.list (v.map str), .atom (.map (some m))]) rfl fun b1 => ?_) rfl
 repeat first | refine LOps.nil ?_ | refine LCode.seq ?_ | refine LCode.region ?_ | refine QThen.normal ?_ | refine LOps.pure (Pure.as (lv := .atom _) rfl) rfl ?_ | refine LOps.pure (Pure.ldHAgg (cs' := [_, _]) rfl (List.Mem.head _) rfl rfl) rfl ?_
 refine LOps.step (S.fnIf [_, _] rfl kj ?_) rfl
 rintro lv ⟨s, rfl, hs⟩
 repeat first | refine LOps.nil ?_ | refine LCode.seq ?_ | refine LCode.region ?_ | refine QThen.normal ?_ | refine LOps.pure (Pure.as (lv := .atom _) rfl) rfl ?_ | refine LOps.pure (Pure.mv (lv := .tuple _) rfl) rfl ?_ | refine LOps.pure (Pure.extract (c := .atom _) rfl rfl) rfl ?_ | refine LOps.pure (Pure.mv (lv := .atom _) rfl) rfl ?_ | refine LOps.pure (Pure.not rfl) rfl ?_
 refine LOps.bcase 16 rfl (fun h1 => ?_) (fun h1 => ?_)
 ·obtain rfl : oj = none := by
   cases oj with
   | none => rfl
   | some l => cases h1
  repeat first | refine LOps.nil ?_ | refine QThen.normal ?_ | refine LOps.pure (Pure.pickT (lv := .atom _) rfl rfl) rfl ?_ | refine LOps.skip rfl rfl rfl rfl ?_
  refine LCode.cond rfl (fun h => ?_) (fun h => ?_)
  ·repeat first | refine LOps.nil ?_ | refine LCode.seq ?_ | refine LCode.region ?_ | refine LCode.ret ?_ | refine QThen.normal ?_ | refine QThen.ret ?_ | refine LOps.pure (Pure.as (lv := .atom _) rfl) rfl ?_
   exact retRet rfl (AllRes.cons (ResIs.tmp (v := .atom _) rfl (LV.Sub.refl _)) (AllRes.cons (ResIs.tmp (v := nilSlice) rfl LV.Sub.nil) AllRes.nil)) (by rw [hF]; rfl)
  ·cases h
 ·obtain ⟨l, rfl⟩ : ∃ l, oj = some l := by
   cases oj with
   | none => cases h1
   | some l => exact ⟨l, rfl⟩
  obtain rfl := hs l rfl
  simp only at hF
  repeat first | refine LOps.pure (Pure.ldHAgg (cs' := [_, _]) rfl (List.Mem.head _) rfl rfl) rfl ?_ | refine LOps.want rfl rfl ?_
  refine LOps.step (S.fn [_, _] rfl k0 ?_) rfl
  repeat first | refine LOps.nil ?_ | refine QThen.normal ?_ | refine LOps.pure (Pure.sneq rfl rfl) rfl ?_ | refine LOps.pure (Pure.pickF (lv := .atom _) rfl rfl) rfl ?_ | refine LOps.want rfl rfl ?_
  refine LCode.cond rfl (fun h => ?_) (fun h => ?_)
  ·have hne : ¬ a = [48] := by simpa using h
   rw [if_neg (fun hc => hne hc.1)] at hF
   repeat first | refine LOps.nil ?_ | refine LCode.seq ?_ | refine LCode.region ?_ | refine LCode.ret ?_ | refine QThen.normal ?_ | refine QThen.ret ?_ | refine LOps.pure (Pure.as (lv := .atom _) rfl) rfl ?_
   exact retRet rfl (AllRes.cons (ResIs.tmp (v := .atom _) rfl (LV.Sub.refl _)) (AllRes.cons (ResIs.tmp (v := nilSlice) rfl LV.Sub.nil) AllRes.nil)) (by rw [hF]; rfl)
  ·have he : a = [48] := by simpa using h
   subst he
   simp only [true_and] at hF
   repeat first | refine LOps.nil ?_ | refine LCode.seq ?_ | refine LCode.region ?_ | refine LCode.skip ?_ | refine LCode.block ?_ | refine QThen.normal ?_ | refine LOps.pure (Pure.as (lv := .atom _) rfl) rfl ?_
   refine LCode.loopI (fun k ls H => ∃ i, (i ≤ v.length ∨ i = 3) ∧ k = v.length + 4 - i ∧ ls = [(1, ptr b1 0), (4, str s), (6, int .i64 (i : Nat))] ∧ H = [(b1, .cells 92 [.list (v.map str), .atom (.map (some m))])] ∧ nextW s (v.drop 3) = nextW s (v.drop i))
    ⟨_, _, _, ⟨3, Or.inr rfl, rfl, rfl, rfl, rfl⟩, ⟨rfl, rfl, rfl, trivial⟩, HSub.refl _⟩ ?_
   rintro k ls H ⟨i, hi, rfl, rfl, rfl, hE⟩ j1 hj1
   have hl := hv.1
   rw [nextW_step s v i] at hE
   repeat first | refine LCode.seq ?_ | refine LCode.region ?_ | refine LCode.block ?_ | refine LOps.pure (Pure.ldHAgg (cs' := [_, _]) rfl (List.Mem.head _) rfl rfl) rfl ?_ | refine LOps.pure (Pure.mv (lv := .atom _) rfl) rfl ?_
   refine LOps.step (S.fn [_, _] rfl (kw i) ?_) rfl
   refine LOps.step (S.fnIf [_] rfl (kd i) ?_) rfl
   rintro lv ⟨d, rfl, hd⟩
   repeat first | refine LOps.nil ?_ | refine LCode.seq ?_ | refine LCode.region ?_ | refine QThen.normal ?_ | refine LOps.pure (Pure.as (lv := .atom _) rfl) rfl ?_ | refine LOps.pure (Pure.mv (lv := .tuple _) rfl) rfl ?_ | refine LOps.pure (Pure.extract (c := .atom _) rfl rfl) rfl ?_ | refine LOps.pure (Pure.mv (lv := .atom _) rfl) rfl ?_ | refine LOps.pure (Pure.not rfl) rfl ?_
   refine LCode.cond rfl (fun h => ?_) (fun h => ?_)
   ·have hn : defW (wdAt v i) = none := by
     cases ho : defW (wdAt v i) with
     | none => rfl
     | some l => rw [ho] at h; cases h
    rw [hn] at hE
    rw [hE] at hF
    repeat first | refine LOps.nil ?_ | refine LCode.seq ?_ | refine LCode.region ?_ | refine LCode.ret ?_ | refine QThen.normal ?_ | refine QThen.ret ?_ | refine QBlock.ret ?_ | refine LOps.pure (Pure.as (lv := .atom _) rfl) rfl ?_
    exact retRet hj1 (AllRes.cons (ResIs.tmp (v := .atom _) rfl (LV.Sub.refl _)) (AllRes.cons (ResIs.tmp (v := nilSlice) rfl LV.Sub.nil) AllRes.nil)) (by rw [hF]; rfl)
   ·obtain ⟨e, ho⟩ : ∃ e, defW (wdAt v i) = some e := by
     cases ho : defW (wdAt v i) with
     | none => rw [ho] at h; cases h
     | some l => exact ⟨l, rfl⟩
    have hlt := defW_lt ho
    obtain rfl := hd e ho
    rw [ho] at hE
    simp only at hE
    repeat first | refine LOps.nil ?_ | refine LCode.seq ?_ | refine LCode.region ?_ | refine LCode.skip ?_ | refine QThen.normal ?_ | refine LOps.pure (Pure.mv (lv := .atom _) rfl) rfl ?_ | refine LOps.pure (Pure.seq rfl rfl) rfl ?_
    refine LCode.cond rfl (fun h2 => ?_) (fun h2 => ?_)
    ·have he : d = s := of_decide_eq_true h2
     rw [decide_eq_true he, Bool.true_or] at hE
     rw [hE] at hF
     repeat first | refine LOps.nil ?_ | refine LCode.seq ?_ | refine LCode.region ?_ | refine LCode.ret ?_ | refine QThen.normal ?_ | refine QThen.ret ?_ | refine QBlock.ret ?_ | refine LOps.pure (Pure.as (lv := .atom _) rfl) rfl ?_
     exact retRet hj1 (AllRes.cons (ResIs.tmp (v := .atom _) rfl (LV.Sub.refl _)) (AllRes.cons (ResIs.tmp (v := nilSlice) rfl LV.Sub.nil) AllRes.nil)) (by rw [hF]; rfl)
    ·have he : ¬ d = s := of_decide_eq_false h2
     rw [decide_eq_false he, Bool.false_or] at hE
     repeat first | refine LOps.nil ?_ | refine LCode.region ?_ | refine LCode.skip ?_ | refine QThen.normal ?_ | refine QBlock.normal ?_ | refine LOps.pure (Pure.as (lv := .atom _) rfl) rfl ?_ | refine LOps.pure (Pure.mv (lv := .atom _) rfl) rfl ?_ | refine LOps.pure (Pure.add rfl rfl (by omega)) rfl ?_
     exact ⟨_, _, _, by omega, ⟨i + 1, Or.inl (by omega), rfl, rfl, rfl, hE⟩, ⟨rfl, rfl, int_eq (by omega), trivial⟩, HSub.refl _, hj1⟩
end
end Go.Proofs.YtdakelgkjdaijaaGreatDoor.Pp
namespace Go.Proofs.YtdakelgkjdaijaaGreatDoor.Pp
open Go.GL Go.RowKit Go.Stele
open Go.Proofs.YtdakelgkjdaijaaGreatDoor.Asm (OptLV OptLV.mk ite_some)
set_option maxRecDepth 100000
set_option maxHeartbeats 4000000
attribute [local irreducible] LOps LCode LStep LCalls Go.GL.Pure QThen QBlock RetPost LQ LAny LLate LLateOp
section
variable {B0 : Nat} {w0 : World}
theorem same_spec (hG : GW B0 w0) (v : List Wd) (m : Nat) (hv : Small v) : LCalls (KC B0 w0) 35 [viewLV v m] [] (Ret (ruleLV (rSame v))) := by
 have k0 := word_spec (B0 := B0) (w0 := w0) v m 0 (by have := hv.1; omega)
 have kn := number_spec hG (wdAt v 0) (by have := hv.at 0; omega)
 have ki := is_spec (B0 := B0) (w0 := w0) v m 1 [[64], wdAt v 0, [33]] hv (by omega) (by simp only [List.length_cons, List.length_nil]; omega)
 have hF : rSame v = if (numW (wdAt v 0)).isSome = true ∧ isW v 1 [[64], wdAt v 0, [33]] = true then (4, []) else (0, []) := by
  simp only [rSame, isW, Bool.and_eq_true, decide_eq_true_eq, and_true]
 unfold viewLV at k0 ki ⊢
 generalize numW (wdAt v 0) = on at kn hF
 generalize isW v 1 [[64], wdAt v 0, [33]] = q at ki hF
 generalize wdAt v 0 = a at k0 kn ki
 refine LCalls.intro Tryz.func35 rfl (n := 20) rfl rfl rfl ?_
 repeat first | refine LCode.seq ?_ | refine LCode.region ?_
 refine LOps.step (S.box (cs := [.list (v.map str), .atom (.map (some m))]) rfl fun b1 => ?_) rfl
 repeat first | refine LOps.nil ?_ | refine LCode.seq ?_ | refine LCode.region ?_ | refine QThen.normal ?_ | refine LOps.pure (Pure.as (lv := .atom _) rfl) rfl ?_ | refine LOps.pure (Pure.ldHAgg (cs' := [_, _]) rfl (List.Mem.head _) rfl rfl) rfl ?_
 refine LOps.step (S.fn [_, _] rfl k0 ?_) rfl
 refine LOps.step (S.fn [_] rfl kn ?_) rfl
 repeat first | refine LOps.nil ?_ | refine LCode.seq ?_ | refine QThen.normal ?_ | refine LOps.pure (Pure.as (lv := .atom _) rfl) rfl ?_ | refine LOps.pure (Pure.mv (lv := .tuple _) rfl) rfl ?_ | refine LOps.pure (Pure.extract (c := .atom _) rfl rfl) rfl ?_
 cases on with
 | none =>
  refine LCode.draw (m := 8) rfl [(b1, .cells 92 [.list (v.map str), .atom (.map (some m))])] ?_
  refine LAny.tk 0 rfl rfl (Pure.mv (lv := .atom _) rfl) ?_
  refine LAny.tk 1 rfl rfl (Pure.mv (lv := .atom _) rfl) ?_
  refine LAny.takeSkip (i := 2) rfl rfl rfl rfl (by kernel_rfl) (by kernel_rfl) (by kernel_rfl) rfl ?_
  refine LAny.takeSkip (i := 3) rfl rfl rfl rfl (by kernel_rfl) (by kernel_rfl) (by kernel_rfl) rfl ?_
  refine LAny.takeSkip (i := 4) rfl rfl rfl rfl (by kernel_rfl) (by kernel_rfl) (by kernel_rfl) rfl ?_
  refine LAny.takeSkip (i := 5) rfl rfl rfl rfl (by kernel_rfl) (by kernel_rfl) (by kernel_rfl) rfl ?_
  refine LAny.takeSkip (i := 6) rfl rfl rfl rfl (by kernel_rfl) (by kernel_rfl) (by kernel_rfl) rfl ?_
  refine LAny.tk 7 rfl rfl (Pure.pickF (lv := .atom _) rfl rfl) ?_
  refine LAny.late ?_ (HSub.refl _)
  refine LLate.done (by kernel_rfl) ?_
  repeat first | refine QThen.normal ?_
  refine LCode.cond rfl (fun h => ?_) (fun h => ?_)
  ·cases h
  ·repeat first | refine LOps.nil ?_ | refine LCode.seq ?_ | refine LCode.region ?_ | refine LCode.skip ?_ | refine LCode.ret ?_ | refine QThen.normal ?_ | refine LOps.pure (Pure.as (lv := .atom _) rfl) rfl ?_
   exact retRet rfl (AllRes.cons (ResIs.tmp (v := .atom _) rfl (LV.Sub.refl _)) (AllRes.cons (ResIs.tmp (v := nilSlice) rfl LV.Sub.nil) AllRes.nil)) (by rw [hF]; rfl)
 | some n =>
  refine LCode.draw (m := 8) rfl [(b1, .cells 92 [.list (v.map str), .atom (.map (some m))])] ?_
  refine LAny.tk 0 rfl rfl (Pure.mv (lv := .atom _) rfl) ?_
  refine LAny.tk 1 rfl rfl (Pure.mv (lv := .atom _) rfl) ?_
  refine LAny.tkW 2 rfl rfl rfl rfl (Pure.ldHAgg (cs' := [_, _]) rfl (List.Mem.head _) rfl rfl) ?_
  refine LAny.tkW 3 rfl rfl rfl rfl (Pure.ldHAgg (cs' := [_, _]) rfl (List.Mem.head _) rfl rfl) ?_
  refine LAny.late ?_ (HSub.refl _)
  refine LLate.o 4 (LLateOp.step (H1 := []) rfl (.inr ⟨1, true, 13, rfl, rfl, rfl⟩) rfl (List.Perm.refl _) (HSub.refl _) (S.fn [_, _] rfl k0 ?_))
  refine LLate.o 5 (LLateOp.step (H1 := []) rfl (.inr ⟨1, true, 13, rfl, rfl, rfl⟩) rfl (List.Perm.refl _) (HSub.refl _) ?_)
  refine S.lit [.const (.string { data := #[64] }), .tmp 16, .const (.string { data := #[33] })] rfl (elemsOk.cons rfl rfl (elemsOk.cons rfl rfl (elemsOk.cons rfl rfl elemsOk.nil))) rfl rfl rfl ?_
  refine LLate.o 6 (LLateOp.step (H1 := []) rfl (.inr ⟨1, true, 13, rfl, rfl, rfl⟩) rfl (List.Perm.refl _) (HSub.refl _) (S.fn [_, _, _] rfl ki ?_))
  refine LLate.any [(b1, .cells 92 [.list (v.map str), .atom (.map (some m))])] (fun _ h => h) ?_
  refine LAny.tk 7 rfl rfl (Pure.pickT (lv := .atom _) rfl rfl) ?_
  refine LAny.late ?_ (HSub.refl _)
  refine LLate.done (by kernel_rfl) ?_
  repeat first | refine QThen.normal ?_
  refine LCode.cond rfl (fun h => ?_) (fun h => ?_)
  ·have hq : q = true := h
   subst hq
   repeat first | refine LOps.nil ?_ | refine LCode.seq ?_ | refine LCode.region ?_ | refine LCode.ret ?_ | refine QThen.normal ?_ | refine QThen.ret ?_ | refine LOps.pure (Pure.as (lv := .atom _) rfl) rfl ?_
   exact retRet rfl (AllRes.cons (ResIs.tmp (v := .atom _) rfl (LV.Sub.refl _)) (AllRes.cons (ResIs.tmp (v := nilSlice) rfl LV.Sub.nil) AllRes.nil)) (by rw [hF]; rfl)
  ·have hq : q = false := h
   subst hq
   repeat first | refine LOps.nil ?_ | refine LCode.seq ?_ | refine LCode.region ?_ | refine LCode.skip ?_ | refine LCode.ret ?_ | refine QThen.normal ?_ | refine LOps.pure (Pure.as (lv := .atom _) rfl) rfl ?_
   exact retRet rfl (AllRes.cons (ResIs.tmp (v := .atom _) rfl (LV.Sub.refl _)) (AllRes.cons (ResIs.tmp (v := nilSlice) rfl LV.Sub.nil) AllRes.nil)) (by rw [hF]; rfl)
end
end Go.Proofs.YtdakelgkjdaijaaGreatDoor.Pp
namespace Go.Proofs.YtdakelgkjdaijaaGreatDoor.Pp
open Go.GL Go.RowKit Go.Stele
open Go.Proofs.YtdakelgkjdaijaaGreatDoor.Asm (OptLV OptLV.mk ite_some)
set_option maxRecDepth 100000
set_option maxHeartbeats 4000000
theorem take6_drop4 {v : List Wd} (h : 5 < v.length) : ((v.map str).take 6).drop 4 = [str (wdAt v 4), str (wdAt v 5)] := by
 have e4 : wdAt v 4 = v[4] := by unfold wdAt; rw [List.getElem?_eq_getElem (by omega)]; rfl
 have e5 : wdAt v 5 = v[5] := by unfold wdAt; rw [List.getElem?_eq_getElem h]; rfl
 rw [e4, e5, ← List.map_take, ← List.map_drop]
 have : (v.take 6).drop 4 = [v[4], v[5]] := by
  rw [List.drop_take, List.drop_eq_getElem_cons (by omega : 4 < v.length), List.drop_eq_getElem_cons h]
  rfl
 rw [this]
 rfl
attribute [local irreducible] LOps LCode LStep LCalls Go.GL.Pure QThen QBlock RetPost LQ LAny LLate LLateOp
section
variable {B0 : Nat} {w0 : World}
theorem double_spec (v : List Wd) (m : Nat) (hv : Small v) : LCalls (KC B0 w0) 36 [viewLV v m] [] (Ret (ruleLV (rDouble v))) := by
 have kj := jump_spec (B0 := B0) (w0 := w0) v m 4 hv (by omega)
 have ki := is_spec (B0 := B0) (w0 := w0) v m 0 [[49], [60], [49], [60]] hv (by omega) (by decide)
 have hF : rDouble v = if (jumpW v 4).isSome = true ∧ isW v 0 [[49], [60], [49], [60]] = true then (6, [wdAt v 4, wdAt v 5]) else (0, []) := by
  simp only [rDouble, isW, Bool.and_eq_true, decide_eq_true_eq, and_true]
 have hlen : ∀ l, jumpW v 4 = some l → 5 < v.length := fun l h => jumpW_lt h
 unfold viewLV at kj ki ⊢
 generalize jumpW v 4 = oj at kj hF hlen
 generalize isW v 0 [[49], [60], [49], [60]] = q at ki hF
 refine LCalls.intro Tryz.func36 rfl (n := 20) rfl rfl rfl ?_
 repeat first | refine LCode.seq ?_ | refine LCode.region ?_
 refine LOps.step (S.box (cs := [.list (v.map str), .atom (.map (some m))]) rfl fun b1 => ?_) rfl
 repeat first | refine LOps.nil ?_ | refine LCode.seq ?_ | refine LCode.region ?_ | refine QThen.normal ?_ | refine LOps.pure (Pure.as (lv := .atom _) rfl) rfl ?_ | refine LOps.pure (Pure.ldHAgg (cs' := [_, _]) rfl (List.Mem.head _) rfl rfl) rfl ?_
 refine LOps.step (S.fnIf [_, _] rfl kj ?_) rfl
 rintro lv ⟨s, rfl, hs⟩
 repeat first | refine LOps.nil ?_ | refine LCode.seq ?_ | refine LCode.region ?_ | refine QThen.normal ?_ | refine LOps.pure (Pure.as (lv := .atom _) rfl) rfl ?_ | refine LOps.pure (Pure.mv (lv := .tuple _) rfl) rfl ?_ | refine LOps.pure (Pure.extract (c := .atom _) rfl rfl) rfl ?_ | refine LOps.pure (Pure.mv (lv := .atom _) rfl) rfl ?_
 cases oj with
 | none =>
  repeat first | refine LOps.nil ?_ | refine QThen.normal ?_ | refine LOps.pure (Pure.pickF (lv := .atom _) rfl rfl) rfl ?_ | refine LOps.skip rfl rfl rfl rfl ?_
  refine LCode.cond rfl (fun h => ?_) (fun h => ?_)
  ·cases h
  ·repeat first | refine LOps.nil ?_ | refine LCode.seq ?_ | refine LCode.region ?_ | refine LCode.skip ?_ | refine LCode.ret ?_ | refine QThen.normal ?_ | refine LOps.pure (Pure.as (lv := .atom _) rfl) rfl ?_
   exact retRet rfl (AllRes.cons (ResIs.tmp (v := .atom _) rfl (LV.Sub.refl _)) (AllRes.cons (ResIs.tmp (v := nilSlice) rfl LV.Sub.nil) AllRes.nil)) (by rw [hF]; rfl)
 | some l =>
  have h5 := hlen l rfl
  repeat first | refine LOps.pure (Pure.ldHAgg (cs' := [_, _]) rfl (List.Mem.head _) rfl rfl) rfl ?_ | refine LOps.want rfl rfl ?_
  refine LOps.step (S.lit [.const (.string { data := #[49] }), .const (.string { data := #[60] }), .const (.string { data := #[49] }), .const (.string { data := #[60] })] rfl (elemsOk.cons rfl rfl (elemsOk.cons rfl rfl (elemsOk.cons rfl rfl (elemsOk.cons rfl rfl elemsOk.nil)))) rfl rfl rfl ?_) rfl
  repeat first | refine LOps.want rfl rfl ?_
  refine LOps.step (S.fn [_, _, _] rfl ki ?_) rfl
  repeat first | refine LOps.nil ?_ | refine QThen.normal ?_ | refine LOps.pure (Pure.pickT (lv := .atom _) rfl rfl) rfl ?_
  refine LCode.cond rfl (fun h => ?_) (fun h => ?_)
  ·have hq : q = true := h
   subst hq
   repeat first | refine LCode.seq ?_
   refine LCode.draw (m := 5) rfl [(b1, .cells 92 [.list (v.map str), .atom (.map (some m))])] ?_
   refine LAny.tk 0 rfl rfl (Pure.fieldH rfl) ?_
   refine LAny.tk 1 rfl rfl (Pure.loadH (c := .list _) rfl (List.Mem.head _) rfl) ?_
   refine LAny.take (i := 2) (HSub.refl _) rfl (by kernel_rfl) (by kernel_rfl) (by kernel_rfl) rfl (Pure.lslice (es := v.map str) (i := 4) (j := 6) rfl ⟨_, rfl⟩ ⟨_, rfl⟩ (by omega) (by omega) (by rw [List.length_map]; omega) (strs_len v)) ?_
   refine LAny.tk 3 rfl rfl (Pure.as (lv := .atom _) rfl) ?_
   refine LAny.tk 4 rfl rfl (Pure.as (lv := .list _) rfl) ?_
   refine LAny.late ?_ (HSub.refl _)
   refine LLate.done (by kernel_rfl) ?_
   repeat first | refine LCode.ret ?_ | refine QThen.normal ?_ | refine QThen.ret ?_
   exact retRet rfl (AllRes.cons (ResIs.tmp (v := .atom _) rfl (LV.Sub.refl _)) (AllRes.cons (ResIs.tmp (v := .list _) rfl (LV.Sub.refl _)) AllRes.nil)) (by rw [hF]; exact congrArg (fun x => LV.tuple [int .i64 6, .list x]) (take6_drop4 h5))
  ·have hq : q = false := h
   subst hq
   repeat first | refine LOps.nil ?_ | refine LCode.seq ?_ | refine LCode.region ?_ | refine LCode.skip ?_ | refine LCode.ret ?_ | refine QThen.normal ?_ | refine LOps.pure (Pure.as (lv := .atom _) rfl) rfl ?_
   exact retRet rfl (AllRes.cons (ResIs.tmp (v := .atom _) rfl (LV.Sub.refl _)) (AllRes.cons (ResIs.tmp (v := nilSlice) rfl LV.Sub.nil) AllRes.nil)) (by rw [hF]; rfl)
end
end Go.Proofs.YtdakelgkjdaijaaGreatDoor.Pp
namespace Go.Proofs.YtdakelgkjdaijaaGreatDoor.Pp
open Go.GL Go.RowKit Go.Stele
open Go.Proofs.YtdakelgkjdaijaaGreatDoor.Asm (OptLV OptLV.mk ite_some)
set_option maxRecDepth 100000
set_option maxHeartbeats 4000000
attribute [local irreducible] LOps LCode LStep LCalls Go.GL.Pure QThen QBlock RetPost LQ LAny LLate LLateOp
section
variable {B0 : Nat} {w0 : World}
theorem regroup_spec (hG : GW B0 w0) (v : List Wd) (m : Nat) (hv : Small v) : LCalls (KC B0 w0) 34 [viewLV v m] [] (Ret (ruleLV (rRegroup v))) := by
 have k0 := word_spec (B0 := B0) (w0 := w0) v m 0 (by have := hv.1; omega)
 have k1 := word_spec (B0 := B0) (w0 := w0) v m 1 (by have := hv.1; omega)
 have k2 := word_spec (B0 := B0) (w0 := w0) v m 2 (by have := hv.1; omega)
 have k3 := word_spec (B0 := B0) (w0 := w0) v m 3 (by have := hv.1; omega)
 have kj := joined_spec hG (wdAt v 0) (wdAt v 1) (wdAt v 2) (hv.at 0) (hv.at 2)
 have hF : rRegroup v = if (wdAt v 1 = [43] ∨ wdAt v 1 = [42] ∨ wdAt v 1 = [94]) ∧ wdAt v 3 = wdAt v 1 then
  (match joinedW (wdAt v 0) (wdAt v 1) (wdAt v 2) with
  | some s => (4, [s, wdAt v 1])
  | none => (0, []))
 else (0, []) := rfl
 unfold viewLV at k0 k1 k2 k3 ⊢
 generalize joinedW (wdAt v 0) (wdAt v 1) (wdAt v 2) = o at kj hF
 generalize wdAt v 1 = b at k1 kj hF
 generalize wdAt v 3 = d at k3 hF
 refine LCalls.intro Tryz.func34 rfl (n := 38) rfl rfl rfl ?_
 repeat first | refine LCode.seq ?_ | refine LCode.region ?_
 refine LOps.step (S.box (cs := [.list (v.map str), .atom (.map (some m))]) rfl fun b1 => ?_) rfl
 repeat first | refine LOps.nil ?_ | refine LCode.seq ?_ | refine LCode.region ?_ | refine QThen.normal ?_ | refine LOps.pure (Pure.as (lv := .atom _) rfl) rfl ?_ | refine LOps.pure (Pure.ldHAgg (cs' := [_, _]) rfl (List.Mem.head _) rfl rfl) rfl ?_
 refine LOps.step (S.fn [_, _] rfl k1 ?_) rfl
 repeat first | refine LOps.nil ?_ | refine LCode.seq ?_ | refine LCode.region ?_ | refine QThen.normal ?_ | refine LOps.pure (Pure.as (lv := .atom _) rfl) rfl ?_ | refine LOps.pure (Pure.mv (lv := .atom _) rfl) rfl ?_ | refine LOps.pure (Pure.sneq rfl rfl) rfl ?_
 refine LOps.cut [(1, ptr b1 0), (4, str b), (24, bool (!decide ((b = [43] ∨ b = [42] ∨ b = [94]) ∧ d = b)))] ?_ (fun j hj => ?_)
 ·refine LOps.bcase 11 rfl (fun h1 => ?_) (fun h1 => ?_)
  ·have e1 : ¬ b = [43] := by simpa using h1
   repeat first | refine LOps.pure (Pure.mv (lv := .atom _) rfl) rfl ?_ | refine LOps.pure (Pure.sneq rfl rfl) rfl ?_ | refine LOps.pure (Pure.pickT (lv := .atom _) rfl rfl) rfl ?_ | refine LOps.want rfl rfl ?_
   refine LOps.bcase 15 rfl (fun h2 => ?_) (fun h2 => ?_)
   ·have e2 : ¬ b = [42] := by simpa using h2
    repeat first | refine LOps.pure (Pure.mv (lv := .atom _) rfl) rfl ?_ | refine LOps.pure (Pure.sneq rfl rfl) rfl ?_ | refine LOps.pure (Pure.pickT (lv := .atom _) rfl rfl) rfl ?_ | refine LOps.want rfl rfl ?_
    refine LOps.bcase 19 rfl (fun h3 => ?_) (fun h3 => ?_)
    ·have e3 : ¬ b = [94] := by simpa using h3
     repeat first | refine LOps.nil ?_ | refine QThen.normal ?_ | refine LOps.pure (Pure.pickT (lv := .atom _) rfl rfl) rfl ?_ | refine LOps.skip rfl rfl rfl rfl ?_
     exact ⟨⟨rfl, rfl, bool_eq (by simp [e1, e2, e3]), trivial⟩, rfl, rfl⟩
    ·have e3 : b = [94] := by simpa using h3
     repeat first | refine LOps.pure (Pure.ldHAgg (cs' := [_, _]) rfl (List.Mem.head _) rfl rfl) rfl ?_ | refine LOps.want rfl rfl ?_
     refine LOps.step (S.fn [_, _] rfl k3 ?_) rfl
     repeat first | refine LOps.nil ?_ | refine QThen.normal ?_ | refine LOps.pure (Pure.mv (lv := .atom _) rfl) rfl ?_ | refine LOps.pure (Pure.sneq rfl rfl) rfl ?_ | refine LOps.pure (Pure.pickF (lv := .atom _) rfl rfl) rfl ?_ | refine LOps.want rfl rfl ?_
     exact ⟨⟨rfl, rfl, bool_eq (by simp [e3]), trivial⟩, rfl, rfl⟩
   ·have e2 : b = [42] := by simpa using h2
    repeat first | refine LOps.pure (Pure.ldHAgg (cs' := [_, _]) rfl (List.Mem.head _) rfl rfl) rfl ?_ | refine LOps.pure (Pure.mv (lv := .atom _) rfl) rfl ?_ | refine LOps.pure (Pure.pickF (lv := .atom _) rfl rfl) rfl ?_ | refine LOps.want rfl rfl ?_ | refine LOps.skip rfl rfl rfl rfl ?_
    refine LOps.step (S.fn [_, _] rfl k3 ?_) rfl
    repeat first | refine LOps.nil ?_ | refine QThen.normal ?_ | refine LOps.pure (Pure.mv (lv := .atom _) rfl) rfl ?_ | refine LOps.pure (Pure.sneq rfl rfl) rfl ?_ | refine LOps.pure (Pure.pickF (lv := .atom _) rfl rfl) rfl ?_ | refine LOps.want rfl rfl ?_
    exact ⟨⟨rfl, rfl, bool_eq (by simp [e2]), trivial⟩, rfl, rfl⟩
  ·have e1 : b = [43] := by simpa using h1
   repeat first | refine LOps.pure (Pure.ldHAgg (cs' := [_, _]) rfl (List.Mem.head _) rfl rfl) rfl ?_ | refine LOps.pure (Pure.mv (lv := .atom _) rfl) rfl ?_ | refine LOps.pure (Pure.pickF (lv := .atom _) rfl rfl) rfl ?_ | refine LOps.want rfl rfl ?_ | refine LOps.skip rfl rfl rfl rfl ?_
   refine LOps.step (S.fn [_, _] rfl k3 ?_) rfl
   repeat first | refine LOps.nil ?_ | refine QThen.normal ?_ | refine LOps.pure (Pure.mv (lv := .atom _) rfl) rfl ?_ | refine LOps.pure (Pure.sneq rfl rfl) rfl ?_ | refine LOps.pure (Pure.pickF (lv := .atom _) rfl rfl) rfl ?_ | refine LOps.want rfl rfl ?_
   exact ⟨⟨rfl, rfl, bool_eq (by simp [e1]), trivial⟩, rfl, rfl⟩
 refine LCode.cond rfl (fun h => ?_) (fun h => ?_)
 ·have hn : ¬ ((b = [43] ∨ b = [42] ∨ b = [94]) ∧ d = b) := of_decide_eq_false (Bool.not_eq_true' _ ▸ h)
  rw [if_neg hn] at hF
  repeat first | refine LOps.nil ?_ | refine LCode.seq ?_ | refine LCode.region ?_ | refine LCode.ret ?_ | refine QThen.normal ?_ | refine QThen.ret ?_ | refine LOps.pure (Pure.as (lv := .atom _) rfl) rfl ?_
  exact retRet hj (AllRes.cons (ResIs.tmp (v := .atom _) rfl (LV.Sub.refl _)) (AllRes.cons (ResIs.tmp (v := nilSlice) rfl LV.Sub.nil) AllRes.nil)) (by rw [hF]; rfl)
 ·have hn : (b = [43] ∨ b = [42] ∨ b = [94]) ∧ d = b := by
   by_cases hc : (b = [43] ∨ b = [42] ∨ b = [94]) ∧ d = b
   ·exact hc
   ·rw [decide_eq_false hc] at h
    cases h
  rw [if_pos hn] at hF
  repeat first | refine LCode.seq ?_ | refine LCode.skip ?_ | refine QThen.normal ?_
  refine LCode.draw (m := 11) rfl [(b1, .cells 92 [.list (v.map str), .atom (.map (some m))])] ?_
  refine LAny.tk 0 rfl rfl (Pure.ldHAgg (cs' := [_, _]) rfl (List.Mem.head _) rfl rfl) ?_
  refine LAny.tk 2 rfl rfl (Pure.mv (lv := .atom _) rfl) ?_
  refine LAny.tk 3 rfl rfl (Pure.ldHAgg (cs' := [_, _]) rfl (List.Mem.head _) rfl rfl) ?_
  refine LAny.late ?_ (HSub.refl _)
  refine LLate.o 1 (LLateOp.step (H1 := []) rfl (.inl rfl) rfl (List.Perm.refl _) (HSub.refl _) (S.fn [_, _] rfl k0 ?_))
  refine LLate.o 4 (LLateOp.step (H1 := []) rfl (.inl rfl) rfl (List.Perm.refl _) (HSub.refl _) (S.fn [_, _] rfl k2 ?_))
  refine LLate.o 5 (LLateOp.step (H1 := []) rfl (.inl rfl) rfl (List.Perm.refl _) (HSub.refl _) (S.fnIf [_, _, _] rfl kj ?_))
  rintro lv ⟨s, rfl, hs⟩
  refine LLate.any [(b1, .cells 92 [.list (v.map str), .atom (.map (some m))])] (fun _ h => h) ?_
  refine LAny.tk 6 rfl rfl (Pure.mv (lv := .tuple _) rfl) ?_
  refine LAny.tk 7 rfl rfl (Pure.extract (c := .atom _) rfl rfl) ?_
  refine LAny.tk 8 rfl rfl (Pure.extract (c := .atom _) rfl rfl) ?_
  refine LAny.tk 9 rfl rfl (Pure.as (lv := .atom _) rfl) ?_
  refine LAny.tk 10 rfl rfl (Pure.as (lv := .atom _) rfl) ?_
  refine LAny.late ?_ (HSub.refl _)
  refine LLate.done (by kernel_rfl) ?_
  repeat first | refine QThen.normal ?_
  repeat first | refine LOps.nil ?_ | refine LCode.seq ?_ | refine LCode.region ?_ | refine QThen.normal ?_ | refine LOps.pure (Pure.mv (lv := .atom _) rfl) rfl ?_
  refine LCode.cond rfl (fun h => ?_) (fun h => ?_)
  ·obtain ⟨l, rfl⟩ := Option.isSome_iff_exists.1 h
   obtain rfl := hs l rfl
   repeat first | refine LCode.seq ?_ | refine LCode.region ?_ | refine LOps.pure (Pure.mv (lv := .atom _) rfl) rfl ?_
   refine LOps.step (S.lit [.tmp 35, .tmp 36] rfl (elemsOk.cons rfl rfl (elemsOk.cons rfl rfl elemsOk.nil)) rfl rfl rfl ?_) rfl
   repeat first | refine LOps.nil ?_ | refine LCode.ret ?_ | refine QThen.normal ?_ | refine QThen.ret ?_ | refine LOps.pure (Pure.as (lv := .atom _) rfl) rfl ?_ | refine LOps.pure (Pure.as (lv := .list _) rfl) rfl ?_
   exact retRet hj (AllRes.cons (ResIs.tmp (v := .atom _) rfl (LV.Sub.refl _)) (AllRes.cons (ResIs.tmp (v := .list _) rfl (LV.Sub.refl _)) AllRes.nil)) (by rw [hF]; rfl)
  ·obtain rfl : o = none := by
    cases o with
    | none => rfl
    | some l => cases h
   repeat first | refine LOps.nil ?_ | refine LCode.seq ?_ | refine LCode.region ?_ | refine LCode.skip ?_ | refine LCode.ret ?_ | refine QThen.normal ?_ | refine LOps.pure (Pure.as (lv := .atom _) rfl) rfl ?_
   exact retRet hj (AllRes.cons (ResIs.tmp (v := .atom _) rfl (LV.Sub.refl _)) (AllRes.cons (ResIs.tmp (v := nilSlice) rfl LV.Sub.nil) AllRes.nil)) (by rw [hF]; rfl)
end
end Go.Proofs.YtdakelgkjdaijaaGreatDoor.Pp
namespace Go.Proofs.YtdakelgkjdaijaaGreatDoor.Pp
open Go.GL Go.RowKit Go.Stele
open Go.Proofs.YtdakelgkjdaijaaGreatDoor.Asm (OptLV OptLV.mk ite_some)
set_option maxRecDepth 100000
set_option maxHeartbeats 4000000
theorem deadLen_stop {v : List Wd} {i : Nat} (h : v.length ≤ i) : deadLen (v.drop i) = 0 := by
 rw [List.drop_eq_nil_of_le h]
 rfl
theorem deadLen_def {v : List Wd} {i : Nat} (h : i < v.length) (hd : (defW v[i]).isSome = true) : deadLen (v.drop i) = 0 := by
 unfold deadLen
 rw [List.drop_eq_getElem_cons h, List.takeWhile_cons_of_neg (fun hc => absurd (show (defW v[i]).isNone = true from hc) (by
  cases hx : defW v[i] with
  | none => rw [hx] at hd; cases hd
  | some d => simp))]
 rfl
theorem deadLen_step {v : List Wd} {i : Nat} (h : i < v.length) (hd : (defW v[i]).isSome = false) : deadLen (v.drop i) = deadLen (v.drop (i + 1)) + 1 := by
 unfold deadLen
 rw [List.drop_eq_getElem_cons h, List.takeWhile_cons_of_pos (by simpa using hd)]
 rfl
theorem dead_is {v : List Wd} {n i : Nat} (hn : n = stopW v) (h0 : n = 0 → i = 0) (hi : n ≤ i) (hE : 0 < n → deadLen (v.drop n) = i - n) : rDead v = if n < i then (i, v.take n) else (0, []) := by
 unfold rDead
 rw [← hn]
 by_cases h : 0 < n
 ·rw [hE h]
  by_cases hj : n < i
  ·rw [if_pos ⟨h, by omega⟩, if_pos hj, show n + (i - n) = i by omega]
  ·rw [if_neg (fun hc => hj (by omega)), if_neg hj]
 ·rw [if_neg (fun hc => h hc.1), if_neg (by have := h0 (by omega); omega)]
attribute [local irreducible] LOps LCode LStep LCalls Go.GL.Pure QThen QBlock RetPost LQ LAny LLate LLateOp
section
variable {B0 : Nat} {w0 : World}
theorem dead_spec (v : List Wd) (m : Nat) (hv : Small v) : LCalls (KC B0 w0) 39 [viewLV v m] [] (Ret (ruleLV (rDead v))) := by
 have hla : (v.map str).length = v.length := List.length_map _
 have hl := hv.1
 have k0 := word_spec (B0 := B0) (w0 := w0) v m 0 (by have := hv.1; omega)
 have kj := jump_spec (B0 := B0) (w0 := w0) v m 1 hv (by omega)
 have hS : stopW v = if (jumpW v 1).isSome = true ∧ wdAt v 0 = [48] then 3 else if wdAt v 0 = [59] ∨ wdAt v 0 = [36] then 1 else 0 := rfl
 have hD := @dead_is v
 unfold viewLV at k0 kj ⊢
 generalize stopW v = n at hS hD
 generalize jumpW v 1 = oj at kj hS
 generalize wdAt v 0 = a at k0 hS
 have hn3 : n ≤ 3 := by
  rw [hS]
  split
  ·omega
  ·split <;> omega
 refine LCalls.intro Tryz.func39 rfl (n := 59) rfl rfl rfl ?_
 repeat first | refine LCode.seq ?_ | refine LCode.region ?_
 refine LOps.step (S.box (cs := [.list (v.map str), .atom (.map (some m))]) rfl fun b1 => ?_) rfl
 repeat (first | refine LOps.nil ?_ | refine QThen.normal ?_ | refine LOps.pure (Pure.as (lv := .atom _) rfl) rfl ?_)
 refine LCode.seq ?_
 refine LCode.region ?_
 repeat (first | refine LOps.nil ?_ | refine QThen.normal ?_ | refine LOps.pure (Pure.as (lv := .atom _) rfl) rfl ?_)
 refine LCode.seq ?_
 refine LCode.cut [(1, ptr b1 0), (4, int .i64 (n : Nat))] ?_ (fun j hj => ?_)
 ·repeat first | refine LCode.seq ?_ | refine LCode.region ?_ | refine LOps.pure (Pure.ldHAgg (cs' := [_, _]) rfl (List.Mem.head _) rfl rfl) rfl ?_
  refine LOps.step (S.fnIf [_, _] rfl kj ?_) rfl
  rintro lv ⟨s, rfl, hs⟩
  repeat first | refine LOps.nil ?_ | refine LCode.seq ?_ | refine LCode.region ?_ | refine QThen.normal ?_ | refine LOps.pure (Pure.as (lv := .atom _) rfl) rfl ?_ | refine LOps.pure (Pure.mv (lv := .tuple _) rfl) rfl ?_ | refine LOps.pure (Pure.extract (c := .atom _) rfl rfl) rfl ?_ | refine LOps.pure (Pure.mv (lv := .atom _) rfl) rfl ?_
  refine LOps.cut [(1, ptr b1 0), (4, int .i64 0), (20, bool (decide (oj.isSome = true ∧ a = [48])))] ?_ (fun j2 hj2 => ?_)
  ·cases oj with
   | none =>
    repeat first | refine LOps.nil ?_ | refine QThen.normal ?_ | refine LOps.pure (Pure.pickF (lv := .atom _) rfl rfl) rfl ?_ | refine LOps.skip rfl rfl rfl rfl ?_
    exact ⟨⟨rfl, rfl, bool_eq (by simp), trivial⟩, rfl, rfl⟩
   | some l =>
    repeat first | refine LOps.pure (Pure.ldHAgg (cs' := [_, _]) rfl (List.Mem.head _) rfl rfl) rfl ?_ | refine LOps.want rfl rfl ?_
    refine LOps.step (S.fn [_, _] rfl k0 ?_) rfl
    repeat first | refine LOps.nil ?_ | refine QThen.normal ?_ | refine LOps.pure (Pure.seq rfl rfl) rfl ?_ | refine LOps.pure (Pure.pickT (lv := .atom _) rfl rfl) rfl ?_ | refine LOps.want rfl rfl ?_
    exact ⟨⟨rfl, rfl, bool_eq (by simp), trivial⟩, rfl, rfl⟩
  refine LCode.cond rfl (fun h => ?_) (fun h => ?_)
  ·rw [if_pos (of_decide_eq_true h)] at hS
   subst hS
   repeat first | refine LOps.nil ?_ | refine LCode.region ?_ | refine QThen.normal ?_ | refine LOps.pure (Pure.as (lv := .atom _) rfl) rfl ?_
   exact ⟨⟨rfl, rfl, trivial⟩, rfl, hj2⟩
  ·rw [if_neg (of_decide_eq_false h)] at hS
   repeat first | refine LCode.seq ?_ | refine LCode.region ?_ | refine LOps.pure (Pure.ldHAgg (cs' := [_, _]) rfl (List.Mem.head _) rfl rfl) rfl ?_
   refine LOps.step (S.fn [_, _] rfl k0 ?_) rfl
   repeat first | refine LOps.pure (Pure.mv (lv := .atom _) rfl) rfl ?_ | refine LOps.pure (Pure.seq rfl rfl) rfl ?_
   refine LOps.cut [(1, ptr b1 0), (4, int .i64 0), (28, bool (decide (a = [59] ∨ a = [36])))] ?_ (fun j3 hj3 => ?_)
   ·refine LOps.bcase 24 rfl (fun h1 => ?_) (fun h1 => ?_)
    ·have e1 : a = [59] := of_decide_eq_true h1
     repeat first | refine LOps.nil ?_ | refine QThen.normal ?_ | refine LOps.pure (Pure.pickT (lv := .atom _) rfl rfl) rfl ?_ | refine LOps.skip rfl rfl rfl rfl ?_
     exact ⟨⟨rfl, rfl, bool_eq (by simp [e1]), trivial⟩, rfl, rfl⟩
    ·have e1 : ¬ a = [59] := of_decide_eq_false h1
     repeat first | refine LOps.pure (Pure.ldHAgg (cs' := [_, _]) rfl (List.Mem.head _) rfl rfl) rfl ?_ | refine LOps.want rfl rfl ?_
     refine LOps.step (S.fn [_, _] rfl k0 ?_) rfl
     repeat first | refine LOps.nil ?_ | refine QThen.normal ?_ | refine LOps.pure (Pure.seq rfl rfl) rfl ?_ | refine LOps.pure (Pure.pickF (lv := .atom _) rfl rfl) rfl ?_ | refine LOps.want rfl rfl ?_
     exact ⟨⟨rfl, rfl, bool_eq (by simp [e1]), trivial⟩, rfl, rfl⟩
   refine LCode.cond rfl (fun h => ?_) (fun h => ?_)
   ·rw [if_pos (of_decide_eq_true h)] at hS
    subst hS
    repeat first | refine LOps.nil ?_ | refine LCode.region ?_ | refine QThen.normal ?_ | refine LOps.pure (Pure.as (lv := .atom _) rfl) rfl ?_
    exact ⟨⟨rfl, rfl, trivial⟩, rfl, hj3.trans hj2⟩
   ·rw [if_neg (of_decide_eq_false h)] at hS
    subst hS
    repeat first | refine LCode.skip ?_ | refine QThen.normal ?_
    exact ⟨⟨rfl, rfl, trivial⟩, rfl, hj3.trans hj2⟩
 repeat first | refine LOps.nil ?_ | refine LCode.seq ?_ | refine LCode.region ?_ | refine LCode.block ?_ | refine QThen.normal ?_ | refine LOps.pure (Pure.as (lv := .atom _) rfl) rfl ?_ | refine LOps.pure (Pure.mv (lv := .atom _) rfl) rfl ?_
 refine LCode.loopI (fun k ls H => ∃ i : Nat, n ≤ i ∧ (i ≤ v.length ∨ i = n) ∧ (n = 0 → i = 0) ∧ k = v.length + 4 - i ∧ ls = [(1, ptr b1 0), (4, int .i64 (n : Nat)), (7, int .i64 (i : Nat))] ∧ H = [(b1, .cells 92 [.list (v.map str), .atom (.map (some m))])] ∧ deadLen (v.drop n) = (i - n) + deadLen (v.drop i))
  ⟨_, _, _, ⟨n, Nat.le_refl _, Or.inr rfl, id, rfl, rfl, rfl, by omega⟩, ⟨rfl, rfl, rfl, trivial⟩, HSub.refl _⟩ ?_
 rintro k ls H ⟨i, hni, hi, h0, rfl, rfl, rfl, hE⟩ j1 hj1
 repeat first | refine LCode.seq ?_ | refine LCode.region ?_ | refine LOps.pure (Pure.mv (lv := .atom _) rfl) rfl ?_ | refine LOps.pure (Pure.gtr rfl rfl) rfl ?_
 refine LOps.cut [(1, ptr b1 0), (4, int .i64 (n : Nat)), (7, int .i64 (i : Nat)), (38, bool (decide (0 < n ∧ i < v.length)))] ?_ (fun j2 hj2 => ?_)
 ·refine LOps.bcase 32 rfl (fun h1 => ?_) (fun h1 => ?_)
  ·have e1 : 0 < n := by have := of_decide_eq_true h1; omega
   repeat first | refine LOps.nil ?_ | refine QThen.normal ?_ | refine LOps.pure (Pure.mv (lv := .atom _) rfl) rfl ?_ | refine LOps.pure (Pure.pickT (lv := .atom _) rfl rfl) rfl ?_ | refine LOps.pure (Pure.fieldH rfl) rfl ?_ | refine LOps.pure (Pure.loadH (c := .list _) rfl (List.Mem.head _) rfl) rfl ?_ | refine LOps.pure (Pure.llen rfl) rfl ?_ | refine LOps.pure (Pure.lss rfl rfl) rfl ?_ | refine LOps.want rfl rfl ?_
   exact ⟨⟨rfl, rfl, rfl, bool_eq (by rw [decide_eq_decide]; omega), trivial⟩, rfl, rfl⟩
  ·have e1 : ¬ 0 < n := by have := of_decide_eq_false h1; omega
   repeat first | refine LOps.nil ?_ | refine QThen.normal ?_ | refine LOps.pure (Pure.pickF (lv := .atom _) rfl rfl) rfl ?_ | refine LOps.skip rfl rfl rfl rfl ?_
   exact ⟨⟨rfl, rfl, rfl, bool_eq (by simp [e1]), trivial⟩, rfl, rfl⟩
 refine LCode.cond rfl (fun h => ?_) (fun h => ?_)
 ·obtain ⟨hn0, hlt⟩ := of_decide_eq_true h
  have kd := definition_spec (B0 := B0) (w0 := w0) v[i] (by have := hv.2 _ (List.getElem_mem hlt); omega)
  repeat first | refine LCode.seq ?_ | refine LCode.region ?_ | refine LCode.skip ?_ | refine LCode.block ?_ | refine QThen.normal ?_ | refine LOps.pure (Pure.mv (lv := .atom _) rfl) rfl ?_ | refine LOps.pure (Pure.fieldH rfl) rfl ?_ | refine LOps.pure (Pure.loadH (c := .list _) rfl (List.Mem.head _) rfl) rfl ?_
  refine LOps.pure (Pure.ixRef (el' := str v[i]) (cs := [str v[i]]) rfl rfl (by omega) (map_get _ _ _ hlt) rfl rfl) rfl ?_
  repeat first | refine LOps.pure (Pure.loadRef (c := .atom _) rfl rfl) rfl ?_
  refine LOps.step (S.fnIf [_] rfl kd ?_) rfl
  rintro lv ⟨s, rfl, hs⟩
  repeat first | refine LOps.nil ?_ | refine LCode.seq ?_ | refine LCode.region ?_ | refine QThen.normal ?_ | refine LOps.pure (Pure.as (lv := .atom _) rfl) rfl ?_ | refine LOps.pure (Pure.mv (lv := .tuple _) rfl) rfl ?_ | refine LOps.pure (Pure.extract (c := .atom _) rfl rfl) rfl ?_ | refine LOps.pure (Pure.mv (lv := .atom _) rfl) rfl ?_
  refine LCode.cond rfl (fun h2 => ?_) (fun h2 => ?_)
  ·rw [deadLen_def hlt h2] at hE
   replace hD := hD rfl h0 hni (fun _ => by omega)
   repeat first | refine LOps.nil ?_ | refine LCode.seq ?_ | refine LCode.region ?_ | refine LCode.exit ?_ | refine QThen.normal ?_ | refine QThen.exit ?_ | refine QBlock.hit ?_ | refine QBlock.miss (by decide) ?_ | refine LOps.pure (Pure.mv (lv := .atom _) rfl) rfl ?_ | refine LOps.pure (Pure.eql rfl rfl) rfl ?_
   refine LCode.cond rfl (fun h3 => ?_) (fun h3 => ?_)
   ·have e3 : ¬ n < i := by have := of_decide_eq_true h3; omega
    rw [if_neg e3] at hD
    repeat first | refine LOps.nil ?_ | refine LCode.seq ?_ | refine LCode.region ?_ | refine LCode.ret ?_ | refine QThen.normal ?_ | refine QThen.ret ?_ | refine LOps.pure (Pure.as (lv := .atom _) rfl) rfl ?_
    exact retRet (hj2.trans (hj1.trans hj)) (AllRes.cons (ResIs.tmp (v := .atom _) rfl (LV.Sub.refl _)) (AllRes.cons (ResIs.tmp (v := nilSlice) rfl LV.Sub.nil) AllRes.nil)) (by rw [hD]; rfl)
   ·have e3 : n < i := by have := of_decide_eq_false h3; omega
    rw [if_pos e3] at hD
    repeat first | refine LCode.seq ?_ | refine LCode.skip ?_ | refine QThen.normal ?_
    refine LCode.draw (m := 7) rfl [(b1, .cells 92 [.list (v.map str), .atom (.map (some m))])] ?_
    refine LAny.tk 0 rfl rfl (Pure.mv (lv := .atom _) rfl) ?_
    refine LAny.tk 1 rfl rfl (Pure.fieldH rfl) ?_
    refine LAny.tk 2 rfl rfl (Pure.loadH (c := .list _) rfl (List.Mem.head _) rfl) ?_
    refine LAny.tk 3 rfl rfl (Pure.mv (lv := .atom _) rfl) ?_
    refine LAny.take (i := 4) (HSub.refl _) rfl (by kernel_rfl) (by kernel_rfl) (by kernel_rfl) rfl (Pure.lslice (es := v.map str) (i := 0) (j := (n : Int)) rfl rfl ⟨_, rfl⟩ (by omega) (by omega) (by rw [hla]; omega) (strs_len v)) ?_
    refine LAny.tk 5 rfl rfl (Pure.as (lv := .atom _) rfl) ?_
    refine LAny.tk 6 rfl rfl (Pure.as (lv := .list _) rfl) ?_
    refine LAny.late ?_ (HSub.refl _)
    refine LLate.done (by kernel_rfl) ?_
    repeat first | refine LCode.ret ?_ | refine QThen.normal ?_
    exact retRet (hj2.trans (hj1.trans hj)) (AllRes.cons (ResIs.tmp (v := .atom _) rfl (LV.Sub.refl _)) (AllRes.cons (ResIs.tmp (v := .list _) rfl (LV.Sub.refl _)) AllRes.nil)) (by rw [hD]; exact congrArg (fun x => LV.tuple [int .i64 (i : Nat), .list x]) List.map_take.symm)
  ·rw [deadLen_step hlt (by simpa using h2)] at hE
   repeat first | refine LOps.nil ?_ | refine LCode.region ?_ | refine LCode.skip ?_ | refine QThen.normal ?_ | refine QBlock.normal ?_ | refine LOps.pure (Pure.as (lv := .atom _) rfl) rfl ?_ | refine LOps.pure (Pure.mv (lv := .atom _) rfl) rfl ?_ | refine LOps.pure (Pure.add rfl rfl (by omega)) rfl ?_
   exact ⟨_, _, _, by omega, ⟨i + 1, by omega, Or.inl (by omega), by omega, rfl, rfl, rfl, by omega⟩, ⟨rfl, rfl, int_eq (by omega), trivial⟩, HSub.refl _, hj2.trans hj1⟩
 ·have hc := of_decide_eq_false h
  replace hD := hD rfl h0 hni (fun h => by rw [deadLen_stop (v := v) (i := i) (by omega)] at hE; omega)
  repeat first | refine LOps.nil ?_ | refine LCode.seq ?_ | refine LCode.region ?_ | refine LCode.exit ?_ | refine QThen.normal ?_ | refine QThen.exit ?_ | refine QBlock.hit ?_ | refine LOps.pure (Pure.mv (lv := .atom _) rfl) rfl ?_ | refine LOps.pure (Pure.eql rfl rfl) rfl ?_
  refine LCode.cond rfl (fun h3 => ?_) (fun h3 => ?_)
  ·have e3 : ¬ n < i := by have := of_decide_eq_true h3; omega
   rw [if_neg e3] at hD
   repeat first | refine LOps.nil ?_ | refine LCode.seq ?_ | refine LCode.region ?_ | refine LCode.ret ?_ | refine QThen.normal ?_ | refine QThen.ret ?_ | refine LOps.pure (Pure.as (lv := .atom _) rfl) rfl ?_
   exact retRet (hj2.trans (hj1.trans hj)) (AllRes.cons (ResIs.tmp (v := .atom _) rfl (LV.Sub.refl _)) (AllRes.cons (ResIs.tmp (v := nilSlice) rfl LV.Sub.nil) AllRes.nil)) (by rw [hD]; rfl)
  ·have e3 : n < i := by have := of_decide_eq_false h3; omega
   rw [if_pos e3] at hD
   repeat first | refine LCode.seq ?_ | refine LCode.skip ?_ | refine QThen.normal ?_
   refine LCode.draw (m := 7) rfl [(b1, .cells 92 [.list (v.map str), .atom (.map (some m))])] ?_
   refine LAny.tk 0 rfl rfl (Pure.mv (lv := .atom _) rfl) ?_
   refine LAny.tk 1 rfl rfl (Pure.fieldH rfl) ?_
   refine LAny.tk 2 rfl rfl (Pure.loadH (c := .list _) rfl (List.Mem.head _) rfl) ?_
   refine LAny.tk 3 rfl rfl (Pure.mv (lv := .atom _) rfl) ?_
   refine LAny.take (i := 4) (HSub.refl _) rfl (by kernel_rfl) (by kernel_rfl) (by kernel_rfl) rfl (Pure.lslice (es := v.map str) (i := 0) (j := (n : Int)) rfl rfl ⟨_, rfl⟩ (by omega) (by omega) (by rw [hla]; omega) (strs_len v)) ?_
   refine LAny.tk 5 rfl rfl (Pure.as (lv := .atom _) rfl) ?_
   refine LAny.tk 6 rfl rfl (Pure.as (lv := .list _) rfl) ?_
   refine LAny.late ?_ (HSub.refl _)
   refine LLate.done (by kernel_rfl) ?_
   repeat first | refine LCode.ret ?_ | refine QThen.normal ?_
   exact retRet (hj2.trans (hj1.trans hj)) (AllRes.cons (ResIs.tmp (v := .atom _) rfl (LV.Sub.refl _)) (AllRes.cons (ResIs.tmp (v := .list _) rfl (LV.Sub.refl _)) AllRes.nil)) (by rw [hD]; exact congrArg (fun x => LV.tuple [int .i64 (i : Nat), .list x]) List.map_take.symm)
end
end Go.Proofs.YtdakelgkjdaijaaGreatDoor.Pp
namespace Go.Proofs.YtdakelgkjdaijaaGreatDoor.Pp
open Go.GL Go.RowKit Go.Stele
open Go.Proofs.YtdakelgkjdaijaaGreatDoor.Asm (OptLV OptLV.mk ite_some)
/-- The nine rules' results, in the order in which a pass tries them. -/
def ruleL (used : Wd → Bool) (v : List Wd) : List RuleW := [rFold v, rNeutral v, rRegroup v, rSame v, rDouble v, rNever v, rNext v, rDead v, rUnused used v]
def firstR : List RuleW → RuleW
 | [] => (0, [])
 | r :: l => if r.1 ≠ 0 then r else firstR l
theorem unused_zero {used : Wd → Bool} {v : List Wd} (h : (rUnused used v).1 = 0) : rUnused used v = (0, []) := by
 unfold rUnused at h ⊢
 revert h
 cases defW (wdAt v 0) with
 | none => exact fun _ => rfl
 | some l =>
  intro h
  simp only at h ⊢
  by_cases hu : used l = true
  ·rw [if_pos hu]
  ·rw [if_neg hu] at h
   cases h
theorem ruleW_first (used : Wd → Bool) (v : List Wd) : ruleW used v = firstR (ruleL used v) := by
 have hz := @unused_zero used v
 unfold ruleW ruleL
 generalize rFold v = a1
 generalize rNeutral v = a2
 generalize rRegroup v = a3
 generalize rSame v = a4
 generalize rDouble v = a5
 generalize rNever v = a6
 generalize rNext v = a7
 generalize rDead v = a8
 generalize rUnused used v = a9 at hz
 simp only [firstR]
 by_cases h9 : a9.1 ≠ 0
 ·rw [if_pos h9]
 ·rw [if_neg h9, hz (Decidable.not_not.1 h9)]
theorem firstR_drop {l : List RuleW} {i : Nat} (h : i < l.length) : firstR (l.drop i) = if l[i].1 ≠ 0 then l[i] else firstR (l.drop (i + 1)) := by
 rw [List.drop_eq_getElem_cons h, firstR]
theorem firstR_end {l : List RuleW} {i : Nat} (h : l.length ≤ i) : firstR (l.drop i) = (0, []) := by
 rw [List.drop_eq_nil_of_le h]
 rfl
theorem ruleL_len (used : Wd → Bool) (v : List Wd) : (ruleL used v).length = 9 := rfl
/-- A pass over the words from k on, one step of it. -/
theorem onceF_nil (used : Wd → Bool) (f : Nat) : onceF used f [] = [] := by
 cases f <;> rfl
theorem onceF_cons (used : Wd → Bool) (f : Nat) (w : Wd) (r : List Wd) : onceF used (f + 1) (w :: r) = if (ruleW used (w :: r)).1 = 0 then w :: onceF used f r else (ruleW used (w :: r)).2 ++ onceF used f ((w :: r).drop (ruleW used (w :: r)).1) := rfl
/-- What the first loop has gathered after k words. -/
theorem usedW_take (l : List Wd) (k : Nat) (h : k < l.length) (s : Wd) : usedW (l.take (k + 1)) s = (usedW (l.take k) s || decide (refW l[k] = some s)) := by
 unfold usedW
 rw [List.take_succ_eq_append_getElem h, List.any_append]
 simp
end Go.Proofs.YtdakelgkjdaijaaGreatDoor.Pp
namespace Go.Proofs.YtdakelgkjdaijaaGreatDoor.Pp
open Go.GL Go.RowKit Go.Stele
open Go.Proofs.YtdakelgkjdaijaaGreatDoor.Asm (OptLV OptLV.mk ite_some)
set_option maxRecDepth 100000
set_option maxHeartbeats 4000000
attribute [local irreducible] LOps LCode LStep LCalls Go.GL.Pure QThen QBlock RetPost LQ LAny LLate LLateOp
theorem strs_ok (l : List Wd) : ((l.map str).flatMap LV.cells).all cellOk = true := by
 induction l with
 | nil => rfl
 | cons a l ih =>
  rw [List.map_cons, List.flatMap_cons, List.all_append, ih]
  rfl
theorem tail_list (l : List Wd) (i : Nat) : ((l.map str).take (((l.map str).length : Nat) : Int).toNat).drop ((i : Nat) : Int).toNat = (l.drop i).map str := by
 rw [Int.toNat_natCast, Int.toNat_natCast, List.take_length, List.map_drop]
theorem acc_perm1 {s : Nat} {v : LV} {es : List LV} {H : Heap} {q : Nat × LObj} (h : Acc s v es H [q]) : ∃ F, H.Perm ([q] ++ F) := by
 cases h with
 | nil => exact ⟨[], List.Perm.refl _⟩
 | row => exact ⟨[_], List.Perm.swap ..⟩
theorem Small.drop {l : List Wd} (h : Small l) (i : Nat) : Small (l.drop i) :=
 ⟨by have := h.1; rw [List.length_drop]; omega, fun w hw => h.2 w (List.mem_of_mem_drop hw)⟩
/-- The nine rules, as a pass holds them. -/
def fnLV (k : Nat) : LV := .atom (.func (.func (32 + k)) #[] #[])
section
variable {B0 : Nat} {w0 : World}
theorem once_spec (hG : GW B0 w0) (l : List Wd) (hv : Small l) : LCalls (KC B0 w0) 14 [.list (l.map str)] [] (Ret (.list ((onceP l).map str))) := by
 have hla : (l.map str).length = l.length := List.length_map _
 have hl := hv.1
 refine LCalls.intro Tryz.func14 rfl (n := 73) rfl rfl rfl ?_
 repeat first | refine LOps.nil ?_ | refine LCode.seq ?_ | refine LCode.region ?_ | refine QThen.normal ?_ | refine LOps.pure (Pure.as (lv := .atom _) rfl) rfl ?_
 refine LOps.step (S.makeMap fun m => ?_) rfl
 repeat first | refine LOps.nil ?_ | refine LCode.seq ?_ | refine LCode.region ?_ | refine LCode.block ?_ | refine QThen.normal ?_ | refine LOps.pure (Pure.as (lv := .atom _) rfl) rfl ?_ | refine LOps.pure (Pure.mv (lv := .list _) rfl) rfl ?_ | refine LOps.pure (Pure.mv (lv := .atom _) rfl) rfl ?_ | refine LOps.pure (Pure.llen rfl) rfl ?_
 refine LCode.loopI (fun k ls H => ∃ (i : Nat) (es : Array MapEntry) (clock : Nat), i ≤ l.length ∧ k = l.length - i ∧ ls = [(0, .list (l.map str)), (3, .atom (.map (some m))), (17, .list (l.map str)), (18, int .i64 l.length), (19, int .i64 (i : Nat))] ∧ H = [(m, .obj (.map es clock))] ∧ SetMap es (usedW (l.take i)))
  ⟨_, _, _, ⟨0, #[], 0, Nat.zero_le _, rfl, rfl, rfl, SetMap.nil⟩, ⟨rfl, rfl, rfl, int_eq (by omega), rfl, trivial⟩, HSub.refl _⟩ ?_
 rintro k ls H ⟨i, es, clock, hi, rfl, rfl, rfl, hM⟩ j1 hj1
 repeat first | refine LOps.nil ?_ | refine LCode.seq ?_ | refine LCode.region ?_ | refine QThen.normal ?_ | refine LOps.pure (Pure.lss rfl rfl) rfl ?_
 refine LCode.cond rfl (fun hc => ?_) (fun hc => ?_)
 ·have hlt : i < l.length := by have := of_decide_eq_true hc; omega
  have kr := reference_spec (B0 := B0) (w0 := w0) l[i] (by have := hv.2 _ (List.getElem_mem hlt); omega)
  have hU : usedW (l.take (i + 1)) = fun s => usedW (l.take i) s || decide (refW l[i] = some s) := funext fun s => usedW_take l i hlt s
  repeat first | refine LCode.seq ?_ | refine LCode.region ?_ | refine LCode.skip ?_ | refine LCode.block ?_ | refine QThen.normal ?_
  refine LOps.pure (Pure.ixRef (el' := str l[i]) (cs := [str l[i]]) rfl rfl (by omega) (map_get _ _ _ hlt) rfl rfl) rfl ?_
  repeat first | refine LOps.nil ?_ | refine LCode.seq ?_ | refine LCode.region ?_ | refine QThen.normal ?_ | refine LOps.pure (Pure.as (lv := .atom _) rfl) rfl ?_ | refine LOps.pure (Pure.mv (lv := .atom _) rfl) rfl ?_ | refine LOps.pure (Pure.loadRef (c := .atom _) rfl rfl) rfl ?_
  refine LOps.step (S.fnIf [_] rfl kr ?_) rfl
  rintro lv ⟨s, rfl, hs⟩
  repeat first | refine LOps.nil ?_ | refine LCode.seq ?_ | refine LCode.region ?_ | refine QThen.normal ?_ | refine LOps.pure (Pure.as (lv := .atom _) rfl) rfl ?_ | refine LOps.pure (Pure.mv (lv := .atom _) rfl) rfl ?_ | refine LOps.pure (Pure.mv (lv := .tuple _) rfl) rfl ?_ | refine LOps.pure (Pure.extract (c := .atom _) rfl rfl) rfl ?_
  refine LCode.cond rfl (fun h => ?_) (fun h => ?_)
  ·obtain ⟨d, hd⟩ := Option.isSome_iff_exists.1 h
   obtain rfl := hs d hd
   repeat first | refine LCode.region ?_ | refine LOps.pure (Pure.mv (lv := .atom _) rfl) rfl ?_
   refine LOps.step (S.setPut (t := 84) (kt := 9) (el := 4) (by kernel_rfl) (by kernel_rfl) rfl rfl rfl Pick.here hM fun es' clock' hM' => ?_) rfl
   repeat first | refine LOps.nil ?_ | refine LCode.region ?_ | refine QThen.normal ?_ | refine QBlock.normal ?_ | refine LOps.pure (Pure.mv (lv := .atom _) rfl) rfl ?_ | refine LOps.pure (Pure.add rfl rfl (by omega)) rfl ?_
   exact ⟨_, _, _, by omega, ⟨i + 1, es', clock', by omega, rfl, rfl, rfl, by
    rw [hU, hd]
    exact cast (by congr; funext x; simp [eq_comm]) hM'⟩, ⟨rfl, rfl, rfl, rfl, int_eq (by omega), trivial⟩, HSub.refl _, hj1⟩
  ·have hn : refW l[i] = none := by
    cases ho : refW l[i] with
    | none => rfl
    | some d => rw [ho] at h; cases h
   repeat first | refine LOps.nil ?_ | refine LCode.region ?_ | refine LCode.skip ?_ | refine QThen.normal ?_ | refine QBlock.normal ?_ | refine LOps.pure (Pure.mv (lv := .atom _) rfl) rfl ?_ | refine LOps.pure (Pure.add rfl rfl (by omega)) rfl ?_
   exact ⟨_, _, _, by omega, ⟨i + 1, es, clock, by omega, rfl, rfl, rfl, by
    rw [hU, hn]
    exact cast (by congr; funext x; simp) hM⟩, ⟨rfl, rfl, rfl, rfl, int_eq (by omega), trivial⟩, HSub.refl _, hj1⟩
 ·have hi' : i = l.length := by have := of_decide_eq_false hc; omega
  subst hi'
  rw [List.take_length] at hM
  repeat first | refine LCode.seq ?_ | refine LCode.region ?_ | refine LCode.exit ?_ | refine QThen.normal ?_ | refine QThen.exit ?_ | refine QBlock.hit ?_
  refine LOps.step (S.lit [.func 32, .func 33, .func 34, .func 35, .func 36, .func 37, .func 38, .func 39, .func 40] rfl (elemsOk.cons rfl rfl (elemsOk.cons rfl rfl (elemsOk.cons rfl rfl (elemsOk.cons rfl rfl (elemsOk.cons rfl rfl (elemsOk.cons rfl rfl (elemsOk.cons rfl rfl (elemsOk.cons rfl rfl (elemsOk.cons rfl rfl elemsOk.nil))))))))) rfl rfl rfl ?_) rfl
  repeat first | refine LOps.nil ?_ | refine LCode.seq ?_ | refine LCode.region ?_ | refine LCode.block ?_ | refine QThen.normal ?_ | refine LOps.pure (Pure.as (lv := .list _) rfl) rfl ?_ | refine LOps.pure (Pure.as (lv := .atom _) rfl) rfl ?_
  refine LCode.loopI (fun k ls H => ∃ (i f : Nat) (out : List Wd) (v : LV), i ≤ l.length ∧ k = l.length - i ∧ ls = [(0, .list (l.map str)), (3, .atom (.map (some m))), (8, .list ((List.range 9).map fnLV)), (9, v), (10, int .i64 (i : Nat))] ∧ Acc 1 v (out.map str) H [(m, .obj (.map es clock))] ∧ l.length - i ≤ f ∧ out.length ≤ i ∧ out ++ onceF (usedW l) f (l.drop i) = onceP l)
   ⟨_, _, _, ⟨0, l.length, [], nilSlice, Nat.zero_le _, rfl, rfl, Acc.nil, by omega, Nat.zero_le _, rfl⟩, ⟨rfl, rfl, rfl, rfl, rfl, trivial⟩, HSub.refl _⟩ ?_
  rintro k ls H ⟨i, f, out, v, hi, rfl, rfl, hacc, hf, hlen, hE⟩ j2 hj2
  have hol : (out.map str).length = out.length := List.length_map _
  repeat first | refine LOps.nil ?_ | refine LCode.seq ?_ | refine LCode.region ?_ | refine QThen.normal ?_ | refine LOps.pure (Pure.mv (lv := .list _) rfl) rfl ?_ | refine LOps.pure (Pure.mv (lv := .atom _) rfl) rfl ?_ | refine LOps.pure (Pure.llen rfl) rfl ?_ | refine LOps.pure (Pure.lss rfl rfl) rfl ?_
  refine LCode.cond rfl (fun hc => ?_) (fun hc => ?_)
  ·have hlt : i < l.length := by have := of_decide_eq_true hc; omega
   obtain ⟨f, rfl⟩ : ∃ g, f = g + 1 := ⟨f - 1, by omega⟩
   have hR : (ruleW (usedW l) (l.drop i)).1 ≠ 0 → (ruleW (usedW l) (l.drop i)).1 ≤ (l.drop i).length ∧ (ruleW (usedW l) (l.drop i)).2.length < (ruleW (usedW l) (l.drop i)).1 := rule_ok (usedW l) (l.drop i)
   have hF := ruleW_first (usedW l) (l.drop i)
   have hl9 := ruleL_len (usedW l) (l.drop i)
   rw [List.drop_eq_getElem_cons hlt, onceF_cons, ← List.drop_eq_getElem_cons hlt, List.drop_drop] at hE
   have hdl : (l.drop i).length = l.length - i := List.length_drop
   repeat (first | refine LOps.nil ?_ | refine QThen.normal ?_ | refine LCode.skip ?_ | refine LCode.block ?_)
   refine LCode.seq ?_
   repeat (first | refine LOps.nil ?_ | refine QThen.normal ?_ | refine LCode.region ?_ | refine LOps.pure (Pure.as (lv := .atom _) rfl) rfl ?_)
   refine LCode.seq ?_
   refine LCode.midC (A := Nat × List Wd × LV × Heap) (fun a => [(0, .list (l.map str)), (3, .atom (.map (some m))), (8, .list ((List.range 9).map fnLV)), (9, a.2.2.1), (10, int .i64 (i : Nat)), (11, int .i64 a.1)]) (fun a => a.2.2.2)
    (fun a => a.1 = (ruleW (usedW l) (l.drop i)).1 ∧ a.2.1 = (if (ruleW (usedW l) (l.drop i)).1 = 0 then out else out ++ (ruleW (usedW l) (l.drop i)).2) ∧ Acc 1 a.2.2.1 (a.2.1.map str) a.2.2.2 [(m, .obj (.map es clock))]) ?_ ?_
   ·repeat first | refine LOps.nil ?_ | refine LCode.seq ?_ | refine LCode.region ?_ | refine LCode.block ?_ | refine QThen.normal ?_ | refine LOps.pure (Pure.mv (lv := .list _) rfl) rfl ?_ | refine LOps.pure (Pure.mv (lv := .atom _) rfl) rfl ?_ | refine LOps.pure (Pure.llen rfl) rfl ?_
    refine LCode.loopI (fun k ls H1 => ∃ x : Nat, x ≤ 9 ∧ k = 9 - x ∧ ls = [(0, .list (l.map str)), (3, .atom (.map (some m))), (8, .list ((List.range 9).map fnLV)), (9, v), (10, int .i64 (i : Nat)), (11, int .i64 0), (37, .list ((List.range 9).map fnLV)), (38, int .i64 9), (39, int .i64 (x : Nat))] ∧ H1 = H ∧ ruleW (usedW l) (l.drop i) = firstR ((ruleL (usedW l) (l.drop i)).drop x)) ?_ ?_
    ·exact ⟨_, _, _, ⟨0, Nat.zero_le _, rfl, rfl, rfl, hF⟩, ⟨rfl, rfl, rfl, rfl, rfl, rfl, rfl, rfl, rfl, trivial⟩, HSub.refl _⟩
    rintro k ls H1 ⟨x, hx, rfl, rfl, rfl, hX⟩ j3 hj3
    repeat first | refine LOps.nil ?_ | refine LCode.seq ?_ | refine LCode.region ?_ | refine QThen.normal ?_ | refine LOps.pure (Pure.lss rfl rfl) rfl ?_
    refine LCode.cond rfl (fun hc => ?_) (fun hc => ?_)
    ·have hx9 : x < 9 := by have := of_decide_eq_true hc; omega
     rw [firstR_drop (by omega)] at hX
     repeat first | refine LCode.seq ?_ | refine LCode.region ?_ | refine LCode.skip ?_ | refine LCode.block ?_ | refine QThen.normal ?_
     refine LOps.pure (Pure.ixRef (el' := fnLV x) (cs := [fnLV x]) rfl rfl (by omega) (by
      have := map_get fnLV (List.range 9) x (by simpa using hx9)
      rw [List.getElem_range] at this
      exact this) rfl rfl) rfl ?_
     repeat first | refine LOps.nil ?_ | refine LCode.seq ?_ | refine LCode.region ?_ | refine QThen.normal ?_ | refine LOps.pure (Pure.as (lv := .atom _) rfl) rfl ?_ | refine LOps.pure (Pure.mv (lv := .list _) rfl) rfl ?_ | refine LOps.pure (Pure.mv (lv := .atom _) rfl) rfl ?_ | refine LOps.pure (Pure.loadRef (c := .atom _) rfl rfl) rfl ?_
     refine LOps.pure (show Go.GL.Pure _ _ _ _ (.list ((l.drop i).map str)) from tail_list l i ▸ Pure.lslice (es := l.map str) (i := ((i : Nat) : Int)) (j := (((l.map str).length : Nat) : Int)) rfl ⟨_, rfl⟩ rfl (by omega) (by omega) (by omega) (strs_len l)) rfl ?_
     repeat first | refine LOps.pure (Pure.mv (lv := .atom _) rfl) rfl ?_ | refine LOps.pure (Pure.bld _ (cs := [_, _]) rfl) rfl ?_
     have hv' := hv.drop i
     have hxl : x < (ruleL (usedW l) (l.drop i)).length := by omega
     generalize hr : (ruleL (usedW l) (l.drop i))[x] = r at hX
     refine LOps.cut [(0, .list (l.map str)), (3, .atom (.map (some m))), (8, .list ((List.range 9).map fnLV)), (9, v), (10, int .i64 (i : Nat)), (11, int .i64 0), (14, int .i64 (r.1 : Nat)), (15, .list (r.2.map str)), (37, .list ((List.range 9).map fnLV)), (38, int .i64 9), (39, int .i64 (x : Nat))] ?_ (fun j4 hj4 => ?_)
     ·clear hX
      have h9 : x = 0 ∨ x = 1 ∨ x = 2 ∨ x = 3 ∨ x = 4 ∨ x = 5 ∨ x = 6 ∨ x = 7 ∨ x = 8 := by omega
      rcases h9 with rfl | rfl | rfl | rfl | rfl | rfl | rfl | rfl | rfl
      ·obtain rfl : rFold (l.drop i) = r := hr
       refine LOps.step (S.fnV (f := 32) [_] rfl rfl (fold_spec hG (l.drop i) m hv') ?_) rfl
       repeat first | refine LOps.nil ?_ | refine QThen.normal ?_ | refine LOps.pure (Pure.as (lv := .list _) rfl) rfl ?_ | refine LOps.pure (Pure.as (lv := .atom _) rfl) rfl ?_ | refine LOps.pure (Pure.mv (lv := .tuple _) rfl) rfl ?_ | refine LOps.pure (Pure.extract (c := .atom _) rfl rfl) rfl ?_ | refine LOps.pure (Pure.extract (c := .list _) rfl rfl) rfl ?_
       exact ⟨⟨rfl, rfl, rfl, rfl, rfl, rfl, rfl, rfl, rfl, rfl, rfl, trivial⟩, rfl, rfl⟩
      ·obtain rfl : rNeutral (l.drop i) = r := hr
       refine LOps.step (S.fnV (f := 33) [_] rfl rfl (neutral_spec (B0 := B0) (w0 := w0) (l.drop i) m hv') ?_) rfl
       repeat first | refine LOps.nil ?_ | refine QThen.normal ?_ | refine LOps.pure (Pure.as (lv := .list _) rfl) rfl ?_ | refine LOps.pure (Pure.as (lv := .atom _) rfl) rfl ?_ | refine LOps.pure (Pure.mv (lv := .tuple _) rfl) rfl ?_ | refine LOps.pure (Pure.extract (c := .atom _) rfl rfl) rfl ?_ | refine LOps.pure (Pure.extract (c := .list _) rfl rfl) rfl ?_
       exact ⟨⟨rfl, rfl, rfl, rfl, rfl, rfl, rfl, rfl, rfl, rfl, rfl, trivial⟩, rfl, rfl⟩
      ·obtain rfl : rRegroup (l.drop i) = r := hr
       refine LOps.step (S.fnV (f := 34) [_] rfl rfl (regroup_spec hG (l.drop i) m hv') ?_) rfl
       repeat first | refine LOps.nil ?_ | refine QThen.normal ?_ | refine LOps.pure (Pure.as (lv := .list _) rfl) rfl ?_ | refine LOps.pure (Pure.as (lv := .atom _) rfl) rfl ?_ | refine LOps.pure (Pure.mv (lv := .tuple _) rfl) rfl ?_ | refine LOps.pure (Pure.extract (c := .atom _) rfl rfl) rfl ?_ | refine LOps.pure (Pure.extract (c := .list _) rfl rfl) rfl ?_
       exact ⟨⟨rfl, rfl, rfl, rfl, rfl, rfl, rfl, rfl, rfl, rfl, rfl, trivial⟩, rfl, rfl⟩
      ·obtain rfl : rSame (l.drop i) = r := hr
       refine LOps.step (S.fnV (f := 35) [_] rfl rfl (same_spec hG (l.drop i) m hv') ?_) rfl
       repeat first | refine LOps.nil ?_ | refine QThen.normal ?_ | refine LOps.pure (Pure.as (lv := .list _) rfl) rfl ?_ | refine LOps.pure (Pure.as (lv := .atom _) rfl) rfl ?_ | refine LOps.pure (Pure.mv (lv := .tuple _) rfl) rfl ?_ | refine LOps.pure (Pure.extract (c := .atom _) rfl rfl) rfl ?_ | refine LOps.pure (Pure.extract (c := .list _) rfl rfl) rfl ?_
       exact ⟨⟨rfl, rfl, rfl, rfl, rfl, rfl, rfl, rfl, rfl, rfl, rfl, trivial⟩, rfl, rfl⟩
      ·obtain rfl : rDouble (l.drop i) = r := hr
       refine LOps.step (S.fnV (f := 36) [_] rfl rfl (double_spec (B0 := B0) (w0 := w0) (l.drop i) m hv') ?_) rfl
       repeat first | refine LOps.nil ?_ | refine QThen.normal ?_ | refine LOps.pure (Pure.as (lv := .list _) rfl) rfl ?_ | refine LOps.pure (Pure.as (lv := .atom _) rfl) rfl ?_ | refine LOps.pure (Pure.mv (lv := .tuple _) rfl) rfl ?_ | refine LOps.pure (Pure.extract (c := .atom _) rfl rfl) rfl ?_ | refine LOps.pure (Pure.extract (c := .list _) rfl rfl) rfl ?_
       exact ⟨⟨rfl, rfl, rfl, rfl, rfl, rfl, rfl, rfl, rfl, rfl, rfl, trivial⟩, rfl, rfl⟩
      ·obtain rfl : rNever (l.drop i) = r := hr
       refine LOps.step (S.fnV (f := 37) [_] rfl rfl (never_spec hG (l.drop i) m hv') ?_) rfl
       repeat first | refine LOps.nil ?_ | refine QThen.normal ?_ | refine LOps.pure (Pure.as (lv := .list _) rfl) rfl ?_ | refine LOps.pure (Pure.as (lv := .atom _) rfl) rfl ?_ | refine LOps.pure (Pure.mv (lv := .tuple _) rfl) rfl ?_ | refine LOps.pure (Pure.extract (c := .atom _) rfl rfl) rfl ?_ | refine LOps.pure (Pure.extract (c := .list _) rfl rfl) rfl ?_
       exact ⟨⟨rfl, rfl, rfl, rfl, rfl, rfl, rfl, rfl, rfl, rfl, rfl, trivial⟩, rfl, rfl⟩
      ·obtain rfl : rNext (l.drop i) = r := hr
       refine LOps.step (S.fnV (f := 38) [_] rfl rfl (next_spec (B0 := B0) (w0 := w0) (l.drop i) m hv') ?_) rfl
       repeat first | refine LOps.nil ?_ | refine QThen.normal ?_ | refine LOps.pure (Pure.as (lv := .list _) rfl) rfl ?_ | refine LOps.pure (Pure.as (lv := .atom _) rfl) rfl ?_ | refine LOps.pure (Pure.mv (lv := .tuple _) rfl) rfl ?_ | refine LOps.pure (Pure.extract (c := .atom _) rfl rfl) rfl ?_ | refine LOps.pure (Pure.extract (c := .list _) rfl rfl) rfl ?_
       exact ⟨⟨rfl, rfl, rfl, rfl, rfl, rfl, rfl, rfl, rfl, rfl, rfl, trivial⟩, rfl, rfl⟩
      ·obtain rfl : rDead (l.drop i) = r := hr
       refine LOps.step (S.fnV (f := 39) [_] rfl rfl (dead_spec (B0 := B0) (w0 := w0) (l.drop i) m hv') ?_) rfl
       repeat first | refine LOps.nil ?_ | refine QThen.normal ?_ | refine LOps.pure (Pure.as (lv := .list _) rfl) rfl ?_ | refine LOps.pure (Pure.as (lv := .atom _) rfl) rfl ?_ | refine LOps.pure (Pure.mv (lv := .tuple _) rfl) rfl ?_ | refine LOps.pure (Pure.extract (c := .atom _) rfl rfl) rfl ?_ | refine LOps.pure (Pure.extract (c := .list _) rfl rfl) rfl ?_
       exact ⟨⟨rfl, rfl, rfl, rfl, rfl, rfl, rfl, rfl, rfl, rfl, rfl, trivial⟩, rfl, rfl⟩
      ·obtain rfl : rUnused (usedW l) (l.drop i) = r := hr
       obtain ⟨F, hp⟩ := acc_perm1 hacc
       refine LOps.step (S.callV (f := 40) (H1 := [(m, .obj (.map es clock))]) (F := F) [_] rfl rfl hp (unused_spec (B0 := B0) (w0 := w0) (l.drop i) m hv' hM) (fun v' H' hh => ?_) (by rintro ch H' ⟨h, _⟩; cases h)) rfl
       obtain ⟨hv1, rfl⟩ := hh
       cases hv1
       refine LOps.weak ⟨[], by simpa using hp.symm⟩ ?_
       repeat first | refine LOps.nil ?_ | refine QThen.normal ?_ | refine LOps.pure (Pure.as (lv := .list _) rfl) rfl ?_ | refine LOps.pure (Pure.as (lv := .atom _) rfl) rfl ?_ | refine LOps.pure (Pure.mv (lv := .tuple _) rfl) rfl ?_ | refine LOps.pure (Pure.extract (c := .atom _) rfl rfl) rfl ?_ | refine LOps.pure (Pure.extract (c := .list _) rfl rfl) rfl ?_
       exact ⟨⟨rfl, rfl, rfl, rfl, rfl, rfl, rfl, rfl, rfl, rfl, rfl, trivial⟩, rfl, rfl⟩
     repeat first | refine LOps.nil ?_ | refine LCode.seq ?_ | refine LCode.region ?_ | refine QThen.normal ?_ | refine LOps.pure (Pure.mv (lv := .atom _) rfl) rfl ?_ | refine LOps.pure (Pure.gtr rfl rfl) rfl ?_
     refine LCode.cond rfl (fun hn => ?_) (fun hn => ?_)
     ·have hn0 : r.1 ≠ 0 := by have := of_decide_eq_true hn; omega
      rw [if_pos hn0] at hX
      rw [hX] at hR
      obtain ⟨hR1, hR2⟩ := hR hn0
      have hrl : (r.2.map str).length = r.2.length := List.length_map _
      repeat first | refine LOps.nil ?_ | refine LCode.seq ?_ | refine LCode.region ?_ | refine QThen.normal ?_ | refine LOps.pure (Pure.as (lv := .atom _) rfl) rfl ?_ | refine LOps.pure (Pure.mv (lv := .atom _) rfl) rfl ?_
      refine LOps.pure (Pure.mv (lv := v) rfl) rfl ?_
      repeat first | refine LOps.pure (Pure.mv (lv := .list _) rfl) rfl ?_
      refine LOps.step (S.acc rfl hacc rfl (strs_len _) (strs_ok _) (by omega) fun v' H' hacc' => ?_) rfl
      refine LOps.pure (Pure.as (lv := v') rfl) rfl ?_
      repeat first | refine LOps.nil ?_ | refine LCode.exit ?_ | refine QThen.normal ?_ | refine QThen.exit ?_ | refine QBlock.hit ?_ | refine QBlock.miss (by decide) ?_
      exact ⟨(r.1, out ++ r.2, v', H'), ⟨by rw [hX], by rw [hX, if_neg hn0], by rw [List.map_append]; exact hacc'⟩, ⟨rfl, rfl, rfl, rfl, rfl, rfl, trivial⟩, HSub.refl _, hj4.trans hj3⟩
     ·have hn0 : r.1 = 0 := by have := of_decide_eq_false hn; omega
      rw [if_neg (by omega)] at hX
      repeat first | refine LOps.nil ?_ | refine LCode.region ?_ | refine LCode.skip ?_ | refine QThen.normal ?_ | refine QBlock.normal ?_ | refine LOps.pure (Pure.mv (lv := .atom _) rfl) rfl ?_ | refine LOps.pure (Pure.add rfl rfl (by omega)) rfl ?_
      exact ⟨_, _, _, by omega, ⟨x + 1, by omega, rfl, rfl, rfl, hX⟩, ⟨rfl, rfl, rfl, rfl, rfl, rfl, rfl, rfl, int_eq (by omega), trivial⟩, HSub.refl _, hj4.trans hj3⟩
    ·have hx9 : x = 9 := by have := of_decide_eq_false hc; omega
     subst hx9
     rw [firstR_end (by omega)] at hX
     repeat first | refine LCode.exit ?_ | refine QThen.normal ?_ | refine QThen.exit ?_ | refine QBlock.hit ?_
     exact ⟨(0, out, v, H1), ⟨by rw [hX], by rw [hX]; rfl, hacc⟩, ⟨rfl, rfl, rfl, rfl, rfl, rfl, trivial⟩, HSub.refl _, hj3⟩
   ·rintro ⟨n, out', v', H'⟩ ⟨hn1, ho1, hacc'⟩ j5 hj5
    simp only at hn1 ho1 hacc'
    have hol' : (out'.map str).length = out'.length := List.length_map _
    rw [← hn1] at hR ho1 hE
    repeat first | refine LOps.nil ?_ | refine LCode.seq ?_ | refine LCode.region ?_ | refine QThen.normal ?_ | refine LOps.pure (Pure.mv (lv := .atom _) rfl) rfl ?_ | refine LOps.pure (Pure.eql rfl rfl) rfl ?_
    refine LCode.cond rfl (fun hn => ?_) (fun hn => ?_)
    ·have hn0 : n = 0 := by have := of_decide_eq_true hn; omega
     rw [if_pos hn0] at ho1 hE
     subst ho1
     repeat first | refine LOps.nil ?_ | refine LCode.seq ?_ | refine LCode.region ?_ | refine QThen.normal ?_ | refine LOps.pure (Pure.as (lv := .atom _) rfl) rfl ?_
     refine LOps.pure (Pure.mv (lv := v') rfl) rfl ?_
     repeat first | refine LOps.pure (Pure.mv (lv := .list _) rfl) rfl ?_ | refine LOps.pure (Pure.mv (lv := .atom _) rfl) rfl ?_
     refine LOps.pure (Pure.ixRef (el' := str l[i]) (cs := [str l[i]]) rfl rfl (by omega) (map_get _ _ _ hlt) rfl rfl) rfl ?_
     repeat first | refine LOps.pure (Pure.loadRef (c := .atom _) rfl rfl) rfl ?_
     refine LOps.step (S.lit [_] rfl (elemsOk.cons rfl rfl elemsOk.nil) rfl rfl rfl ?_) rfl
     refine LOps.step (S.acc rfl hacc' rfl (by simp; rfl) rfl (by simp; omega) fun v2 H2 hacc2 => ?_) rfl
     refine LOps.pure (Pure.as (lv := v2) rfl) rfl ?_
     repeat first | refine LOps.nil ?_ | refine LCode.region ?_ | refine QThen.normal ?_ | refine QBlock.normal ?_ | refine LOps.pure (Pure.as (lv := .atom _) rfl) rfl ?_ | refine LOps.pure (Pure.mv (lv := .atom _) rfl) rfl ?_ | refine LOps.pure (Pure.add rfl rfl (by omega)) rfl ?_
     exact ⟨_, _, _, by omega, ⟨i + 1, f, out' ++ [l[i]], v2, by omega, rfl, rfl, by rw [List.map_append]; exact hacc2, by omega, by simp; omega, by rw [List.append_assoc]; exact hE⟩, ⟨rfl, rfl, rfl, rfl, int_eq (by omega), trivial⟩, HSub.refl _, hj5.trans hj2⟩
    ·have hn0 : n ≠ 0 := by have := of_decide_eq_false hn; omega
     rw [if_neg hn0] at ho1 hE
     obtain ⟨hR1, hR2⟩ := hR hn0
     have hlo : out'.length = out.length + (ruleW (usedW l) (l.drop i)).2.length := by rw [ho1, List.length_append]
     repeat first | refine LOps.nil ?_ | refine LCode.region ?_ | refine LCode.skip ?_ | refine QThen.normal ?_ | refine QBlock.normal ?_ | refine LOps.pure (Pure.as (lv := .atom _) rfl) rfl ?_ | refine LOps.pure (Pure.mv (lv := .atom _) rfl) rfl ?_ | refine LOps.pure (Pure.add rfl rfl (by omega)) rfl ?_
     exact ⟨_, _, _, by omega, ⟨i + n, f, out', v', by omega, rfl, rfl, hacc', by omega, by omega, by rw [ho1, List.append_assoc]; exact hE⟩, ⟨rfl, rfl, rfl, rfl, int_eq (by omega), trivial⟩, HSub.refl _, hj5.trans hj2⟩
  ·have hi' : i = l.length := by have := of_decide_eq_false hc; omega
   subst hi'
   rw [List.drop_length, onceF_nil, List.append_nil] at hE
   subst hE
   refine LCode.sub (d := 9) (v := v) rfl hacc.sub ?_
   refine LCode.weak (HSub.nil _) ?_
   repeat first | refine LOps.nil ?_ | refine LCode.seq ?_ | refine LCode.region ?_ | refine LCode.ret ?_ | refine LCode.exit ?_ | refine QThen.normal ?_ | refine QThen.exit ?_ | refine QBlock.hit ?_ | refine LOps.pure (Pure.as (lv := .list _) rfl) rfl ?_ | refine LOps.pure (Pure.mv (lv := .list _) rfl) rfl ?_
   exact retRet (hj2.trans hj1) (AllRes.cons (ResIs.tmp (v := .list _) rfl (LV.Sub.refl _)) AllRes.nil) rfl
end
end Go.Proofs.YtdakelgkjdaijaaGreatDoor.Pp
