/- The law of the depth, walked. -/
import Derived.Test.YtfodkbchknknjaaDoorLawA
import Derived.Test.YtfodkbchknknjaaDoorParDepth
import Derived.Test.YtfodkbchknknjaaDoorGlArith
set_option linter.unusedVariables false
set_option linter.unusedSimpArgs false
namespace Go.Proofs.YtfodkbchknknjaaDoor
open Go.GL Go.RowKit Go.Stele
set_option maxRecDepth 100000
set_option maxHeartbeats 4000000
theorem dep_body (bs : List Bool) (h : bs.length ≤ 100) : lexAllP (bodyOf (depSrc bs)) = .ok (depToks bs) := by
  unfold lexAllP
  have hc : bs.count false ≤ bs.length := List.count_le_length
  rw [if_neg (by simp [bodyOf, bodyPre, bodyPost, depSrc, depHead, depTail]; omega)]
  exact dep_lex bs
theorem dep_parse98 (bs : List Bool) (h : bs.length = 98) : parseP (bodyOf (depSrc bs)) = (asPr (depEx bs), 0, 0) := by
  unfold parseP
  rw [dep_body bs (by omega)]
  obtain ⟨i, op, hp⟩ := dep98 h
  show (match sProg (depToks bs) (10 * (depToks bs).length + 20) noPr 0 0 with
    | some (.ok p _ _) => (p, (0 : Int), (0 : Int))
    | some (.err l e) => (noPr, l, e)
    | none => (noPr, 0, 0)) = _
  rw [show sProg (depToks bs) (10 * (depToks bs).length + 20) noPr 0 0 = some (.ok (asPr (depEx bs)) i op) from hp]
theorem dep_parse100 (bs : List Bool) (h : bs.length = 100) : parseP (bodyOf (depSrc bs)) = (noPr, 1, 6) := by
  unfold parseP
  rw [dep_body bs (by omega)]
  show (match sProg (depToks bs) (10 * (depToks bs).length + 20) noPr 0 0 with
    | some (.ok p _ _) => (p, (0 : Int), (0 : Int))
    | some (.err l e) => (noPr, l, e)
    | none => (noPr, 0, 0)) = _
  rw [show sProg (depToks bs) (10 * (depToks bs).length + 20) noPr 0 0 = some (.err 1 6) from dep100 h]
def rawBit (c : UInt8) (s : Int) : Int := IntKind.u8.wrap ((BitVec.ofInt IntKind.u8.bits ((c.toNat : Int).fdiv (2 ^ min s.toNat IntKind.u8.bits)) &&& BitVec.ofInt IntKind.u8.bits 1).toNat : Nat)
def maskBit (ms : List UInt8) (i : Nat) : Bool := !decide (rawBit (ms.getD (i / 8) 0) (i % 8 : Nat) = 0)
def maskBits (ms : List UInt8) (n : Nat) : List Bool := (List.range n).map (maskBit ms)
theorem depHead_snoc (bs : List Bool) (b : Bool) : depHead (bs ++ [b]) = depHead bs ++ [if b then 45 else 40] := by simp [depHead]
theorem depTail_true (bs : List Bool) : depTail (bs ++ [true]) = depTail bs := by simp [depTail]
theorem depTail_false (bs : List Bool) : depTail (bs ++ [false]) = depTail bs ++ [41] := by
  simp only [depTail, List.count_append, List.count_singleton]
  exact List.replicate_succ'
theorem maskBits_snoc (ms : List UInt8) (n : Nat) : maskBits ms (n + 1) = maskBits ms n ++ [maskBit ms n] := by simp [maskBits, List.range_succ]
theorem maskBits_len (ms : List UInt8) (n : Nat) : (maskBits ms n).length = n := by simp [maskBits]
theorem depHead_len (bs : List Bool) : (depHead bs).length = bs.length := by simp [depHead]
theorem depTail_len (bs : List Bool) : (depTail bs).length ≤ bs.length := by simp [depTail]; exact List.count_le_length
attribute [local irreducible] LOps LCode LStep LCalls Go.GL.Pure QThen QBlock RetPost LQ LAny LLate LLateOp
section
variable {B0 : Nat} {w0 : World}
theorem depth_spec (hG : GW B0 w0) (ms : List UInt8) (hms : ms.length = 13) (more : Bool) : LCalls (KC B0 w0) 3 [.agg (ms.map fun c => int .u8 c.toNat), bool more] [] (Ret (bool true)) := by
  refine LCalls.intro Tryd.func3 rfl (n := 67) rfl rfl rfl ?_
  repeat first
    | refine LCode.seq ?_
    | refine LCode.region ?_
  refine LOps.step (S.box (cs := ms.map fun c => int .u8 c.toNat) rfl fun b2 => ?_) rfl
  repeat first
    | refine LOps.nil ?_
    | refine LCode.seq ?_
    | refine LCode.region ?_
    | refine QThen.normal ?_
    | refine LOps.pure (Pure.as (lv := .atom _) rfl) rfl ?_
  refine LOps.step (S.fn [] rfl (alive_spec hG) ?_) rfl
  repeat first
    | refine LOps.nil ?_
    | refine QThen.normal ?_
    | refine LOps.pure (Pure.not rfl) rfl ?_
  refine LCode.cond rfl (fun h0 => ?_) (fun h0 => ?_)
  · cases h0
  repeat first
    | refine LOps.nil ?_
    | refine LCode.seq ?_
    | refine LCode.region ?_
    | refine LCode.skip ?_
    | refine QThen.normal ?_
    | refine LOps.pure (Pure.as (lv := .atom _) rfl) rfl ?_
    | refine LOps.pure (Pure.mv (lv := .atom _) rfl) rfl ?_
  obtain ⟨n, hn⟩ : ∃ n : Nat, n = if more then 100 else 98 := ⟨_, rfl⟩
  have hn100 : n ≤ 100 := by rw [hn]; split <;> omega
  refine LCode.cut [(1, bool more), (2, ptr b2 0), (5, int .i64 n)] ?_ (fun j hj => ?_)
  · refine LCode.cond rfl (fun h => ?_) (fun h => ?_)
    · repeat first
        | refine LOps.nil ?_
        | refine LCode.region ?_
        | refine QThen.normal ?_
        | refine LOps.pure (Pure.as (lv := .atom _) rfl) rfl ?_
      exact ⟨⟨rfl, rfl, int_eq (by rw [hn, h]; rfl), trivial⟩, rfl, rfl⟩
    · repeat first
        | refine LCode.skip ?_
        | refine QThen.normal ?_
      exact ⟨⟨rfl, rfl, int_eq (by rw [hn, h]; rfl), trivial⟩, rfl, rfl⟩
  repeat first
    | refine LOps.nil ?_
    | refine LCode.seq ?_
    | refine LCode.region ?_
    | refine LCode.block ?_
    | refine QThen.normal ?_
    | refine LOps.pure (Pure.as (lv := .atom _) rfl) rfl ?_
  have hu : (KC B0 w0).P.underlying 22 = some (.array 13 5) := Tryd.underlying22
  obtain ⟨ti, hti, hsz⟩ : ∃ i, (KC B0 w0).P.info? 5 = some i ∧ i.size = 1 := by
    have h : (Tryd.prog.info? 5).map (·.size) = some 1 := by kernel_rfl
    cases hi : Tryd.prog.info? 5 with
    | none => rw [hi] at h; cases h
    | some i =>
      rw [hi] at h
      injection h with h
      exact ⟨i, rfl, h⟩
  refine LCode.loopI (fun k ls H => ∃ i : Nat, i ≤ n ∧ k = n - i ∧ ls = [(1, Go.GL.bool more), (2, ptr b2 0), (5, int .i64 n), (6, str (depHead (maskBits ms i))), (7, str (depTail (maskBits ms i))), (8, int .i64 i)] ∧ H = [(b2, .cells 22 (ms.map fun c => int .u8 c.toNat))])
    ⟨_, _, _, ⟨0, Nat.zero_le _, rfl, rfl, rfl⟩, ⟨rfl, rfl, rfl, rfl, rfl, rfl, trivial⟩, HSub.refl _⟩ ?_
  rintro k ls H ⟨i, hi, rfl, rfl, rfl⟩ j2 hj2
  repeat first
    | refine LOps.nil ?_
    | refine LCode.seq ?_
    | refine LCode.region ?_
    | refine QThen.normal ?_
    | refine LOps.pure (Pure.mv (lv := .atom _) rfl) rfl ?_
    | refine LOps.pure (Pure.lss rfl rfl) rfl ?_
  refine LCode.cond rfl (fun hc => ?_) (fun hc => ?_)
  · have hlt : i < n := by have := of_decide_eq_true hc; omega
    have h8 : i / 8 < ms.length := by omega
    have hwr : IntKind.u64.wrap ((i : Int) % 8) = ((i % 8 : Nat) : Int) := by
      simp only [IntKind.wrap, IntKind.bits, IntKind.signed]
      simp
      omega
    have hbit : maskBit ms i = !decide (rawBit ms[i / 8] (i % 8 : Nat) = 0) := by
      unfold maskBit
      rw [List.getD_eq_getElem?_getD, List.getElem?_eq_getElem h8]
      rfl
    repeat first
      | refine LCode.seq ?_
      | refine LCode.region ?_
      | refine LCode.skip ?_
      | refine LCode.block ?_
      | refine QThen.normal ?_
      | refine LOps.pure (Pure.mv (lv := .atom _) rfl) rfl ?_
    refine LOps.pure (Pure.quo (a := (i : Int)) (b := 8) rfl rfl (by omega) (by omega) (by omega)) rfl ?_
    refine LOps.pure (Pure.indexArr (n := (i : Int) / 8) hu hti rfl rfl (by omega) (by omega)) rfl ?_
    refine LOps.pure (Pure.loadH (c := int .u8 ms[i / 8].toNat) rfl (List.Mem.head _) (by
      rw [hsz, show 0 + ((i : Int) / 8).toNat * 1 = i / 8 by omega, List.getElem?_map, List.getElem?_eq_getElem h8]
      rfl)) rfl ?_
    repeat first
      | refine LOps.pure (Pure.mv (lv := .atom _) rfl) rfl ?_
    refine LOps.pure (Pure.rem (a := (i : Int)) (b := 8) rfl rfl (by omega) (by omega)) rfl ?_
    repeat first
      | refine LOps.pure (Pure.cvt rfl) rfl ?_
    refine LOps.pure (Pure.shr (a := (ms[i / 8].toNat : Int)) (b := ((i % 8 : Nat) : Int)) rfl (int_eq hwr) (by omega)) rfl ?_
    refine LOps.pure (Pure.andW rfl rfl) rfl ?_
    repeat first
      | refine LOps.nil ?_
      | refine QThen.normal ?_
      | refine LOps.pure (Pure.eql rfl rfl) rfl ?_
    refine LCode.cond rfl (fun hb => ?_) (fun hb => ?_)
    · have hb' : maskBit ms i = false := by
        rw [hbit]
        unfold rawBit
        rw [hb]
        rfl
      repeat first
        | refine LCode.region ?_
        | refine LOps.pure (Pure.mv (lv := .atom _) rfl) rfl ?_
      refine LOps.pure (Pure.sadd rfl rfl (by rw [depHead_len, maskBits_len]; simp; omega)) rfl ?_
      repeat first
        | refine LOps.pure (Pure.mv (lv := .atom _) rfl) rfl ?_
      refine LOps.pure (Pure.sadd rfl rfl (by have := depTail_len (maskBits ms i); rw [maskBits_len] at this; simp; omega)) rfl ?_
      repeat first
        | refine LOps.nil ?_
        | refine LCode.region ?_
        | refine QThen.normal ?_
        | refine QBlock.normal ?_
        | refine LOps.pure (Pure.as (lv := .atom _) rfl) rfl ?_
        | refine LOps.pure (Pure.mv (lv := .atom _) rfl) rfl ?_
        | refine LOps.pure (Pure.add rfl rfl (by omega)) rfl ?_
      exact ⟨_, _, _, by omega, ⟨i + 1, by omega, rfl, rfl, rfl⟩, ⟨rfl, rfl, rfl, congrArg Go.GL.str (by rw [maskBits_snoc, hb', depHead_snoc]; rfl), congrArg Go.GL.str (by rw [maskBits_snoc, hb', depTail_false]), int_eq (by omega), trivial⟩, HSub.refl _, hj2⟩
    · have hb' : maskBit ms i = true := by
        rw [hbit]
        unfold rawBit
        rw [hb]
        rfl
      repeat first
        | refine LCode.region ?_
        | refine LOps.pure (Pure.mv (lv := .atom _) rfl) rfl ?_
      refine LOps.pure (Pure.sadd rfl rfl (by rw [depHead_len, maskBits_len]; simp; omega)) rfl ?_
      repeat first
        | refine LOps.nil ?_
        | refine LCode.region ?_
        | refine QThen.normal ?_
        | refine QBlock.normal ?_
        | refine LOps.pure (Pure.as (lv := .atom _) rfl) rfl ?_
        | refine LOps.pure (Pure.mv (lv := .atom _) rfl) rfl ?_
        | refine LOps.pure (Pure.add rfl rfl (by omega)) rfl ?_
      exact ⟨_, _, _, by omega, ⟨i + 1, by omega, rfl, rfl, rfl⟩, ⟨rfl, rfl, rfl, congrArg Go.GL.str (by rw [maskBits_snoc, hb', depHead_snoc]; rfl), congrArg Go.GL.str (by rw [maskBits_snoc, hb', depTail_true]), int_eq (by omega), trivial⟩, HSub.refl _, hj2⟩
  · have hi' : i = n := by have := of_decide_eq_false hc; omega
    subst hi'
    have hbl := maskBits_len ms i
    generalize maskBits ms i = bs at hbl
    have hhl := depHead_len bs
    have htl := depTail_len bs
    repeat first
      | refine LCode.seq ?_
      | refine LCode.region ?_
      | refine LCode.exit ?_
      | refine QThen.normal ?_
      | refine QThen.exit ?_
      | refine QBlock.hit ?_
      | refine LOps.pure (Pure.mv (lv := .atom _) rfl) rfl ?_
      | refine LOps.pure (Pure.sadd rfl rfl (by simp only [List.length_append, List.length_cons, List.length_nil]; omega)) rfl ?_
    have hsrc : depHead bs ++ [121] ++ depTail bs = depSrc bs := by rw [depSrc, List.append_assoc]; rfl
    rw [hsrc]
    have hsl : (depSrc bs).length ≤ 1000 := by rw [← hsrc]; simp only [List.length_append, List.length_cons, List.length_nil]; omega
    refine LOps.step (S.fn [_] rfl (body_spec (depSrc bs) (by omega)) ?_) rfl
    have hp := parse_spec hG (bodyOf (depSrc bs)) (by simp only [bodyOf, bodyPre, bodyPost, List.length_append, List.length_cons, List.length_nil]; omega)
    cases more with
    | true =>
      rw [dep_parse100 bs (by rw [hbl, hn]; rfl)] at hp
      refine LOps.step (S.fn [_] rfl hp ?_) rfl
      refine LOps.pure (Pure.mv rfl) rfl ?_
      refine LOps.pure (Pure.extract (vs := [encPr noPr, int .i64 1, int .i64 6]) rfl rfl) rfl ?_
      refine LOps.pure (Pure.extract (vs := [encPr noPr, int .i64 1, int .i64 6]) rfl rfl) rfl ?_
      refine LOps.pure (Pure.extract (vs := [encPr noPr, int .i64 1, int .i64 6]) rfl rfl) rfl ?_
      refine LOps.step (S.alloc fun b9 => ?_) rfl
      repeat first
        | refine LOps.nil ?_
        | refine LCode.seq ?_
        | refine LCode.region ?_
        | refine QThen.normal ?_
        | refine LOps.pure (Pure.as (lv := .atom _) rfl) rfl ?_
        | refine LOps.pure (Pure.mv (lv := .atom _) rfl) rfl ?_
        | refine LOps.step (S.store (cs' := [_, _, _]) rfl Pick.here rfl rfl rfl rfl rfl ?_) rfl
      refine LCode.cond rfl (fun h => ?_) (fun h => ?_)
      · repeat first
          | refine LOps.nil ?_
          | refine LCode.seq ?_
          | refine LCode.region ?_
          | refine LCode.ret ?_
          | refine QThen.normal ?_
          | refine QThen.ret ?_
          | refine LOps.pure (Pure.as (lv := .atom _) rfl) rfl ?_
          | refine LOps.pure (Pure.mv (lv := .atom _) rfl) rfl ?_
          | refine LOps.pure (Pure.eql rfl rfl) rfl ?_
          | refine LOps.pure (Pure.pickT (lv := .atom _) rfl rfl) rfl ?_
          | refine LOps.pure (Pure.fieldH rfl) rfl ?_
          | refine LOps.pure (Pure.loadH (c := .list _) rfl (List.Mem.head _) rfl) rfl ?_
          | refine LOps.pure (Pure.llen rfl) rfl ?_
          | refine LOps.want rfl rfl ?_
        exact retRet (hj2.trans hj) (AllRes.cons (ResIs.tmp (v := .atom _) rfl (LV.Sub.refl _)) AllRes.nil) rfl
      · cases h
    | false =>
      rw [dep_parse98 bs (by rw [hbl, hn]; rfl)] at hp
      refine LOps.step (S.fn [_] rfl hp ?_) rfl
      refine LOps.pure (Pure.mv rfl) rfl ?_
      refine LOps.pure (Pure.extract (vs := [encPr (asPr (depEx bs)), int .i64 0, int .i64 0]) rfl rfl) rfl ?_
      refine LOps.pure (Pure.extract (vs := [encPr (asPr (depEx bs)), int .i64 0, int .i64 0]) rfl rfl) rfl ?_
      refine LOps.pure (Pure.extract (vs := [encPr (asPr (depEx bs)), int .i64 0, int .i64 0]) rfl rfl) rfl ?_
      refine LOps.step (S.alloc fun b9 => ?_) rfl
      repeat first
        | refine LOps.nil ?_
        | refine LCode.seq ?_
        | refine LCode.region ?_
        | refine QThen.normal ?_
        | refine LOps.pure (Pure.as (lv := .atom _) rfl) rfl ?_
        | refine LOps.pure (Pure.mv (lv := .atom _) rfl) rfl ?_
        | refine LOps.step (S.store (cs' := [_, _, _]) rfl Pick.here rfl rfl rfl rfl rfl ?_) rfl
      refine LCode.cond rfl (fun h => ?_) (fun h => ?_)
      · cases h
      repeat first
        | refine LOps.nil ?_
        | refine LCode.seq ?_
        | refine LCode.region ?_
        | refine LCode.skip ?_
        | refine LCode.ret ?_
        | refine QThen.normal ?_
        | refine LOps.pure (Pure.as (lv := .atom _) rfl) rfl ?_
        | refine LOps.pure (Pure.mv (lv := .atom _) rfl) rfl ?_
        | refine LOps.pure (Pure.eql rfl rfl) rfl ?_
        | refine LOps.pure (Pure.pickT (lv := .atom _) rfl rfl) rfl ?_
        | refine LOps.pure (Pure.fieldH rfl) rfl ?_
        | refine LOps.pure (Pure.loadH (c := .list _) rfl (List.Mem.head _) rfl) rfl ?_
        | refine LOps.pure (Pure.llen rfl) rfl ?_
        | refine LOps.want rfl rfl ?_
      exact retRet (hj2.trans hj) (AllRes.cons (ResIs.tmp (v := .atom _) rfl (LV.Sub.refl _)) AllRes.nil) rfl
end
end Go.Proofs.YtfodkbchknknjaaDoor
