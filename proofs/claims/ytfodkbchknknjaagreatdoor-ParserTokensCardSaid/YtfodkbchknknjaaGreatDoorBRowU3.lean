/- Texts joined: Lex2, FmtUint, Lex3, Lex4, GlDraw2, Lex5, Lex6, GlAcc, ParSpec2, ParP1, ParP2, ParEq, ParE. -/
import Derived.Lib.Walk
import Derived.Lib.ItoaMem
import Derived.Lib.AppendIntMem
import Derived.WalkKit
import Derived.BigCall
import Derived.BigGuard
import Derived.Below
import Derived.WalkSmall
import Derived.Laws.IdiomStrings
import Derived.Test.YtfodkbchknknjaaGreatDoorBRowU2
set_option linter.unusedVariables false
set_option linter.unusedSimpArgs false
namespace Go.Proofs.YtfodkbchknknjaaGreatDoor
open Go.GL Go.RowKit Go.Stele
set_option maxRecDepth 100000
set_option maxHeartbeats 4000000
attribute [local irreducible] LOps LCode LStep LCalls Go.GL.Pure QThen QBlock RetPost
section
variable {B0 : Nat} {w0 : World}
theorem run_spec {f : FuncId} [TEnter Tryz.prog f] (p : UInt8 → Bool) (hp : ∀ c : UInt8, LCalls (KC B0 w0) f [int .u8 c.toNat] [] (Ret (bool (p c)))) (s : List UInt8) (hs : s.length ≤ 1000000000) :
    LCalls (KC B0 w0) 71 [str s, .atom (.func (.func f) #[] #[])] [] (Ret (str (s.takeWhile p))) := by
  refine LCalls.intro Tryz.func71 rfl (n := 22) rfl rfl rfl ?_
  repeat first
    | refine LOps.nil ?_
    | refine LCode.seq ?_
    | refine LCode.region ?_
    | refine LCode.block ?_
    | refine QThen.normal ?_
    | refine LOps.pure (Pure.as (lv := .atom _) rfl) rfl ?_
  refine LCode.loopI (fun k l H => ∃ m : Nat, k = s.length - m ∧ l = [(0, str s), (1, .atom (.func (.func f) #[] #[])), (5, int .i64 m)] ∧ H = [] ∧ m ≤ s.length ∧ s.takeWhile p = s.take m ++ (s.drop m).takeWhile p)
    ⟨_, _, _, ⟨0, rfl, rfl, rfl, by omega, by simp⟩, ⟨rfl, rfl, rfl, trivial⟩, HSub.refl _⟩ ?_
  rintro k l H ⟨m, rfl, rfl, rfl, hm, hI⟩ j hj
  repeat first
    | refine LCode.seq ?_
    | refine LCode.region ?_
    | refine LOps.pure (Pure.mv (lv := .atom _) rfl) rfl ?_
    | refine LOps.pure (Pure.slen rfl) rfl ?_
    | refine LOps.pure (Pure.lss rfl rfl) rfl ?_
  refine LOps.bcase 10 rfl (fun ht => ?_) (fun ht => ?_)
  · have hlt : m < s.length := by simpa using ht
    repeat first
      | refine LOps.pure (Pure.mv (lv := .atom _) rfl) rfl ?_
      | refine LOps.want rfl rfl ?_
    refine LOps.pure (Pure.sindex (c := s[m]) rfl rfl (by omega) (by simp)) rfl ?_
    refine LOps.want rfl rfl ?_
    refine LOps.step (S.fnV [_] rfl rfl (hp s[m]) ?_) rfl
    repeat first
      | refine LOps.nil ?_
      | refine QThen.normal ?_
      | refine LOps.pure (Pure.pickT (lv := .atom _) rfl rfl) rfl ?_
    refine LCode.cond rfl (fun hc => ?_) (fun hc => ?_)
    · repeat first
        | refine LOps.nil ?_
        | refine LCode.region ?_
        | refine LCode.skip ?_
        | refine LCode.block ?_
        | refine QThen.normal ?_
        | refine QBlock.normal ?_
        | refine LOps.pure (Pure.as (lv := .atom _) rfl) rfl ?_
        | refine LOps.pure (Pure.mv (lv := .atom _) rfl) rfl ?_
        | refine LOps.pure (Pure.add rfl rfl (by omega)) rfl ?_
      exact ⟨_, _, _, by omega, ⟨m + 1, rfl, rfl, rfl, by omega, (takeWhile_step hlt hI).1 (by simpa using hc)⟩, ⟨rfl, rfl, int_eq (by omega), trivial⟩, HSub.refl _, hj⟩
    · repeat first
        | refine LCode.seq ?_
        | refine LCode.region ?_
        | refine LCode.exit ?_
        | refine QThen.normal ?_
        | refine QThen.exit ?_
        | refine QBlock.hit ?_
        | refine LOps.pure (Pure.mv (lv := .atom _) rfl) rfl ?_
      refine LOps.pure (Pure.sslice (i := 0) (j := m) rfl rfl ⟨_, rfl⟩ (by omega) (by omega) (by omega)) rfl ?_
      repeat first
        | refine LOps.nil ?_
        | refine LCode.ret ?_
        | refine QThen.normal ?_
        | refine LOps.pure (Pure.as (lv := .atom _) rfl) rfl ?_
      exact retRet hj (AllRes.cons (ResIs.tmp (v := .atom _) rfl (LV.Sub.refl _)) AllRes.nil) (by
        rw [(takeWhile_step hlt hI).2 (by simpa using hc)]
        simp [resLV])
  · have hge : s.length ≤ m := by simpa using ht
    repeat first
      | refine LOps.nil ?_
      | refine QThen.normal ?_
      | refine LOps.pure (Pure.pickF (lv := .atom _) rfl rfl) rfl ?_
      | refine LOps.skip rfl rfl rfl rfl ?_
    refine LCode.cond rfl (fun hc => ?_) (fun hc => ?_)
    · cases hc
    · repeat first
        | refine LCode.seq ?_
        | refine LCode.region ?_
        | refine LCode.exit ?_
        | refine QThen.normal ?_
        | refine QThen.exit ?_
        | refine QBlock.hit ?_
        | refine LOps.pure (Pure.mv (lv := .atom _) rfl) rfl ?_
      refine LOps.pure (Pure.sslice (i := 0) (j := m) rfl rfl ⟨_, rfl⟩ (by omega) (by omega) (by omega)) rfl ?_
      repeat first
        | refine LOps.nil ?_
        | refine LCode.ret ?_
        | refine QThen.normal ?_
        | refine LOps.pure (Pure.as (lv := .atom _) rfl) rfl ?_
      exact retRet hj (AllRes.cons (ResIs.tmp (v := .atom _) rfl (LV.Sub.refl _)) AllRes.nil) (by
        rw [takeWhile_end hge hI]
        simp [resLV])
/-- strings.HasPrefix. -/
theorem hasPrefix_spec (s p : List UInt8) : LCalls (KC B0 w0) 54 [str s, str p] [] (Ret (bool (p.isPrefixOf s))) :=
  LCalls.ret_of (vs := [.string ⟨s.toArray⟩, .string ⟨p.toArray⟩]) fun w _ => (Go.Proofs.Tryz.strings_HasPrefix _ _ w).mono fun e w' he => by
    obtain ⟨h1, h2⟩ := he
    subst h2
    exact ⟨by simpa [Go.Lib.hasPrefix] using h1, Below.refl _ _⟩
theorem skip_spec (s : List UInt8) (hs : s.length ≤ 1000000000) : LCalls (KC B0 w0) 45 [str s] [] (Ret (int .i64 (skipLen s))) := by
  refine LCalls.intro Tryz.func45 rfl (n := 11) rfl rfl rfl ?_
  repeat first
    | refine LOps.nil ?_
    | refine LCode.seq ?_
    | refine LCode.region ?_
    | refine QThen.normal ?_
    | refine LOps.pure (Pure.as (lv := .atom _) rfl) rfl ?_
    | refine LOps.pure (Pure.mv (lv := .atom _) rfl) rfl ?_
  refine LOps.step (S.fn [_, _] rfl (hasPrefix_spec s [47, 47]) ?_) rfl
  repeat first
    | refine LOps.nil ?_
    | refine QThen.normal ?_
  refine LCode.cond rfl (fun hc => ?_) (fun hc => ?_)
  · repeat first
      | refine LCode.seq ?_
      | refine LCode.region ?_
      | refine LOps.pure (Pure.mv (lv := .atom _) rfl) rfl ?_
    refine LOps.step (S.fn [_, _] rfl (run_spec notNl notNl_spec s hs) ?_) rfl
    repeat first
      | refine LOps.nil ?_
      | refine LCode.ret ?_
      | refine QThen.normal ?_
      | refine QThen.ret ?_
      | refine LOps.pure (Pure.as (lv := .atom _) rfl) rfl ?_
      | refine LOps.pure (Pure.slen rfl) rfl ?_
    exact retRet rfl (AllRes.cons (ResIs.tmp (v := .atom _) rfl (LV.Sub.refl _)) AllRes.nil) (by simp only [resLV, skipLen, hc, if_true])
  · repeat first
      | refine LCode.seq ?_
      | refine LCode.region ?_
      | refine LCode.skip ?_
      | refine QThen.normal ?_
      | refine LOps.pure (Pure.mv (lv := .atom _) rfl) rfl ?_
    refine LOps.step (S.fn [_, _] rfl (run_spec isWhite white_spec s hs) ?_) rfl
    repeat first
      | refine LOps.nil ?_
      | refine LCode.ret ?_
      | refine QThen.normal ?_
      | refine LOps.pure (Pure.as (lv := .atom _) rfl) rfl ?_
      | refine LOps.pure (Pure.slen rfl) rfl ?_
    exact retRet rfl (AllRes.cons (ResIs.tmp (v := .atom _) rfl (LV.Sub.refl _)) AllRes.nil) (by simp only [resLV, skipLen, hc, Bool.false_eq_true, if_false])
end
end Go.Proofs.YtfodkbchknknjaaGreatDoor
namespace Go.Proofs.YtfodkbchknknjaaGreatDoor
open Go Go.Shelf Go.RowKit Go.Sort Go.Lib
set_option maxHeartbeats 6400000
set_option maxRecDepth 100000
theorem formatUint_main (u : Nat) (hu64 : u < 18446744073709551616) (w : World) (htab : Lib.TabIs Tryz.prog w "internal/strconv.uint64pow10" .u64 Lib.pow10Tab) :
    Calls Tryz.prog 132 #[.int .u64 u, .int .i64 10] w fun e w' => e = .returned (.string ⟨(Lib.decDigits u).toArray⟩) ∧ Below w.heap.size w w' := by
  have mixed : Tryz.prog.follows .mixedOrders = true := by kernel_rfl
  have t3 := Tryz.underlying3; have a3 := Tryz.isAgg3; have z3 := Tryz.sizeOf3; have v3 := Tryz.zeroValue3
  have t9 := Tryz.underlying9; have a9 := Tryz.isAgg9; have z9 := Tryz.sizeOf9; have v9 := Tryz.zeroValue9
  have t4 := Tryz.underlying4; have a4 := Tryz.isAgg4; have z4 := Tryz.sizeOf4; have v4 := Tryz.zeroValue4
  have t142 := Tryz.underlying142; have a142 := Tryz.isAgg142; have z142 := Tryz.sizeOf142; have v142 := Tryz.zeroValue142
  have t0 := Tryz.underlying0; have a0 := Tryz.isAgg0; have z0 := Tryz.sizeOf0; have v0 := Tryz.zeroValue0
  have t119 := Tryz.underlying119; have a119 := Tryz.isAgg119; have z119 := Tryz.sizeOf119; have v119 := Tryz.zeroValue119
  have t85 := Tryz.underlying85; have a85 := Tryz.isAgg85; have z85 := Tryz.sizeOf85; have v85 := Tryz.zeroValue85
  have t5 := Tryz.underlying5; have a5 := Tryz.isAgg5; have z5 := Tryz.sizeOf5; have v5 := Tryz.zeroValue5
  have e137 : ∀ args w, (callFunc 137 args).run Tryz.prog w = .ok (.enter 137 args) w := enters_of Tryz.func137 (by kernel_rfl) rfl
  have e138 : ∀ args w, (callFunc 138 args).run Tryz.prog w = .ok (.enter 138 args) w := enters_of Tryz.func138 (by kernel_rfl) rfl
  have e139 : ∀ args w, (callFunc 139 args).run Tryz.prog w = .ok (.enter 139 args) w := enters_of Tryz.func139 (by kernel_rfl) rfl
  by_cases hs : u < 100
  · go_enter Tryz.func132, Tryz.ntmps132
    go_wp2_with (go_at_fn (137); refine (Tryz.internal_strconv_small u hs _).mono ?_; rintro e w' ⟨rfl, rfl⟩)
    go_ret
    exact ⟨rfl, Below.refl _ _⟩
  · have hu1 : 1 ≤ u := by omega
    have hnd20 : Lib.nDigits u ≤ 20 := by have := Lib.numDigits_eq u hu1 hu64; split at this <;> omega
    have hal : Tryz.prog.arrayLen 142 = 24 := by simp [Program.arrayLen, Tryz.underlying142]
    have hsl : ∀ W, (Instr.sliceAt 142 (.pointer (some ⟨w.heap.size, 0, none⟩)) none (some (.int .i64 (Lib.nDigits u : Int))) none).run Tryz.prog W = .ok (.slice (some ⟨w.heap.size, 0, none⟩) (Lib.nDigits u) 24) W := fun W => by
      rw [run_sliceAt_array_h W 142 ⟨w.heap.size, 0, none⟩ (by simp [Program.arrayLen, Program.elem, Tryz.underlying142]) .i64 (Lib.nDigits u : Int) (by omega) (by rw [hal]; omega)]
      go_simp
    have hH0 := Lib.holds_zero0 w 142 (Lib.nDigits u) (by omega)
    have hfmt := Tryz.internal_strconv_formatBase10 w.heap.size 0 24 u (Array.replicate (Lib.nDigits u) 0) (w.alloc (.cells Lib.zeros24 142)) hH0 (by rw [Array.size_replicate]; exact Lib.lt_pow_nDigits u) hu64 (by rw [Array.size_replicate]; omega)
    rw [Array.size_replicate] at hfmt
    have HH0 := Lib.hid hH0
    clear hH0 hal
    go_enter Tryz.func132, Tryz.ntmps132
    go_wp2_with (first
      | (go_at_fn (138); refine (Tryz.internal_strconv_numDigits u hu1 hu64 _ (Lib.tabIs_alloc htab _)).mono ?_; rintro e w' ⟨rfl, rfl⟩))
    go_at_fn (139)
    refine hfmt.mono ?_
    rintro e w' ⟨rfl, k, v', dk, rfl, hF⟩
    have hcv : (convert 85 9 (.slice (some ⟨w.heap.size, 0, none⟩) (Lib.nDigits u) 24)).run Tryz.prog ((putRow (fun (b : UInt8) => Value.int .u8 (b.toNat : Int)) (w.alloc (.cells Lib.zeros24 142)) w.heap.size 0 dk).drewN k) = .ok (.string ⟨(Lib.decDigits u).toArray⟩) ((putRow (fun (b : UInt8) => Value.int .u8 (b.toNat : Int)) (w.alloc (.cells Lib.zeros24 142)) w.heap.size 0 dk).drewN k) := by
      have h := run_convert_bytes_back (P := Tryz.prog) ((putRow (fun (b : UInt8) => Value.int .u8 (b.toNat : Int)) (w.alloc (.cells Lib.zeros24 142)) w.heap.size 0 dk).drewN k) 85 9 5 ⟨w.heap.size, 0, none⟩ 24 (Lib.decDigits u) Tryz.underlying85 Tryz.underlying5 Tryz.underlying9 (fun j hj => by
        rw [Lib.row_is_numeral hF j hj, Lib.add_plain, World.cell?_drewN]
        exact cell?_putRow (fun (b : UInt8) => Value.int .u8 (b.toNat : Int)) _ w.heap.size 0 _ dk HH0.out (by rw [hF.size, Array.size_replicate]) j (by rw [hF.size]; rw [Lib.decDigits_length] at hj; exact hj))
      rw [Lib.decDigits_length] at h
      exact h
    go_wp2
    go_ret
    refine ⟨rfl, ?_⟩
    obtain ⟨os, eo⟩ := Lib.fin_at w (.cells Lib.zeros24 142) dk k 0
    rw [eo]
    exact Lib.below_grow _ w (Nat.le_refl _) k os
end Go.Proofs.YtfodkbchknknjaaGreatDoor
namespace Go.Proofs.YtfodkbchknknjaaGreatDoor
open Go.GL Go.RowKit Go.Stele
set_option maxRecDepth 100000
set_option maxHeartbeats 4000000
attribute [local irreducible] LOps LCode LStep LCalls Go.GL.Pure QThen QBlock RetPost
/-- What the world before the call holds: the table of powers of ten, the error of the range. -/
structure GW (B0 : Nat) (w0 : World) : Prop where
  pow10 : Go.Lib.TabIs Tryz.prog w0 "internal/strconv.uint64pow10" .u64 Go.Lib.pow10Tab
  errRange : ∃ tp p, w0.var? Tryz.prog "strconv.ErrRange" = some #[.iface tp p]
  big : 6 ≤ B0
section
variable {B0 : Nat} {w0 : World}
theorem GW.tab (h : GW B0 w0) {w : World} (hb : Below B0 w0 w) : Go.Lib.TabIs Tryz.prog w "internal/strconv.uint64pow10" .u64 Go.Lib.pow10Tab := by
  have hg : Tryz.prog.globalNamed "internal/strconv.uint64pow10" = some 1 := by kernel_rfl
  exact var?_below hb hg (Nat.lt_of_lt_of_le (by decide) h.big) h.pow10
theorem GW.err (h : GW B0 w0) {w : World} (hb : Below B0 w0 w) : ∃ tp p, w.var? Tryz.prog "strconv.ErrRange" = some #[.iface tp p] := by
  have hg : Tryz.prog.globalNamed "strconv.ErrRange" = some 3 := by kernel_rfl
  obtain ⟨tp, p, hv⟩ := h.errRange
  exact ⟨tp, p, var?_below hb hg (Nat.lt_of_lt_of_le (by decide) h.big) hv⟩
theorem itoa_spec (hG : GW B0 w0) (u : Nat) (hu : u ≤ 9223372036854775807) : LCalls (KC B0 w0) 51 [int .i64 u] [] (Ret (str (Go.Lib.decDigits u))) :=
  LCalls.ret_of (vs := [.int .i64 u]) fun w hw => (Go.Proofs.Tryz.strconv_Itoa u (by omega) (by omega) w (hG.tab hw)).mono fun e w' he => by
    obtain ⟨h1, k, os, h2⟩ := he
    rw [Go.Lib.itoa_nonneg] at h1
    exact ⟨h1, by rw [h2]; exact Go.Lib.below_grow _ w (Nat.le_refl _) k os⟩
theorem fmtUint_spec (hG : GW B0 w0) (u : Nat) (hu : u < 18446744073709551616) : LCalls (KC B0 w0) 111 [int .u64 u, int .i64 10] [] (Ret (str (Go.Lib.decDigits u))) := by
  refine LCalls.intro Tryz.func111 rfl (n := 8) rfl rfl rfl ?_
  repeat first
    | refine LOps.nil ?_
    | refine LCode.seq ?_
    | refine LCode.region ?_
    | refine QThen.normal ?_
    | refine LOps.pure (Pure.as (lv := .atom _) rfl) rfl ?_
    | refine LOps.pure (Pure.mv (lv := .atom _) rfl) rfl ?_
  refine LOps.step (S.fn [_, _] rfl (LCalls.ret_of (vs := [.int .u64 u, .int .i64 10]) fun w hw => formatUint_main u hu w (hG.tab hw)) ?_) rfl
  repeat first
    | refine LOps.nil ?_
    | refine LCode.ret ?_
    | refine QThen.normal ?_
    | refine LOps.pure (Pure.as (lv := .atom _) rfl) rfl ?_
  exact retRet rfl (AllRes.cons (ResIs.tmp (v := .atom _) rfl (LV.Sub.refl _)) AllRes.nil) rfl
/-- strconv.ParseUint(s, 10, 32) of a row of digits: the number and nil, or an error that is not nil. -/
theorem parseUint_ok (s : List UInt8) (hs : s.length ≤ 1000000000) (u : Nat) (h : Go.Lib.parseUintB 32 s = .ok u) :
    LCalls (KC B0 w0) 110 [str s, int .i64 10, int .i64 32] [] (Ret (.tuple [int .u64 u, .atom .nilIface])) := by
  refine LCalls.mono (LCalls.of_belowT (vs := [.string ⟨s.toArray⟩, .int .i64 10, .int .i64 32]) (p := fun us => us = [.int .u64 u, .nilIface]) fun w hw => ?_) ?_
  · refine (Go.Proofs.Tryz.strconv_ParseUint_10_at32_ok ⟨s.toArray⟩ ?_ u (by simpa using h) w).mono fun e w' he => ⟨_, he.1, rfl, ?_⟩
    · show s.toArray.size ≤ _
      simp
      omega
    · rcases he.2 with h2 | h2
      · rw [h2]; exact Below.refl _ _
      · rw [h2]
        exact ⟨rfl, rfl, rfl, by rw [Go.Lib.bytesWorld_size]; omega, fun k hk => Go.Lib.bytesWorld_at_old w 5 _ k hk⟩
  · rintro r H ⟨v, rfl, ⟨us, rfl, rfl⟩, rfl⟩
    exact ⟨rfl, rfl⟩
theorem parseUint_range (hG : GW B0 w0) (s : List UInt8) (hs : s.length ≤ 1000000000) (h : Go.Lib.parseUintB 32 s = .range) :
    LCalls (KC B0 w0) 110 [str s, int .i64 10, int .i64 32] [] (RetIf fun lv => ∃ v t p, lv = .tuple [int .u64 v, .atom (.iface t p)]) := by
  refine LCalls.mono (LCalls.of_belowT (vs := [.string ⟨s.toArray⟩, .int .i64 10, .int .i64 32]) (p := fun us => ∃ v t p, us = [.int .u64 v, .iface t p]) fun w hw => ?_) ?_
  · obtain ⟨tp, p, hv⟩ := hG.err hw
    refine (Go.Proofs.Tryz.strconv_ParseUint_10_at32_range_var ⟨s.toArray⟩ ?_ (by simpa using h) tp p w hv).mono fun e w' he => ?_
    · show s.toArray.size ≤ _
      simp
      omega
    · obtain ⟨N, h1, _, _, h4⟩ := he
      exact ⟨_, h1, ⟨_, _, _, rfl⟩, h4⟩
  · rintro r H ⟨v, rfl, ⟨us, ⟨a, t, p, rfl⟩, rfl⟩, rfl⟩
    exact ⟨_, rfl, ⟨a, t, p, rfl⟩, rfl⟩
theorem countNl_spec (s : List UInt8) : LCalls (KC B0 w0) 47 [str s, str [10]] [] (Ret (int .i64 (s.count 10))) :=
  LCalls.ret_of (vs := [.string ⟨s.toArray⟩, .string ⟨#[10]⟩]) fun w _ => (Go.Proofs.Tryz.strings_Count_one _ _ w).mono fun e w' he => by
    obtain ⟨h1, h2⟩ := he
    subst h2
    exact ⟨by simpa [Go.Lib.countByte] using h1, Below.refl _ _⟩
end
end Go.Proofs.YtfodkbchknknjaaGreatDoor
namespace Go.Proofs.YtfodkbchknknjaaGreatDoor
open Go.GL Go.RowKit Go.Stele
set_option maxRecDepth 100000
set_option maxHeartbeats 4000000
attribute [local irreducible] LOps LCode LStep LCalls Go.GL.Pure QThen QBlock RetPost
def encTok (t : Tok) : LV := .agg [int .i64 t.kind, str t.text, int .i64 t.line]
def encTokR (r : TokR) : LV := .tuple [encTok r.1, int .i64 r.2.1, int .i64 r.2.2]
theorem elemsOk_strs (l : List (List UInt8)) : elemsOk 1 (l.map str) := fun v hv => by
  obtain ⟨x, _, rfl⟩ := List.mem_map.1 hv
  exact ⟨rfl, rfl⟩
section
variable {B0 : Nat} {w0 : World}
theorem Keywords_spec : LCalls (KC B0 w0) 113 [] [] (Ret (.list (keywords.map str))) := by
  refine LCalls.intro Tryz.func113 rfl (n := 2) rfl rfl rfl ?_
  repeat first
    | refine LOps.nil ?_
    | refine LCode.seq ?_
    | refine LCode.region ?_
    | refine QThen.normal ?_
    | refine LOps.pure (Pure.as (lv := .atom _) rfl) rfl ?_
  refine LOps.step (S.lit [_, _, _, _, _, _, _, _] rfl (elemsOk_strs keywords) rfl rfl rfl ?_) rfl
  repeat first
    | refine LOps.nil ?_
    | refine LCode.ret ?_
    | refine QThen.normal ?_
    | refine LOps.pure (Pure.as (lv := .list _) rfl) rfl ?_
  exact retRet rfl (AllRes.cons (ResIs.tmp (v := .list _) rfl (LV.Sub.refl _)) AllRes.nil) rfl
theorem signs_spec : LCalls (KC B0 w0) 79 [] [] (Ret (.list (signs.map str))) := by
  refine LCalls.intro Tryz.func79 rfl (n := 2) rfl rfl rfl ?_
  repeat first
    | refine LOps.nil ?_
    | refine LCode.seq ?_
    | refine LCode.region ?_
    | refine QThen.normal ?_
    | refine LOps.pure (Pure.as (lv := .atom _) rfl) rfl ?_
  refine LOps.step (S.lit [_, _, _, _, _, _, _, _, _, _, _, _, _, _, _, _, _, _, _, _, _, _, _, _] rfl (elemsOk_strs signs) rfl rfl rfl ?_) rfl
  repeat first
    | refine LOps.nil ?_
    | refine LCode.ret ?_
    | refine QThen.normal ?_
    | refine LOps.pure (Pure.as (lv := .list _) rfl) rfl ?_
  exact retRet rfl (AllRes.cons (ResIs.tmp (v := .list _) rfl (LV.Sub.refl _)) AllRes.nil) rfl
theorem Index_spec (l : List (List UInt8)) (x : List UInt8) (hl : l.length ≤ 1000000000) : LCalls (KC B0 w0) 123 [.list (l.map str), str x] [] (RetIf fun lv => ∃ n : Int, lv = int .i64 n ∧ decide (0 ≤ n) = l.contains x) := by
  refine LCalls.intro Tryz.func123 rfl (n := 19) rfl rfl rfl ?_
  repeat first
    | refine LOps.nil ?_
    | refine LCode.seq ?_
    | refine LCode.region ?_
    | refine LCode.block ?_
    | refine QThen.normal ?_
    | refine LOps.pure (Pure.as (lv := .atom _) rfl) rfl ?_
    | refine LOps.pure (Pure.mv (lv := .list _) rfl) rfl ?_
    | refine LOps.pure (Pure.mv (lv := .atom _) rfl) rfl ?_
    | refine LOps.pure (Pure.llen rfl) rfl ?_
  refine LCode.loopI (fun k ls H => ∃ m : Nat, k = l.length - m ∧ ls = [(0, .list (l.map str)), (1, str x), (7, int .i64 (l.map str).length), (8, int .i64 m)] ∧ H = [] ∧ m ≤ l.length ∧ l.contains x = (l.drop m).contains x)
    ⟨_, _, _, ⟨0, rfl, rfl, rfl, by omega, by simp⟩, ⟨rfl, rfl, rfl, rfl, trivial⟩, HSub.refl _⟩ ?_
  rintro k ls H ⟨m, rfl, rfl, rfl, hm, hI⟩ j hj
  repeat first
    | refine LOps.nil ?_
    | refine LCode.seq ?_
    | refine LCode.region ?_
    | refine QThen.normal ?_
    | refine LOps.pure (Pure.lss rfl rfl) rfl ?_
  refine LCode.cond rfl (fun hc => ?_) (fun hc => ?_)
  · have hlt : m < l.length := by simpa using hc
    repeat first
      | refine LOps.nil ?_
      | refine LCode.seq ?_
      | refine LCode.region ?_
      | refine LCode.skip ?_
      | refine LCode.block ?_
      | refine QThen.normal ?_
      | refine LOps.pure (Pure.as (lv := .atom _) rfl) rfl ?_
      | refine LOps.pure (Pure.mv (lv := .list _) rfl) rfl ?_
      | refine LOps.pure (Pure.mv (lv := .atom _) rfl) rfl ?_
    refine LOps.pure (Pure.ixRef (el' := str l[m]) rfl rfl (by omega) (by simp) rfl rfl) rfl ?_
    repeat first
      | refine LOps.nil ?_
      | refine QThen.normal ?_
      | refine LOps.pure (Pure.loadRef (c := .atom _) rfl rfl) rfl ?_
      | refine LOps.pure (Pure.seq rfl rfl) rfl ?_
    refine LCode.cond rfl (fun he => ?_) (fun he => ?_)
    · repeat first
        | refine LOps.nil ?_
        | refine LCode.seq ?_
        | refine LCode.region ?_
        | refine LCode.ret ?_
        | refine QThen.normal ?_
        | refine QThen.ret ?_
        | refine QBlock.ret ?_
        | refine LOps.pure (Pure.as (lv := .atom _) rfl) rfl ?_
        | refine LOps.pure (Pure.mv (lv := .atom _) rfl) rfl ?_
      have hx : x = l[m] := by simpa using he
      exact retRetIf hj (AllRes.cons (ResIs.tmp (v := .atom _) rfl (LV.Sub.refl _)) AllRes.nil) ⟨m, rfl, by
        rw [hx, decide_eq_true (by omega)]
        simp⟩
    · repeat first
        | refine LOps.nil ?_
        | refine LCode.region ?_
        | refine LCode.skip ?_
        | refine QThen.normal ?_
        | refine QBlock.normal ?_
        | refine LOps.pure (Pure.mv (lv := .atom _) rfl) rfl ?_
        | refine LOps.pure (Pure.add rfl rfl (by omega)) rfl ?_
      have hx : ¬ x = l[m] := by simpa using he
      exact ⟨_, _, _, by omega, ⟨m + 1, rfl, rfl, rfl, by omega, by
        rw [hI, List.drop_eq_getElem_cons hlt, List.contains_cons]
        simp [hx]⟩, ⟨rfl, rfl, rfl, int_eq (by omega), trivial⟩, HSub.refl _, hj⟩
  · have hge : l.length ≤ m := by simpa using hc
    repeat first
      | refine LOps.nil ?_
      | refine LCode.seq ?_
      | refine LCode.region ?_
      | refine LCode.ret ?_
      | refine LCode.exit ?_
      | refine QThen.normal ?_
      | refine QThen.exit ?_
      | refine QBlock.hit ?_
      | refine LOps.pure (Pure.as (lv := .atom _) rfl) rfl ?_
    exact retRetIf hj (AllRes.cons (ResIs.tmp (v := .atom _) rfl (LV.Sub.refl _)) AllRes.nil) ⟨-1, rfl, by
      rw [hI, List.drop_eq_nil_of_le hge]
      rfl⟩
theorem Contains_spec (l : List (List UInt8)) (x : List UInt8) (hl : l.length ≤ 1000000000) : LCalls (KC B0 w0) 93 [.list (l.map str), str x] [] (Ret (bool (l.contains x))) := by
  refine LCalls.intro Tryz.func93 rfl (n := 9) rfl rfl rfl ?_
  repeat first
    | refine LOps.nil ?_
    | refine LCode.seq ?_
    | refine LCode.region ?_
    | refine QThen.normal ?_
    | refine LOps.pure (Pure.as (lv := .atom _) rfl) rfl ?_
    | refine LOps.pure (Pure.mv (lv := .list _) rfl) rfl ?_
    | refine LOps.pure (Pure.mv (lv := .atom _) rfl) rfl ?_
  refine LOps.step (S.fnIf [_, _] rfl (Index_spec l x hl) ?_) rfl
  rintro lv ⟨n, rfl, hn⟩
  repeat first
    | refine LOps.nil ?_
    | refine LCode.ret ?_
    | refine QThen.normal ?_
    | refine LOps.pure (Pure.as (lv := .atom _) rfl) rfl ?_
    | refine LOps.pure (Pure.geq rfl rfl) rfl ?_
  exact retRet rfl (AllRes.cons (ResIs.tmp (v := .atom _) rfl (LV.Sub.refl _)) AllRes.nil) (by rw [← hn]; rfl)
theorem name_spec (s : List UInt8) (hs : s.length ≤ 1000000000) : LCalls (KC B0 w0) 77 [str s] [] (Ret (encTokR (lexName s))) := by
  refine LCalls.intro Tryz.func77 rfl (n := 21) rfl rfl rfl ?_
  repeat first
    | refine LCode.seq ?_
    | refine LCode.region ?_
  refine LOps.step (S.alloc fun b => ?_) rfl
  repeat first
    | refine LOps.nil ?_
    | refine LCode.seq ?_
    | refine LCode.region ?_
    | refine QThen.normal ?_
    | refine LOps.pure (Pure.as (lv := .atom _) rfl) rfl ?_
    | refine LOps.pure (Pure.mv (lv := .atom _) rfl) rfl ?_
  refine LOps.step (S.fn [_, _] rfl (run_spec isInner inner_spec s hs) ?_) rfl
  repeat first
    | refine LOps.nil ?_
    | refine LCode.seq ?_
    | refine LCode.region ?_
    | refine QThen.normal ?_
    | refine LOps.pure (Pure.as (lv := .atom _) rfl) rfl ?_
    | refine LOps.pure (Pure.mv (lv := .atom _) rfl) rfl ?_
    | refine LOps.pure (Pure.slen rfl) rfl ?_
    | refine LOps.pure (Pure.gtr rfl rfl) rfl ?_
  refine LCode.cond rfl (fun hc => ?_) (fun hc => ?_)
  · repeat first
      | refine LOps.nil ?_
      | refine LCode.seq ?_
      | refine LCode.region ?_
      | refine LCode.ret ?_
      | refine QThen.normal ?_
      | refine QThen.ret ?_
      | refine LOps.pure (Pure.as (lv := .atom _) rfl) rfl ?_
      | refine LOps.pure (Pure.bld _ (cs := [_, _, _]) rfl) rfl ?_
      | refine LOps.step (S.store (cs' := [_, _, _]) rfl Pick.here rfl rfl rfl rfl rfl ?_) rfl
    exact retRet rfl (AllRes.cons (ResIs.cellAgg rfl (List.Mem.head _) rfl (LV.Sub.refl _)) (AllRes.cons (ResIs.tmp (v := .atom _) rfl (LV.Sub.refl _)) (AllRes.cons (ResIs.tmp (v := .atom _) rfl (LV.Sub.refl _)) AllRes.nil))) (by
      rw [lexName, if_pos (by have := of_decide_eq_true hc; omega)]
      rfl)
  · repeat first
      | refine LOps.nil ?_
      | refine LCode.seq ?_
      | refine LCode.region ?_
      | refine LCode.skip ?_
      | refine QThen.normal ?_
      | refine LOps.pure (Pure.as (lv := .atom _) rfl) rfl ?_
    refine LOps.step (S.fn [] rfl Keywords_spec ?_) rfl
    repeat first
      | refine LOps.pure (Pure.mv (lv := .atom _) rfl) rfl ?_
    refine LOps.step (S.fn [_, _] rfl (Contains_spec keywords (s.takeWhile isInner) (by decide)) ?_) rfl
    repeat first
      | refine LOps.nil ?_
      | refine QThen.normal ?_
    refine LCode.cond rfl (fun hk => ?_) (fun hk => ?_)
    · repeat first
        | refine LOps.nil ?_
        | refine LCode.seq ?_
        | refine LCode.region ?_
        | refine LCode.ret ?_
        | refine QThen.normal ?_
        | refine LOps.pure (Pure.as (lv := .atom _) rfl) rfl ?_
        | refine LOps.pure (Pure.mv (lv := .atom _) rfl) rfl ?_
        | refine LOps.pure (Pure.slen rfl) rfl ?_
        | refine LOps.pure (Pure.bld _ (cs := [_, _, _]) rfl) rfl ?_
        | refine LOps.step (S.store (cs' := [_, _, _]) rfl Pick.here rfl rfl rfl rfl rfl ?_) rfl
      exact retRet rfl (AllRes.cons (ResIs.cellAgg rfl (List.Mem.head _) rfl (LV.Sub.refl _)) (AllRes.cons (ResIs.tmp (v := .atom _) rfl (LV.Sub.refl _)) (AllRes.cons (ResIs.tmp (v := .atom _) rfl (LV.Sub.refl _)) AllRes.nil))) (by
        rw [lexName, if_neg (by have := of_decide_eq_false hc; omega), if_pos hk]
        rfl)
    · repeat first
        | refine LOps.nil ?_
        | refine LCode.seq ?_
        | refine LCode.region ?_
        | refine LCode.skip ?_
        | refine LCode.ret ?_
        | refine QThen.normal ?_
        | refine LOps.pure (Pure.as (lv := .atom _) rfl) rfl ?_
        | refine LOps.pure (Pure.mv (lv := .atom _) rfl) rfl ?_
        | refine LOps.pure (Pure.slen rfl) rfl ?_
        | refine LOps.pure (Pure.bld _ (cs := [_, _, _]) rfl) rfl ?_
        | refine LOps.step (S.store (cs' := [_, _, _]) rfl Pick.here rfl rfl rfl rfl rfl ?_) rfl
      exact retRet rfl (AllRes.cons (ResIs.cellAgg rfl (List.Mem.head _) rfl (LV.Sub.refl _)) (AllRes.cons (ResIs.tmp (v := .atom _) rfl (LV.Sub.refl _)) (AllRes.cons (ResIs.tmp (v := .atom _) rfl (LV.Sub.refl _)) AllRes.nil))) (by
        rw [lexName, if_neg (by have := of_decide_eq_false hc; omega), if_neg (by rw [hk]; decide)]
        rfl)
end
end Go.Proofs.YtfodkbchknknjaaGreatDoor
namespace Go.GL
open Go.RowKit
class TIface (P : Program) (t : TypeId) : Prop where
  und : ∃ ms, P.underlying t = some (.interface ms)
def chkIface (P : Program) (t : Nat) : Bool := match P.underlying t with | some (.interface _) => true | _ => false
theorem TIface.of {P : Program} {t : Nat} (h : chkIface P t = true) : TIface P t := by
  unfold chkIface at h
  refine ⟨?_⟩
  cases hu : P.underlying t with
  | none => rw [hu] at h; simp at h
  | some d => rw [hu] at h; cases d <;> simp_all
section
variable {C : Ctx} {e : Env} {H : Heap} {dst : Option Nat} {ty : TypeId} {pos : String} {aft : Array Edge} {g : Option (Nat × Bool)} {xT yT : TypeId} {x : Operand}
theorem equal_step (t : TypeId) (x y : Value) : Op.equal t x y = Op.equalIn (9999 + 1) t x y := rfl
theorem run_equal_nil {P : Program} {t : TypeId} [h : TIface P t] (w : World) : (Op.equal t .nilIface .nilIface).run P w = .ok true w := by
  obtain ⟨ms, hu⟩ := h.und
  rw [equal_step, Op.equalIn]
  simp only [Sem.run_bind, run_underlying' hu, Result.andThen_ok, Sem.run_pure]
theorem run_equal_iface {P : Program} {t : TypeId} [h : TIface P t] (u : TypeId) (p : Value) (w : World) : (Op.equal t (.iface u p) .nilIface).run P w = .ok false w := by
  obtain ⟨ms, hu⟩ := h.und
  rw [equal_step, Op.equalIn]
  simp only [Sem.run_bind, run_underlying' hu, Result.andThen_ok, Sem.run_pure]
theorem Pure.nilNeqNil [TIface C.P xT] (hx : e.ev x = .atom .nilIface) : Pure C ⟨dst, .binOp .neq xT x (.const .nilIface) yT, ty, pos, aft, g⟩ e H (bool false) :=
  .of_any fun ρ _ _ h => ⟨_, rep_atom, fun w' => by
    have h1 := atom_of h hx
    have h2 := atom_of h (x := .const .nilIface) rfl
    have he : eqGuard .neq xT x (.const .nilIface) .nilIface .nilIface = Pure.pure () := by simp [eqGuard]
    have hb : binOp .neq xT .nilIface .nilIface = (do Pure.pure (.bool (!(← Op.equal xT .nilIface .nilIface)))) := rfl
    simp only [execOp, h1, h2, he, hb, Sem.run_bind, Sem.run_pure, Result.andThen_ok, run_equal_nil, Bool.not_true]⟩
theorem Pure.ifaceNeqNil [TIface C.P xT] {u : TypeId} {p : Value} (hx : e.ev x = .atom (.iface u p)) : Pure C ⟨dst, .binOp .neq xT x (.const .nilIface) yT, ty, pos, aft, g⟩ e H (bool true) :=
  .of_any fun ρ _ _ h => ⟨_, rep_atom, fun w' => by
    have h1 := atom_of h hx
    have h2 := atom_of h (x := .const .nilIface) rfl
    have he : eqGuard .neq xT x (.const .nilIface) (.iface u p) .nilIface = Pure.pure () := by simp [eqGuard]
    have hb : binOp .neq xT (.iface u p) .nilIface = (do Pure.pure (.bool (!(← Op.equal xT (.iface u p) .nilIface)))) := rfl
    simp only [execOp, h1, h2, he, hb, Sem.run_bind, Sem.run_pure, Result.andThen_ok, run_equal_iface, Bool.not_false]⟩
theorem str_eq {a b : List UInt8} (h : a = b) : str a = str b := by rw [h]
theorem Pure.cvt {k k0 k' : IntKind} {s d : TypeId} {n : Int} [hs : TKind C.P s k0] [hd : TKind C.P d k'] (hx : e.ev x = int k n) : Pure C ⟨dst, .convert s d x, ty, pos, aft, g⟩ e H (int k' (k'.wrap n)) := Pure.convInt ⟨_, hs.und⟩ hx
end
end Go.GL
/- A small logic over the walk's 'Code.wp': drawn regions in which more than one operation may come up; division; bytes to a string. -/
namespace Go.GL
open Go.RowKit
section any
variable {C : Ctx} {n : Nat} {ops : Array Oper} {Q : Post} {HF : Heap} {fuel : Nat} {listed : Array Bool} {e : Env} {H : Heap}
/-- Number i comes up. -/
def LLateOp (C : Ctx) (n : Nat) (ops : Array Oper) (Q : Post) (HF : Heap) (fuel : Nat) (listed : Array Bool) (e : Env) (H : Heap) (i : Nat) : Prop :=
  ∀ w0 L0 a w L, (∀ b, L0 b ≤ L b) → Agree w0 L0 HF w → (∀ p ∈ HF, p.1 < w.heap.size) → RelE n a e w L → RelH C w L H →
    wpOp C.P ops (lift C n w L (keys H) Q) i (fun a' w' => Agree w0 L0 HF w' ∧ wpAnyH C.P .any ops (lift C n w L (keys H) Q) (Agree w0 L0 HF) fuel (listed.setIfInBounds i true) a' w') a w
theorem LLate.all {is : List Nat} (hr : Region.ready .any ops listed = is) (hne : is ≠ []) (h : ∀ i ∈ is, LLateOp C n ops Q HF fuel listed e H i) : LLate C n ops Q HF (fuel + 1) listed e H := fun w0 L0 a w L hL hA hsz hE hH =>
  wpAnyH_all hr hne fun j hj => h j hj w0 L0 a w L hL hA hsz hE hH
theorem LLateOp.step {i : Nat} {dst : Option Nat} {op : Op} {ty : TypeId} {pos : String} {aft : Array Edge} {g : Option (Nat × Bool)} {H1 F : Heap} (hi : ops[i]? = some ⟨dst, op, ty, pos, aft, g⟩) (hg : g = none ∨ ∃ j b d, g = some (j, b) ∧ (ops[j]?).bind (·.dst) = some d ∧ e.s d = .atom (.bool b)) (hd : dstOk n dst)
    (p : H.Perm (H1 ++ F)) (hHF : HSub HF F)
    (h : LStep C ⟨dst, op, ty, pos, aft, g⟩ e H1 (fun lv H' => LLate C n ops Q HF fuel (listed.setIfInBounds i true) (e.put dst lv) (H' ++ F)) (fun ch H' => ∀ e', e'.ds = e.ds → Q (.panic ch) e' (H' ++ F))) :
    LLateOp C n ops Q HF fuel listed e H i := fun w0 L0 a w L hL hA hsz hE hH => by
  have hH' := hH.perm p
  have hn : (keys H1 ++ keys F).Nodup := by simpa [keys] using hH'.nodup
  have hdis : ∀ q ∈ HF, q.1 ∉ keys H1 := fun q hq hm => (List.nodup_append.1 hn).2.2 _ hm _ (List.mem_map_of_mem (hHF.mem q hq)) rfl
  have hw : Region.wanted ⟨dst, op, ty, pos, aft, g⟩ (yielded ops a.tmps) = true := by
    rcases hg with rfl | ⟨j, b, d, rfl, hj, hb⟩
    · simp [Region.wanted]
    · simp [Region.wanted, yielded_env hE hj hb]
  unfold wpOp
  rw [hi]
  simp only
  rw [if_pos hw]
  refine .inl (step_wp (H := H1) h hd hE hH'.left (fun lv H' L' w' a' h1 h2 h3 h4 => ?_) (fun ch H' L' w' h1 h2 h3 => ?_))
  · have hfr := hH'.frame h1 h2
    have hag : Agree w0 L0 HF w' := ⟨fun q hq => (h1.block q.1 (hsz q hq) (hdis q hq)).trans (hA.1 q hq), fun b i hi => (h1.ext.live b i (Nat.lt_of_lt_of_le hi (hL b))).trans (hA.2 b i hi)⟩
    exact ⟨hag, wpAnyH_mono (fun _ _ _ => lift_trans (hfr.2.perm p.symm)) _ _ _ _ (h4 w0 L0 a' w' L' (fun b => Nat.le_trans (hL b) (h1.ext.mono b)) hag (fun q hq => Nat.lt_of_lt_of_le (hsz q hq) h1.ext.size) h3 hfr.1)⟩
  · have hfr := hH'.frame h1 h2
    exact ⟨e, H' ++ F, L', hfr.2.perm p.symm, hfr.1, hE.ds, h3 e rfl⟩
theorem LLate.one {i : Nat} (hr : Region.ready .any ops listed = [i]) (h : LLateOp C n ops Q HF fuel listed e H i) : LLate C n ops Q HF (fuel + 1) listed e H :=
  LLate.all hr (by simp) fun j hj => by
    obtain rfl := List.mem_singleton.1 hj
    exact h
theorem LLate.two {i j : Nat} (hr : Region.ready .any ops listed = [i, j]) (h : LLateOp C n ops Q HF fuel listed e H i) (h' : LLateOp C n ops Q HF fuel listed e H j) : LLate C n ops Q HF (fuel + 1) listed e H :=
  LLate.all hr (by simp) fun k hk => by
    rcases List.mem_cons.1 hk with rfl | hk
    · exact h
    · obtain rfl := List.mem_singleton.1 hk
      exact h'
/-- The same, where nothing is held. -/
theorem LLateOp.whole {i : Nat} {dst : Option Nat} {op : Op} {ty : TypeId} {pos : String} {aft : Array Edge} {g : Option (Nat × Bool)} (hi : ops[i]? = some ⟨dst, op, ty, pos, aft, g⟩) (hg : g = none ∨ ∃ j b d, g = some (j, b) ∧ (ops[j]?).bind (·.dst) = some d ∧ e.s d = .atom (.bool b)) (hd : dstOk n dst)
    (h : LStep C ⟨dst, op, ty, pos, aft, g⟩ e H (fun lv H' => LLate C n ops Q [] fuel (listed.setIfInBounds i true) (e.put dst lv) H') (fun ch H' => ∀ e', e'.ds = e.ds → Q (.panic ch) e' H')) :
    LLateOp C n ops Q [] fuel listed e H i := LLateOp.step (H1 := H) (F := []) hi hg hd (by simp) (HSub.nil _) (by simpa using h)
/-- A step that leaves the heap as it is. -/
theorem LLateOp.pure {i : Nat} {dst : Option Nat} {op : Op} {ty : TypeId} {pos : String} {aft : Array Edge} {lv : LV} (hi : ops[i]? = some ⟨dst, op, ty, pos, aft, none⟩) (hd : dstOk n dst) (hHF : HSub HF H)
    (h : Pure C ⟨dst, op, ty, pos, aft, none⟩ e [] lv) (k : LLate C n ops Q HF fuel (listed.setIfInBounds i true) (e.put dst lv) H) : LLateOp C n ops Q HF fuel listed e H i :=
  LLateOp.step (H1 := []) (F := H) hi (.inl rfl) hd (List.Perm.refl _) hHF (Pure.step h k)
theorem LLate.pure {i : Nat} {dst : Option Nat} {op : Op} {ty : TypeId} {pos : String} {aft : Array Edge} {lv : LV} (hr : Region.ready .any ops listed = [i]) (hi : ops[i]? = some ⟨dst, op, ty, pos, aft, none⟩) (hd : dstOk n dst) (hHF : HSub HF H)
    (h : Pure C ⟨dst, op, ty, pos, aft, none⟩ e [] lv) (k : LLate C n ops Q HF fuel (listed.setIfInBounds i true) (e.put dst lv) H) : LLate C n ops Q HF (fuel + 1) listed e H :=
  LLate.step (H1 := []) (F := H) hr hi hd (List.Perm.refl _) hHF (Pure.step h k)
end any

theorem LQ.bcase {C : Ctx} {n : Nat} {ops : Array Oper} {K : Env → Prop} {e : Env} {H : Heap} {rest : List Oper} (d : Nat) {b : Bool} (hb : e.s d = bool b) (ht : b = true → LQ C n ops K rest (e.upd d (bool true)) H) (hf : b = false → LQ C n ops K rest (e.upd d (bool false)) H) : LQ C n ops K rest e H := by
  cases b
  · have := hf rfl; rwa [Env.upd_self hb] at this
  · have := ht rfl; rwa [Env.upd_self hb] at this
section pure
variable {C : Ctx} {e : Env} {H : Heap} {dst : Option Nat} {ty : TypeId} {pos : String} {aft : Array Edge} {g : Option (Nat × Bool)} {xT yT : TypeId} {x y : Operand} {k : IntKind} {a b : Int}
theorem Pure.quo (hx : e.ev x = int .i64 a) (hy : e.ev y = int .i64 b) (hb : 0 < b) (ha : 0 ≤ a) (h : a ≤ 9223372036854775807) : Pure C ⟨dst, .binOp .quo xT x y yT, ty, pos, aft, g⟩ e H (int .i64 (a / b)) :=
  .of_any fun _ _ _ h' => ⟨_, rep_atom, run_int (atom_of h' hx) (atom_of h' hy) (by simp) (by simp) (s := Op.intDiv .quo .i64 a b) (by simp only [binOp, ne_eq, not_true_eq_false, if_false]) (fun w => by
    have h1 : a.tdiv b = a / b := Int.tdiv_eq_ediv_of_nonneg ha
    have h2 : 0 ≤ a / b := Int.ediv_nonneg ha (by omega)
    have h3 : a / b ≤ a := Int.ediv_le_self _ ha
    rw [Op.intDiv, if_neg (by omega)]
    simp only [h1]
    rw [wrap_i64 (by omega)]
    rfl)⟩
theorem Pure.rem (hx : e.ev x = int .i64 a) (hy : e.ev y = int .i64 b) (hb : 0 < b) (ha : 0 ≤ a) : Pure C ⟨dst, .binOp .rem xT x y yT, ty, pos, aft, g⟩ e H (int .i64 (a % b)) :=
  .of_any fun _ _ _ h' => ⟨_, rep_atom, run_int (atom_of h' hx) (atom_of h' hy) (by simp) (by simp) (s := Op.intDiv .rem .i64 a b) (by simp only [binOp, ne_eq, not_true_eq_false, if_false]) (fun w => by
    have h1 : a.tmod b = a % b := Int.tmod_eq_emod_of_nonneg ha
    rw [Op.intDiv, if_neg (by omega)]
    simp only [h1]
    rfl)⟩
theorem Pure.bytesStr {s d el : TypeId} [hs : TSlice C.P s el 1] [he : TKind C.P el .u8] [hd : TStr C.P d] {l : List UInt8} (hx : elems (e.ev x) = some (l.map fun b => int .u8 b.toNat)) (hne : l ≠ []) :
    Pure C ⟨dst, .convert s d x, ty, pos, aft, g⟩ e H (str l) := fun ρ w L h _ => by
  obtain ⟨a, cap, hv, hcap, hr⟩ := (h x).elems hx
  obtain ⟨b, off, k', rfl, hrr⟩ := hr (by simpa using hne)
  refine ⟨_, rep_atom, fun w' ha => ?_⟩
  have h0 : execOp ρ ⟨dst, .convert s d x, ty, pos, aft, g⟩ = (do Pure.pure (.value (← convert s d (ρ x)))) := rfl
  have hlen : (l.map fun b => int .u8 b.toNat).length = l.length := by simp
  have := run_convert_bytes_back (P := C.P) w' s d el ⟨b, off, none⟩ cap l hs.und he.und hd.und (fun j hj => by
    obtain ⟨h1, h2⟩ := hrr.get (i := j) (e := int .u8 l[j].toNat) (by simp [hj])
    simp only [LV.cells, RepC, List.length_singleton] at h1 h2
    obtain ⟨h3, ⟨v, h4, h5⟩, _⟩ := h2
    simp only [Rep] at h5
    subst h5
    subst h1
    rw [Nat.mul_one] at h3 h4
    rw [add_mk]
    rw [ha.2 b _ h3]
    exact h4)
  rw [h0, hv, hlen]
  simp only [Sem.run_bind, this, Result.andThen_ok, Sem.run_pure]
end pure
end Go.GL
namespace Go.Proofs.YtfodkbchknknjaaGreatDoor
open Go.GL Go.RowKit Go.Stele
set_option maxRecDepth 100000
set_option maxHeartbeats 4000000
attribute [local irreducible] LOps LCode LStep LCalls Go.GL.Pure QThen QBlock RetPost
theorem parseUintM_digits (M : Nat) (acc : Nat) (l : List UInt8) (h : ∀ c ∈ l, isDigit c = true) : Go.Lib.parseUintM M acc l = .range ∨ ∃ u, Go.Lib.parseUintM M acc l = .ok u := by
  induction l generalizing acc with
  | nil => exact .inr ⟨acc, rfl⟩
  | cons c r ih =>
    have hc := h c List.mem_cons_self
    simp only [isDigit, Bool.and_eq_true, decide_eq_true_eq, cv] at hc
    rw [Go.Lib.parseUintM, if_pos (by omega)]
    split
    · exact .inl rfl
    · split
      · exact .inl rfl
      · exact ih _ (fun c hc => h c (List.mem_cons_of_mem _ hc))
theorem parseUintM_bound (M : Nat) (acc : Nat) (l : List UInt8) (ha : acc ≤ M) {u : Nat} (h : Go.Lib.parseUintM M acc l = .ok u) : u ≤ M := by
  induction l generalizing acc with
  | nil => simp only [Go.Lib.parseUintM, Go.Lib.NumEnd.ok.injEq] at h; omega
  | cons c r ih =>
    rw [Go.Lib.parseUintM] at h
    split at h
    · split at h
      · cases h
      · split at h
        · cases h
        · exact ih _ (by omega) h
    · cases h
theorem parseUint_digits (s : List UInt8) (hne : s.takeWhile isDigit ≠ []) : Go.Lib.parseUintB 32 (s.takeWhile isDigit) = .range ∨ ∃ u, u < 18446744073709551616 ∧ Go.Lib.parseUintB 32 (s.takeWhile isDigit) = .ok u := by
  unfold Go.Lib.parseUintB
  rw [if_neg hne]
  have hall : ∀ (s : List UInt8), ∀ c ∈ s.takeWhile isDigit, isDigit c = true := fun s c hc => by
    induction s with
    | nil => cases hc
    | cons a r ih =>
      by_cases ha : isDigit a = true
      · rw [List.takeWhile_cons_of_pos ha] at hc
        rcases List.mem_cons.1 hc with rfl | hc
        · exact ha
        · exact ih hc
      · rw [List.takeWhile_cons_of_neg ha] at hc
        cases hc
  rcases parseUintM_digits (2 ^ 32 - 1) 0 (s.takeWhile isDigit) (hall s) with h | ⟨u, h⟩
  · exact .inl h
  · have := parseUintM_bound _ _ _ (by omega) h
    exact .inr ⟨u, by omega, h⟩
instance : TIface Tryz.prog 90 := .of (by kernel_rfl)
section
variable {B0 : Nat} {w0 : World}
theorem number_spec (hG : GW B0 w0) (s : List UInt8) (hs : s.length ≤ 1000000000) (hne : s.takeWhile isDigit ≠ []) : LCalls (KC B0 w0) 75 [str s] [] (Ret (encTokR (lexNumber s))) := by
  refine LCalls.intro Tryz.func75 rfl (n := 43) rfl rfl rfl ?_
  repeat first
    | refine LCode.seq ?_
    | refine LCode.region ?_
  refine LOps.step (S.alloc fun b => ?_) rfl
  repeat first
    | refine LOps.nil ?_
    | refine LCode.seq ?_
    | refine LCode.region ?_
    | refine QThen.normal ?_
    | refine LOps.pure (Pure.as (lv := .atom _) rfl) rfl ?_
    | refine LOps.pure (Pure.mv (lv := .atom _) rfl) rfl ?_
  refine LOps.step (S.fn [_, _] rfl (run_spec isDigit digit_spec s hs) ?_) rfl
  repeat first
    | refine LOps.nil ?_
    | refine LCode.seq ?_
    | refine LCode.region ?_
    | refine QThen.normal ?_
    | refine LOps.pure (Pure.as (lv := .atom _) rfl) rfl ?_
    | refine LOps.pure (Pure.mv (lv := .atom _) rfl) rfl ?_
    | refine LOps.pure (Pure.slen rfl) rfl ?_
    | refine LOps.pure (Pure.lss rfl rfl) rfl ?_
  refine LOps.cut [(0, str s), (2, ptr b 0), (5, str (s.takeWhile isDigit)), (28, bool (wordNext s (s.takeWhile isDigit).length))] ?_ (fun j hj => ?_)
  · refine LOps.bcase 17 rfl (fun ht => ?_) (fun ht => ?_)
    · have hlt : (s.takeWhile isDigit).length < s.length := by simpa using ht
      have hw : wordNext s (s.takeWhile isDigit).length = (isLetter s[(s.takeWhile isDigit).length] || decide (cv s[(s.takeWhile isDigit).length] = 95)) := by
        rw [wordNext, List.getElem?_eq_getElem hlt]
      repeat first
        | refine LOps.pure (Pure.mv (lv := .atom _) rfl) rfl ?_
        | refine LOps.want rfl rfl ?_
      refine LOps.pure (Pure.sindex (c := s[(s.takeWhile isDigit).length]) rfl rfl (by omega) (by simp)) rfl ?_
      refine LOps.want rfl rfl ?_
      refine LOps.step (S.fn [_] rfl (letter_spec _) ?_) rfl
      repeat first
        | refine LOps.pure (Pure.mv (lv := .atom _) rfl) rfl ?_
        | refine LOps.want rfl rfl ?_
      refine LOps.bcase 22 rfl (fun hl => ?_) (fun hl => ?_)
      · repeat first
          | refine LOps.nil ?_
          | refine QThen.normal ?_
          | refine LOps.pure (Pure.pickT (lv := .atom _) rfl rfl) rfl ?_
          | refine LOps.want rfl rfl ?_
          | refine LOps.skip rfl rfl rfl rfl ?_
        exact ⟨⟨rfl, rfl, rfl, bool_eq (by rw [hw, hl]; rfl), trivial⟩, rfl, rfl⟩
      · repeat first
          | refine LOps.pure (Pure.mv (lv := .atom _) rfl) rfl ?_
          | refine LOps.want rfl rfl ?_
        refine LOps.pure (Pure.sindex (c := s[(s.takeWhile isDigit).length]) rfl rfl (by omega) (by simp)) rfl ?_
        repeat first
          | refine LOps.nil ?_
          | refine QThen.normal ?_
          | refine LOps.pure (Pure.eql rfl rfl) rfl ?_
          | refine LOps.pure (Pure.pickT (lv := .atom _) rfl rfl) rfl ?_
          | refine LOps.pure (Pure.pickF (lv := .atom _) rfl rfl) rfl ?_
          | refine LOps.want rfl rfl ?_
        exact ⟨⟨rfl, rfl, rfl, bool_eq (by rw [hw, hl]; rfl), trivial⟩, rfl, rfl⟩
    · have hge : s.length ≤ (s.takeWhile isDigit).length := by simpa using ht
      repeat first
        | refine LOps.nil ?_
        | refine QThen.normal ?_
        | refine LOps.pure (Pure.pickF (lv := .atom _) rfl rfl) rfl ?_
        | refine LOps.skip rfl rfl rfl rfl ?_
        | refine LOps.skipU rfl rfl rfl ?_
      exact ⟨⟨rfl, rfl, rfl, bool_eq (by rw [wordNext, List.getElem?_eq_none hge]), trivial⟩, rfl, rfl⟩
  · skip
    refine LCode.cond rfl (fun hc => ?_) (fun hc => ?_)
    · repeat first
        | refine LOps.nil ?_
        | refine LCode.seq ?_
        | refine LCode.region ?_
        | refine LCode.ret ?_
        | refine QThen.normal ?_
        | refine QThen.ret ?_
        | refine LOps.pure (Pure.as (lv := .atom _) rfl) rfl ?_
        | refine LOps.pure (Pure.bld _ (cs := [_, _, _]) rfl) rfl ?_
        | refine LOps.step (S.store (cs' := [_, _, _]) rfl Pick.here rfl rfl rfl rfl rfl ?_) rfl
      exact retRet hj (AllRes.cons (ResIs.cellAgg rfl (List.Mem.head _) rfl (LV.Sub.refl _)) (AllRes.cons (ResIs.tmp (v := .atom _) rfl (LV.Sub.refl _)) (AllRes.cons (ResIs.tmp (v := .atom _) rfl (LV.Sub.refl _)) AllRes.nil))) (by
        rw [lexNumber, if_pos hc]
        rfl)
    · repeat first
        | refine LCode.seq ?_
        | refine LCode.region ?_
        | refine LCode.skip ?_
        | refine QThen.normal ?_
        | refine LOps.pure (Pure.mv (lv := .atom _) rfl) rfl ?_
      rcases parseUint_digits s hne with hp | ⟨u, hu, hp⟩
      · refine LOps.step (S.fnIf [_, _, _] rfl (parseUint_range hG (s.takeWhile isDigit) (Nat.le_trans (List.takeWhile_prefix isDigit).length_le hs) hp) ?_) rfl
        rintro lv ⟨v, t, p, rfl⟩
        repeat first
          | refine LOps.nil ?_
          | refine LCode.seq ?_
          | refine LCode.region ?_
          | refine QThen.normal ?_
          | refine LOps.pure (Pure.as (lv := .atom _) rfl) rfl ?_
          | refine LOps.pure (Pure.mv (lv := .atom _) rfl) rfl ?_
          | refine LOps.pure (Pure.mv (lv := .tuple _) rfl) rfl ?_
          | refine LOps.pure (Pure.extract (c := .atom _) rfl rfl) rfl ?_
          | refine LOps.pure (Pure.ifaceNeqNil rfl) rfl ?_
        refine LCode.cond rfl (fun hc => ?_) (fun hc => ?_)
        · repeat first
            | refine LOps.nil ?_
            | refine LCode.seq ?_
            | refine LCode.region ?_
            | refine LCode.ret ?_
            | refine QThen.normal ?_
            | refine QThen.ret ?_
            | refine LOps.pure (Pure.as (lv := .atom _) rfl) rfl ?_
            | refine LOps.pure (Pure.bld _ (cs := [_, _, _]) rfl) rfl ?_
            | refine LOps.step (S.store (cs' := [_, _, _]) rfl Pick.here rfl rfl rfl rfl rfl ?_) rfl
          exact retRet hj (AllRes.cons (ResIs.cellAgg rfl (List.Mem.head _) rfl (LV.Sub.refl _)) (AllRes.cons (ResIs.tmp (v := .atom _) rfl (LV.Sub.refl _)) (AllRes.cons (ResIs.tmp (v := .atom _) rfl (LV.Sub.refl _)) AllRes.nil))) (by
            rw [lexNumber, if_neg (by rw [‹wordNext s _ = false›]; decide), hp]
            rfl)
        · cases hc
      · refine LOps.step (S.fn [_, _, _] rfl (parseUint_ok (s.takeWhile isDigit) (Nat.le_trans (List.takeWhile_prefix isDigit).length_le hs) u hp) ?_) rfl
        repeat first
          | refine LOps.nil ?_
          | refine LCode.seq ?_
          | refine LCode.region ?_
          | refine QThen.normal ?_
          | refine LOps.pure (Pure.as (lv := .atom _) rfl) rfl ?_
          | refine LOps.pure (Pure.mv (lv := .atom _) rfl) rfl ?_
          | refine LOps.pure (Pure.mv (lv := .tuple _) rfl) rfl ?_
          | refine LOps.pure (Pure.extract (c := .atom _) rfl rfl) rfl ?_
          | refine LOps.pure (Pure.nilNeqNil rfl) rfl ?_
        refine LCode.cond rfl (fun hc => ?_) (fun hc => ?_)
        · cases hc
        · repeat first
            | refine LCode.seq ?_
            | refine LCode.region ?_
            | refine LCode.skip ?_
            | refine QThen.normal ?_
            | refine LOps.pure (Pure.mv (lv := .atom _) rfl) rfl ?_
          refine LOps.step (S.fn [_, _] rfl (fmtUint_spec hG u hu) ?_) rfl
          repeat first
            | refine LOps.nil ?_
            | refine LCode.ret ?_
            | refine QThen.normal ?_
            | refine LOps.pure (Pure.as (lv := .atom _) rfl) rfl ?_
            | refine LOps.pure (Pure.mv (lv := .atom _) rfl) rfl ?_
            | refine LOps.pure (Pure.slen rfl) rfl ?_
            | refine LOps.pure (Pure.bld _ (cs := [_, _, _]) rfl) rfl ?_
            | refine LOps.step (S.store (cs' := [_, _, _]) rfl Pick.here rfl rfl rfl rfl rfl ?_) rfl
          exact retRet hj (AllRes.cons (ResIs.cellAgg rfl (List.Mem.head _) rfl (LV.Sub.refl _)) (AllRes.cons (ResIs.tmp (v := .atom _) rfl (LV.Sub.refl _)) (AllRes.cons (ResIs.tmp (v := .atom _) rfl (LV.Sub.refl _)) AllRes.nil))) (by
            rw [lexNumber, if_neg (by rw [‹wordNext s _ = false›]; decide), hp]
            rfl)
theorem literal_spec (hG : GW B0 w0) (s : List UInt8) (hs : s.length ≤ 1000000000) : LCalls (KC B0 w0) 78 [str s] [] (Ret (encTokR (lexLiteral s))) := by
  by_cases h3 : s.length < 3
  · have hl : lexLiteral s = tokErr 3 := by
      match s, h3 with
      | [], _ => rfl
      | [_], _ => rfl
      | [_, _], _ => rfl
    refine LCalls.intro Tryz.func78 rfl (n := 39) rfl rfl rfl ?_
    repeat first
      | refine LCode.seq ?_
      | refine LCode.region ?_
    refine LOps.step (S.alloc fun b => ?_) rfl
    repeat first
      | refine LOps.nil ?_
      | refine LCode.seq ?_
      | refine LCode.region ?_
      | refine QThen.normal ?_
      | refine LOps.pure (Pure.as (lv := .atom _) rfl) rfl ?_
      | refine LOps.pure (Pure.mv (lv := .atom _) rfl) rfl ?_
      | refine LOps.pure (Pure.slen rfl) rfl ?_
      | refine LOps.pure (Pure.lss rfl rfl) rfl ?_
    refine LOps.bcase 8 rfl (fun ht => ?_) (fun ht => ?_)
    · repeat first
        | refine LOps.nil ?_
        | refine QThen.normal ?_
        | refine LOps.pure (Pure.mv (lv := .atom _) rfl) rfl ?_
        | refine LOps.pure (Pure.pickT (lv := .atom _) rfl rfl) rfl ?_
        | refine LOps.skip rfl rfl rfl rfl ?_
      refine LCode.cond rfl (fun hc => ?_) (fun hc => ?_)
      · repeat first
          | refine LOps.nil ?_
          | refine LCode.seq ?_
          | refine LCode.region ?_
          | refine LCode.ret ?_
          | refine QThen.normal ?_
          | refine QThen.ret ?_
          | refine LOps.pure (Pure.as (lv := .atom _) rfl) rfl ?_
          | refine LOps.pure (Pure.bld _ (cs := [_, _, _]) rfl) rfl ?_
          | refine LOps.step (S.store (cs' := [_, _, _]) rfl Pick.here rfl rfl rfl rfl rfl ?_) rfl
        exact retRet rfl (AllRes.cons (ResIs.cellAgg rfl (List.Mem.head _) rfl (LV.Sub.refl _)) (AllRes.cons (ResIs.tmp (v := .atom _) rfl (LV.Sub.refl _)) (AllRes.cons (ResIs.tmp (v := .atom _) rfl (LV.Sub.refl _)) AllRes.nil))) (by rw [hl]; rfl)
      · cases hc
    · exact absurd (of_decide_eq_false ht) (by omega)
  · match s, h3 with
    | [], h => exact absurd (by simp) h
    | [_], h => exact absurd (by simp) h
    | [_, _], h => exact absurd (by simp) h
    | x :: c1 :: c2 :: r, h =>
      refine LCalls.intro Tryz.func78 rfl (n := 39) rfl rfl rfl ?_
      repeat first
        | refine LCode.seq ?_
        | refine LCode.region ?_
      refine LOps.step (S.alloc fun b => ?_) rfl
      repeat first
        | refine LOps.nil ?_
        | refine LCode.seq ?_
        | refine LCode.region ?_
        | refine QThen.normal ?_
        | refine LOps.pure (Pure.as (lv := .atom _) rfl) rfl ?_
        | refine LOps.pure (Pure.mv (lv := .atom _) rfl) rfl ?_
        | refine LOps.pure (Pure.slen rfl) rfl ?_
        | refine LOps.pure (Pure.lss rfl rfl) rfl ?_
        | refine LOps.want rfl rfl ?_
      refine LOps.cut [(0, str (x :: c1 :: c2 :: r)), (2, ptr b 0), (32, bool ((!decide (cv c2 = 39)) || decide (cv c1 < 32) || decide (126 < cv c1) || decide (cv c1 = 39) || decide (cv c1 = 92)))] ?_ (fun j hj => ?_)
      · refine LOps.bcase 8 rfl (fun ht => ?_) (fun ht0 => ?_)
        · exact absurd (of_decide_eq_true ht) (by simp only [List.length_cons]; omega)
        · skip
          refine LOps.pure (Pure.sindex (c := c2) rfl rfl (by decide) rfl) rfl ?_
          repeat first
            | refine LOps.pure (Pure.mv (lv := .atom _) rfl) rfl ?_
            | refine LOps.pure (Pure.neq rfl rfl) rfl ?_
            | refine LOps.pure (Pure.pickF (lv := .atom _) rfl rfl) rfl ?_
            | refine LOps.want rfl rfl ?_
          refine LOps.bcase 13 rfl (fun ht => ?_) (fun ht1 => ?_)
          · repeat first
              | refine LOps.nil ?_
              | refine QThen.normal ?_
              | refine LOps.pure (Pure.mv (lv := .atom _) rfl) rfl ?_
              | refine LOps.pure (Pure.pickT (lv := .atom _) rfl rfl) rfl ?_
              | refine LOps.skip rfl rfl rfl rfl ?_
            exact ⟨⟨rfl, rfl, bool_eq (by rw [ht]; rfl), trivial⟩, rfl, rfl⟩
          · repeat first
              | refine LOps.pure (Pure.mv (lv := .atom _) rfl) rfl ?_
              | refine LOps.want rfl rfl ?_
            refine LOps.pure (Pure.sindex (c := c1) rfl rfl (by decide) rfl) rfl ?_
            repeat first
              | refine LOps.pure (Pure.mv (lv := .atom _) rfl) rfl ?_
              | refine LOps.pure (Pure.lss rfl rfl) rfl ?_
              | refine LOps.pure (Pure.pickF (lv := .atom _) rfl rfl) rfl ?_
              | refine LOps.want rfl rfl ?_
            refine LOps.bcase 18 rfl (fun ht => ?_) (fun ht2 => ?_)
            · repeat first
                | refine LOps.nil ?_
                | refine QThen.normal ?_
                | refine LOps.pure (Pure.mv (lv := .atom _) rfl) rfl ?_
                | refine LOps.pure (Pure.pickT (lv := .atom _) rfl rfl) rfl ?_
                | refine LOps.skip rfl rfl rfl rfl ?_
              exact ⟨⟨rfl, rfl, bool_eq (by rw [ht1, ht]; rfl), trivial⟩, rfl, rfl⟩
            · repeat first
                | refine LOps.pure (Pure.mv (lv := .atom _) rfl) rfl ?_
                | refine LOps.want rfl rfl ?_
              refine LOps.pure (Pure.sindex (c := c1) rfl rfl (by decide) rfl) rfl ?_
              repeat first
                | refine LOps.pure (Pure.mv (lv := .atom _) rfl) rfl ?_
                | refine LOps.pure (Pure.pickF (lv := .atom _) rfl rfl) rfl ?_
                | refine LOps.pure (Pure.gtr rfl rfl) rfl ?_
                | refine LOps.want rfl rfl ?_
              refine LOps.bcase 23 rfl (fun ht => ?_) (fun ht3 => ?_)
              · repeat first
                  | refine LOps.nil ?_
                  | refine QThen.normal ?_
                  | refine LOps.pure (Pure.mv (lv := .atom _) rfl) rfl ?_
                  | refine LOps.pure (Pure.pickT (lv := .atom _) rfl rfl) rfl ?_
                  | refine LOps.skip rfl rfl rfl rfl ?_
                exact ⟨⟨rfl, rfl, bool_eq (by rw [ht1, ht2, ht]; rfl), trivial⟩, rfl, rfl⟩
              · repeat first
                  | refine LOps.pure (Pure.mv (lv := .atom _) rfl) rfl ?_
                  | refine LOps.want rfl rfl ?_
                refine LOps.pure (Pure.sindex (c := c1) rfl rfl (by decide) rfl) rfl ?_
                repeat first
                  | refine LOps.pure (Pure.mv (lv := .atom _) rfl) rfl ?_
                  | refine LOps.pure (Pure.pickF (lv := .atom _) rfl rfl) rfl ?_
                  | refine LOps.pure (Pure.eql rfl rfl) rfl ?_
                  | refine LOps.want rfl rfl ?_
                refine LOps.bcase 28 rfl (fun ht => ?_) (fun ht4 => ?_)
                · repeat first
                    | refine LOps.nil ?_
                    | refine QThen.normal ?_
                    | refine LOps.pure (Pure.pickT (lv := .atom _) rfl rfl) rfl ?_
                    | refine LOps.skip rfl rfl rfl rfl ?_
                  exact ⟨⟨rfl, rfl, bool_eq (by rw [ht1, ht2, ht3, ht]; rfl), trivial⟩, rfl, rfl⟩
                · repeat first
                    | refine LOps.pure (Pure.mv (lv := .atom _) rfl) rfl ?_
                    | refine LOps.want rfl rfl ?_
                  refine LOps.pure (Pure.sindex (c := c1) rfl rfl (by decide) rfl) rfl ?_
                  repeat first
                    | refine LOps.nil ?_
                    | refine QThen.normal ?_
                    | refine LOps.pure (Pure.pickF (lv := .atom _) rfl rfl) rfl ?_
                    | refine LOps.pure (Pure.eql rfl rfl) rfl ?_
                    | refine LOps.want rfl rfl ?_
                  exact ⟨⟨rfl, rfl, bool_eq (by rw [ht1, ht2, ht3, ht4]; rfl), trivial⟩, rfl, rfl⟩
      · skip
        refine LCode.cond rfl (fun hc => ?_) (fun hc => ?_)
        · repeat first
            | refine LOps.nil ?_
            | refine LCode.seq ?_
            | refine LCode.region ?_
            | refine LCode.ret ?_
            | refine QThen.normal ?_
            | refine QThen.ret ?_
            | refine LOps.pure (Pure.as (lv := .atom _) rfl) rfl ?_
            | refine LOps.pure (Pure.bld _ (cs := [_, _, _]) rfl) rfl ?_
            | refine LOps.step (S.store (cs' := [_, _, _]) rfl Pick.here rfl rfl rfl rfl rfl ?_) rfl
          exact retRet hj (AllRes.cons (ResIs.cellAgg rfl (List.Mem.head _) rfl (LV.Sub.refl _)) (AllRes.cons (ResIs.tmp (v := .atom _) rfl (LV.Sub.refl _)) (AllRes.cons (ResIs.tmp (v := .atom _) rfl (LV.Sub.refl _)) AllRes.nil))) (by rw [lexLiteral, if_pos hc]; rfl)
        · repeat first
            | refine LCode.seq ?_
            | refine LCode.region ?_
            | refine LCode.skip ?_
            | refine QThen.normal ?_
            | refine LOps.pure (Pure.mv (lv := .atom _) rfl) rfl ?_
          refine LOps.pure (Pure.sindex (c := c1) rfl rfl (by decide) rfl) rfl ?_
          refine LOps.pure (Pure.cvt rfl) rfl ?_
          have hw : IntKind.i64.wrap (c1.toNat : Int) = ((c1.toNat : Nat) : Int) := wrap_i64 (by have := c1.toNat_lt; omega)
          rw [hw]
          refine LOps.step (S.fn [_] rfl (itoa_spec hG c1.toNat (by have := c1.toNat_lt; omega)) ?_) rfl
          repeat first
            | refine LOps.nil ?_
            | refine LCode.ret ?_
            | refine QThen.normal ?_
            | refine LOps.pure (Pure.as (lv := .atom _) rfl) rfl ?_
            | refine LOps.pure (Pure.bld _ (cs := [_, _, _]) rfl) rfl ?_
            | refine LOps.step (S.store (cs' := [_, _, _]) rfl Pick.here rfl rfl rfl rfl rfl ?_) rfl
          exact retRet hj (AllRes.cons (ResIs.cellAgg rfl (List.Mem.head _) rfl (LV.Sub.refl _)) (AllRes.cons (ResIs.tmp (v := .atom _) rfl (LV.Sub.refl _)) (AllRes.cons (ResIs.tmp (v := .atom _) rfl (LV.Sub.refl _)) AllRes.nil))) (by rw [lexLiteral, if_neg (by rw [hc]; decide)]; rfl)
theorem token_spec (hG : GW B0 w0) (s : List UInt8) (hs : s.length ≤ 1000000000) (hne : s ≠ []) : LCalls (KC B0 w0) 46 [str s] [] (Ret (encTokR (lexToken s))) := by
  match s, hne with
  | c :: r, _ =>
    refine LCalls.intro Tryz.func46 rfl (n := 49) rfl rfl rfl ?_
    repeat first
      | refine LCode.seq ?_
      | refine LCode.region ?_
    refine LOps.step (S.alloc fun b => ?_) rfl
    repeat first
      | refine LOps.nil ?_
      | refine LCode.seq ?_
      | refine LCode.region ?_
      | refine LCode.block ?_
      | refine QThen.normal ?_
      | refine LOps.pure (Pure.as (lv := .atom _) rfl) rfl ?_
      | refine LOps.pure (Pure.mv (lv := .atom _) rfl) rfl ?_
    refine LOps.pure (Pure.sindex (c := c) rfl rfl (by decide) rfl) rfl ?_
    refine LOps.step (S.fn [_] rfl (digit_spec c) ?_) rfl
    repeat first
      | refine LOps.nil ?_
      | refine QThen.normal ?_
      | refine LOps.pure (Pure.as (lv := .atom _) rfl) rfl ?_
    refine LCode.cond rfl (fun hc => ?_) (fun hc => ?_)
    · repeat first
        | refine LCode.seq ?_
        | refine LCode.region ?_
        | refine LOps.pure (Pure.mv (lv := .atom _) rfl) rfl ?_
      refine LOps.step (S.fn [_] rfl (number_spec hG (c :: r) hs (by rw [List.takeWhile_cons_of_pos hc]; simp)) ?_) rfl
      repeat first
        | refine LOps.nil ?_
        | refine LCode.ret ?_
        | refine QThen.normal ?_
        | refine QThen.ret ?_
        | refine QBlock.ret ?_
        | refine LOps.pure (Pure.as (lv := .atom _) rfl) rfl ?_
        | refine LOps.pure (Pure.extract (c := .agg _) rfl rfl) rfl ?_
        | refine LOps.pure (Pure.extract (c := .atom _) rfl rfl) rfl ?_
        | refine LOps.step (S.store (cs' := [_, _, _]) rfl Pick.here rfl rfl rfl rfl rfl ?_) rfl
      exact retRet rfl (AllRes.cons (ResIs.cellAgg rfl (List.Mem.head _) rfl (LV.Sub.refl _)) (AllRes.cons (ResIs.tmp (v := .atom _) rfl (LV.Sub.refl _)) (AllRes.cons (ResIs.tmp (v := .atom _) rfl (LV.Sub.refl _)) AllRes.nil))) (by simp only [lexToken, hc, if_true]; rfl)
    · repeat first
        | refine LCode.seq ?_
        | refine LCode.region ?_
        | refine LOps.pure (Pure.mv (lv := .atom _) rfl) rfl ?_
      refine LOps.pure (Pure.sindex (c := c) rfl rfl (by decide) rfl) rfl ?_
      refine LOps.step (S.fn [_] rfl (letter_spec c) ?_) rfl
      repeat first
        | refine LOps.nil ?_
        | refine QThen.normal ?_
        | refine LOps.pure (Pure.as (lv := .atom _) rfl) rfl ?_
      refine LCode.cond rfl (fun hl => ?_) (fun hl => ?_)
      · repeat first
          | refine LCode.seq ?_
          | refine LCode.region ?_
          | refine LOps.pure (Pure.mv (lv := .atom _) rfl) rfl ?_
        refine LOps.step (S.fn [_] rfl (name_spec (c :: r) hs) ?_) rfl
        repeat first
          | refine LOps.nil ?_
          | refine LCode.ret ?_
          | refine QThen.normal ?_
          | refine QThen.ret ?_
          | refine QBlock.ret ?_
          | refine LOps.pure (Pure.as (lv := .atom _) rfl) rfl ?_
          | refine LOps.pure (Pure.extract (c := .agg _) rfl rfl) rfl ?_
          | refine LOps.pure (Pure.extract (c := .atom _) rfl rfl) rfl ?_
          | refine LOps.step (S.store (cs' := [_, _, _]) rfl Pick.here rfl rfl rfl rfl rfl ?_) rfl
        exact retRet rfl (AllRes.cons (ResIs.cellAgg rfl (List.Mem.head _) rfl (LV.Sub.refl _)) (AllRes.cons (ResIs.tmp (v := .atom _) rfl (LV.Sub.refl _)) (AllRes.cons (ResIs.tmp (v := .atom _) rfl (LV.Sub.refl _)) AllRes.nil))) (by simp only [lexToken, hc, hl, if_true, Bool.false_eq_true, if_false]; rfl)
      · repeat first
          | refine LCode.seq ?_
          | refine LCode.region ?_
          | refine LOps.pure (Pure.mv (lv := .atom _) rfl) rfl ?_
        refine LOps.pure (Pure.sindex (c := c) rfl rfl (by decide) rfl) rfl ?_
        repeat first
          | refine LOps.nil ?_
          | refine QThen.normal ?_
          | refine LOps.pure (Pure.as (lv := .atom _) rfl) rfl ?_
          | refine LOps.pure (Pure.eql rfl rfl) rfl ?_
        refine LCode.cond rfl (fun hq => ?_) (fun hq => ?_)
        · repeat first
            | refine LCode.seq ?_
            | refine LCode.region ?_
            | refine LOps.pure (Pure.mv (lv := .atom _) rfl) rfl ?_
          refine LOps.step (S.fn [_] rfl (literal_spec hG (c :: r) hs) ?_) rfl
          repeat first
            | refine LOps.nil ?_
            | refine LCode.ret ?_
            | refine QThen.normal ?_
            | refine QThen.ret ?_
            | refine QBlock.ret ?_
            | refine LOps.pure (Pure.as (lv := .atom _) rfl) rfl ?_
            | refine LOps.pure (Pure.extract (c := .agg _) rfl rfl) rfl ?_
            | refine LOps.pure (Pure.extract (c := .atom _) rfl rfl) rfl ?_
            | refine LOps.step (S.store (cs' := [_, _, _]) rfl Pick.here rfl rfl rfl rfl rfl ?_) rfl
          exact retRet rfl (AllRes.cons (ResIs.cellAgg rfl (List.Mem.head _) rfl (LV.Sub.refl _)) (AllRes.cons (ResIs.tmp (v := .atom _) rfl (LV.Sub.refl _)) (AllRes.cons (ResIs.tmp (v := .atom _) rfl (LV.Sub.refl _)) AllRes.nil))) (by simp only [lexToken, hc, hl, Bool.false_eq_true, if_false]; rw [if_pos hq]; rfl)
        · have htok : lexToken (c :: r) = lexSign (c :: r) := by simp only [lexToken, hc, hl, Bool.false_eq_true, if_false]; rw [if_neg (by rw [hq]; decide)]
          repeat first
            | refine LCode.seq ?_
            | refine LCode.region ?_
            | refine LCode.skip ?_
            | refine QThen.normal ?_
            | refine QBlock.normal ?_
          refine LOps.step (S.fn [] rfl signs_spec ?_) rfl
          repeat first
            | refine LOps.nil ?_
            | refine LCode.block ?_
            | refine QThen.normal ?_
            | refine LOps.pure (Pure.mv (lv := .atom _) rfl) rfl ?_
            | refine LOps.pure (Pure.llen rfl) rfl ?_
          refine LCode.loopI (fun k ls H => ∃ m : Nat, k = signs.length - m ∧ ls = [(0, str (c :: r)), (2, ptr b 0), (34, .list (signs.map str)), (35, int .i64 24), (36, int .i64 m)] ∧ H = [(b, .cells 48 [int .i64 0, str [], int .i64 0])] ∧ m ≤ 24 ∧ signs.find? (fun x => x.isPrefixOf (c :: r)) = (signs.drop m).find? (fun x => x.isPrefixOf (c :: r)))
            ⟨_, _, _, ⟨0, rfl, rfl, rfl, by omega, by simp⟩, ⟨rfl, rfl, rfl, rfl, rfl, trivial⟩, HSub.refl _⟩ ?_
          rintro k ls H ⟨m, rfl, rfl, rfl, hm, hI⟩ j hj
          have h24 : signs.length = 24 := rfl
          repeat first
            | refine LOps.nil ?_
            | refine LCode.seq ?_
            | refine LCode.region ?_
            | refine QThen.normal ?_
            | refine LOps.pure (Pure.lss rfl rfl) rfl ?_
          refine LCode.cond rfl (fun ht => ?_) (fun ht => ?_)
          · have hlt : m < signs.length := by have := of_decide_eq_true ht; omega
            repeat first
              | refine LCode.seq ?_
              | refine LCode.region ?_
              | refine LCode.skip ?_
              | refine LCode.block ?_
              | refine QThen.normal ?_
            refine LOps.pure (Pure.ixRef (el' := str signs[m]) rfl rfl (by omega) (by simp) rfl rfl) rfl ?_
            repeat first
              | refine LOps.nil ?_
              | refine LCode.seq ?_
              | refine LCode.region ?_
              | refine QThen.normal ?_
              | refine LOps.pure (Pure.as (lv := .atom _) rfl) rfl ?_
              | refine LOps.pure (Pure.mv (lv := .atom _) rfl) rfl ?_
              | refine LOps.pure (Pure.loadRef (c := .atom _) rfl rfl) rfl ?_
            refine LOps.step (S.fn [_, _] rfl (hasPrefix_spec (c :: r) signs[m]) ?_) rfl
            repeat first
              | refine LOps.nil ?_
              | refine QThen.normal ?_
            refine LCode.cond rfl (fun hp => ?_) (fun hp => ?_)
            · repeat first
                | refine LOps.nil ?_
                | refine LCode.seq ?_
                | refine LCode.region ?_
                | refine LCode.ret ?_
                | refine QThen.normal ?_
                | refine QThen.ret ?_
                | refine QBlock.ret ?_
                | refine LOps.pure (Pure.as (lv := .atom _) rfl) rfl ?_
                | refine LOps.pure (Pure.mv (lv := .atom _) rfl) rfl ?_
                | refine LOps.pure (Pure.bld _ (cs := [_, _, _]) rfl) rfl ?_
                | refine LOps.pure (Pure.slen rfl) rfl ?_
                | refine LOps.step (S.store (cs' := [_, _, _]) rfl Pick.here rfl rfl rfl rfl rfl ?_) rfl
              exact retRet hj (AllRes.cons (ResIs.cellAgg rfl (List.Mem.head _) rfl (LV.Sub.refl _)) (AllRes.cons (ResIs.tmp (v := .atom _) rfl (LV.Sub.refl _)) (AllRes.cons (ResIs.tmp (v := .atom _) rfl (LV.Sub.refl _)) AllRes.nil))) (by
                rw [htok, lexSign, hI, List.drop_eq_getElem_cons hlt, List.find?_cons_of_pos (by simpa using hp)]
                rfl)
            · repeat first
                | refine LOps.nil ?_
                | refine LCode.region ?_
                | refine LCode.skip ?_
                | refine QThen.normal ?_
                | refine QBlock.normal ?_
                | refine LOps.pure (Pure.mv (lv := .atom _) rfl) rfl ?_
                | refine LOps.pure (Pure.add rfl rfl (by omega)) rfl ?_
              exact ⟨_, _, _, by omega, ⟨m + 1, rfl, rfl, rfl, by omega, by
                rw [hI, List.drop_eq_getElem_cons hlt, List.find?_cons_of_neg (by rw [hp]; decide)]⟩, ⟨rfl, rfl, rfl, rfl, int_eq (by omega), trivial⟩, HSub.refl _, hj⟩
          · have hge : signs.length ≤ m := by have := of_decide_eq_false ht; omega
            repeat first
              | refine LOps.nil ?_
              | refine LCode.seq ?_
              | refine LCode.region ?_
              | refine LCode.ret ?_
              | refine LCode.exit ?_
              | refine QThen.normal ?_
              | refine QThen.exit ?_
              | refine QBlock.hit ?_
              | refine LOps.pure (Pure.as (lv := .atom _) rfl) rfl ?_
              | refine LOps.pure (Pure.bld _ (cs := [_, _, _]) rfl) rfl ?_
              | refine LOps.step (S.store (cs' := [_, _, _]) rfl Pick.here rfl rfl rfl rfl rfl ?_) rfl
            exact retRet hj (AllRes.cons (ResIs.cellAgg rfl (List.Mem.head _) rfl (LV.Sub.refl _)) (AllRes.cons (ResIs.tmp (v := .atom _) rfl (LV.Sub.refl _)) (AllRes.cons (ResIs.tmp (v := .atom _) rfl (LV.Sub.refl _)) AllRes.nil))) (by
              rw [htok, lexSign, hI, List.drop_eq_nil_of_le hge]
              rfl)
end
end Go.Proofs.YtfodkbchknknjaaGreatDoor
namespace Go.Proofs.YtfodkbchknknjaaGreatDoor
open Go.GL Go.RowKit Go.Stele
set_option maxRecDepth 100000
set_option maxHeartbeats 4000000
attribute [local irreducible] LOps LCode LStep LCalls Go.GL.Pure QThen QBlock RetPost
def lexAllP (s : List UInt8) : Except (Int × Int) (List Tok) := if 60000 < s.length then .error (0, 6) else lexP s.length s 1
def encLex : Except (Int × Int) (List Tok) → LV
  | .ok T => .tuple [.list (T.map encTok), int .i64 0, int .i64 0]
  | .error (l, e) => .tuple [.list [], int .i64 l, int .i64 e]
theorem map_map_ex {A B D : Type} (f : A → B) (h : B → D) (r : Except (Int × Int) A) : (r.map f).map h = r.map (fun x => h (f x)) := by cases r <;> rfl
section
variable {B0 : Nat} {w0 : World}
theorem Tokens_spec (hG : GW B0 w0) (s : List UInt8) (hs : s.length ≤ 1000000000) : LCalls (KC B0 w0) 21 [str s] [] (Ret (encLex (lexAllP s))) := by
  refine LCalls.intro Tryz.func21 rfl (n := 49) rfl rfl rfl ?_
  repeat first
    | refine LOps.nil ?_
    | refine LCode.seq ?_
    | refine LCode.region ?_
    | refine QThen.normal ?_
    | refine LOps.pure (Pure.as (lv := .atom _) rfl) rfl ?_
    | refine LOps.pure (Pure.mv (lv := .atom _) rfl) rfl ?_
    | refine LOps.pure (Pure.slen rfl) rfl ?_
    | refine LOps.pure (Pure.gtr rfl rfl) rfl ?_
  refine LCode.cond rfl (fun hc => ?_) (fun hc => ?_)
  · repeat first
      | refine LOps.nil ?_
      | refine LCode.seq ?_
      | refine LCode.region ?_
      | refine LCode.ret ?_
      | refine QThen.normal ?_
      | refine QThen.ret ?_
      | refine LOps.pure (Pure.as (lv := .atom _) rfl) rfl ?_
    exact retRet rfl (AllRes.cons (ResIs.tmp (v := nilSlice) rfl LV.Sub.nil) (AllRes.cons (ResIs.tmp (v := .atom _) rfl (LV.Sub.refl _)) (AllRes.cons (ResIs.tmp (v := .atom _) rfl (LV.Sub.refl _)) AllRes.nil))) (by
      rw [lexAllP, if_pos (by have := of_decide_eq_true hc; omega)]
      rfl)
  · have hlen : s.length ≤ 60000 := by have := of_decide_eq_false hc; omega
    repeat first
      | refine LOps.nil ?_
      | refine LCode.seq ?_
      | refine LCode.region ?_
      | refine LCode.skip ?_
      | refine LCode.block ?_
      | refine QThen.normal ?_
      | refine LOps.pure (Pure.as (lv := .atom _) rfl) rfl ?_
      | refine LOps.pure (Pure.mv (lv := .atom _) rfl) rfl ?_
    refine LCode.loopI (fun k ls H => ∃ (v : LV) (out : List Tok) (rest : List UInt8) (line : Int) (fuel : Nat), k = rest.length ∧ ls = [(5, v), (6, int .i64 line), (7, str rest)] ∧ Acc 3 v (out.map encTok) H [] ∧
        rest.length ≤ fuel ∧ 0 ≤ line ∧ line + rest.length ≤ 60001 ∧ out.length + rest.length ≤ 60000 ∧ lexP s.length s 1 = (lexP fuel rest line).map (out ++ ·))
      ⟨_, _, _, ⟨nilSlice, [], s, 1, s.length, rfl, rfl, Acc.nil, by omega, by omega, by omega, by simp; omega, by cases lexP s.length s 1 <;> rfl⟩, ⟨rfl, rfl, rfl, trivial⟩, HSub.refl _⟩ ?_
    rintro k ls H ⟨v, out, rest, line, fuel, rfl, rfl, hacc, hf, hl0, hl1, ho, hI⟩ j hj
    repeat first
      | refine LOps.nil ?_
      | refine LCode.seq ?_
      | refine LCode.region ?_
      | refine QThen.normal ?_
      | refine LOps.pure (Pure.mv (lv := .atom _) rfl) rfl ?_
      | refine LOps.pure (Pure.sneq rfl rfl) rfl ?_
    refine LCode.cond rfl (fun hne => ?_) (fun hne => ?_)
    · have hrest : rest ≠ [] := by simpa using hne
      obtain ⟨f, rfl⟩ : ∃ f, fuel = f + 1 := ⟨fuel - 1, by
        have : 0 < rest.length := List.length_pos_iff.2 hrest
        omega⟩
      rw [lexP, if_neg hrest] at hI
      have hsk := skipLen_le rest
      repeat first
        | refine LCode.seq ?_
        | refine LCode.region ?_
        | refine LCode.skip ?_
        | refine LCode.block ?_
        | refine QThen.normal ?_
        | refine LOps.pure (Pure.mv (lv := .atom _) rfl) rfl ?_
      refine LOps.step (S.fn [_] rfl (skip_spec rest (by omega)) ?_) rfl
      repeat first
        | refine LOps.nil ?_
        | refine LCode.seq ?_
        | refine LCode.region ?_
        | refine QThen.normal ?_
        | refine LOps.pure (Pure.as (lv := .atom _) rfl) rfl ?_
        | refine LOps.pure (Pure.mv (lv := .atom _) rfl) rfl ?_
        | refine LOps.pure (Pure.eql rfl rfl) rfl ?_
      refine LCode.cond rfl (fun hz => ?_) (fun hz => ?_)
      · have hz' : skipLen rest = 0 := by have := of_decide_eq_true hz; omega
        rw [if_pos hz'] at hI
        repeat first
          | refine LCode.seq ?_
          | refine LCode.region ?_
          | refine LOps.pure (Pure.mv (lv := .atom _) rfl) rfl ?_
        refine LOps.step (S.fn [_] rfl (token_spec hG rest (by omega) hrest) ?_) rfl
        repeat first
          | refine LOps.pure (Pure.mv (lv := .tuple _) rfl) rfl ?_
          | refine LOps.pure (Pure.extract (c := .agg _) rfl rfl) rfl ?_
          | refine LOps.pure (Pure.extract (c := .atom _) rfl rfl) rfl ?_
        refine LOps.step (S.alloc fun b => ?_) rfl
        repeat first
          | refine LOps.nil ?_
          | refine LCode.seq ?_
          | refine LCode.region ?_
          | refine QThen.normal ?_
          | refine LOps.pure (Pure.as (lv := .atom _) rfl) rfl ?_
          | refine LOps.pure (Pure.mv (lv := .atom _) rfl) rfl ?_
          | refine LOps.pure (Pure.neq rfl rfl) rfl ?_
          | refine LOps.step (S.store (cs' := [_, _, _]) rfl Pick.here rfl rfl rfl rfl rfl ?_) rfl
        refine LCode.cond rfl (fun he => ?_) (fun he => ?_)
        · have he' : (lexToken rest).2.2 ≠ 0 := by simpa using he
          rw [if_pos he'] at hI
          repeat first
            | refine LOps.nil ?_
            | refine LCode.seq ?_
            | refine LCode.region ?_
            | refine LCode.ret ?_
            | refine QThen.normal ?_
            | refine QThen.ret ?_
            | refine QBlock.ret ?_
            | refine LOps.pure (Pure.as (lv := .atom _) rfl) rfl ?_
            | refine LOps.pure (Pure.mv (lv := .atom _) rfl) rfl ?_
          exact retRet hj (AllRes.cons (ResIs.tmp (v := nilSlice) rfl LV.Sub.nil) (AllRes.cons (ResIs.tmp (v := .atom _) rfl (LV.Sub.refl _)) (AllRes.cons (ResIs.tmp (v := .atom _) rfl (LV.Sub.refl _)) AllRes.nil))) (by
            rw [lexAllP, if_neg (by omega), hI]
            rfl)
        · have he' : (lexToken rest).2.2 = 0 := by simpa using he
          rw [if_neg (by simpa using he')] at hI
          obtain ⟨hs0, hs1⟩ := lexToken_size rest he'
          repeat first
            | refine LOps.nil ?_
            | refine LCode.seq ?_
            | refine LCode.region ?_
            | refine LCode.skip ?_
            | refine QThen.normal ?_
            | refine LOps.pure (Pure.mv (lv := .atom _) rfl) rfl ?_
            | refine LOps.pure (Pure.fieldH rfl) rfl ?_
            | refine LOps.step (S.store (cs' := [_, _, _]) rfl Pick.here rfl rfl rfl rfl rfl ?_) rfl
          refine LOps.pure (Pure.mv (lv := v) rfl) rfl ?_
          repeat first
            | refine LOps.pure (Pure.ldHAgg (cs' := [_, _, _]) rfl (List.Mem.head _) rfl rfl) rfl ?_
          refine LOps.step (S.lit [_] rfl (elemsOk.cons rfl rfl elemsOk.nil) rfl rfl rfl ?_) rfl
          refine LOps.weak (HSub.drop (HSub.refl _)) ?_
          refine LOps.step (S.acc rfl hacc rfl (by simp; rfl) rfl (by simp; omega) fun v' H' hacc' => ?_) rfl
          refine LOps.pure (Pure.as (lv := v') rfl) rfl ?_
          repeat first
            | refine LOps.nil ?_
            | refine LCode.seq ?_
            | refine LCode.region ?_
            | refine QThen.normal ?_
            | refine LOps.pure (Pure.as (lv := .atom _) rfl) rfl ?_
            | refine LOps.pure (Pure.mv (lv := .atom _) rfl) rfl ?_
          refine LOps.pure (Pure.sslice (i := 0) (j := (lexToken rest).2.1) rfl rfl ⟨_, rfl⟩ (by omega) (by omega) (by omega)) rfl ?_
          refine LOps.step (S.fn [_, _] rfl (countNl_spec _) ?_) rfl
          have hcnt : (List.drop (Int.toNat 0) (List.take ((lexToken rest).2.1 : Int).toNat rest)).count 10 ≤ (lexToken rest).2.1 := Nat.le_trans List.count_le_length (by simp; omega)
          repeat first
            | refine LOps.nil ?_
            | refine LCode.region ?_
            | refine QThen.normal ?_
            | refine LOps.pure (Pure.as (lv := .atom _) rfl) rfl ?_
            | refine LOps.pure (Pure.mv (lv := .atom _) rfl) rfl ?_
            | refine LOps.pure (Pure.add rfl rfl (by omega)) rfl ?_
          refine LOps.pure (Pure.sslice (i := (lexToken rest).2.1) (j := rest.length) rfl ⟨_, rfl⟩ rfl (by omega) (by omega) (by omega)) rfl ?_
          repeat first
            | refine LOps.nil ?_
            | refine QThen.normal ?_
            | refine QBlock.normal ?_
            | refine LOps.pure (Pure.as (lv := .atom _) rfl) rfl ?_
          have hacc2 : Acc 3 v' ((out ++ [{ (lexToken rest).1 with line := line }]).map encTok) H' [] := by
            rw [List.map_append]
            exact hacc'
          exact ⟨_, _, _, by simp only [List.length_drop]; omega, ⟨v', out ++ [{ (lexToken rest).1 with line := line }], rest.drop (lexToken rest).2.1, line + ((rest.take (lexToken rest).2.1).count 10 : Nat), f, rfl, rfl, hacc2,
            by simp only [List.length_drop]; omega, by omega, by simp only [List.length_drop]; simp at hcnt; omega, by simp only [List.length_drop, List.length_append, List.length_singleton]; omega, by
              rw [hI, map_map_ex]
              congr 1
              funext x
              simp⟩, ⟨rfl, int_eq (by simp), str_eq (by simp), trivial⟩, HSub.refl _, hj⟩
      · have hz' : ¬ skipLen rest = 0 := by have := of_decide_eq_false hz; omega
        rw [if_neg hz'] at hI
        repeat first
          | refine LCode.seq ?_
          | refine LCode.region ?_
          | refine LCode.skip ?_
          | refine QThen.normal ?_
          | refine LOps.pure (Pure.mv (lv := .atom _) rfl) rfl ?_
        refine LOps.pure (Pure.sslice (i := 0) (j := skipLen rest) rfl rfl ⟨_, rfl⟩ (by omega) (by omega) (by omega)) rfl ?_
        refine LOps.step (S.fn [_, _] rfl (countNl_spec _) ?_) rfl
        have hcnt : (List.drop (Int.toNat 0) (List.take (skipLen rest : Int).toNat rest)).count 10 ≤ skipLen rest := Nat.le_trans List.count_le_length (by simp; omega)
        repeat first
          | refine LOps.nil ?_
          | refine LCode.region ?_
          | refine QThen.normal ?_
          | refine LOps.pure (Pure.as (lv := .atom _) rfl) rfl ?_
          | refine LOps.pure (Pure.mv (lv := .atom _) rfl) rfl ?_
          | refine LOps.pure (Pure.add rfl rfl (by omega)) rfl ?_
        refine LOps.pure (Pure.sslice (i := skipLen rest) (j := rest.length) rfl ⟨_, rfl⟩ rfl (by omega) (by omega) (by omega)) rfl ?_
        repeat first
          | refine LOps.nil ?_
          | refine QThen.normal ?_
          | refine QBlock.normal ?_
          | refine LOps.pure (Pure.as (lv := .atom _) rfl) rfl ?_
        exact ⟨_, _, _, by simp only [List.length_drop]; omega, ⟨v, out, rest.drop (skipLen rest), line + ((rest.take (skipLen rest)).count 10 : Nat), f, rfl, rfl, hacc,
            by simp only [List.length_drop]; omega, by omega, by simp only [List.length_drop]; simp at hcnt; omega, by simp only [List.length_drop]; omega, hI⟩, ⟨rfl, int_eq (by simp), str_eq (by simp), trivial⟩, HSub.refl _, hj⟩
    · have hrest : rest = [] := by simpa using hne
      repeat first
        | refine LCode.seq ?_
        | refine LCode.region ?_
        | refine LCode.exit ?_
        | refine QThen.normal ?_
        | refine QThen.exit ?_
        | refine QBlock.hit ?_
      refine LOps.pure (Pure.mv (lv := v) rfl) rfl ?_
      refine LOps.pure (Pure.as (lv := v) rfl) rfl ?_
      repeat first
        | refine LOps.nil ?_
        | refine LCode.ret ?_
        | refine QThen.normal ?_
        | refine LOps.pure (Pure.as (lv := .atom _) rfl) rfl ?_
      exact retRet hj (AllRes.cons (ResIs.tmp (v := v) rfl hacc.sub) (AllRes.cons (ResIs.tmp (v := .atom _) rfl (LV.Sub.refl _)) (AllRes.cons (ResIs.tmp (v := .atom _) rfl (LV.Sub.refl _)) AllRes.nil))) (by
        rw [lexAllP, if_neg (by omega), hI, hrest]
        cases fuel <;> simp [lexP, Except.map, encLex, resLV])
end
end Go.Proofs.YtfodkbchknknjaaGreatDoor
namespace Go.GL
open Go.RowKit
section
variable {C : Ctx} {e : Env} {H : Heap} {dst : Option Nat} {ty : TypeId} {pos : String} {aft : Array Edge} {g : Option (Nat × Bool)} {K : LV → Heap → Prop} {X : List PanicEntry → Heap → Prop} {x y : Operand}
/-- append onto a list under construction whose part of the heap is H1; A is the rest. -/
theorem S.accF {sT xT el s bytes : Nat} [ht : TSlice C.P sT el s] [hr : TRow C.P el s bytes] {e2 s2 : Nat} [hx2 : TSlice C.P xT e2 s2] {v : LV} {es ms : List LV} {H1 F A : Heap}
    (hp : H.Perm (H1 ++ A)) (hx : e.ev x = v) (ha : Acc s v es H1 F) (hy : GL.elems (e.ev y) = some ms) (hs : ∀ v ∈ ms, v.cells.length = s) (hok : (ms.flatMap LV.cells).all cellOk = true) (hroom : (es.length + ms.length) * bytes ≤ 140737488355328)
    (hk : ∀ v' H', Acc s v' (es ++ ms) H' F → K v' (A ++ H')) : LStep C ⟨dst, .call { callee := .builtin .append, args := #[x, y], argTypes := #[sT, xT] }, ty, pos, aft, g⟩ e H K X := by
  refine LStep.conseq (K := fun lv H' => ∃ H2, H' = H2 ++ A ∧ Acc s lv (es ++ ms) H2 F) (LStep.frame hp (S.acc hx ha hy hs hok hroom fun v' H' h => ⟨H', rfl, h⟩)) ?_
  rintro lv H' ⟨H2, rfl, h⟩
  exact ⟨lv, A ++ H2, LV.Sub.refl _, ⟨[], by simpa using List.perm_append_comm⟩, hk _ _ h⟩
theorem S.acc1 {sT xT el s bytes : Nat} [ht : TSlice C.P sT el s] [hr : TRow C.P el s bytes] {e2 s2 : Nat} [hx2 : TSlice C.P xT e2 s2] {v : LV} {es ms : List LV} {H1 F : Heap} {q : Nat × LObj}
    (hx : e.ev x = v) (ha : Acc s v es H1 F) (hy : GL.elems (e.ev y) = some ms) (hs : ∀ v ∈ ms, v.cells.length = s) (hok : (ms.flatMap LV.cells).all cellOk = true) (hroom : (es.length + ms.length) * bytes ≤ 140737488355328)
    (hk : ∀ v' H', Acc s v' (es ++ ms) H' F → K v' (q :: H')) : LStep C ⟨dst, .call { callee := .builtin .append, args := #[x, y], argTypes := #[sT, xT] }, ty, pos, aft, g⟩ e (q :: H1) K X :=
  S.accF (A := [q]) ((List.perm_append_singleton _ _).symm) hx ha hy hs hok hroom hk
end
end Go.GL
namespace Go.Stele
/-- What a step of the parser hands back: a value, the place and the number of open constructs; or a line and an error. -/
inductive Res (A : Type) where
  | ok (v : A) (at' op : Nat)
  | err (line e : Int)
def failLine (T : List Tok) (i : Nat) : Int := match T[min i (T.length - 1)]? with
  | some t => t.line
  | none => 1
def synErr {A : Type} (T : List Tok) (i : Nat) : Res A := .err (failLine T i) 3
def isTok (T : List Tok) (i : Nat) (xs : List (List UInt8)) : Bool := match T[i]? with
  | some t => (decide (t.kind = 3) || decide (t.kind = 4)) && xs.contains t.text
  | none => false
def sWord (T : List Tok) (k : Int) (i op : Nat) : Res (List UInt8) := match T[i]? with
  | some t => if t.kind = k then .ok t.text (i + 1) op else synErr T i
  | none => synErr T i
def sNeed (T : List Tok) (x : List UInt8) (i op : Nat) : Res Unit := if isTok T i [x] then .ok () (i + 1) op else synErr T i
def sBegin (T : List Tok) (x : List UInt8) (i op : Nat) : Res Unit :=
  if isTok T i [x] then (if 100 ≤ op then .err (failLine T i) 6 else .ok () (i + 1) (op + 1)) else synErr T i
def Res.bind {A B : Type} (r : Res A) (f : A → Nat → Nat → Res B) : Res B := match r with
  | .ok v i op => f v i op
  | .err l e => .err l e
def numOf (s : List UInt8) : Nat := match Go.Lib.parseUintB 32 s with
  | .ok u => u
  | _ => 0
end Go.Stele
/- What the parser computes, in plain Lean: expressions and statements, by fuel. -/
namespace Go.Stele
inductive Ex where
  | mk (op : List UInt8) (num : Nat) (name : List UInt8) (args : List Ex)
  deriving Inhabited
inductive Sm where
  | mk (kind : Int) (name : List UInt8) (index value : List Ex) (thn els : List Sm)
  deriving Inhabited
structure FnD where
  name : List UInt8
  params : List (List UInt8)
  locals : List (List UInt8)
  body : List Sm
  deriving Inhabited
structure Ar where
  name : List UInt8
  size : Nat
  deriving Inhabited
structure Pr where
  vars : List (List UInt8)
  arrays : List Ar
  funcs : List FnD
  deriving Inhabited
def lvOps : Nat → List (List UInt8)
  | 0 => [[124, 124]]
  | 1 => [[38, 38]]
  | 2 => [[61, 61], [33, 61], [60], [62], [60, 61], [62, 61]]
  | 3 => [[94]]
  | 4 => [[43], [45]]
  | 5 => [[42], [47], [37]]
  | _ => []
abbrev OR (A : Type) := Option (Res A)
def obind {A B : Type} (r : OR A) (f : A → Nat → Nat → OR B) : OR B := match r with
  | none => none
  | some (.ok v i op) => f v i op
  | some (.err l e) => some (.err l e)
def textAt (T : List Tok) (i : Nat) : List UInt8 := match T[i]? with
  | some t => t.text
  | none => []
def kindAt (T : List Tok) (i : Nat) : Int := match T[i]? with
  | some t => t.kind
  | none => 0
def sEnd (T : List Tok) (x : List UInt8) (i op : Nat) : Res Unit := (sNeed T x i op).bind fun _ i' op' => .ok () i' (op' - 1)
def sNumber (T : List Tok) (i op : Nat) : Res Nat := (sWord T 1 i op).bind fun s i' op' => .ok (numOf s) i' op'
def sNamesLoop (T : List Tok) : Nat → List (List UInt8) → Nat → Nat → OR (List (List UInt8))
  | 0, _, _, _ => none
  | f + 1, acc, i, op => if isTok T i [[44]] then obind (some (sWord T 2 (i + 1) op)) fun s i' op' => sNamesLoop T f (acc ++ [s]) i' op' else some (.ok acc i op)
def sNames (T : List Tok) (f : Nat) (i op : Nat) : OR (List (List UInt8)) := obind (some (sWord T 2 i op)) fun s i' op' => sNamesLoop T f [s] i' op'
def nNeg : List UInt8 := [110, 101, 103]
def nNot : List UInt8 := [110, 111, 116]
def nNum : List UInt8 := [110, 117, 109]
def nElem : List UInt8 := [101, 108, 101, 109]
def nCall : List UInt8 := [99, 97, 108, 108]
def nVar : List UInt8 := [118, 97, 114]
mutual
def eLev (T : List Tok) : Nat → Nat → Nat → Nat → OR Ex
  | 0, _, _, _ => none
  | f + 1, k, i, op => if k = 6 then eUnary T f i op else obind (eLev T f (k + 1) i op) fun e i' op' => eLoop T f k e i' op'
def eLoop (T : List Tok) : Nat → Nat → Ex → Nat → Nat → OR Ex
  | 0, _, _, _, _ => none
  | f + 1, k, e, i, op =>
    if isTok T i (lvOps k) then obind (eLev T f (k + 1) (i + 1) op) fun e2 i' op' =>
      if k = 2 then some (.ok (.mk (textAt T i) 0 [] [e, e2]) i' op') else eLoop T f k (.mk (textAt T i) 0 [] [e, e2]) i' op'
    else some (.ok e i op)
def eUnary (T : List Tok) : Nat → Nat → Nat → OR Ex
  | 0, _, _ => none
  | f + 1, i, op =>
    if isTok T i [[45]] then obind (some (sBegin T [45] i op)) fun _ i' op' => obind (eUnary T f i' op') fun e i' op' => some (.ok (.mk nNeg 0 [] [e]) i' (op' - 1))
    else if isTok T i [[33]] then obind (some (sBegin T [33] i op)) fun _ i' op' => obind (eUnary T f i' op') fun e i' op' => some (.ok (.mk nNot 0 [] [e]) i' (op' - 1))
    else ePrim T f i op
def ePrim (T : List Tok) : Nat → Nat → Nat → OR Ex
  | 0, _, _ => none
  | f + 1, i, op =>
    if isTok T i [[40]] then obind (some (sBegin T [40] i op)) fun _ i' op' => obind (eLev T f 0 i' op') fun e i' op' => obind (some (sEnd T [41] i' op')) fun _ i' op' => some (.ok e i' op')
    else if kindAt T i = 1 then obind (some (sNumber T i op)) fun n i' op' => some (.ok (.mk nNum n [] []) i' op')
    else obind (some (sWord T 2 i op)) fun s i' op' =>
      if isTok T i' [[91]] then obind (eIndex T f i' op') fun e i' op' => some (.ok (.mk nElem 0 s [e]) i' op')
      else if isTok T i' [[40]] then obind (eArgs T f i' op') fun l i' op' => some (.ok (.mk nCall 0 s l) i' op')
      else some (.ok (.mk nVar 0 s []) i' op')
def eIndex (T : List Tok) : Nat → Nat → Nat → OR Ex
  | 0, _, _ => none
  | f + 1, i, op => obind (some (sBegin T [91] i op)) fun _ i' op' => obind (eLev T f 0 i' op') fun e i' op' => obind (some (sEnd T [93] i' op')) fun _ i' op' => some (.ok e i' op')
def eArgs (T : List Tok) : Nat → Nat → Nat → OR (List Ex)
  | 0, _, _ => none
  | f + 1, i, op => obind (some (sBegin T [40] i op)) fun _ i' op' => obind (eArgsLoop T f [] i' op') fun l i' op' => obind (some (sEnd T [41] i' op')) fun _ i' op' => some (.ok l i' op')
def eArgsLoop (T : List Tok) : Nat → List Ex → Nat → Nat → OR (List Ex)
  | 0, _, _, _ => none
  | f + 1, acc, i, op =>
    if isTok T i [[41]] then some (.ok acc i op)
    else obind (some (if acc = [] then .ok () i op else sNeed T [44] i op)) fun _ i' op' => obind (eLev T f 0 i' op') fun e i' op' => eArgsLoop T f (acc ++ [e]) i' op'
end
def kwIf : List UInt8 := [105, 102]
def kwElse : List UInt8 := [101, 108, 115, 101]
def kwWhile : List UInt8 := [119, 104, 105, 108, 101]
def kwReturn : List UInt8 := [114, 101, 116, 117, 114, 110]
def kwHalt : List UInt8 := [104, 97, 108, 116]
def kwVar : List UInt8 := [118, 97, 114]
def kwArray : List UInt8 := [97, 114, 114, 97, 121]
def kwFunc : List UInt8 := [102, 117, 110, 99]
end Go.Stele
namespace Go.Stele
mutual
def sBlock (T : List Tok) : Nat → Nat → Nat → OR (List Sm)
  | 0, _, _ => none
  | f + 1, i, op => obind (some (sBegin T [123] i op)) fun _ i' op' => obind (sStmts T f [] i' op') fun l i' op' => obind (some (sEnd T [125] i' op')) fun _ i' op' => some (.ok l i' op')
def sStmts (T : List Tok) : Nat → List Sm → Nat → Nat → OR (List Sm)
  | 0, _, _, _ => none
  | f + 1, acc, i, op => if isTok T i [[125]] then some (.ok acc i op) else obind (sStmt T f i op) fun s i' op' => sStmts T f (acc ++ [s]) i' op'
def sStmt (T : List Tok) : Nat → Nat → Nat → OR Sm
  | 0, _, _ => none
  | f + 1, i, op =>
    if isTok T i [kwIf] then obind (eLev T f 0 (i + 1) op) fun e i' op' => obind (sBlock T f i' op') fun th i' op' =>
      if isTok T i' [kwElse] then obind (sBlock T f (i' + 1) op') fun el i' op' => some (.ok (.mk 3 [] [] [e] th el) i' op') else some (.ok (.mk 3 [] [] [e] th []) i' op')
    else if isTok T i [kwWhile] then obind (eLev T f 0 (i + 1) op) fun e i' op' => obind (sBlock T f i' op') fun th i' op' => some (.ok (.mk 4 [] [] [e] th []) i' op')
    else obind (sSimple T f i op) fun s i' op' => obind (some (sNeed T [59] i' op')) fun _ i' op' => some (.ok s i' op')
def sSimple (T : List Tok) : Nat → Nat → Nat → OR Sm
  | 0, _, _ => none
  | f + 1, i, op =>
    if isTok T i [kwReturn] then obind (eLev T f 0 (i + 1) op) fun e i' op' => some (.ok (.mk 5 [] [] [e] [] []) i' op')
    else if isTok T i [kwHalt] then some (.ok (.mk 7 [] [] [] [] []) (i + 1) op)
    else obind (some (sWord T 2 i op)) fun s i' op' =>
      if isTok T i' [[40]] then obind (eArgs T f i' op') fun l i' op' => some (.ok (.mk 6 [] [] [.mk nCall 0 s l] [] []) i' op')
      else if isTok T i' [[91]] then obind (eIndex T f i' op') fun x i' op' => obind (some (sNeed T [61] i' op')) fun _ i' op' => obind (eLev T f 0 i' op') fun e i' op' => some (.ok (.mk 2 s [x] [e] [] []) i' op')
      else obind (some (sNeed T [61] i' op')) fun _ i' op' => obind (eLev T f 0 i' op') fun e i' op' => some (.ok (.mk 1 s [] [e] [] []) i' op')
end
def sVars (T : List Tok) : Nat → List (List UInt8) → Nat → Nat → OR (List (List UInt8))
  | 0, _, _, _ => none
  | f + 1, acc, i, op => if isTok T i [kwVar] then obind (sNames T f (i + 1) op) fun l i' op' => obind (some (sNeed T [59] i' op')) fun _ i' op' => sVars T f (acc ++ l) i' op' else some (.ok acc i op)
def sFunc (T : List Tok) (f : Nat) (i op : Nat) : OR FnD :=
  obind (some (sWord T 2 i op)) fun nm i' op' => obind (some (sBegin T [40] i' op')) fun _ i' op' =>
  obind (if isTok T i' [[41]] then some (.ok [] i' op') else sNames T f i' op') fun ps i' op' => obind (some (sEnd T [41] i' op')) fun _ i' op' =>
  obind (some (sBegin T [123] i' op')) fun _ i' op' => obind (sVars T f [] i' op') fun ls i' op' => obind (sStmts T f [] i' op') fun b i' op' =>
  obind (some (sEnd T [125] i' op')) fun _ i' op' => some (.ok ⟨nm, ps, ls, b⟩ i' op')
def sArray (T : List Tok) (i op : Nat) : OR Ar :=
  obind (some (sWord T 2 i op)) fun nm i' op' => obind (some (sBegin T [91] i' op')) fun _ i' op' => obind (some (sNumber T i' op')) fun n i' op' =>
  obind (some (sEnd T [93] i' op')) fun _ i' op' => obind (some (sNeed T [59] i' op')) fun _ i' op' => some (.ok ⟨nm, n⟩ i' op')
def sProg (T : List Tok) : Nat → Pr → Nat → Nat → OR Pr
  | 0, _, _, _ => none
  | f + 1, p, i, op =>
    if T.length ≤ i then some (.ok p i op)
    else if isTok T i [kwVar] then obind (sVars T f [] i op) fun l i' op' => sProg T f { p with vars := p.vars ++ l } i' op'
    else if isTok T i [kwArray] then obind (sArray T (i + 1) op) fun a i' op' => sProg T f { p with arrays := p.arrays ++ [a] } i' op'
    else if isTok T i [kwFunc] then obind (sFunc T f (i + 1) op) fun a i' op' => sProg T f { p with funcs := p.funcs ++ [a] } i' op'
    else some (synErr T i)
end Go.Stele
namespace Go.Proofs.YtfodkbchknknjaaGreatDoor
open Go.GL Go.RowKit Go.Stele
set_option maxRecDepth 100000
set_option maxHeartbeats 4000000
attribute [local irreducible] LOps LCode LStep LCalls Go.GL.Pure QThen QBlock RetPost LQ LAny LLate LLateOp
@[reducible] def srcH (sb : Nat) (T : List Tok) (i op : Nat) : Nat × LObj := (sb, .cells 61 [.list (T.map encTok), int .i64 i, int .i64 op])
def pan (l e : Int) : List PanicEntry := [{ v := .iface 57 (.agg #[.int .i64 l, .int .i64 e]), recovered := false }]
def PostP {A : Type} (sb : Nat) (T : List Tok) (enc : A → LV) (res : Res A) (r : LRes) (H : Heap) : Prop := match res with
  | .ok v i op => r = .ret (enc v) ∧ H = [srcH sb T i op]
  | .err l e => r = .panic (pan l e) ∧ ∃ i op : Nat, H = [srcH sb T i op]
def encU : Unit → LV := fun _ => .tuple []
theorem map_get {A : Type} (f : A → LV) (l : List A) (i : Nat) (h : i < l.length) : (l.map f)[((i : Nat) : Int).toNat]? = some (f l[i]) := by
  rw [Int.toNat_natCast, List.getElem?_map, List.getElem?_eq_getElem h]
  rfl
theorem and_eq {a b : Bool} (h : a = true) : (a && b) = b := by rw [h]; rfl
section
variable {B0 : Nat} {w0 : World}
theorem is_spec (sb : Nat) (T : List Tok) (i op : Nat) (xs : List (List UInt8)) (hT : T.length ≤ 100000) (hi : i ≤ 1000000) (hx : xs.length ≤ 1000) :
    LCalls (KC B0 w0) 59 [ptr sb 0, .list (xs.map str)] [srcH sb T i op] (fun r H => r = .ret (bool (isTok T i xs)) ∧ H = [srcH sb T i op]) := by
  refine LCalls.intro Tryz.func59 rfl (n := 40) rfl rfl rfl ?_
  repeat first
    | refine LOps.nil ?_
    | refine LCode.seq ?_
    | refine LCode.region ?_
    | refine QThen.normal ?_
    | refine LOps.pure (Pure.as (lv := .atom _) rfl) rfl ?_
  refine LCode.cut [(0, ptr sb 0), (1, .list (xs.map str)), (15, bool (decide (T.length ≤ i)))] ?_ (fun j hj => ?_)
  · refine LCode.quiet (by kernel_rfl) ?_
    repeat first
      | refine LQ.pure (Pure.mv (lv := .atom _) rfl) rfl ?_
      | refine LQ.pure (Pure.nilCheckH rfl) rfl ?_
      | refine LQ.pure (Pure.fieldH rfl) rfl ?_
      | refine LQ.pure (Pure.loadH (c := .atom _) rfl (List.Mem.head _) rfl) rfl ?_
      | refine LQ.pure (Pure.loadH (c := .list _) rfl (List.Mem.head _) rfl) rfl ?_
      | refine LQ.pure (Pure.llen rfl) rfl ?_
      | refine LQ.pure (Pure.geq rfl rfl) rfl ?_
      | refine LQ.nil ?_
      | refine QThen.normal ?_
    exact ⟨⟨rfl, rfl, bool_eq (by rw [decide_eq_decide]; simp), trivial⟩, rfl, rfl⟩
  · skip
    refine LCode.cond rfl (fun hc => ?_) (fun hc => ?_)
    · repeat first
        | refine LOps.nil ?_
        | refine LCode.seq ?_
        | refine LCode.region ?_
        | refine LCode.ret ?_
        | refine QThen.normal ?_
        | refine QThen.ret ?_
        | refine LOps.pure (Pure.as (lv := .atom _) rfl) rfl ?_
      exact RetPost.ret hj (AllRes.cons (ResIs.tmp (v := .atom _) rfl (LV.Sub.refl _)) AllRes.nil) (HSub.refl _) ⟨by rw [isTok, List.getElem?_eq_none (of_decide_eq_true hc)]; rfl, rfl⟩
    · have hlt : i < T.length := by have := of_decide_eq_false hc; omega
      repeat first
        | refine LCode.seq ?_
        | refine LCode.skip ?_
        | refine QThen.normal ?_
      refine LCode.draw (m := 12) rfl [srcH sb T i op] ?_
      refine LAny.take (i := 0) (by first | exact HSub.nil _ | exact HSub.refl _ | exact HSub.drop (HSub.refl _) | exact HSub.pick Pick.here (HSub.nil _) | exact HSub.pick (Pick.there Pick.here) (HSub.nil _) | exact HSub.pick (Pick.there (Pick.there Pick.here)) (HSub.nil _)) rfl (by kernel_rfl) (by kernel_rfl) (by kernel_rfl) rfl (Pure.mv (lv := .atom _) rfl) ?_
      refine LAny.take (i := 1) (by first | exact HSub.nil _ | exact HSub.refl _ | exact HSub.drop (HSub.refl _) | exact HSub.pick Pick.here (HSub.nil _) | exact HSub.pick (Pick.there Pick.here) (HSub.nil _) | exact HSub.pick (Pick.there (Pick.there Pick.here)) (HSub.nil _)) rfl (by kernel_rfl) (by kernel_rfl) (by kernel_rfl) rfl (Pure.nilCheckH rfl) ?_
      refine LAny.take (i := 2) (by first | exact HSub.nil _ | exact HSub.refl _ | exact HSub.drop (HSub.refl _) | exact HSub.pick Pick.here (HSub.nil _) | exact HSub.pick (Pick.there Pick.here) (HSub.nil _) | exact HSub.pick (Pick.there (Pick.there Pick.here)) (HSub.nil _)) rfl (by kernel_rfl) (by kernel_rfl) (by kernel_rfl) rfl (Pure.fieldH rfl) ?_
      refine LAny.take (i := 3) (by first | exact HSub.nil _ | exact HSub.refl _ | exact HSub.drop (HSub.refl _) | exact HSub.pick Pick.here (HSub.nil _) | exact HSub.pick (Pick.there Pick.here) (HSub.nil _) | exact HSub.pick (Pick.there (Pick.there Pick.here)) (HSub.nil _)) rfl (by kernel_rfl) (by kernel_rfl) (by kernel_rfl) rfl (Pure.loadH (c := .list _) rfl (List.Mem.head _) rfl) ?_
      refine LAny.take (i := 4) (by first | exact HSub.nil _ | exact HSub.refl _ | exact HSub.drop (HSub.refl _) | exact HSub.pick Pick.here (HSub.nil _) | exact HSub.pick (Pick.there Pick.here) (HSub.nil _) | exact HSub.pick (Pick.there (Pick.there Pick.here)) (HSub.nil _)) rfl (by kernel_rfl) (by kernel_rfl) (by kernel_rfl) rfl (Pure.mv (lv := .atom _) rfl) ?_
      refine LAny.take (i := 5) (by first | exact HSub.nil _ | exact HSub.refl _ | exact HSub.drop (HSub.refl _) | exact HSub.pick Pick.here (HSub.nil _) | exact HSub.pick (Pick.there Pick.here) (HSub.nil _) | exact HSub.pick (Pick.there (Pick.there Pick.here)) (HSub.nil _)) rfl (by kernel_rfl) (by kernel_rfl) (by kernel_rfl) rfl (Pure.nilCheckH rfl) ?_
      refine LAny.take (i := 6) (by first | exact HSub.nil _ | exact HSub.refl _ | exact HSub.drop (HSub.refl _) | exact HSub.pick Pick.here (HSub.nil _) | exact HSub.pick (Pick.there Pick.here) (HSub.nil _) | exact HSub.pick (Pick.there (Pick.there Pick.here)) (HSub.nil _)) rfl (by kernel_rfl) (by kernel_rfl) (by kernel_rfl) rfl (Pure.fieldH rfl) ?_
      refine LAny.take (i := 7) (by first | exact HSub.nil _ | exact HSub.refl _ | exact HSub.drop (HSub.refl _) | exact HSub.pick Pick.here (HSub.nil _) | exact HSub.pick (Pick.there Pick.here) (HSub.nil _) | exact HSub.pick (Pick.there (Pick.there Pick.here)) (HSub.nil _)) rfl (by kernel_rfl) (by kernel_rfl) (by kernel_rfl) rfl (Pure.loadH (c := .atom _) rfl (List.Mem.head _) rfl) ?_
      refine LAny.take (i := 8) (HSub.refl _) rfl (by kernel_rfl) (by kernel_rfl) (by kernel_rfl) rfl (Pure.ixRef (el' := encTok T[i]) (cs := [_, _, _]) rfl rfl (by omega) (map_get _ _ _ hlt) rfl rfl) ?_
      refine LAny.take (i := 9) (by first | exact HSub.nil _ | exact HSub.refl _ | exact HSub.drop (HSub.refl _) | exact HSub.pick Pick.here (HSub.nil _) | exact HSub.pick (Pick.there Pick.here) (HSub.nil _) | exact HSub.pick (Pick.there (Pick.there Pick.here)) (HSub.nil _)) rfl (by kernel_rfl) (by kernel_rfl) (by kernel_rfl) rfl (Pure.ldRefAgg (cs' := [_, _, _]) rfl rfl rfl) ?_
      refine LAny.late ?_ (HSub.refl _)
      refine LLate.one (i := 10) (by kernel_rfl) (LLateOp.step (H1 := []) (F := [srcH sb T i op]) rfl (.inl rfl) rfl (List.Perm.refl _) (HSub.refl _) (S.alloc fun b => ?_))
      refine LLate.one (i := 11) (by kernel_rfl) (LLateOp.step (H1 := [(b, _)]) (F := [srcH sb T i op]) rfl (.inl rfl) rfl (List.Perm.refl _) (HSub.refl _) (S.store (cs' := [_, _, _]) rfl Pick.here rfl rfl rfl rfl rfl ?_))
      refine LLate.done (by kernel_rfl) ?_
      repeat first
        | refine LCode.seq ?_
        | refine LCode.region ?_
        | refine QThen.normal ?_
        | refine LOps.pure (Pure.mv (lv := .atom _) rfl) rfl ?_
        | refine LOps.pure (Pure.fieldH rfl) rfl ?_
        | refine LOps.pure (Pure.loadH (c := .atom _) rfl (List.Mem.head _) rfl) rfl ?_
        | refine LOps.pure (Pure.eql rfl rfl) rfl ?_
      have hsp : isTok T i xs = ((decide (T[i].kind = 3) || decide (T[i].kind = 4)) && xs.contains T[i].text) := by rw [isTok, List.getElem?_eq_getElem hlt]
      rw [hsp]
      refine LOps.bcase 29 rfl (fun h3 => ?_) (fun h3 => ?_)
      · repeat first
          | refine LOps.pure (Pure.mv (lv := .atom _) rfl) rfl ?_
          | refine LOps.pure (Pure.fieldH rfl) rfl ?_
          | refine LOps.pure (Pure.loadH (c := .atom _) rfl (List.Mem.head _) rfl) rfl ?_
          | refine LOps.pure (Pure.pickT (lv := .atom _) rfl rfl) rfl ?_
          | refine LOps.pure (Pure.mv (lv := .list _) rfl) rfl ?_
          | refine LOps.want rfl rfl ?_
          | refine LOps.skip rfl rfl rfl rfl ?_
        refine LOps.step (S.fn [_, _] rfl (Contains_spec xs T[i].text (by omega)) ?_) rfl
        repeat first
          | refine LOps.nil ?_
          | refine LCode.ret ?_
          | refine QThen.normal ?_
          | refine LOps.pure (Pure.as (lv := .atom _) rfl) rfl ?_
          | refine LOps.pure (Pure.pickT (lv := .atom _) rfl rfl) rfl ?_
        exact RetPost.ret hj (AllRes.cons (ResIs.tmp (v := .atom _) rfl (LV.Sub.refl _)) AllRes.nil) (HSub.drop (HSub.refl _)) ⟨by rw [h3]; rfl, rfl⟩
      · repeat first
          | refine LOps.pure (Pure.mv (lv := .atom _) rfl) rfl ?_
          | refine LOps.pure (Pure.fieldH rfl) rfl ?_
          | refine LOps.pure (Pure.loadH (c := .atom _) rfl (List.Mem.head _) rfl) rfl ?_
          | refine LOps.pure (Pure.eql rfl rfl) rfl ?_
          | refine LOps.pure (Pure.pickF (lv := .atom _) rfl rfl) rfl ?_
          | refine LOps.want rfl rfl ?_
        refine LOps.bcase 34 rfl (fun h4 => ?_) (fun h4 => ?_)
        · repeat first
            | refine LOps.pure (Pure.fieldH rfl) rfl ?_
            | refine LOps.pure (Pure.loadH (c := .atom _) rfl (List.Mem.head _) rfl) rfl ?_
            | refine LOps.pure (Pure.mv (lv := .list _) rfl) rfl ?_
            | refine LOps.want rfl rfl ?_
          refine LOps.step (S.fn [_, _] rfl (Contains_spec xs T[i].text (by omega)) ?_) rfl
          repeat first
            | refine LOps.nil ?_
            | refine LCode.ret ?_
            | refine QThen.normal ?_
            | refine LOps.pure (Pure.as (lv := .atom _) rfl) rfl ?_
            | refine LOps.pure (Pure.pickT (lv := .atom _) rfl rfl) rfl ?_
          exact RetPost.ret hj (AllRes.cons (ResIs.tmp (v := .atom _) rfl (LV.Sub.refl _)) AllRes.nil) (HSub.drop (HSub.refl _)) ⟨by rw [h3, h4]; rfl, rfl⟩
        · repeat first
            | refine LOps.nil ?_
            | refine LCode.ret ?_
            | refine QThen.normal ?_
            | refine LOps.pure (Pure.as (lv := .atom _) rfl) rfl ?_
            | refine LOps.pure (Pure.pickF (lv := .atom _) rfl rfl) rfl ?_
            | refine LOps.skip rfl rfl rfl rfl ?_
          exact RetPost.ret hj (AllRes.cons (ResIs.tmp (v := .atom _) rfl (LV.Sub.refl _)) AllRes.nil) (HSub.drop (HSub.refl _)) ⟨by rw [h3, h4]; rfl, rfl⟩
end
end Go.Proofs.YtfodkbchknknjaaGreatDoor
namespace Go.Proofs.YtfodkbchknknjaaGreatDoor
open Go.GL Go.RowKit Go.Stele
set_option maxRecDepth 100000
set_option maxHeartbeats 4000000
section steps
variable {C : Ctx} {e : Env} {H : Heap} {dst : Option Nat} {ty : TypeId} {pos : String} {aft : Array Edge} {g : Option (Nat × Bool)} {K : LV → Heap → Prop} {X : List PanicEntry → Heap → Prop}
theorem S.fnH {f : FuncId} [TEnter C.P f] (args : List Operand) {ats : Array TypeId} {av : List LV} {lv : LV} {p p' : Nat × LObj} {F : Heap} (has : args.map e.ev = av) (hp : Pick p H F) (hc : LCalls C f av [p] (fun r H => r = .ret lv ∧ H = [p'])) (hk : K lv (p' :: F)) :
    LStep C ⟨dst, .call { callee := .value (.func f), args := args.toArray, argTypes := ats }, ty, pos, aft, g⟩ e H K X :=
  S.call1 args has hp hc (by rintro v H' ⟨h, rfl⟩; cases h; exact hk) (by rintro ch H' ⟨h, _⟩; cases h)
theorem S.callP {A : Type} {enc : A → LV} {res : Res A} {sb i op : Nat} {T : List Tok} {f : FuncId} [TEnter C.P f] (args : List Operand) {ats : Array TypeId} {av : List LV} {F : Heap} (has : args.map e.ev = av) (hp : Pick (srcH sb T i op) H F)
    (hc : LCalls C f av [srcH sb T i op] (PostP sb T enc res)) (hk : ∀ v i' op', res = .ok v i' op' → K (enc v) (srcH sb T i' op' :: F)) (hx : ∀ l er i' op', res = .err l er → X (pan l er) (srcH sb T i' op' :: F)) :
    LStep C ⟨dst, .call { callee := .value (.func f), args := args.toArray, argTypes := ats }, ty, pos, aft, g⟩ e H K X := by
  refine S.call1 args has hp hc ?_ ?_
  · intro v H' h
    cases hr : res with
    | ok u i' op' =>
      rw [hr] at h
      obtain ⟨h1, rfl⟩ := h
      cases h1
      exact hk _ _ _ hr
    | err l er =>
      rw [hr] at h
      obtain ⟨h1, _⟩ := h
      cases h1
  · intro ch H' h
    cases hr : res with
    | ok u i' op' =>
      rw [hr] at h
      obtain ⟨h1, _⟩ := h
      cases h1
    | err l er =>
      rw [hr] at h
      obtain ⟨h1, i', op', rfl⟩ := h
      cases h1
      exact hx _ _ _ _ hr
theorem retP {A : Type} {enc : A → LV} {res : Res A} {sb : Nat} {T : List Tok} {n : Nat} {rs : List ResultVar} {vs : List LV} {v : A} {i op : Nat} (hd : e.ds = []) (h : AllRes C n e H rs vs) (hr : res = .ok v i op) (hv : resLV vs = enc v) (hH : HSub [srcH sb T i op] H) :
    RetPost C n rs (PostP sb T enc res) .ret e H := RetPost.ret hd h hH (by rw [hr]; exact ⟨by rw [hv], rfl⟩)
theorem retPn {A : Type} {enc : A → LV} {res : Res A} {sb : Nat} {T : List Tok} {n : Nat} {rs : List ResultVar} {vs : List LV} {v : A} {i op : Nat} (hd : e.ds = []) (h : AllRes C n e H rs vs) (hr : res = .ok v i op) (hv : resLV vs = enc v) (hH : HSub [srcH sb T i op] H) :
    RetPost C n rs (PostP sb T enc res) .normal e H := RetPost.normal hd h hH (by rw [hr]; exact ⟨by rw [hv], rfl⟩)
theorem panP {A : Type} {enc : A → LV} {res : Res A} {sb : Nat} {T : List Tok} {n : Nat} {rs : List ResultVar} {i op : Nat} {l er : Int} (hd : e.ds = []) (hr : res = .err l er) (hH : HSub [srcH sb T i op] H) :
    RetPost C n rs (PostP sb T enc res) (.panic (pan l er)) e H := RetPost.panic hd hH (by rw [hr]; exact ⟨rfl, i, op, rfl⟩)
end steps
attribute [local irreducible] LOps LCode LStep LCalls Go.GL.Pure QThen QBlock RetPost LQ LAny LLate LLateOp
section
variable {B0 : Nat} {w0 : World}
theorem fail_spec {A : Type} (enc : A → LV) (sb : Nat) (T : List Tok) (i op : Nat) (er : Int) (hT : T.length ≤ 100000) (hi : i ≤ 1000000) :
    LCalls (KC B0 w0) 64 [ptr sb 0, int .i64 er] [srcH sb T i op] (PostP sb T enc (.err (failLine T i) er)) := by
  have hml : (T.map encTok).length = T.length := List.length_map _
  refine LCalls.intro Tryz.func64 rfl (n := 31) rfl rfl rfl ?_
  repeat first
    | refine LOps.nil ?_
    | refine LCode.seq ?_
    | refine LCode.region ?_
    | refine QThen.normal ?_
    | refine LOps.pure (Pure.as (lv := .atom _) rfl) rfl ?_
    | refine LOps.pure (Pure.mv (lv := .atom _) rfl) rfl ?_
    | refine LOps.pure (Pure.nilCheckH rfl) rfl ?_
    | refine LOps.pure (Pure.fieldH rfl) rfl ?_
    | refine LOps.pure (Pure.loadH (c := .list _) rfl (List.Mem.head _) rfl) rfl ?_
    | refine LOps.pure (Pure.llen rfl) rfl ?_
    | refine LOps.pure (Pure.gtr rfl rfl) rfl ?_
  refine LCode.cut [(0, ptr sb 0), (1, int .i64 er), (4, int .i64 (failLine T i))] ?_ (fun j hj => ?_)
  · refine LCode.cond rfl (fun hc => ?_) (fun hc => ?_)
    · have hpos : 0 < T.length := by have := of_decide_eq_true hc; simp at this; omega
      have hmin : min i (T.length - 1) < T.length := by omega
      have hmv : (if ((T.map encTok).length : Int) - 1 < (i : Int) then ((T.map encTok).length : Int) - 1 else (i : Int)) = ((min i (T.length - 1) : Nat) : Int) := by
        rw [List.length_map]
        split <;> omega
      refine LCode.quiet (by kernel_rfl) ?_
      repeat first
        | refine LQ.pure (Pure.mv (lv := .atom _) rfl) rfl ?_
        | refine LQ.pure (Pure.nilCheckH rfl) rfl ?_
        | refine LQ.pure (Pure.fieldH rfl) rfl ?_
        | refine LQ.pure (Pure.loadH (c := .list _) rfl (List.Mem.head _) rfl) rfl ?_
        | refine LQ.pure (Pure.loadH (c := .atom _) rfl (List.Mem.head _) rfl) rfl ?_
        | refine LQ.pure (Pure.sub rfl rfl (by omega)) rfl ?_
        | refine LQ.pure (Pure.minI rfl rfl) rfl ?_
      refine LQ.pure (Pure.ixRef (n := ((min i (T.length - 1) : Nat) : Int)) (el' := encTok T[min i (T.length - 1)]) (cs := [_, _, _]) rfl (congrArg (int .i64) hmv) (by omega) (map_get _ _ _ hmin) rfl rfl) rfl ?_
      repeat first
        | refine LQ.pure (Pure.as (lv := .atom _) rfl) rfl ?_
        | refine LQ.pure (Pure.field1 rfl rfl) rfl ?_
        | refine LQ.pure (Pure.loadRef (c := .atom _) rfl rfl) rfl ?_
        | refine LQ.nil ?_
        | refine QThen.normal ?_
      exact ⟨⟨rfl, rfl, int_eq (by rw [failLine, List.getElem?_eq_getElem hmin]), trivial⟩, rfl, rfl⟩
    · have hz : T = [] := by
        have := of_decide_eq_false hc
        exact List.length_eq_zero_iff.1 (by omega)
      repeat first
        | refine LCode.skip ?_
        | refine QThen.normal ?_
      exact ⟨⟨rfl, rfl, int_eq (by rw [failLine, hz]; rfl), trivial⟩, rfl, rfl⟩
  · repeat first
      | refine LCode.region ?_
      | refine LOps.pure (Pure.mv (lv := .atom _) rfl) rfl ?_
      | refine LOps.pure (Pure.bld _ (cs := [_, _]) rfl) rfl ?_
      | refine LOps.pure (Pure.makeInterfaceAgg (vs := [_, _]) rfl) rfl ?_
    refine LOps.step (LStep.panic rfl fun e' he' => ?_) rfl
    exact panP (he'.trans hj) rfl (HSub.refl _)
theorem take_spec (sb : Nat) (T : List Tok) (i op : Nat) (x : List UInt8) (hT : T.length ≤ 100000) (hi : i ≤ 1000000) :
    LCalls (KC B0 w0) 61 [ptr sb 0, str x] [srcH sb T i op] (fun r H => r = .ret (bool (isTok T i [x])) ∧ H = [srcH sb T (if isTok T i [x] then i + 1 else i) op]) := by
  refine LCalls.intro Tryz.func61 rfl (n := 17) rfl rfl rfl ?_
  repeat first
    | refine LOps.nil ?_
    | refine LCode.seq ?_
    | refine LCode.region ?_
    | refine QThen.normal ?_
    | refine LOps.pure (Pure.as (lv := .atom _) rfl) rfl ?_
    | refine LOps.pure (Pure.mv (lv := .atom _) rfl) rfl ?_
  refine LOps.step (S.lit [_] rfl (elemsOk.cons rfl rfl elemsOk.nil) rfl rfl rfl ?_) rfl
  refine LOps.step (S.fnH [_, _] rfl Pick.here (is_spec sb T i op [x] hT hi (by simp)) ?_) rfl
  repeat first
    | refine LOps.nil ?_
    | refine QThen.normal ?_
    | refine LOps.pure (Pure.not rfl) rfl ?_
  refine LCode.cond rfl (fun hc => ?_) (fun hc => ?_)
  · have h : isTok T i [x] = false := by simpa using hc
    repeat first
      | refine LOps.nil ?_
      | refine LCode.seq ?_
      | refine LCode.region ?_
      | refine LCode.ret ?_
      | refine QThen.normal ?_
      | refine QThen.ret ?_
      | refine LOps.pure (Pure.as (lv := .atom _) rfl) rfl ?_
    exact RetPost.ret rfl (AllRes.cons (ResIs.tmp (v := .atom _) rfl (LV.Sub.refl _)) AllRes.nil) (HSub.refl _) ⟨by rw [h]; rfl, by rw [h]; rfl⟩
  · have h : isTok T i [x] = true := by simpa using hc
    repeat first
      | refine LOps.nil ?_
      | refine LCode.seq ?_
      | refine LCode.region ?_
      | refine LCode.skip ?_
      | refine LCode.ret ?_
      | refine QThen.normal ?_
      | refine LOps.pure (Pure.as (lv := .atom _) rfl) rfl ?_
      | refine LOps.pure (Pure.mv (lv := .atom _) rfl) rfl ?_
      | refine LOps.pure (Pure.nilCheckH rfl) rfl ?_
      | refine LOps.pure (Pure.fieldH rfl) rfl ?_
      | refine LOps.pure (Pure.loadH (c := .atom _) rfl (List.Mem.head _) rfl) rfl ?_
      | refine LOps.pure (Pure.add rfl rfl (by omega)) rfl ?_
      | refine LOps.step (S.store (cs' := [_, _, _]) rfl Pick.here rfl rfl rfl rfl rfl ?_) rfl
    exact RetPost.ret rfl (AllRes.cons (ResIs.tmp (v := .atom _) rfl (LV.Sub.refl _)) AllRes.nil) (HSub.refl _) ⟨by rw [h]; rfl, by rw [h]; rfl⟩
theorem need_spec (sb : Nat) (T : List Tok) (i op : Nat) (x : List UInt8) (hT : T.length ≤ 100000) (hi : i ≤ 1000000) :
    LCalls (KC B0 w0) 95 [ptr sb 0, str x] [srcH sb T i op] (PostP sb T encU (sNeed T x i op)) := by
  refine LCalls.intro Tryz.func95 rfl (n := 10) rfl rfl rfl ?_
  repeat first
    | refine LCode.seq ?_
    | refine LCode.region ?_
    | refine LOps.pure (Pure.mv (lv := .atom _) rfl) rfl ?_
  refine LOps.step (S.fnH [_, _] rfl Pick.here (take_spec sb T i op x hT hi) ?_) rfl
  repeat first
    | refine LOps.nil ?_
    | refine QThen.normal ?_
    | refine LOps.pure (Pure.not rfl) rfl ?_
  refine LCode.cond rfl (fun hc => ?_) (fun hc => ?_)
  · have h : isTok T i [x] = false := by simpa using hc
    simp only [h, Bool.false_eq_true, if_false]
    repeat first
      | refine LCode.region ?_
      | refine LOps.pure (Pure.mv (lv := .atom _) rfl) rfl ?_
    refine LOps.step (S.callP [_, _] rfl Pick.here (fail_spec encU sb T i op 3 hT hi) (fun _ _ _ h => by cases h) (fun l er i' op' h e' he' => ?_)) rfl
    cases h
    exact panP (he'.trans rfl) (by rw [sNeed, h, if_neg (by decide)]; rfl) (HSub.refl _)
  · have h : isTok T i [x] = true := by simpa using hc
    simp only [h, if_true]
    repeat first
      | refine LCode.skip ?_
    exact retPn rfl AllRes.nil (by rw [sNeed, h, if_pos rfl]) rfl (HSub.refl _)
theorem word_spec (sb : Nat) (T : List Tok) (i op : Nat) (k : Int) (hT : T.length ≤ 100000) (hi : i ≤ 1000000) :
    LCalls (KC B0 w0) 96 [ptr sb 0, int .i64 k] [srcH sb T i op] (PostP sb T str (sWord T k i op)) := by
  have hml : (T.map encTok).length = T.length := List.length_map _
  refine LCalls.intro Tryz.func96 rfl (n := 51) rfl rfl rfl ?_
  repeat first
    | refine LOps.nil ?_
    | refine LCode.seq ?_
    | refine LCode.region ?_
    | refine QThen.normal ?_
    | refine LOps.pure (Pure.as (lv := .atom _) rfl) rfl ?_
  refine LCode.cut [(0, ptr sb 0), (1, int .i64 k), (29, bool (match T[i]? with | some t => !decide (t.kind = k) | none => true))] ?_ (fun j hj => ?_)
  · refine LCode.quiet (by kernel_rfl) ?_
    repeat first
      | refine LQ.pure (Pure.mv (lv := .atom _) rfl) rfl ?_
      | refine LQ.pure (Pure.nilCheckH rfl) rfl ?_
      | refine LQ.pure (Pure.fieldH rfl) rfl ?_
      | refine LQ.pure (Pure.loadH (c := .atom _) rfl (List.Mem.head _) rfl) rfl ?_
      | refine LQ.pure (Pure.loadH (c := .list _) rfl (List.Mem.head _) rfl) rfl ?_
      | refine LQ.pure (Pure.llen rfl) rfl ?_
      | refine LQ.pure (Pure.geq rfl rfl) rfl ?_
    refine LQ.bcase 15 rfl (fun h => ?_) (fun h => ?_)
    · have hge : T.length ≤ i := by have := of_decide_eq_true h; omega
      repeat first
        | refine LQ.pure (Pure.pickT (lv := .atom _) rfl rfl) rfl ?_
        | refine LQ.skip rfl rfl rfl rfl ?_
        | refine LQ.nil ?_
        | refine QThen.normal ?_
      exact ⟨⟨rfl, rfl, bool_eq (by rw [List.getElem?_eq_none hge]), trivial⟩, rfl, rfl⟩
    · have hlt : i < T.length := by have := of_decide_eq_false h; omega
      repeat first
        | refine LQ.pure (Pure.mv (lv := .atom _) rfl) rfl ?_
        | refine LQ.pure (Pure.nilCheckH rfl) rfl ?_
        | refine LQ.pure (Pure.fieldH rfl) rfl ?_
        | refine LQ.pure (Pure.loadH (c := .atom _) rfl (List.Mem.head _) rfl) rfl ?_
        | refine LQ.pure (Pure.loadH (c := .list _) rfl (List.Mem.head _) rfl) rfl ?_
        | refine LQ.want rfl rfl ?_
      refine LQ.pure (Pure.ixRef (el' := encTok T[i]) (cs := [_, _, _]) rfl rfl (by omega) (map_get _ _ _ hlt) rfl rfl) rfl ?_
      repeat first
        | refine LQ.pure (Pure.mv (lv := .atom _) rfl) rfl ?_
        | refine LQ.pure (Pure.field1 rfl rfl) rfl ?_
        | refine LQ.pure (Pure.loadRef (c := .atom _) rfl rfl) rfl ?_
        | refine LQ.pure (Pure.neq rfl rfl) rfl ?_
        | refine LQ.pure (Pure.pickF (lv := .atom _) rfl rfl) rfl ?_
        | refine LQ.want rfl rfl ?_
        | refine LQ.nil ?_
        | refine QThen.normal ?_
      exact ⟨⟨rfl, rfl, bool_eq (by rw [List.getElem?_eq_getElem hlt]), trivial⟩, rfl, rfl⟩
  · skip
    refine LCode.cond rfl (fun hc => ?_) (fun hc => ?_)
    · have hs : sWord T k i op = synErr T i := by
        unfold sWord
        cases hg : T[i]? with
        | none => rfl
        | some t =>
          rw [hg] at hc
          have : ¬ t.kind = k := by simpa using hc
          simp only
          rw [if_neg this]
      repeat first
        | refine LCode.region ?_
        | refine LOps.pure (Pure.mv (lv := .atom _) rfl) rfl ?_
      refine LOps.step (S.callP [_, _] rfl Pick.here (fail_spec str sb T i op 3 hT hi) (fun _ _ _ h => by cases h) (fun l er i' op' h e' he' => ?_)) rfl
      cases h
      repeat first
        | refine QThen.panic ?_
      exact panP (he'.trans hj) hs (HSub.refl _)
    · have hlt : i < T.length := by
        rcases Nat.lt_or_ge i T.length with h | h
        · exact h
        · rw [List.getElem?_eq_none h] at hc; cases hc
      rw [List.getElem?_eq_getElem hlt] at hc
      have hk : T[i].kind = k := by simpa using hc
      have hs : sWord T k i op = .ok T[i].text (i + 1) op := by rw [sWord, List.getElem?_eq_getElem hlt]; simp only; rw [if_pos hk]
      repeat first
        | refine LOps.nil ?_
        | refine LCode.seq ?_
        | refine LCode.region ?_
        | refine LCode.skip ?_
        | refine QThen.normal ?_
        | refine LOps.pure (Pure.mv (lv := .atom _) rfl) rfl ?_
        | refine LOps.pure (Pure.nilCheckH rfl) rfl ?_
        | refine LOps.pure (Pure.fieldH rfl) rfl ?_
        | refine LOps.pure (Pure.loadH (c := .atom _) rfl (List.Mem.head _) rfl) rfl ?_
        | refine LOps.pure (Pure.add rfl rfl (by omega)) rfl ?_
        | refine LOps.step (S.store (cs' := [_, _, _]) rfl Pick.here rfl rfl rfl rfl rfl ?_) rfl
      refine LCode.cut [(0, ptr sb 0), (4, str T[i].text)] ?_ (fun j2 hj2 => ?_)
      · refine LCode.quiet (by kernel_rfl) ?_
        repeat first
          | refine LQ.pure (Pure.mv (lv := .atom _) rfl) rfl ?_
          | refine LQ.pure (Pure.nilCheckH rfl) rfl ?_
          | refine LQ.pure (Pure.fieldH rfl) rfl ?_
          | refine LQ.pure (Pure.loadH (c := .atom _) rfl (List.Mem.head _) rfl) rfl ?_
          | refine LQ.pure (Pure.loadH (c := .list _) rfl (List.Mem.head _) rfl) rfl ?_
          | refine LQ.pure (Pure.sub rfl rfl (by omega)) rfl ?_
        refine LQ.pure (Pure.ixRef (n := ((i : Nat) : Int)) (el' := encTok T[i]) (cs := [_, _, _]) rfl (int_eq (by omega)) (by omega) (map_get _ _ _ hlt) rfl rfl) rfl ?_
        repeat first
          | refine LQ.pure (Pure.as (lv := .atom _) rfl) rfl ?_
          | refine LQ.pure (Pure.field1 rfl rfl) rfl ?_
          | refine LQ.pure (Pure.loadRef (c := .atom _) rfl rfl) rfl ?_
          | refine LQ.nil ?_
          | refine QThen.normal ?_
        exact ⟨⟨rfl, rfl, trivial⟩, rfl, rfl⟩
      · repeat first
          | refine LCode.ret ?_
        exact retP (hj2.trans hj) (AllRes.cons (ResIs.tmp (v := .atom _) rfl (LV.Sub.refl _)) AllRes.nil) hs rfl (HSub.refl _)
theorem begin_spec (sb : Nat) (T : List Tok) (i op : Nat) (x : List UInt8) (hT : T.length ≤ 100000) (hi : i ≤ 1000000) (ho : op ≤ 1000000) :
    LCalls (KC B0 w0) 97 [ptr sb 0, str x] [srcH sb T i op] (PostP sb T encU (sBegin T x i op)) := by
  refine LCalls.intro Tryz.func97 rfl (n := 32) rfl rfl rfl ?_
  repeat first
    | refine LCode.seq ?_
    | refine LCode.region ?_
    | refine LOps.pure (Pure.mv (lv := .atom _) rfl) rfl ?_
  refine LOps.step (S.lit [_] rfl (elemsOk.cons rfl rfl elemsOk.nil) rfl rfl rfl ?_) rfl
  refine LOps.step (S.fnH [_, _] rfl Pick.here (is_spec sb T i op [x] hT hi (by simp)) ?_) rfl
  repeat first
    | refine LOps.nil ?_
    | refine QThen.normal ?_
    | refine LOps.pure (Pure.not rfl) rfl ?_
  refine LCode.cond rfl (fun hc => ?_) (fun hc => ?_)
  · have h : isTok T i [x] = false := by simpa using hc
    repeat first
      | refine LCode.region ?_
      | refine LOps.pure (Pure.mv (lv := .atom _) rfl) rfl ?_
    refine LOps.step (S.callP [_, _] rfl Pick.here (fail_spec encU sb T i op 3 hT hi) (fun _ _ _ h => by cases h) (fun l er i' op' h' e' he' => ?_)) rfl
    cases h'
    repeat first
      | refine QThen.panic ?_
    exact panP (he'.trans rfl) (by rw [sBegin, h, if_neg (by decide)]; rfl) (HSub.refl _)
  · have h : isTok T i [x] = true := by simpa using hc
    repeat first
      | refine LOps.nil ?_
      | refine LCode.seq ?_
      | refine LCode.region ?_
      | refine LCode.skip ?_
      | refine QThen.normal ?_
      | refine LOps.pure (Pure.mv (lv := .atom _) rfl) rfl ?_
      | refine LOps.pure (Pure.nilCheckH rfl) rfl ?_
      | refine LOps.pure (Pure.fieldH rfl) rfl ?_
      | refine LOps.pure (Pure.loadH (c := .atom _) rfl (List.Mem.head _) rfl) rfl ?_
      | refine LOps.pure (Pure.geq rfl rfl) rfl ?_
    refine LCode.cond rfl (fun hd => ?_) (fun hd => ?_)
    · have hd' : 100 ≤ op := by have := of_decide_eq_true hd; omega
      repeat first
        | refine LCode.region ?_
        | refine LOps.pure (Pure.mv (lv := .atom _) rfl) rfl ?_
      refine LOps.step (S.callP [_, _] rfl Pick.here (fail_spec encU sb T i op 6 hT hi) (fun _ _ _ h => by cases h) (fun l er i' op' h' e' he' => ?_)) rfl
      cases h'
      repeat first
        | refine QThen.panic ?_
      exact panP (he'.trans rfl) (by rw [sBegin, h, if_pos rfl, if_pos hd']) (HSub.refl _)
    · have hd' : ¬ 100 ≤ op := by have := of_decide_eq_false hd; omega
      repeat first
        | refine LOps.nil ?_
        | refine LCode.seq ?_
        | refine LCode.region ?_
        | refine LCode.skip ?_
        | refine QThen.normal ?_
        | refine LOps.pure (Pure.mv (lv := .atom _) rfl) rfl ?_
        | refine LOps.pure (Pure.nilCheckH rfl) rfl ?_
        | refine LOps.pure (Pure.fieldH rfl) rfl ?_
        | refine LOps.pure (Pure.loadH (c := .atom _) rfl (List.Mem.head _) rfl) rfl ?_
        | refine LOps.pure (Pure.add rfl rfl (by omega)) rfl ?_
        | refine LOps.step (S.store (cs' := [_, _, _]) rfl Pick.here rfl rfl rfl rfl rfl ?_) rfl
      exact retPn rfl AllRes.nil (by rw [sBegin, h, if_pos rfl, if_neg hd']) rfl (HSub.refl _)
theorem end_spec (sb : Nat) (T : List Tok) (i op : Nat) (x : List UInt8) (hT : T.length ≤ 100000) (hi : i ≤ 1000000) (ho : op ≤ 1000000) (h1 : 1 ≤ op) :
    LCalls (KC B0 w0) 99 [ptr sb 0, str x] [srcH sb T i op] (PostP sb T encU (sEnd T x i op)) := by
  refine LCalls.intro Tryz.func99 rfl (n := 14) rfl rfl rfl ?_
  repeat first
    | refine LCode.seq ?_
    | refine LCode.region ?_
    | refine LOps.pure (Pure.mv (lv := .atom _) rfl) rfl ?_
  refine LOps.step (S.callP [_, _] rfl Pick.here (need_spec sb T i op x hT hi) (fun v i' op' h => ?_) (fun l er i' op' h e' he' => ?_)) rfl
  · have hop : op' = op := by
      unfold sNeed at h
      split at h
      · cases h; rfl
      · cases h
    subst hop
    repeat first
      | refine LOps.nil ?_
      | refine LCode.region ?_
      | refine QThen.normal ?_
      | refine LOps.pure (Pure.mv (lv := .atom _) rfl) rfl ?_
      | refine LOps.pure (Pure.nilCheckH rfl) rfl ?_
      | refine LOps.pure (Pure.fieldH rfl) rfl ?_
      | refine LOps.pure (Pure.loadH (c := .atom _) rfl (List.Mem.head _) rfl) rfl ?_
      | refine LOps.pure (Pure.sub rfl rfl (by omega)) rfl ?_
      | refine LOps.step (S.store (cs' := [_, _, _]) rfl Pick.here rfl rfl rfl rfl rfl ?_) rfl
    rw [show ((op' : Int) - 1) = ((op' - 1 : Nat) : Int) by omega]
    exact retPn rfl AllRes.nil (by rw [sEnd, h]; rfl) rfl (HSub.refl _)
  · repeat first
      | refine QThen.panic ?_
    exact panP (he'.trans rfl) (by rw [sEnd, h]; rfl) (HSub.refl _)
end
end Go.Proofs.YtfodkbchknknjaaGreatDoor
namespace Go.Stele
def exOp : Ex → List UInt8 | .mk o _ _ _ => o
def exNum : Ex → Nat | .mk _ n _ _ => n
def exName : Ex → List UInt8 | .mk _ _ n _ => n
def exArgs : Ex → List Ex | .mk _ _ _ a => a
def smKind : Sm → Int | .mk k _ _ _ _ _ => k
def smName : Sm → List UInt8 | .mk _ n _ _ _ _ => n
def smIndex : Sm → List Ex | .mk _ _ i _ _ _ => i
def smValue : Sm → List Ex | .mk _ _ _ v _ _ => v
def smThen : Sm → List Sm | .mk _ _ _ _ t _ => t
def smElse : Sm → List Sm | .mk _ _ _ _ _ e => e
mutual
def eqEx : Ex → Ex → Bool
  | .mk o n nm a, .mk o' n' nm' a' => decide (o = o') && decide ((n : Int) = (n' : Int)) && decide (nm = nm') && eqExs a a'
def eqExs : List Ex → List Ex → Bool
  | [], [] => true
  | x :: xs, y :: ys => eqEx x y && eqExs xs ys
  | _, _ => false
end
mutual
def eqSm : Sm → Sm → Bool
  | .mk k n i v t e, .mk k' n' i' v' t' e' => decide (k = k') && decide (n = n') && eqExs i i' && eqExs v v' && eqSms t t' && eqSms e e'
def eqSms : List Sm → List Sm → Bool
  | [], [] => true
  | x :: xs, y :: ys => eqSm x y && eqSms xs ys
  | _, _ => false
end
def eqList {A : Type} (f : A → A → Bool) : List A → List A → Bool
  | [], [] => true
  | x :: xs, y :: ys => f x y && eqList f xs ys
  | _, _ => false
def eqNames : List (List UInt8) → List (List UInt8) → Bool := eqList fun a b => decide (a = b)
def eqAr (a b : Ar) : Bool := decide (a.name = b.name) && decide ((a.size : Int) = (b.size : Int))
def eqFn (a b : FnD) : Bool := decide (a.name = b.name) && eqNames a.params b.params && eqNames a.locals b.locals && eqSms a.body b.body
def eqPr (a b : Pr) : Bool := eqNames a.vars b.vars && eqList eqAr a.arrays b.arrays && eqList eqFn a.funcs b.funcs
mutual
theorem eqEx_iff : ∀ a b : Ex, eqEx a b = true ↔ a = b
  | .mk o n nm a, .mk o' n' nm' a' => by
    rw [eqEx]
    simp only [Bool.and_eq_true, decide_eq_true_eq, eqExs_iff a a', Ex.mk.injEq]
    constructor
    · rintro ⟨⟨⟨h1, h2⟩, h3⟩, h4⟩; exact ⟨h1, by omega, h3, h4⟩
    · rintro ⟨h1, h2, h3, h4⟩; exact ⟨⟨⟨h1, by omega⟩, h3⟩, h4⟩
theorem eqExs_iff : ∀ a b : List Ex, eqExs a b = true ↔ a = b
  | [], [] => by simp [eqExs]
  | x :: xs, [] => by simp [eqExs]
  | [], y :: ys => by simp [eqExs]
  | x :: xs, y :: ys => by rw [eqExs]; simp [eqEx_iff x y, eqExs_iff xs ys]
end
mutual
theorem eqSm_iff : ∀ a b : Sm, eqSm a b = true ↔ a = b
  | .mk k n i v t e, .mk k' n' i' v' t' e' => by
    rw [eqSm]
    simp [eqExs_iff, eqSms_iff t t', eqSms_iff e e', and_assoc]
theorem eqSms_iff : ∀ a b : List Sm, eqSms a b = true ↔ a = b
  | [], [] => by simp [eqSms]
  | x :: xs, [] => by simp [eqSms]
  | [], y :: ys => by simp [eqSms]
  | x :: xs, y :: ys => by rw [eqSms]; simp [eqSm_iff x y, eqSms_iff xs ys]
end
theorem eqList_iff {A : Type} {f : A → A → Bool} (h : ∀ a b, f a b = true ↔ a = b) : ∀ a b : List A, eqList f a b = true ↔ a = b
  | [], [] => by simp [eqList]
  | x :: xs, [] => by simp [eqList]
  | [], y :: ys => by simp [eqList]
  | x :: xs, y :: ys => by rw [eqList]; simp [h x y, eqList_iff h xs ys]
theorem eqNames_iff (a b : List (List UInt8)) : eqNames a b = true ↔ a = b := eqList_iff (by simp) a b
theorem eqAr_iff (a b : Ar) : eqAr a b = true ↔ a = b := by
  obtain ⟨n, s⟩ := a
  obtain ⟨n', s'⟩ := b
  simp only [eqAr, Bool.and_eq_true, decide_eq_true_eq, Ar.mk.injEq]
  constructor
  · rintro ⟨h1, h2⟩; exact ⟨h1, by omega⟩
  · rintro ⟨h1, h2⟩; exact ⟨h1, by omega⟩
theorem eqFn_iff (a b : FnD) : eqFn a b = true ↔ a = b := by
  obtain ⟨n, p, l, c⟩ := a
  obtain ⟨n', p', l', c'⟩ := b
  simp [eqFn, eqNames_iff, eqSms_iff, and_assoc]
theorem eqPr_iff (a b : Pr) : eqPr a b = true ↔ a = b := by
  obtain ⟨v, r, f⟩ := a
  obtain ⟨v', r', f'⟩ := b
  simp [eqPr, eqNames_iff, eqList_iff eqAr_iff, eqList_iff eqFn_iff, and_assoc]
/-- Lists are compared place by place. -/
theorem eqExs_list : ∀ a b : List Ex, eqExs a b = eqList eqEx a b
  | [], [] => by simp [eqExs, eqList]
  | x :: xs, [] => by simp [eqExs, eqList]
  | [], y :: ys => by simp [eqExs, eqList]
  | x :: xs, y :: ys => by rw [eqExs, eqList, eqExs_list xs ys]
theorem eqSms_list : ∀ a b : List Sm, eqSms a b = eqList eqSm a b
  | [], [] => by simp [eqSms, eqList]
  | x :: xs, [] => by simp [eqSms, eqList]
  | [], y :: ys => by simp [eqSms, eqList]
  | x :: xs, y :: ys => by rw [eqSms, eqList, eqSms_list xs ys]
theorem eqList_len {A : Type} {f : A → A → Bool} : ∀ a b : List A, a.length ≠ b.length → eqList f a b = false
  | [], [], h => absurd rfl h
  | x :: xs, [], _ => rfl
  | [], y :: ys, _ => rfl
  | x :: xs, y :: ys, h => by
    rw [eqList, eqList_len xs ys (by simpa using h), Bool.and_false]
theorem eqList_drop {A : Type} {f : A → A → Bool} {a b : List A} {i : Nat} (h : i < a.length) (h' : i < b.length) : eqList f (a.drop i) (b.drop i) = (f a[i] b[i] && eqList f (a.drop (i + 1)) (b.drop (i + 1))) := by
  rw [List.drop_eq_getElem_cons h, List.drop_eq_getElem_cons h', eqList]
theorem eqList_end {A : Type} {f : A → A → Bool} {a b : List A} {i : Nat} (h : a.length ≤ i) (h' : b.length ≤ i) : eqList f (a.drop i) (b.drop i) = true := by
  rw [List.drop_eq_nil_of_le h, List.drop_eq_nil_of_le h', eqList]
mutual
/-- How many nodes a tree has. -/
def nEx : Ex → Nat
  | .mk _ _ _ a => 1 + nExs a
def nExs : List Ex → Nat
  | [] => 0
  | x :: xs => nEx x + nExs xs
end
mutual
def nSm : Sm → Nat
  | .mk _ _ i v t e => 1 + nExs i + nExs v + nSms t + nSms e
def nSms : List Sm → Nat
  | [] => 0
  | x :: xs => nSm x + nSms xs
end
def nFn (f : FnD) : Nat := 1 + f.params.length + f.locals.length + nSms f.body
def nFns : List FnD → Nat
  | [] => 0
  | x :: xs => nFn x + nFns xs
def nPr (p : Pr) : Nat := p.vars.length + p.arrays.length + nFns p.funcs
theorem nEx_eq (x : Ex) : nEx x = 1 + nExs (exArgs x) := by
  obtain ⟨o, n, nm, l⟩ := x
  rw [nEx]
  rfl
theorem nSm_eq (x : Sm) : nSm x = 1 + nExs (smIndex x) + nExs (smValue x) + nSms (smThen x) + nSms (smElse x) := by
  obtain ⟨k, n, i, v, t, e⟩ := x
  rw [nSm]
  rfl
theorem nExs_mem : ∀ {a : List Ex} {x : Ex}, x ∈ a → nEx x ≤ nExs a
  | y :: ys, x, h => by
    rw [nExs]
    rcases List.mem_cons.1 h with rfl | h
    · omega
    · have := nExs_mem h
      omega
theorem nSms_mem : ∀ {a : List Sm} {x : Sm}, x ∈ a → nSm x ≤ nSms a
  | y :: ys, x, h => by
    rw [nSms]
    rcases List.mem_cons.1 h with rfl | h
    · omega
    · have := nSms_mem h
      omega
theorem nFns_mem : ∀ {a : List FnD} {x : FnD}, x ∈ a → nFn x ≤ nFns a
  | y :: ys, x, h => by
    rw [nFns]
    rcases List.mem_cons.1 h with rfl | h
    · omega
    · have := nFns_mem h
      omega
theorem nExs_len : ∀ a : List Ex, a.length ≤ nExs a
  | [] => Nat.zero_le _
  | x :: xs => by
    have h1 := nExs_len xs
    have h2 := nEx_eq x
    rw [nExs, List.length_cons]
    omega
theorem nSms_len : ∀ a : List Sm, a.length ≤ nSms a
  | [] => Nat.zero_le _
  | x :: xs => by
    have h1 := nSms_len xs
    have h2 := nSm_eq x
    rw [nSms, List.length_cons]
    omega
theorem nFns_len : ∀ a : List FnD, a.length ≤ nFns a
  | [] => Nat.zero_le _
  | x :: xs => by
    have h1 := nFns_len xs
    rw [nFns, List.length_cons]
    unfold nFn
    omega
theorem eqEx_parts (a b : Ex) : eqEx a b = (decide (exOp a = exOp b) && decide ((exNum a : Int) = (exNum b : Int)) && decide (exName a = exName b) && eqExs (exArgs a) (exArgs b)) := by
  obtain ⟨o, n, nm, l⟩ := a
  obtain ⟨o', n', nm', l'⟩ := b
  rw [eqEx]
  rfl
theorem eqSm_parts (a b : Sm) : eqSm a b = (decide (smKind a = smKind b) && decide (smName a = smName b) && eqExs (smIndex a) (smIndex b) && eqExs (smValue a) (smValue b) && eqSms (smThen a) (smThen b) && eqSms (smElse a) (smElse b)) := by
  obtain ⟨k, n, i, v, t, e⟩ := a
  obtain ⟨k', n', i', v', t', e'⟩ := b
  rw [eqSm]
  rfl
end Go.Stele
namespace Go.Proofs.YtfodkbchknknjaaGreatDoor
open Go.GL Go.RowKit Go.Stele
mutual
def encArgs : Ex → List LV
  | .mk _ _ _ a => encEs a
def encEs : List Ex → List LV
  | [] => []
  | e :: r => .agg [str (exOp e), int .u32 (exNum e), str (exName e), .list (encArgs e)] :: encEs r
end
def encE (e : Ex) : LV := .agg [str (exOp e), int .u32 (exNum e), str (exName e), .list (encArgs e)]
theorem encEs_map : ∀ l : List Ex, encEs l = l.map encE
  | [] => by simp [encEs]
  | e :: r => by rw [encEs, encEs_map r]; rfl
theorem encArgs_map (o : List UInt8) (n : Nat) (nm : List UInt8) (a : List Ex) : encArgs (.mk o n nm a) = a.map encE := by rw [encArgs, encEs_map]
theorem encE_mk (o : List UInt8) (n : Nat) (nm : List UInt8) (a : List Ex) : encE (.mk o n nm a) = .agg [str o, int .u32 n, str nm, .list (a.map encE)] := by rw [encE, encArgs_map]; rfl
mutual
def encThen : Sm → List LV
  | .mk _ _ _ _ t _ => encSs t
def encElse : Sm → List LV
  | .mk _ _ _ _ _ e => encSs e
def encSs : List Sm → List LV
  | [] => []
  | s :: r => .agg [int .i64 (smKind s), str (smName s), .list ((smIndex s).map encE), .list ((smValue s).map encE), .list (encThen s), .list (encElse s)] :: encSs r
end
def encS (s : Sm) : LV := .agg [int .i64 (smKind s), str (smName s), .list ((smIndex s).map encE), .list ((smValue s).map encE), .list (encThen s), .list (encElse s)]
theorem encSs_map : ∀ l : List Sm, encSs l = l.map encS
  | [] => by simp [encSs]
  | e :: r => by rw [encSs, encSs_map r]; rfl
theorem encS_mk (k : Int) (n : List UInt8) (i v : List Ex) (t e : List Sm) : encS (.mk k n i v t e) = .agg [int .i64 k, str n, .list (i.map encE), .list (v.map encE), .list (t.map encS), .list (e.map encS)] := by
  rw [encS, encThen, encElse, encSs_map, encSs_map]; rfl
def encAr (a : Ar) : LV := .agg [str a.name, int .i64 a.size]
def encFn (f : FnD) : LV := .agg [str f.name, .list (f.params.map str), .list (f.locals.map str), .list (f.body.map encS)]
def encPr (p : Pr) : LV := .agg [.list (p.vars.map str), .list (p.arrays.map encAr), .list (p.funcs.map encFn)]
end Go.Proofs.YtfodkbchknknjaaGreatDoor
