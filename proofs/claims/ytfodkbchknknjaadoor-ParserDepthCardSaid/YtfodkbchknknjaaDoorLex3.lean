/- The library's calls of the lexer, as laws of the small logic; what the world holds. -/
import Derived.Test.YtfodkbchknknjaaDoorLex2
import Derived.Test.YtfodkbchknknjaaDoorFmtUint
import Derived.WalkSmall
set_option linter.unusedVariables false
set_option linter.unusedSimpArgs false
namespace Go.Proofs.YtfodkbchknknjaaDoor
open Go.GL Go.RowKit Go.Stele
set_option maxRecDepth 100000
set_option maxHeartbeats 4000000
attribute [local irreducible] LOps LCode LStep LCalls Go.GL.Pure QThen QBlock RetPost
/-- What the world before the call holds: the table of powers of ten, the error of the range. -/
structure GW (B0 : Nat) (w0 : World) : Prop where
  pow10 : Go.Lib.TabIs Tryd.prog w0 "internal/strconv.uint64pow10" .u64 Go.Lib.pow10Tab
  errRange : ∃ tp p, w0.var? Tryd.prog "strconv.ErrRange" = some #[.iface tp p]
  big : 6 ≤ B0
section
variable {B0 : Nat} {w0 : World}
theorem GW.tab (h : GW B0 w0) {w : World} (hb : Below B0 w0 w) : Go.Lib.TabIs Tryd.prog w "internal/strconv.uint64pow10" .u64 Go.Lib.pow10Tab := by
  have hg : Tryd.prog.globalNamed "internal/strconv.uint64pow10" = some 3 := by kernel_rfl
  exact var?_below hb hg (Nat.lt_of_lt_of_le (by decide) h.big) h.pow10
theorem GW.err (h : GW B0 w0) {w : World} (hb : Below B0 w0 w) : ∃ tp p, w.var? Tryd.prog "strconv.ErrRange" = some #[.iface tp p] := by
  have hg : Tryd.prog.globalNamed "strconv.ErrRange" = some 2 := by kernel_rfl
  obtain ⟨tp, p, hv⟩ := h.errRange
  exact ⟨tp, p, var?_below hb hg (Nat.lt_of_lt_of_le (by decide) h.big) hv⟩
theorem itoa_spec (hG : GW B0 w0) (u : Nat) (hu : u ≤ 9223372036854775807) : LCalls (KC B0 w0) 52 [int .i64 u] [] (Ret (str (Go.Lib.decDigits u))) :=
  LCalls.ret_of (vs := [.int .i64 u]) fun w hw => (Go.Proofs.Tryd.strconv_Itoa u (by omega) (by omega) w (hG.tab hw)).mono fun e w' he => by
    obtain ⟨h1, k, os, h2⟩ := he
    rw [Go.Lib.itoa_nonneg] at h1
    exact ⟨h1, by rw [h2]; exact Go.Lib.below_grow _ w (Nat.le_refl _) k os⟩
theorem fmtUint_spec (hG : GW B0 w0) (u : Nat) (hu : u < 18446744073709551616) : LCalls (KC B0 w0) 49 [int .u64 u, int .i64 10] [] (Ret (str (Go.Lib.decDigits u))) := by
  refine LCalls.intro Tryd.func49 rfl (n := 8) rfl rfl rfl ?_
  repeat first
    | refine LOps.nil ?_
    | refine LCode.seq ?_
    | refine LCode.region ?_
    | refine QThen.normal ?_
    | refine LOps.pure (Pure.as (lv := .atom _) rfl) rfl ?_
    | refine LOps.pure (Pure.mv (lv := .atom _) rfl) rfl ?_
  refine LOps.step (S.fn [_, _] rfl (LCalls.ret_of (vs := [.int .u64 u, .int .i64 10]) fun w hw => formatUint_main u hu w (hG.tab hw)) ?_) rfl
  repeat first
    | refine LOps.nil ?_
    | refine LCode.ret ?_
    | refine QThen.normal ?_
    | refine LOps.pure (Pure.as (lv := .atom _) rfl) rfl ?_
  exact retRet rfl (AllRes.cons (ResIs.tmp (v := .atom _) rfl (LV.Sub.refl _)) AllRes.nil) rfl
/-- strconv.ParseUint(s, 10, 32) of a row of digits: the number and nil, or an error that is not nil. -/
theorem parseUint_ok (s : List UInt8) (hs : s.length ≤ 1000000000) (u : Nat) (h : Go.Lib.parseUintB 32 s = .ok u) :
    LCalls (KC B0 w0) 48 [str s, int .i64 10, int .i64 32] [] (Ret (.tuple [int .u64 u, .atom .nilIface])) := by
  refine LCalls.mono (LCalls.of_belowT (vs := [.string ⟨s.toArray⟩, .int .i64 10, .int .i64 32]) (p := fun us => us = [.int .u64 u, .nilIface]) fun w hw => ?_) ?_
  · refine (Go.Proofs.Tryd.strconv_ParseUint_10_at32_ok ⟨s.toArray⟩ ?_ u (by simpa using h) w).mono fun e w' he => ⟨_, he.1, rfl, ?_⟩
    · show s.toArray.size ≤ _
      simp
      omega
    · rcases he.2 with h2 | h2
      · rw [h2]; exact Below.refl _ _
      · rw [h2]
        exact ⟨rfl, rfl, rfl, by rw [Go.Lib.bytesWorld_size]; omega, fun k hk => Go.Lib.bytesWorld_at_old w 5 _ k hk⟩
  · rintro r H ⟨v, rfl, ⟨us, rfl, rfl⟩, rfl⟩
    exact ⟨rfl, rfl⟩
theorem parseUint_range (hG : GW B0 w0) (s : List UInt8) (hs : s.length ≤ 1000000000) (h : Go.Lib.parseUintB 32 s = .range) :
    LCalls (KC B0 w0) 48 [str s, int .i64 10, int .i64 32] [] (RetIf fun lv => ∃ v t p, lv = .tuple [int .u64 v, .atom (.iface t p)]) := by
  refine LCalls.mono (LCalls.of_belowT (vs := [.string ⟨s.toArray⟩, .int .i64 10, .int .i64 32]) (p := fun us => ∃ v t p, us = [.int .u64 v, .iface t p]) fun w hw => ?_) ?_
  · obtain ⟨tp, p, hv⟩ := hG.err hw
    refine (Go.Proofs.Tryd.strconv_ParseUint_10_at32_range_var ⟨s.toArray⟩ ?_ (by simpa using h) tp p w hv).mono fun e w' he => ?_
    · show s.toArray.size ≤ _
      simp
      omega
    · obtain ⟨N, h1, _, _, h4⟩ := he
      exact ⟨_, h1, ⟨_, _, _, rfl⟩, h4⟩
  · rintro r H ⟨v, rfl, ⟨us, ⟨a, t, p, rfl⟩, rfl⟩, rfl⟩
    exact ⟨_, rfl, ⟨a, t, p, rfl⟩, rfl⟩
theorem countNl_spec (s : List UInt8) : LCalls (KC B0 w0) 18 [str s, str [10]] [] (Ret (int .i64 (s.count 10))) :=
  LCalls.ret_of (vs := [.string ⟨s.toArray⟩, .string ⟨#[10]⟩]) fun w _ => (Go.Proofs.Tryd.strings_Count_one _ _ w).mono fun e w' he => by
    obtain ⟨h1, h2⟩ := he
    subst h2
    exact ⟨by simpa [Go.Lib.countByte] using h1, Below.refl _ _⟩
end
end Go.Proofs.YtfodkbchknknjaaDoor
