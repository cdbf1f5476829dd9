/- The lexer's run over a predicate, and skip, walked. -/
import Derived.Test.YtfodkbchknknjaaDoorLex1
import Derived.Test.YtfodkbchknknjaaDoorShelf
set_option linter.unusedVariables false
set_option linter.unusedSimpArgs false
namespace Go.Proofs.YtfodkbchknknjaaDoor
open Go.GL Go.RowKit Go.Stele
set_option maxRecDepth 100000
set_option maxHeartbeats 4000000
attribute [local irreducible] LOps LCode LStep LCalls Go.GL.Pure QThen QBlock RetPost
section
variable {B0 : Nat} {w0 : World}
theorem run_spec {f : FuncId} [TEnter Tryd.prog f] (p : UInt8 → Bool) (hp : ∀ c : UInt8, LCalls (KC B0 w0) f [int .u8 c.toNat] [] (Ret (bool (p c)))) (s : List UInt8) (hs : s.length ≤ 1000000000) :
    LCalls (KC B0 w0) 27 [str s, .atom (.func (.func f) #[] #[])] [] (Ret (str (s.takeWhile p))) := by
  refine LCalls.intro Tryd.func27 rfl (n := 22) rfl rfl rfl ?_
  repeat first
    | refine LOps.nil ?_
    | refine LCode.seq ?_
    | refine LCode.region ?_
    | refine LCode.block ?_
    | refine QThen.normal ?_
    | refine LOps.pure (Pure.as (lv := .atom _) rfl) rfl ?_
  refine LCode.loopI (fun k l H => ∃ m : Nat, k = s.length - m ∧ l = [(0, str s), (1, .atom (.func (.func f) #[] #[])), (5, int .i64 m)] ∧ H = [] ∧ m ≤ s.length ∧ s.takeWhile p = s.take m ++ (s.drop m).takeWhile p)
    ⟨_, _, _, ⟨0, rfl, rfl, rfl, by omega, by simp⟩, ⟨rfl, rfl, rfl, trivial⟩, HSub.refl _⟩ ?_
  rintro k l H ⟨m, rfl, rfl, rfl, hm, hI⟩ j hj
  repeat first
    | refine LCode.seq ?_
    | refine LCode.region ?_
    | refine LOps.pure (Pure.mv (lv := .atom _) rfl) rfl ?_
    | refine LOps.pure (Pure.slen rfl) rfl ?_
    | refine LOps.pure (Pure.lss rfl rfl) rfl ?_
  refine LOps.bcase 10 rfl (fun ht => ?_) (fun ht => ?_)
  · have hlt : m < s.length := by simpa using ht
    repeat first
      | refine LOps.pure (Pure.mv (lv := .atom _) rfl) rfl ?_
      | refine LOps.want rfl rfl ?_
    refine LOps.pure (Pure.sindex (c := s[m]) rfl rfl (by omega) (by simp)) rfl ?_
    refine LOps.want rfl rfl ?_
    refine LOps.step (S.fnV [_] rfl rfl (hp s[m]) ?_) rfl
    repeat first
      | refine LOps.nil ?_
      | refine QThen.normal ?_
      | refine LOps.pure (Pure.pickT (lv := .atom _) rfl rfl) rfl ?_
    refine LCode.cond rfl (fun hc => ?_) (fun hc => ?_)
    · repeat first
        | refine LOps.nil ?_
        | refine LCode.region ?_
        | refine LCode.skip ?_
        | refine LCode.block ?_
        | refine QThen.normal ?_
        | refine QBlock.normal ?_
        | refine LOps.pure (Pure.as (lv := .atom _) rfl) rfl ?_
        | refine LOps.pure (Pure.mv (lv := .atom _) rfl) rfl ?_
        | refine LOps.pure (Pure.add rfl rfl (by omega)) rfl ?_
      exact ⟨_, _, _, by omega, ⟨m + 1, rfl, rfl, rfl, by omega, (takeWhile_step hlt hI).1 (by simpa using hc)⟩, ⟨rfl, rfl, int_eq (by omega), trivial⟩, HSub.refl _, hj⟩
    · repeat first
        | refine LCode.seq ?_
        | refine LCode.region ?_
        | refine LCode.exit ?_
        | refine QThen.normal ?_
        | refine QThen.exit ?_
        | refine QBlock.hit ?_
        | refine LOps.pure (Pure.mv (lv := .atom _) rfl) rfl ?_
      refine LOps.pure (Pure.sslice (i := 0) (j := m) rfl rfl ⟨_, rfl⟩ (by omega) (by omega) (by omega)) rfl ?_
      repeat first
        | refine LOps.nil ?_
        | refine LCode.ret ?_
        | refine QThen.normal ?_
        | refine LOps.pure (Pure.as (lv := .atom _) rfl) rfl ?_
      exact retRet hj (AllRes.cons (ResIs.tmp (v := .atom _) rfl (LV.Sub.refl _)) AllRes.nil) (by
        rw [(takeWhile_step hlt hI).2 (by simpa using hc)]
        simp [resLV])
  · have hge : s.length ≤ m := by simpa using ht
    repeat first
      | refine LOps.nil ?_
      | refine QThen.normal ?_
      | refine LOps.pure (Pure.pickF (lv := .atom _) rfl rfl) rfl ?_
      | refine LOps.skip rfl rfl rfl rfl ?_
    refine LCode.cond rfl (fun hc => ?_) (fun hc => ?_)
    · cases hc
    · repeat first
        | refine LCode.seq ?_
        | refine LCode.region ?_
        | refine LCode.exit ?_
        | refine QThen.normal ?_
        | refine QThen.exit ?_
        | refine QBlock.hit ?_
        | refine LOps.pure (Pure.mv (lv := .atom _) rfl) rfl ?_
      refine LOps.pure (Pure.sslice (i := 0) (j := m) rfl rfl ⟨_, rfl⟩ (by omega) (by omega) (by omega)) rfl ?_
      repeat first
        | refine LOps.nil ?_
        | refine LCode.ret ?_
        | refine QThen.normal ?_
        | refine LOps.pure (Pure.as (lv := .atom _) rfl) rfl ?_
      exact retRet hj (AllRes.cons (ResIs.tmp (v := .atom _) rfl (LV.Sub.refl _)) AllRes.nil) (by
        rw [takeWhile_end hge hI]
        simp [resLV])
/-- strings.HasPrefix. -/
theorem hasPrefix_spec (s p : List UInt8) : LCalls (KC B0 w0) 26 [str s, str p] [] (Ret (bool (p.isPrefixOf s))) :=
  LCalls.ret_of (vs := [.string ⟨s.toArray⟩, .string ⟨p.toArray⟩]) fun w _ => (Go.Proofs.Tryd.strings_HasPrefix _ _ w).mono fun e w' he => by
    obtain ⟨h1, h2⟩ := he
    subst h2
    exact ⟨by simpa [Go.Lib.hasPrefix] using h1, Below.refl _ _⟩
theorem skip_spec (s : List UInt8) (hs : s.length ≤ 1000000000) : LCalls (KC B0 w0) 16 [str s] [] (Ret (int .i64 (skipLen s))) := by
  refine LCalls.intro Tryd.func16 rfl (n := 11) rfl rfl rfl ?_
  repeat first
    | refine LOps.nil ?_
    | refine LCode.seq ?_
    | refine LCode.region ?_
    | refine QThen.normal ?_
    | refine LOps.pure (Pure.as (lv := .atom _) rfl) rfl ?_
    | refine LOps.pure (Pure.mv (lv := .atom _) rfl) rfl ?_
  refine LOps.step (S.fn [_, _] rfl (hasPrefix_spec s [47, 47]) ?_) rfl
  repeat first
    | refine LOps.nil ?_
    | refine QThen.normal ?_
  refine LCode.cond rfl (fun hc => ?_) (fun hc => ?_)
  · repeat first
      | refine LCode.seq ?_
      | refine LCode.region ?_
      | refine LOps.pure (Pure.mv (lv := .atom _) rfl) rfl ?_
    refine LOps.step (S.fn [_, _] rfl (run_spec notNl notNl_spec s hs) ?_) rfl
    repeat first
      | refine LOps.nil ?_
      | refine LCode.ret ?_
      | refine QThen.normal ?_
      | refine QThen.ret ?_
      | refine LOps.pure (Pure.as (lv := .atom _) rfl) rfl ?_
      | refine LOps.pure (Pure.slen rfl) rfl ?_
    exact retRet rfl (AllRes.cons (ResIs.tmp (v := .atom _) rfl (LV.Sub.refl _)) AllRes.nil) (by simp only [resLV, skipLen, hc, if_true])
  · repeat first
      | refine LCode.seq ?_
      | refine LCode.region ?_
      | refine LCode.skip ?_
      | refine QThen.normal ?_
      | refine LOps.pure (Pure.mv (lv := .atom _) rfl) rfl ?_
    refine LOps.step (S.fn [_, _] rfl (run_spec isWhite white_spec s hs) ?_) rfl
    repeat first
      | refine LOps.nil ?_
      | refine LCode.ret ?_
      | refine QThen.normal ?_
      | refine LOps.pure (Pure.as (lv := .atom _) rfl) rfl ?_
      | refine LOps.pure (Pure.slen rfl) rfl ?_
    exact retRet rfl (AllRes.cons (ResIs.tmp (v := .atom _) rfl (LV.Sub.refl _)) AllRes.nil) (by simp only [resLV, skipLen, hc, Bool.false_eq_true, if_false])
end
end Go.Proofs.YtfodkbchknknjaaDoor
