/- The law of the parentheses, walked. -/
import Derived.Test.YtfodkbchknknjaaGreatDoorLawA
import Derived.Test.YtfodkbchknknjaaGreatDoorPEq
import Derived.Test.YtfodkbchknknjaaGreatDoorLexPar
set_option linter.unusedVariables false
set_option linter.unusedSimpArgs false
namespace Go.Proofs.YtfodkbchknknjaaGreatDoor
open Go.GL Go.RowKit Go.Stele
set_option maxRecDepth 100000
set_option maxHeartbeats 4000000
def brokenAt (s : List UInt8) (i : Nat) : Bool := match s[i]? with
  | some c => decide (cv c = 59) || decide (cv c = 123) || decide (cv c = 125) || (decide (0 < i) && decide (cv c = 47) && (match s[i - 1]? with
    | some d => decide (cv d = 47)
    | none => false))
  | none => false
theorem cv_inj {c d : UInt8} (h : cv c = cv d) : c = d := by
  apply UInt8.toNat_inj.1
  unfold cv at h
  omega
theorem not_broken {s : List UInt8} (h : ∀ i, i < s.length → brokenAt s i = false) : (59 : UInt8) ∉ s ∧ ∀ j, ([47, 47] : List UInt8).isPrefixOf (s.drop j) = false := by
  constructor
  · intro hm
    obtain ⟨i, hi, he⟩ := List.getElem_of_mem hm
    have := h i hi
    unfold brokenAt at this
    rw [List.getElem?_eq_getElem hi, he] at this
    simp [cv] at this
  · intro j
    cases hp : ([47, 47] : List UInt8).isPrefixOf (s.drop j) with
    | false => rfl
    | true =>
      obtain ⟨r, hr⟩ := List.isPrefixOf_iff_prefix.1 hp
      have h0 : s[j]? = some 47 := by
        have := congrArg (fun l => l[0]?) hr
        simpa [List.getElem?_drop] using this.symm
      have h1 : s[j + 1]? = some 47 := by
        have := congrArg (fun l => l[1]?) hr
        simpa [List.getElem?_drop] using this.symm
      have hl := (List.getElem?_eq_some_iff.1 h1).1
      have := h (j + 1) hl
      unfold brokenAt at this
      rw [h1, Nat.add_sub_cancel, h0] at this
      simp [cv] at this
theorem paren_law {s : List UInt8} {k : Nat} {p : Pr} {l : Int} (hs : s.length ≤ 60) (hk : k ≤ 30) (hk0 : 0 < k) (hb : ∀ i, i < s.length → brokenAt s i = false) (h : parseP (bodyOf s) = (p, l, 0)) :
    parseP (bodyOf (List.replicate k 40 ++ s ++ List.replicate k 41)) = (p, 0, 0) := by
  obtain ⟨h59, hsl⟩ := not_broken hb
  unfold parseP at h
  cases hL : lexAllP (bodyOf s) with
  | error le =>
    obtain ⟨l', e⟩ := le
    rw [hL] at h
    simp only [Prod.mk.injEq] at h
    exact absurd h.2.2 (lexAllP_err hL)
  | ok T =>
    rw [hL] at h
    have hL' := hL
    unfold lexAllP at hL'
    rw [if_neg (by simp [bodyOf, bodyPre, bodyPost]; omega)] at hL'
    simp only at h
    split at h
    · rename_i q i op hq
      simp only [Prod.mk.injEq] at h
      obtain ⟨rfl, _, _⟩ := h
      obtain ⟨T', i', op', h1, h2⟩ := paren_plain hs hk hk0 h59 hsl hL' hq
      have hL2 : lexAllP (bodyOf (List.replicate k 40 ++ s ++ List.replicate k 41)) = .ok T' := by
        unfold lexAllP
        rw [if_neg (by simp [bodyOf, bodyPre, bodyPost]; omega)]
        exact h1
      unfold parseP
      rw [hL2]
      show (match sProg T' (10 * T'.length + 20) noPr 0 0 with
        | some (.ok p _ _) => (p, (0 : Int), (0 : Int))
        | some (.err l e) => (noPr, l, e)
        | none => (noPr, 0, 0)) = _
      rw [show sProg T' (10 * T'.length + 20) noPr 0 0 = some (.ok q i' op') from h2]
    · rename_i l' e he
      simp only [Prod.mk.injEq] at h
      exact absurd h.2.2 (prog_en _ _ _ _ _ _ _ he)
    · rename_i hn
      obtain ⟨r, hr⟩ := sProg_ends T (10 * T.length + 20) noPr 0 0 (Nat.zero_le _) (by omega)
      rw [hn] at hr
      cases hr
attribute [local irreducible] LOps LCode LStep LCalls Go.GL.Pure QThen QBlock RetPost LQ LAny LLate LLateOp
section
variable {B0 : Nat} {w0 : World}
theorem repeat_spec (c : UInt8) (k : Nat) (hk : k ≤ 1000) : LCalls (KC B0 w0) 25 [str [c], int .i64 k] [] (Ret (str (List.replicate k c))) :=
  LCalls.ret_of (vs := [.string ⟨#[c]⟩, .int .i64 k]) fun w _ => (Go.Proofs.Tryz.strings_Repeat ⟨#[c]⟩ k w (by omega) (by show 1 * k ≤ _; omega)).mono fun e w' he => by
    obtain ⟨h1, h2⟩ := he
    refine ⟨?_, h2⟩
    rw [h1]
    have := Go.Lib.repeatL_replicate c 1 k
    simp only [List.replicate_one, Nat.mul_one] at this
    exact congrArg (fun l : List UInt8 => Ending.returned (.string ⟨l.toArray⟩)) this
theorem broken_spec (s : List UInt8) (hs : s.length ≤ 1000000) : LCalls (KC B0 w0) 24 [str s] [] (RetIf fun lv => ∃ b, lv = bool b ∧ (b = false → ∀ i, i < s.length → brokenAt s i = false)) := by
  refine LCalls.intro Tryz.func24 rfl (n := 43) rfl rfl rfl ?_
  repeat first
    | refine LOps.nil ?_
    | refine LCode.seq ?_
    | refine LCode.region ?_
    | refine LCode.block ?_
    | refine QThen.normal ?_
    | refine LOps.pure (Pure.as (lv := .atom _) rfl) rfl ?_
  refine LCode.loopI (fun k ls H => ∃ i : Nat, i ≤ s.length ∧ k = s.length - i ∧ ls = [(0, str s), (3, int .i64 i)] ∧ H = [] ∧ ∀ j, j < i → brokenAt s j = false)
    ⟨_, _, _, ⟨0, Nat.zero_le _, rfl, rfl, rfl, fun j hj => absurd hj (Nat.not_lt_zero _)⟩, ⟨rfl, rfl, trivial⟩, HSub.refl _⟩ ?_
  rintro k ls H ⟨i, hi, rfl, rfl, rfl, hb⟩ j hj
  repeat first
    | refine LOps.nil ?_
    | refine LCode.seq ?_
    | refine LCode.region ?_
    | refine QThen.normal ?_
    | refine LOps.pure (Pure.mv (lv := .atom _) rfl) rfl ?_
    | refine LOps.pure (Pure.slen rfl) rfl ?_
    | refine LOps.pure (Pure.lss rfl rfl) rfl ?_
  refine LCode.cond rfl (fun hc => ?_) (fun hc => ?_)
  · have hlt : i < s.length := by have := of_decide_eq_true hc; omega
    have hget : s[i]? = some s[i] := List.getElem?_eq_getElem hlt
    have next : brokenAt s i = false → ∀ j, j < i + 1 → brokenAt s j = false := fun h j hj => by
      rcases Nat.lt_or_ge j i with h1 | h1
      · exact hb j h1
      · obtain rfl : j = i := by omega
        exact h
    repeat first
      | refine LCode.seq ?_
      | refine LCode.region ?_
      | refine LCode.skip ?_
      | refine LCode.block ?_
      | refine QThen.normal ?_
      | refine LOps.pure (Pure.mv (lv := .atom _) rfl) rfl ?_
    refine LOps.pure (Pure.sindex (c := s[i]) rfl rfl (by omega) (by simp)) rfl ?_
    repeat first
      | refine LOps.pure (Pure.mv (lv := .atom _) rfl) rfl ?_
      | refine LOps.pure (Pure.eql rfl rfl) rfl ?_
    refine LOps.bcase 14 rfl (fun c1 => ?_) (fun c1 => ?_)
    · repeat first
        | refine LOps.nil ?_
        | refine QThen.normal ?_
        | refine LOps.pure (Pure.mv (lv := .atom _) rfl) rfl ?_
        | refine LOps.pure (Pure.pickT (lv := .atom _) rfl rfl) rfl ?_
        | refine LOps.skip rfl rfl rfl rfl ?_
        | refine LOps.skipU rfl rfl rfl ?_
      refine LCode.cond rfl (fun h2 => ?_) (fun h2 => ?_)
      · repeat first
          | refine LOps.nil ?_
          | refine LCode.seq ?_
          | refine LCode.region ?_
          | refine LCode.ret ?_
          | refine QThen.normal ?_
          | refine QThen.ret ?_
          | refine QBlock.ret ?_
          | refine LOps.pure (Pure.as (lv := .atom _) rfl) rfl ?_
        exact retRetIf hj (AllRes.cons (ResIs.tmp (v := .atom _) rfl (LV.Sub.refl _)) AllRes.nil) ⟨true, rfl, fun h => by cases h⟩
      · cases h2
    repeat first
      | refine LOps.pure (Pure.mv (lv := .atom _) rfl) rfl ?_
      | refine LOps.want rfl rfl ?_
    refine LOps.pure (Pure.sindex (c := s[i]) rfl rfl (by omega) (by simp)) rfl ?_
    repeat first
      | refine LOps.pure (Pure.mv (lv := .atom _) rfl) rfl ?_
      | refine LOps.pure (Pure.eql rfl rfl) rfl ?_
      | refine LOps.pure (Pure.pickF (lv := .atom _) rfl rfl) rfl ?_
      | refine LOps.want rfl rfl ?_
    refine LOps.bcase 20 rfl (fun c2 => ?_) (fun c2 => ?_)
    · repeat first
        | refine LOps.nil ?_
        | refine QThen.normal ?_
        | refine LOps.pure (Pure.mv (lv := .atom _) rfl) rfl ?_
        | refine LOps.pure (Pure.pickT (lv := .atom _) rfl rfl) rfl ?_
        | refine LOps.skip rfl rfl rfl rfl ?_
        | refine LOps.skipU rfl rfl rfl ?_
      refine LCode.cond rfl (fun h2 => ?_) (fun h2 => ?_)
      · repeat first
          | refine LOps.nil ?_
          | refine LCode.seq ?_
          | refine LCode.region ?_
          | refine LCode.ret ?_
          | refine QThen.normal ?_
          | refine QThen.ret ?_
          | refine QBlock.ret ?_
          | refine LOps.pure (Pure.as (lv := .atom _) rfl) rfl ?_
        exact retRetIf hj (AllRes.cons (ResIs.tmp (v := .atom _) rfl (LV.Sub.refl _)) AllRes.nil) ⟨true, rfl, fun h => by cases h⟩
      · cases h2
    repeat first
      | refine LOps.pure (Pure.mv (lv := .atom _) rfl) rfl ?_
      | refine LOps.want rfl rfl ?_
    refine LOps.pure (Pure.sindex (c := s[i]) rfl rfl (by omega) (by simp)) rfl ?_
    repeat first
      | refine LOps.pure (Pure.mv (lv := .atom _) rfl) rfl ?_
      | refine LOps.pure (Pure.eql rfl rfl) rfl ?_
      | refine LOps.pure (Pure.pickF (lv := .atom _) rfl rfl) rfl ?_
      | refine LOps.want rfl rfl ?_
    refine LOps.bcase 26 rfl (fun c3 => ?_) (fun c3 => ?_)
    · repeat first
        | refine LOps.nil ?_
        | refine QThen.normal ?_
        | refine LOps.pure (Pure.pickT (lv := .atom _) rfl rfl) rfl ?_
        | refine LOps.skip rfl rfl rfl rfl ?_
        | refine LOps.skipU rfl rfl rfl ?_
      refine LCode.cond rfl (fun h2 => ?_) (fun h2 => ?_)
      · repeat first
          | refine LOps.nil ?_
          | refine LCode.seq ?_
          | refine LCode.region ?_
          | refine LCode.ret ?_
          | refine QThen.normal ?_
          | refine QThen.ret ?_
          | refine QBlock.ret ?_
          | refine LOps.pure (Pure.as (lv := .atom _) rfl) rfl ?_
        exact retRetIf hj (AllRes.cons (ResIs.tmp (v := .atom _) rfl (LV.Sub.refl _)) AllRes.nil) ⟨true, rfl, fun h => by cases h⟩
      · cases h2
    repeat first
      | refine LOps.pure (Pure.mv (lv := .atom _) rfl) rfl ?_
      | refine LOps.pure (Pure.gtr rfl rfl) rfl ?_
      | refine LOps.want rfl rfl ?_
    refine LOps.bcase 29 rfl (fun c4 => ?_) (fun c4 => ?_)
    · have hpos : 0 < i := by have := of_decide_eq_true c4; omega
      have hget' : s[i - 1]? = some s[i - 1] := List.getElem?_eq_getElem (by omega)
      repeat first
        | refine LOps.pure (Pure.mv (lv := .atom _) rfl) rfl ?_
        | refine LOps.want rfl rfl ?_
      refine LOps.pure (Pure.sindex (c := s[i]) rfl rfl (by omega) (by simp)) rfl ?_
      repeat first
        | refine LOps.pure (Pure.mv (lv := .atom _) rfl) rfl ?_
        | refine LOps.pure (Pure.eql rfl rfl) rfl ?_
        | refine LOps.pure (Pure.pickT (lv := .atom _) rfl rfl) rfl ?_
        | refine LOps.want rfl rfl ?_
      refine LOps.bcase 35 rfl (fun c5 => ?_) (fun c5 => ?_)
      · repeat first
          | refine LOps.pure (Pure.mv (lv := .atom _) rfl) rfl ?_
          | refine LOps.pure (Pure.sub rfl rfl (by omega)) rfl ?_
          | refine LOps.want rfl rfl ?_
        refine LOps.pure (Pure.sindex (c := s[i - 1]) rfl rfl (by omega) (by rw [show ((i : Int) - 1).toNat = i - 1 by omega]; exact hget')) rfl ?_
        repeat first
          | refine LOps.nil ?_
          | refine QThen.normal ?_
          | refine LOps.pure (Pure.eql rfl rfl) rfl ?_
          | refine LOps.pure (Pure.pickT (lv := .atom _) rfl rfl) rfl ?_
          | refine LOps.pure (Pure.pickF (lv := .atom _) rfl rfl) rfl ?_
          | refine LOps.want rfl rfl ?_
        refine LCode.cond rfl (fun h2 => ?_) (fun h2 => ?_)
        · repeat first
            | refine LOps.nil ?_
            | refine LCode.seq ?_
            | refine LCode.region ?_
            | refine LCode.ret ?_
            | refine QThen.normal ?_
            | refine QThen.ret ?_
            | refine QBlock.ret ?_
            | refine LOps.pure (Pure.as (lv := .atom _) rfl) rfl ?_
          exact retRetIf hj (AllRes.cons (ResIs.tmp (v := .atom _) rfl (LV.Sub.refl _)) AllRes.nil) ⟨true, rfl, fun h => by cases h⟩
        · repeat first
            | refine LOps.nil ?_
            | refine LCode.region ?_
            | refine LCode.skip ?_
            | refine QThen.normal ?_
            | refine QBlock.normal ?_
            | refine LOps.pure (Pure.as (lv := .atom _) rfl) rfl ?_
            | refine LOps.pure (Pure.mv (lv := .atom _) rfl) rfl ?_
            | refine LOps.pure (Pure.add rfl rfl (by omega)) rfl ?_
          exact ⟨_, _, _, by omega, ⟨i + 1, by omega, rfl, rfl, rfl, next (by
            unfold brokenAt
            rw [hget, hget']
            simp only [cv, c1, c2, c3, h2, Bool.false_or, Bool.and_false])⟩, ⟨rfl, int_eq (by omega), trivial⟩, HSub.refl _, hj⟩
      · repeat first
          | refine LOps.nil ?_
          | refine QThen.normal ?_
          | refine LOps.pure (Pure.pickF (lv := .atom _) rfl rfl) rfl ?_
          | refine LOps.want rfl rfl ?_
          | refine LOps.skip rfl rfl rfl rfl ?_
        refine LCode.cond rfl (fun h2 => ?_) (fun h2 => ?_)
        · cases h2
        · repeat first
            | refine LOps.nil ?_
            | refine LCode.region ?_
            | refine LCode.skip ?_
            | refine QThen.normal ?_
            | refine QBlock.normal ?_
            | refine LOps.pure (Pure.as (lv := .atom _) rfl) rfl ?_
            | refine LOps.pure (Pure.mv (lv := .atom _) rfl) rfl ?_
            | refine LOps.pure (Pure.add rfl rfl (by omega)) rfl ?_
          exact ⟨_, _, _, by omega, ⟨i + 1, by omega, rfl, rfl, rfl, next (by
            unfold brokenAt
            rw [hget, hget']
            simp only [cv, c1, c2, c3, c5, Bool.false_or, Bool.and_false, Bool.false_and])⟩, ⟨rfl, int_eq (by omega), trivial⟩, HSub.refl _, hj⟩
    · have hpos : i = 0 := by have := of_decide_eq_false c4; omega
      subst hpos
      repeat first
        | refine LOps.nil ?_
        | refine QThen.normal ?_
        | refine LOps.pure (Pure.mv (lv := .atom _) rfl) rfl ?_
        | refine LOps.pure (Pure.pickF (lv := .atom _) rfl rfl) rfl ?_
        | refine LOps.want rfl rfl ?_
        | refine LOps.skip rfl rfl rfl rfl ?_
      refine LCode.cond rfl (fun h2 => ?_) (fun h2 => ?_)
      · cases h2
      · repeat first
          | refine LOps.nil ?_
          | refine LCode.region ?_
          | refine LCode.skip ?_
          | refine QThen.normal ?_
          | refine QBlock.normal ?_
          | refine LOps.pure (Pure.as (lv := .atom _) rfl) rfl ?_
          | refine LOps.pure (Pure.mv (lv := .atom _) rfl) rfl ?_
          | refine LOps.pure (Pure.add rfl rfl (by omega)) rfl ?_
        exact ⟨_, _, _, by omega, ⟨0 + 1, by omega, rfl, rfl, rfl, next (by
          unfold brokenAt
          rw [hget]
          simp only [cv, c1, c2, c3, Bool.false_or]
          rfl)⟩, ⟨rfl, int_eq (by omega), trivial⟩, HSub.refl _, hj⟩
  · have hi' : i = s.length := by have := of_decide_eq_false hc; omega
    subst hi'
    repeat first
      | refine LOps.nil ?_
      | refine LCode.seq ?_
      | refine LCode.region ?_
      | refine LCode.ret ?_
      | refine LCode.exit ?_
      | refine QThen.normal ?_
      | refine QThen.exit ?_
      | refine QBlock.hit ?_
      | refine LOps.pure (Pure.as (lv := .atom _) rfl) rfl ?_
    exact retRetIf hj (AllRes.cons (ResIs.tmp (v := .atom _) rfl (LV.Sub.refl _)) AllRes.nil) ⟨false, rfl, fun _ => hb⟩
theorem paren_spec (hG : GW B0 w0) (s : List UInt8) (n : UInt8) : LCalls (KC B0 w0) 8 [str s, int .u8 n.toNat] [] (Ret (bool true)) := by
  refine LCalls.intro Tryz.func8 rfl (n := 69) rfl rfl rfl ?_
  repeat first
    | refine LOps.nil ?_
    | refine LCode.seq ?_
    | refine LCode.region ?_
    | refine QThen.normal ?_
    | refine LOps.pure (Pure.as (lv := .atom _) rfl) rfl ?_
  refine LOps.step (S.fn [] rfl (alive_spec hG) ?_) rfl
  repeat first
    | refine LOps.nil ?_
    | refine QThen.normal ?_
    | refine LOps.pure (Pure.not rfl) rfl ?_
  refine LCode.cond rfl (fun h0 => ?_) (fun h0 => ?_)
  · cases h0
  repeat first
    | refine LOps.nil ?_
    | refine LCode.seq ?_
    | refine LCode.region ?_
    | refine LCode.skip ?_
    | refine QThen.normal ?_
    | refine LOps.pure (Pure.mv (lv := .atom _) rfl) rfl ?_
    | refine LOps.pure (Pure.slen rfl) rfl ?_
    | refine LOps.pure (Pure.gtr rfl rfl) rfl ?_
  refine LCode.cond rfl (fun h1 => ?_) (fun h1 => ?_)
  · repeat first
      | refine LOps.nil ?_
      | refine LCode.seq ?_
      | refine LCode.region ?_
      | refine LCode.ret ?_
      | refine QThen.normal ?_
      | refine QThen.ret ?_
      | refine LOps.pure (Pure.as (lv := .atom _) rfl) rfl ?_
    exact retRet rfl (AllRes.cons (ResIs.tmp (v := .atom _) rfl (LV.Sub.refl _)) AllRes.nil) rfl
  have hlen : s.length ≤ 60 := by have := of_decide_eq_false h1; omega
  have hn8 := UInt8.toNat_lt n
  obtain ⟨kk, hkk⟩ : ∃ kk : Nat, kk = 1 + n.toNat % 30 := ⟨_, rfl⟩
  have hkI : (1 + (n.toNat : Int) % 30) = (kk : Int) := by omega
  have hlaw := fun p l h => paren_law (s := s) (k := kk) (p := p) (l := l) hlen (by omega) (by omega) h
  have hp := parse_spec hG (bodyOf s) (by simp [bodyOf, bodyPre, bodyPost]; omega)
  have hpo := parseP_ok (bodyOf s)
  generalize parseP (bodyOf s) = r at hp hlaw hpo
  obtain ⟨⟨pv, pa, pf⟩, l, e⟩ := r
  repeat first
    | refine LCode.seq ?_
    | refine LCode.region ?_
    | refine LCode.skip ?_
    | refine QThen.normal ?_
    | refine LOps.pure (Pure.mv (lv := .atom _) rfl) rfl ?_
    | refine LOps.pure (Pure.cvt rfl) rfl ?_
  refine LOps.pure (Pure.rem (a := (n.toNat : Int)) (b := 30) (int_eq (wrap_i64 (by omega))) rfl (by omega) (by omega)) rfl ?_
  refine LOps.pure (Pure.add rfl rfl (by omega)) rfl ?_
  rw [hkI]
  repeat first
    | refine LOps.nil ?_
    | refine LCode.seq ?_
    | refine LCode.region ?_
    | refine QThen.normal ?_
    | refine LOps.pure (Pure.as (lv := .atom _) rfl) rfl ?_
    | refine LOps.pure (Pure.mv (lv := .atom _) rfl) rfl ?_
  refine LOps.step (S.fn [_] rfl (body_spec s (by omega)) ?_) rfl
  refine LOps.step (S.fn [_] rfl hp ?_) rfl
  refine LOps.pure (Pure.mv rfl) rfl ?_
  refine LOps.pure (Pure.extract (vs := [encPr ⟨pv, pa, pf⟩, int .i64 l, int .i64 e]) rfl rfl) rfl ?_
  refine LOps.pure (Pure.extract (vs := [encPr ⟨pv, pa, pf⟩, int .i64 l, int .i64 e]) rfl rfl) rfl ?_
  refine LOps.pure (Pure.extract (vs := [encPr ⟨pv, pa, pf⟩, int .i64 l, int .i64 e]) rfl rfl) rfl ?_
  refine LOps.step (S.alloc fun b6 => ?_) rfl
  repeat first
    | refine LOps.nil ?_
    | refine LCode.seq ?_
    | refine LCode.region ?_
    | refine QThen.normal ?_
    | refine LOps.pure (Pure.as (lv := .atom _) rfl) rfl ?_
    | refine LOps.pure (Pure.mv (lv := .atom _) rfl) rfl ?_
    | refine LOps.pure (Pure.neq rfl rfl) rfl ?_
    | refine LOps.step (S.store (cs' := [_, _, _]) rfl Pick.here rfl rfl rfl rfl rfl ?_) rfl
  refine LOps.bcase 30 rfl (fun h2 => ?_) (fun h2 => ?_)
  · repeat first
      | refine LOps.nil ?_
      | refine QThen.normal ?_
      | refine LOps.pure (Pure.mv (lv := .atom _) rfl) rfl ?_
      | refine LOps.pure (Pure.pickT (lv := .atom _) rfl rfl) rfl ?_
      | refine LOps.skip rfl rfl rfl rfl ?_
    refine LCode.cond rfl (fun h3 => ?_) (fun h3 => ?_)
    · repeat first
        | refine LOps.nil ?_
        | refine LCode.seq ?_
        | refine LCode.region ?_
        | refine LCode.ret ?_
        | refine QThen.normal ?_
        | refine QThen.ret ?_
        | refine LOps.pure (Pure.as (lv := .atom _) rfl) rfl ?_
      exact retRet rfl (AllRes.cons (ResIs.tmp (v := .atom _) rfl (LV.Sub.refl _)) AllRes.nil) rfl
    · cases h3
  obtain rfl : e = 0 := by simpa using h2
  repeat first
    | refine LOps.pure (Pure.mv (lv := .atom _) rfl) rfl ?_
    | refine LOps.pure (Pure.neq rfl rfl) rfl ?_
    | refine LOps.pure (Pure.fieldH rfl) rfl ?_
    | refine LOps.pure (Pure.loadH (c := .list _) rfl (List.Mem.head _) rfl) rfl ?_
    | refine LOps.pure (Pure.llen rfl) rfl ?_
    | refine LOps.pure (Pure.pickF (lv := .atom _) rfl rfl) rfl ?_
    | refine LOps.want rfl rfl ?_
  refine LOps.bcase 36 rfl (fun h3 => ?_) (fun h3 => ?_)
  · repeat first
      | refine LOps.nil ?_
      | refine QThen.normal ?_
      | refine LOps.pure (Pure.mv (lv := .atom _) rfl) rfl ?_
      | refine LOps.pure (Pure.pickT (lv := .atom _) rfl rfl) rfl ?_
      | refine LOps.skip rfl rfl rfl rfl ?_
    refine LCode.cond rfl (fun h4 => ?_) (fun h4 => ?_)
    · repeat first
        | refine LOps.nil ?_
        | refine LCode.seq ?_
        | refine LCode.region ?_
        | refine LCode.ret ?_
        | refine QThen.normal ?_
        | refine QThen.ret ?_
        | refine LOps.pure (Pure.as (lv := .atom _) rfl) rfl ?_
      exact retRet rfl (AllRes.cons (ResIs.tmp (v := .atom _) rfl (LV.Sub.refl _)) AllRes.nil) rfl
    · cases h4
  obtain ⟨fd, rfl⟩ : ∃ fd, pf = [fd] := List.length_eq_one_iff.1 (by
    have h9 : (pf.length : Int) = 1 := by simpa using h3
    omega)
  repeat first
    | refine LOps.pure (Pure.fieldH rfl) rfl ?_
    | refine LOps.pure (Pure.loadH (c := .list _) rfl (List.Mem.head _) rfl) rfl ?_
    | refine LOps.want rfl rfl ?_
  refine LOps.pure (Pure.ixRef (el' := encFn fd) (cs := [_, _, _, _]) rfl rfl (by omega) rfl rfl rfl) rfl ?_
  repeat first
    | refine LOps.pure (Pure.mv (lv := .atom _) rfl) rfl ?_
    | refine LOps.pure (Pure.neq rfl rfl) rfl ?_
    | refine LOps.pure (Pure.field1 rfl rfl) rfl ?_
    | refine LOps.pure (Pure.loadRef (c := .list _) rfl rfl) rfl ?_
    | refine LOps.pure (Pure.llen rfl) rfl ?_
    | refine LOps.pure (Pure.pickF (lv := .atom _) rfl rfl) rfl ?_
    | refine LOps.want rfl rfl ?_
  refine LOps.bcase 45 rfl (fun h4 => ?_) (fun h4 => ?_)
  · repeat first
      | refine LOps.nil ?_
      | refine QThen.normal ?_
      | refine LOps.pure (Pure.pickT (lv := .atom _) rfl rfl) rfl ?_
      | refine LOps.skip rfl rfl rfl rfl ?_
    refine LCode.cond rfl (fun h5 => ?_) (fun h5 => ?_)
    · repeat first
        | refine LOps.nil ?_
        | refine LCode.seq ?_
        | refine LCode.region ?_
        | refine LCode.ret ?_
        | refine QThen.normal ?_
        | refine QThen.ret ?_
        | refine LOps.pure (Pure.as (lv := .atom _) rfl) rfl ?_
      exact retRet rfl (AllRes.cons (ResIs.tmp (v := .atom _) rfl (LV.Sub.refl _)) AllRes.nil) rfl
    · cases h5
  repeat first
    | refine LOps.pure (Pure.mv (lv := .atom _) rfl) rfl ?_
    | refine LOps.want rfl rfl ?_
  refine LOps.step (S.fnIf [_] rfl (broken_spec s (by omega)) fun lv hlv => ?_) rfl
  obtain ⟨b, rfl, hb⟩ := hlv
  repeat first
    | refine LOps.nil ?_
    | refine QThen.normal ?_
    | refine LOps.pure (Pure.pickF (lv := .atom _) rfl rfl) rfl ?_
  refine LCode.cond rfl (fun h5 => ?_) (fun h5 => ?_)
  · repeat first
      | refine LOps.nil ?_
      | refine LCode.seq ?_
      | refine LCode.region ?_
      | refine LCode.ret ?_
      | refine QThen.normal ?_
      | refine QThen.ret ?_
      | refine LOps.pure (Pure.as (lv := .atom _) rfl) rfl ?_
    exact retRet rfl (AllRes.cons (ResIs.tmp (v := .atom _) rfl (LV.Sub.refl _)) AllRes.nil) rfl
  have hlaw := hlaw _ _ (hb h5) rfl
  have hq := parse_spec hG (bodyOf (List.replicate kk 40 ++ s ++ List.replicate kk 41)) (by simp [bodyOf, bodyPre, bodyPost]; omega)
  rw [hlaw] at hq
  repeat first
    | refine LCode.seq ?_
    | refine LCode.region ?_
    | refine LCode.skip ?_
    | refine QThen.normal ?_
    | refine LOps.pure (Pure.mv (lv := .atom _) rfl) rfl ?_
  refine LOps.step (S.fn [_, _] rfl (repeat_spec 40 kk (by omega)) ?_) rfl
  repeat first
    | refine LOps.pure (Pure.mv (lv := .atom _) rfl) rfl ?_
  refine LOps.pure (Pure.sadd rfl rfl (by simp; omega)) rfl ?_
  repeat first
    | refine LOps.pure (Pure.mv (lv := .atom _) rfl) rfl ?_
  refine LOps.step (S.fn [_, _] rfl (repeat_spec 41 kk (by omega)) ?_) rfl
  refine LOps.pure (Pure.sadd rfl rfl (by simp; omega)) rfl ?_
  refine LOps.step (S.fn [_] rfl (body_spec (List.replicate kk 40 ++ s ++ List.replicate kk 41) (by simp; omega)) ?_) rfl
  refine LOps.step (S.fn [_] rfl hq ?_) rfl
  refine LOps.pure (Pure.mv rfl) rfl ?_
  refine LOps.pure (Pure.extract (vs := [encPr ⟨pv, pa, [fd]⟩, int .i64 0, int .i64 0]) rfl rfl) rfl ?_
  refine LOps.pure (Pure.extract (vs := [encPr ⟨pv, pa, [fd]⟩, int .i64 0, int .i64 0]) rfl rfl) rfl ?_
  refine LOps.pure (Pure.extract (vs := [encPr ⟨pv, pa, [fd]⟩, int .i64 0, int .i64 0]) rfl rfl) rfl ?_
  refine LOps.step (S.alloc fun b9 => ?_) rfl
  repeat first
    | refine LOps.nil ?_
    | refine LCode.seq ?_
    | refine LCode.region ?_
    | refine QThen.normal ?_
    | refine LOps.pure (Pure.as (lv := .atom _) rfl) rfl ?_
    | refine LOps.pure (Pure.mv (lv := .atom _) rfl) rfl ?_
    | refine LOps.pure (Pure.eql rfl rfl) rfl ?_
    | refine LOps.pure (Pure.ldHAgg (cs' := [_, _, _]) rfl (List.Mem.head _) rfl rfl) rfl ?_
    | refine LOps.pure (Pure.ldHAgg (cs' := [_, _, _]) rfl (List.Mem.tail _ (List.Mem.head _)) rfl rfl) rfl ?_
    | refine LOps.want rfl rfl ?_
    | refine LOps.step (S.store (cs' := [_, _, _]) rfl Pick.here rfl rfl rfl rfl rfl ?_) rfl
  refine LOps.step (S.fn [_, _] rfl (by
    have := pequal_spec (B0 := B0) (w0 := w0) ⟨pv, pa, [fd]⟩ ⟨pv, pa, [fd]⟩ hpo hpo
    rw [(eqPr_iff _ _).2 rfl] at this
    exact this) ?_) rfl
  repeat first
    | refine LOps.nil ?_
    | refine LCode.ret ?_
    | refine QThen.normal ?_
    | refine LOps.pure (Pure.as (lv := .atom _) rfl) rfl ?_
    | refine LOps.pure (Pure.pickT (lv := .atom _) rfl rfl) rfl ?_
  exact retRet rfl (AllRes.cons (ResIs.tmp (v := .atom _) rfl (LV.Sub.refl _)) AllRes.nil) rfl
end
end Go.Proofs.YtfodkbchknknjaaGreatDoor
