/- Texts joined: PeepQ, PeepR, PeepP. -/
import Derived.Test.YtkjjenppmmipmaaGreatDoorBPeepRowU4
set_option linter.unusedVariables false
set_option linter.unusedSimpArgs false
namespace Go.Proofs.YtkjjenppmmipmaaGreatDoor
open Go.GL Go.RowKit Go.Stele
set_option maxRecDepth 100000
set_option maxHeartbeats 4000000
theorem wrapU64b {n : Int} (h : 0 ≤ n ∧ n < 18446744073709551616) : IntKind.u64.wrap n = n := by
  simp only [IntKind.wrap, IntKind.bits, IntKind.signed, Bool.false_and]
  simp
  omega
theorem sub_lt {a : Nat} (ha : a < 10) : (([48, 49, 50, 51, 52, 53, 54, 55, 56, 57] : List UInt8).take ((a : Int) + 1).toNat).drop (a : Int).toNat = [UInt8.ofNat (48 + a)] := by
  have : ∀ a : Nat, a < 10 → (([48, 49, 50, 51, 52, 53, 54, 55, 56, 57] : List UInt8).take (a + 1)).drop a = [UInt8.ofNat (48 + a)] := by decide
  exact this a ha
theorem digit_no {c : UInt8} (h : cv c < 48 ∨ cv c > 57) : isDigit c = false := by
  unfold isDigit
  rcases h with h | h
  · rw [decide_eq_false (by omega), Bool.false_and]
  · rw [decide_eq_false (p := cv c ≤ 57) (by omega), Bool.and_false]
theorem inner_no {c : UInt8} {b : Bool} (h : b = true ↔ ¬ ((97 ≤ cv c ∧ cv c ≤ 122) ∨ (48 ≤ cv c ∧ cv c ≤ 57) ∨ cv c = 95)) : b = !isInner c := by
  have h2 : isInner c = true ↔ ((97 ≤ cv c ∧ cv c ≤ 122) ∨ (48 ≤ cv c ∧ cv c ≤ 57) ∨ cv c = 95) := by
    unfold isInner isLetter isDigit
    simp only [Bool.or_eq_true, Bool.and_eq_true, decide_eq_true_eq]
    omega
  rw [Bool.eq_iff_iff, h, Bool.not_eq_true', ← Bool.not_eq_true, h2]
theorem last_get {s : List UInt8} (h : 1 < s.length) : s.getLast? = some s[s.length - 1] := by
  rw [List.getLast?_eq_getElem?, List.getElem?_eq_getElem (by omega)]
theorem pvl_take {s : List UInt8} {i : Nat} (h : i < s.length) : pvl 0 (s.take (i + 1)) = 10 * pvl 0 (s.take i) + (s[i].toNat - 48) := by
  rw [List.take_succ_eq_append_getElem h, pvl_append]
  rfl
attribute [local irreducible] LOps LCode LStep LCalls Go.GL.Pure QThen QBlock RetPost LQ LAny LLate LLateOp
section
variable {B0 : Nat} {w0 : World}
theorem dec24_spec : ∀ (m n : Nat), n ≤ m → n < 4294967296 → LCalls (KC B0 w0) 85 [int .u32 n] [] (Ret (str (Go.Lib.decDigits n))) := by
  intro m
  induction m with
  | zero =>
    intro n hn _
    have h0 : n = 0 := by omega
    subst h0
    refine LCalls.intro Tryz.func85 rfl (n := 16) rfl rfl rfl ?_
    repeat first
      | refine LOps.nil ?_
      | refine LCode.seq ?_
      | refine LCode.region ?_
      | refine QThen.normal ?_
      | refine LOps.pure (Pure.as (lv := .atom _) rfl) rfl ?_
      | refine LOps.pure (Pure.mv (lv := .atom _) rfl) rfl ?_
      | refine LOps.pure (Pure.lss rfl rfl) rfl ?_
    refine LCode.cond rfl (fun hc => ?_) (fun hc => ?_)
    · repeat first
        | refine LCode.seq ?_
        | refine LCode.region ?_
        | refine LOps.pure (Pure.mv (lv := .atom _) rfl) rfl ?_
      refine LOps.pure (Pure.addW rfl rfl) rfl ?_
      refine LOps.pure (Pure.sslice (i := 0) (j := 1) rfl ⟨_, rfl⟩ ⟨_, rfl⟩ (by decide) (by decide) (by decide)) rfl ?_
      repeat first
        | refine LOps.nil ?_
        | refine LCode.ret ?_
        | refine QThen.normal ?_
        | refine QThen.ret ?_
        | refine LOps.pure (Pure.as (lv := .atom _) rfl) rfl ?_
      exact retRet rfl (AllRes.cons (ResIs.tmp (v := .atom _) rfl (LV.Sub.refl _)) AllRes.nil) (str_eq (by rw [Go.Lib.decDigits]; rfl))
    · exact absurd hc (by decide)
  | succ m ih =>
    intro n hn hlt
    refine LCalls.intro Tryz.func85 rfl (n := 16) rfl rfl rfl ?_
    repeat first
      | refine LOps.nil ?_
      | refine LCode.seq ?_
      | refine LCode.region ?_
      | refine QThen.normal ?_
      | refine LOps.pure (Pure.as (lv := .atom _) rfl) rfl ?_
      | refine LOps.pure (Pure.mv (lv := .atom _) rfl) rfl ?_
      | refine LOps.pure (Pure.lss rfl rfl) rfl ?_
    refine LCode.cond rfl (fun hc => ?_) (fun hc => ?_)
    · have h10 : n < 10 := by have := of_decide_eq_true hc; omega
      have hw : int .u32 (IntKind.u32.wrap ((n : Int) + 1)) = int .u32 ((n : Int) + 1) := by rw [wrapU32 (by omega)]
      repeat first
        | refine LCode.seq ?_
        | refine LCode.region ?_
        | refine LOps.pure (Pure.mv (lv := .atom _) rfl) rfl ?_
      refine LOps.pure (Pure.addW rfl rfl) rfl ?_
      refine LOps.pure (Pure.sslice (i := n) (j := (n : Int) + 1) rfl ⟨_, rfl⟩ ⟨_, hw⟩ (by omega) (by omega) (by simp; omega)) rfl ?_
      repeat first
        | refine LOps.nil ?_
        | refine LCode.ret ?_
        | refine QThen.normal ?_
        | refine QThen.ret ?_
        | refine LOps.pure (Pure.as (lv := .atom _) rfl) rfl ?_
      exact retRet rfl (AllRes.cons (ResIs.tmp (v := .atom _) rfl (LV.Sub.refl _)) AllRes.nil) (str_eq (by rw [Go.Lib.decDigits, dif_pos h10]; exact sub_lt h10))
    · have h10 : ¬ n < 10 := by have := of_decide_eq_false hc; omega
      have hq : IntKind.u32.wrap ((n : Int).tdiv 10) = ((n / 10 : Nat) : Int) := by
        rw [Int.tdiv_eq_ediv_of_nonneg (by omega), wrapU32 (by omega)]
        omega
      have hr : (n : Int).tmod 10 = ((n % 10 : Nat) : Int) := by
        rw [Int.tmod_eq_emod_of_nonneg (by omega)]
        omega
      have hd1 := dec_len (u := n / 10) (by omega)
      have hd2 := dec_len (u := n % 10) (by omega)
      repeat first
        | refine LCode.seq ?_
        | refine LCode.region ?_
        | refine LCode.skip ?_
        | refine QThen.normal ?_
        | refine LOps.pure (Pure.mv (lv := .atom _) rfl) rfl ?_
      refine LOps.pure (Pure.quoW rfl rfl (by decide)) rfl ?_
      refine LOps.step (S.fn [_] rfl (by rw [hq]; exact ih (n / 10) (by omega) (by omega)) ?_) rfl
      repeat first
        | refine LOps.pure (Pure.mv (lv := .atom _) rfl) rfl ?_
      refine LOps.pure (Pure.remW rfl rfl (by decide)) rfl ?_
      refine LOps.step (S.fn [_] rfl (by rw [hr]; exact ih (n % 10) (by omega) (by omega)) ?_) rfl
      refine LOps.pure (Pure.sadd rfl rfl (by omega)) rfl ?_
      repeat first
        | refine LOps.nil ?_
        | refine LCode.ret ?_
        | refine QThen.normal ?_
        | refine LOps.pure (Pure.as (lv := .atom _) rfl) rfl ?_
      exact retRet rfl (AllRes.cons (ResIs.tmp (v := .atom _) rfl (LV.Sub.refl _)) AllRes.nil) (str_eq (by
        rw [show Go.Lib.decDigits n = Go.Lib.decDigits (n / 10) ++ [UInt8.ofNat (48 + n % 10)] by conv => lhs; rw [Go.Lib.decDigits, dif_neg h10]]
        congr 1
        rw [Go.Lib.decDigits, dif_pos (by omega)]))
/-- Text's switch passes an operator over. -/
theorem number24_spec (s : Wd) : LCalls (KC B0 w0) 57 [str s] [] (Ret (.tuple [int .u32 ((numW s).getD 0 : Nat), bool (numW s).isSome])) := by
  refine LCalls.intro Tryz.func57 rfl (n := 49) rfl rfl rfl ?_
  repeat first
    | refine LOps.nil ?_
    | refine LCode.seq ?_
    | refine LCode.region ?_
    | refine QThen.normal ?_
    | refine LOps.pure (Pure.as (lv := .atom _) rfl) rfl ?_
    | refine LOps.pure (Pure.mv (lv := .atom _) rfl) rfl ?_
    | refine LOps.pure (Pure.slen rfl) rfl ?_
    | refine LOps.pure (Pure.lss rfl rfl) rfl ?_
  refine LOps.bcase 9 rfl (fun h1 => ?_) (fun h1 => ?_)
  · have hn := numW_len (s := s) (.inl (by have := of_decide_eq_true h1; omega))
    repeat first
      | refine LOps.nil ?_
      | refine QThen.normal ?_
      | refine LOps.pure (Pure.pickT (lv := .atom _) rfl rfl) rfl ?_
      | refine LOps.skip rfl rfl rfl rfl ?_
    refine LCode.cond rfl (fun h => ?_) (fun h => by cases h)
    repeat first
      | refine LOps.nil ?_
      | refine LCode.seq ?_
      | refine LCode.region ?_
      | refine LCode.ret ?_
      | refine QThen.normal ?_
      | refine QThen.ret ?_
      | refine LOps.pure (Pure.as (lv := .atom _) rfl) rfl ?_
    exact retRet rfl (AllRes.cons (ResIs.tmp (v := .atom _) rfl (LV.Sub.refl _)) (AllRes.cons (ResIs.tmp (v := .atom _) rfl (LV.Sub.refl _)) AllRes.nil)) (by rw [hn]; rfl)
  have h1' : ¬ s.length < 1 := by have := of_decide_eq_false h1; omega
  repeat first
    | refine LOps.nil ?_
    | refine QThen.normal ?_
    | refine LOps.pure (Pure.mv (lv := .atom _) rfl) rfl ?_
    | refine LOps.pure (Pure.slen rfl) rfl ?_
    | refine LOps.pure (Pure.gtr rfl rfl) rfl ?_
    | refine LOps.pure (Pure.pickF (lv := .atom _) rfl rfl) rfl ?_
    | refine LOps.want rfl rfl ?_
  refine LCode.cond rfl (fun h => ?_) (fun h => ?_)
  · have hn := numW_len (s := s) (.inr (by have := of_decide_eq_true h; omega))
    repeat first
      | refine LOps.nil ?_
      | refine LCode.seq ?_
      | refine LCode.region ?_
      | refine LCode.ret ?_
      | refine QThen.normal ?_
      | refine QThen.ret ?_
      | refine LOps.pure (Pure.as (lv := .atom _) rfl) rfl ?_
    exact retRet rfl (AllRes.cons (ResIs.tmp (v := .atom _) rfl (LV.Sub.refl _)) (AllRes.cons (ResIs.tmp (v := .atom _) rfl (LV.Sub.refl _)) AllRes.nil)) (by rw [hn]; rfl)
  have h2' : s.length ≤ 10 := by have := of_decide_eq_false h; omega
  repeat first
    | refine LOps.nil ?_
    | refine LCode.seq ?_
    | refine LCode.region ?_
    | refine LCode.skip ?_
    | refine LCode.block ?_
    | refine QThen.normal ?_
    | refine LOps.pure (Pure.as (lv := .atom _) rfl) rfl ?_
  refine LCode.loopI (fun k ls H => ∃ i : Nat, i ≤ s.length ∧ k = s.length - i ∧ ls = [(0, str s), (4, int .u64 (pvl 0 (s.take i) : Nat)), (5, int .i64 (i : Nat))] ∧ H = [] ∧ ∀ c ∈ s.take i, isDigit c = true)
    ⟨_, _, _, ⟨0, Nat.zero_le _, rfl, rfl, rfl, by simp⟩, ⟨rfl, rfl, rfl, trivial⟩, HSub.refl _⟩ ?_
  rintro k ls H ⟨i, hi, rfl, rfl, rfl, hD⟩ j hj
  repeat first
    | refine LOps.nil ?_
    | refine LCode.seq ?_
    | refine LCode.region ?_
    | refine QThen.normal ?_
    | refine LOps.pure (Pure.mv (lv := .atom _) rfl) rfl ?_
    | refine LOps.pure (Pure.slen rfl) rfl ?_
    | refine LOps.pure (Pure.lss rfl rfl) rfl ?_
  refine LCode.cond rfl (fun hc => ?_) (fun hc => ?_)
  · have hlt : i < s.length := by have := of_decide_eq_true hc; omega
    have hlt10 : pvl 0 (s.take i) < 10000000000 := Nat.lt_of_lt_of_le (pvl_lt s i hD) (Nat.pow_le_pow_right (n := 10) (by decide) (show i ≤ 10 by omega))
    have hcb := s[i].toNat_lt
    repeat first
      | refine LCode.seq ?_
      | refine LCode.region ?_
      | refine LCode.skip ?_
      | refine LCode.block ?_
      | refine QThen.normal ?_
      | refine LOps.pure (Pure.mv (lv := .atom _) rfl) rfl ?_
    refine LOps.pure (Pure.sindex (c := s[i]) rfl rfl (by omega) (by simp)) rfl ?_
    repeat first
      | refine LOps.pure (Pure.mv (lv := .atom _) rfl) rfl ?_
      | refine LOps.pure (Pure.lss rfl rfl) rfl ?_
    refine LOps.bcase 24 rfl (fun h3 => ?_) (fun h3 => ?_)
    · have hn := numW_char (List.getElem_mem hlt) (digit_no (.inl (of_decide_eq_true h3)))
      repeat first
        | refine LOps.nil ?_
        | refine QThen.normal ?_
        | refine LOps.pure (Pure.pickT (lv := .atom _) rfl rfl) rfl ?_
        | refine LOps.skip rfl rfl rfl rfl ?_
      refine LCode.cond rfl (fun h => ?_) (fun h => by cases h)
      repeat first
        | refine LOps.nil ?_
        | refine LCode.seq ?_
        | refine LCode.region ?_
        | refine LCode.ret ?_
        | refine QThen.normal ?_
        | refine QThen.ret ?_
        | refine QBlock.ret ?_
        | refine LOps.pure (Pure.as (lv := .atom _) rfl) rfl ?_
      exact retRet hj (AllRes.cons (ResIs.tmp (v := .atom _) rfl (LV.Sub.refl _)) (AllRes.cons (ResIs.tmp (v := .atom _) rfl (LV.Sub.refl _)) AllRes.nil)) (by rw [hn]; rfl)
    have h3' : ¬ cv s[i] < 48 := of_decide_eq_false h3
    repeat first
      | refine LOps.pure (Pure.mv (lv := .atom _) rfl) rfl ?_
      | refine LOps.want rfl rfl ?_
    refine LOps.pure (Pure.sindex (c := s[i]) rfl rfl (by omega) (by simp)) rfl ?_
    repeat first
      | refine LOps.nil ?_
      | refine QThen.normal ?_
      | refine LOps.pure (Pure.gtr rfl rfl) rfl ?_
      | refine LOps.pure (Pure.pickF (lv := .atom _) rfl rfl) rfl ?_
      | refine LOps.want rfl rfl ?_
    refine LCode.cond rfl (fun h => ?_) (fun h => ?_)
    · have hn := numW_char (List.getElem_mem hlt) (digit_no (.inr (of_decide_eq_true h)))
      repeat first
        | refine LOps.nil ?_
        | refine LCode.seq ?_
        | refine LCode.region ?_
        | refine LCode.ret ?_
        | refine QThen.normal ?_
        | refine QThen.ret ?_
        | refine QBlock.ret ?_
        | refine LOps.pure (Pure.as (lv := .atom _) rfl) rfl ?_
      exact retRet hj (AllRes.cons (ResIs.tmp (v := .atom _) rfl (LV.Sub.refl _)) (AllRes.cons (ResIs.tmp (v := .atom _) rfl (LV.Sub.refl _)) AllRes.nil)) (by rw [hn]; rfl)
    have h4' : ¬ cv s[i] > 57 := of_decide_eq_false h
    have hd : isDigit s[i] = true := by
      unfold isDigit
      rw [decide_eq_true (by omega), decide_eq_true (by omega)]
      rfl
    have hp := pvl_take hlt
    unfold cv at h3' h4'
    repeat first
      | refine LCode.region ?_
      | refine LCode.skip ?_
      | refine QThen.normal ?_
      | refine LOps.pure (Pure.mv (lv := .atom _) rfl) rfl ?_
    refine LOps.pure (Pure.mulW rfl rfl) rfl ?_
    repeat first
      | refine LOps.pure (Pure.mv (lv := .atom _) rfl) rfl ?_
    refine LOps.pure (Pure.sindex (c := s[i]) rfl rfl (by omega) (by simp)) rfl ?_
    repeat first
      | refine LOps.pure (Pure.cvt rfl) rfl ?_
    refine LOps.pure (Pure.addW rfl rfl) rfl ?_
    refine LOps.pure (Pure.subW rfl rfl) rfl ?_
    repeat first
      | refine LOps.nil ?_
      | refine LCode.region ?_
      | refine QThen.normal ?_
      | refine QBlock.normal ?_
      | refine LOps.pure (Pure.as (lv := .atom _) rfl) rfl ?_
      | refine LOps.pure (Pure.mv (lv := .atom _) rfl) rfl ?_
      | refine LOps.pure (Pure.add rfl rfl (by omega)) rfl ?_
    exact ⟨_, _, _, by omega, ⟨i + 1, by omega, rfl, rfl, rfl, fun c hc => by
      rw [List.take_succ_eq_append_getElem hlt] at hc
      rcases List.mem_append.1 hc with hc | hc
      · exact hD c hc
      · rw [List.mem_singleton.1 hc]; exact hd⟩, ⟨rfl, int_eq (by
        rw [hp, wrapU64b (n := 10 * _) (by omega), wrapU64b (n := (s[i].toNat : Int)) (by omega), wrapU64b (n := _ + _) (by omega), wrapU64b (by omega)]
        omega), int_eq (by omega), trivial⟩, HSub.refl _, hj⟩
  · have hi' : i = s.length := by have := of_decide_eq_false hc; omega
    subst hi'
    rw [List.take_length]
    have hN := numW_pv s
    generalize pvl 0 s = n at hN
    repeat first
      | refine LCode.seq ?_
      | refine LCode.region ?_
      | refine LCode.exit ?_
      | refine QThen.normal ?_
      | refine QThen.exit ?_
      | refine QBlock.hit ?_
      | refine LOps.pure (Pure.mv (lv := .atom _) rfl) rfl ?_
      | refine LOps.pure (Pure.gtr rfl rfl) rfl ?_
    refine LOps.bcase 40 rfl (fun h3 => ?_) (fun h3 => ?_)
    · have h3' : ¬ n < 4294967296 := by have := of_decide_eq_true h3; omega
      rw [if_neg fun h => h3' h.1] at hN
      repeat first
        | refine LOps.nil ?_
        | refine QThen.normal ?_
        | refine LOps.pure (Pure.pickT (lv := .atom _) rfl rfl) rfl ?_
        | refine LOps.skip rfl rfl rfl rfl ?_
      refine LCode.cond rfl (fun h => ?_) (fun h => by cases h)
      repeat first
        | refine LOps.nil ?_
        | refine LCode.seq ?_
        | refine LCode.region ?_
        | refine LCode.ret ?_
        | refine QThen.normal ?_
        | refine QThen.ret ?_
        | refine LOps.pure (Pure.as (lv := .atom _) rfl) rfl ?_
      exact retRet hj (AllRes.cons (ResIs.tmp (v := .atom _) rfl (LV.Sub.refl _)) (AllRes.cons (ResIs.tmp (v := .atom _) rfl (LV.Sub.refl _)) AllRes.nil)) (by rw [hN]; rfl)
    · have h3' : n < 4294967296 := by have := of_decide_eq_false h3; omega
      repeat first
        | refine LOps.pure (Pure.mv (lv := .atom _) rfl) rfl ?_
        | refine LOps.pure (Pure.cvt rfl) rfl ?_
        | refine LOps.want rfl rfl ?_
      refine LOps.step (S.fn [_] (show _ = [int .u32 (IntKind.u32.wrap (n : Int))] from rfl) (by rw [wrapU32 (by omega)]; exact dec24_spec n n (Nat.le_refl _) h3') ?_) rfl
      repeat first
        | refine LOps.nil ?_
        | refine QThen.normal ?_
        | refine LOps.pure (Pure.mv (lv := .atom _) rfl) rfl ?_
        | refine LOps.pure (Pure.pickF (lv := .atom _) rfl rfl) rfl ?_
        | refine LOps.pure (Pure.sneq rfl rfl) rfl ?_
        | refine LOps.want rfl rfl ?_
      refine LCode.cond rfl (fun h => ?_) (fun h => ?_)
      · have hne : ¬ Go.Lib.decDigits n = s := by simpa using h
        rw [if_neg fun h => hne h.2] at hN
        repeat first
          | refine LOps.nil ?_
          | refine LCode.seq ?_
          | refine LCode.region ?_
          | refine LCode.ret ?_
          | refine QThen.normal ?_
          | refine QThen.ret ?_
          | refine LOps.pure (Pure.as (lv := .atom _) rfl) rfl ?_
        exact retRet hj (AllRes.cons (ResIs.tmp (v := .atom _) rfl (LV.Sub.refl _)) (AllRes.cons (ResIs.tmp (v := .atom _) rfl (LV.Sub.refl _)) AllRes.nil)) (by rw [hN]; rfl)
      · have he : Go.Lib.decDigits n = s := by simpa using h
        rw [if_pos ⟨h3', he⟩] at hN
        repeat first
          | refine LOps.nil ?_
          | refine LCode.seq ?_
          | refine LCode.region ?_
          | refine LCode.skip ?_
          | refine LCode.ret ?_
          | refine QThen.normal ?_
          | refine LOps.pure (Pure.as (lv := .atom _) rfl) rfl ?_
          | refine LOps.pure (Pure.mv (lv := .atom _) rfl) rfl ?_
          | refine LOps.pure (Pure.cvt rfl) rfl ?_
        exact retRet hj (AllRes.cons (ResIs.tmp (v := .atom _) rfl (LV.Sub.refl _)) (AllRes.cons (ResIs.tmp (v := .atom _) rfl (LV.Sub.refl _)) AllRes.nil)) (by
          rw [hN, wrapU32 (by omega)]
          rfl)
theorem name24_spec (s : Wd) : LCalls (KC B0 w0) 87 [str s] [] (Ret (bool (nameW s))) := by
  refine LCalls.intro Tryz.func87 rfl (n := 50) rfl rfl rfl ?_
  repeat first
    | refine LOps.nil ?_
    | refine LCode.seq ?_
    | refine LCode.region ?_
    | refine QThen.normal ?_
    | refine LOps.pure (Pure.as (lv := .atom _) rfl) rfl ?_
    | refine LOps.pure (Pure.mv (lv := .atom _) rfl) rfl ?_
    | refine LOps.pure (Pure.slen rfl) rfl ?_
    | refine LOps.pure (Pure.lss rfl rfl) rfl ?_
  refine LOps.bcase 8 rfl (fun h1 => ?_) (fun h1 => ?_)
  · have h1' : s = [] := List.eq_nil_of_length_eq_zero (by have := of_decide_eq_true h1; omega)
    subst h1'
    repeat first
      | refine LOps.nil ?_
      | refine QThen.normal ?_
      | refine LOps.pure (Pure.mv (lv := .atom _) rfl) rfl ?_
      | refine LOps.pure (Pure.pickT (lv := .atom _) rfl rfl) rfl ?_
      | refine LOps.skip rfl rfl rfl rfl ?_
    refine LCode.cond rfl (fun h => ?_) (fun h => by cases h)
    repeat first
      | refine LOps.nil ?_
      | refine LCode.seq ?_
      | refine LCode.region ?_
      | refine LCode.ret ?_
      | refine QThen.normal ?_
      | refine QThen.ret ?_
      | refine LOps.pure (Pure.as (lv := .atom _) rfl) rfl ?_
    exact retRet rfl (AllRes.cons (ResIs.tmp (v := .atom _) rfl (LV.Sub.refl _)) AllRes.nil) rfl
  obtain ⟨c, r, rfl⟩ : ∃ c r, s = c :: r := by
    cases s with
    | nil => exact absurd h1 (by decide)
    | cons c r => exact ⟨c, r, rfl⟩
  have hN := nameW_eq c r
  repeat first
    | refine LOps.pure (Pure.mv (lv := .atom _) rfl) rfl ?_
    | refine LOps.pure (Pure.slen rfl) rfl ?_
    | refine LOps.pure (Pure.gtr rfl rfl) rfl ?_
    | refine LOps.pure (Pure.pickF (lv := .atom _) rfl rfl) rfl ?_
    | refine LOps.want rfl rfl ?_
  refine LOps.bcase 13 rfl (fun h2 => ?_) (fun h2 => ?_)
  · have h2' : ¬ (c :: r).length ≤ 40 := by have := of_decide_eq_true h2; omega
    rw [decide_eq_false h2', Bool.false_and, Bool.false_and] at hN
    repeat first
      | refine LOps.nil ?_
      | refine QThen.normal ?_
      | refine LOps.pure (Pure.mv (lv := .atom _) rfl) rfl ?_
      | refine LOps.pure (Pure.pickT (lv := .atom _) rfl rfl) rfl ?_
      | refine LOps.skip rfl rfl rfl rfl ?_
    refine LCode.cond rfl (fun h => ?_) (fun h => by cases h)
    repeat first
      | refine LOps.nil ?_
      | refine LCode.seq ?_
      | refine LCode.region ?_
      | refine LCode.ret ?_
      | refine QThen.normal ?_
      | refine QThen.ret ?_
      | refine LOps.pure (Pure.as (lv := .atom _) rfl) rfl ?_
    exact retRet rfl (AllRes.cons (ResIs.tmp (v := .atom _) rfl (LV.Sub.refl _)) AllRes.nil) (bool_eq hN.symm)
  have h2' : (c :: r).length ≤ 40 := by have := of_decide_eq_false h2; omega
  rw [decide_eq_true h2', Bool.true_and] at hN
  repeat first
    | refine LOps.pure (Pure.mv (lv := .atom _) rfl) rfl ?_
    | refine LOps.want rfl rfl ?_
  refine LOps.pure (Pure.sindex (c := c) rfl rfl (by omega) rfl) rfl ?_
  repeat first
    | refine LOps.pure (Pure.mv (lv := .atom _) rfl) rfl ?_
    | refine LOps.pure (Pure.lss rfl rfl) rfl ?_
    | refine LOps.pure (Pure.pickF (lv := .atom _) rfl rfl) rfl ?_
    | refine LOps.want rfl rfl ?_
  refine LOps.bcase 18 rfl (fun h3 => ?_) (fun h3 => ?_)
  · have h3' : isLetter c = false := by
      unfold isLetter
      rw [decide_eq_false (by have : cv c < 97 := of_decide_eq_true h3; omega), Bool.false_and]
    rw [h3', Bool.false_and] at hN
    repeat first
      | refine LOps.nil ?_
      | refine QThen.normal ?_
      | refine LOps.pure (Pure.pickT (lv := .atom _) rfl rfl) rfl ?_
      | refine LOps.skip rfl rfl rfl rfl ?_
    refine LCode.cond rfl (fun h => ?_) (fun h => by cases h)
    repeat first
      | refine LOps.nil ?_
      | refine LCode.seq ?_
      | refine LCode.region ?_
      | refine LCode.ret ?_
      | refine QThen.normal ?_
      | refine QThen.ret ?_
      | refine LOps.pure (Pure.as (lv := .atom _) rfl) rfl ?_
    exact retRet rfl (AllRes.cons (ResIs.tmp (v := .atom _) rfl (LV.Sub.refl _)) AllRes.nil) (bool_eq hN.symm)
  repeat first
    | refine LOps.pure (Pure.mv (lv := .atom _) rfl) rfl ?_
    | refine LOps.want rfl rfl ?_
  refine LOps.pure (Pure.sindex (c := c) rfl rfl (by omega) rfl) rfl ?_
  repeat first
    | refine LOps.nil ?_
    | refine QThen.normal ?_
    | refine LOps.pure (Pure.gtr rfl rfl) rfl ?_
    | refine LOps.pure (Pure.pickF (lv := .atom _) rfl rfl) rfl ?_
    | refine LOps.want rfl rfl ?_
  refine LCode.cond rfl (fun h => ?_) (fun h => ?_)
  · have h3' : isLetter c = false := by
      unfold isLetter
      rw [decide_eq_false (p := cv c ≤ 122) (by have : cv c > 122 := of_decide_eq_true h; omega), Bool.and_false]
    rw [h3', Bool.false_and] at hN
    repeat first
      | refine LOps.nil ?_
      | refine LCode.seq ?_
      | refine LCode.region ?_
      | refine LCode.ret ?_
      | refine QThen.normal ?_
      | refine QThen.ret ?_
      | refine LOps.pure (Pure.as (lv := .atom _) rfl) rfl ?_
    exact retRet rfl (AllRes.cons (ResIs.tmp (v := .atom _) rfl (LV.Sub.refl _)) AllRes.nil) (bool_eq hN.symm)
  have h3' : isLetter c = true := by
    unfold isLetter
    rw [decide_eq_true (by have : ¬ cv c < 97 := of_decide_eq_false h3; omega), decide_eq_true (by have : ¬ cv c > 122 := of_decide_eq_false h; omega)]
    rfl
  rw [h3', Bool.true_and] at hN
  generalize c :: r = s at hN h2'
  clear h1 h2 h3 h h3'
  repeat first
    | refine LOps.nil ?_
    | refine LCode.seq ?_
    | refine LCode.region ?_
    | refine LCode.skip ?_
    | refine LCode.block ?_
    | refine QThen.normal ?_
    | refine LOps.pure (Pure.as (lv := .atom _) rfl) rfl ?_
  refine LCode.loopI (fun k ls H => ∃ i : Nat, i ≤ s.length ∧ k = s.length - i ∧ ls = [(0, str s), (3, int .i64 (i : Nat))] ∧ H = [] ∧ s.all isInner = (s.drop i).all isInner)
    ⟨_, _, _, ⟨0, Nat.zero_le _, rfl, rfl, rfl, rfl⟩, ⟨rfl, rfl, trivial⟩, HSub.refl _⟩ ?_
  rintro k ls H ⟨i, hi, rfl, rfl, rfl, hD⟩ j hj
  repeat first
    | refine LOps.nil ?_
    | refine LCode.seq ?_
    | refine LCode.region ?_
    | refine QThen.normal ?_
    | refine LOps.pure (Pure.mv (lv := .atom _) rfl) rfl ?_
    | refine LOps.pure (Pure.slen rfl) rfl ?_
    | refine LOps.pure (Pure.lss rfl rfl) rfl ?_
  refine LCode.cond rfl (fun hc => ?_) (fun hc => ?_)
  · have hlt : i < s.length := by have := of_decide_eq_true hc; omega
    rw [List.drop_eq_getElem_cons hlt, List.all_cons] at hD
    repeat first
      | refine LCode.seq ?_
      | refine LCode.region ?_
      | refine LCode.skip ?_
      | refine LCode.block ?_
      | refine QThen.normal ?_
      | refine LOps.pure (Pure.mv (lv := .atom _) rfl) rfl ?_
    refine LOps.pure (Pure.sindex (c := s[i]) rfl rfl (by omega) (by simp)) rfl ?_
    repeat first
      | refine LOps.nil ?_
      | refine LCode.seq ?_
      | refine LCode.region ?_
      | refine QThen.normal ?_
      | refine LOps.pure (Pure.as (lv := .atom _) rfl) rfl ?_
      | refine LOps.pure (Pure.mv (lv := .atom _) rfl) rfl ?_
      | refine LOps.pure (Pure.lss rfl rfl) rfl ?_
    generalize s[i] = c at hD
    refine LOps.cut [(0, str s), (3, int .i64 (i : Nat)), (49, bool (!isInner c))] ?_ (fun j2 hj2 => ?_)
    · refine LOps.bcase 34 rfl (fun h1 => ?_) (fun h1 => ?_)
      · have h1' : cv c < 97 := of_decide_eq_true h1
        repeat first
          | refine LOps.pure (Pure.mv (lv := .atom _) rfl) rfl ?_
          | refine LOps.pure (Pure.lss rfl rfl) rfl ?_
          | refine LOps.pure (Pure.pickT (lv := .atom _) rfl rfl) rfl ?_
          | refine LOps.want rfl rfl ?_
          | refine LOps.skip rfl rfl rfl rfl ?_
        refine LOps.bcase 41 rfl (fun h2 => ?_) (fun h2 => ?_)
        · have h2' : cv c < 48 := of_decide_eq_true h2
          repeat first
            | refine LOps.nil ?_
            | refine QThen.normal ?_
            | refine LOps.pure (Pure.mv (lv := .atom _) rfl) rfl ?_
            | refine LOps.pure (Pure.pickT (lv := .atom _) rfl rfl) rfl ?_
            | refine LOps.pure (Pure.neq rfl rfl) rfl ?_
            | refine LOps.want rfl rfl ?_
            | refine LOps.skip rfl rfl rfl rfl ?_
          exact ⟨⟨rfl, rfl, bool_eq (inner_no (by rw [Bool.not_eq_true', decide_eq_false_iff_not]; unfold cv at *; constructor <;> intro hx <;> omega)), trivial⟩, rfl, rfl⟩
        · have h2' : ¬ cv c < 48 := of_decide_eq_false h2
          repeat first
            | refine LOps.pure (Pure.mv (lv := .atom _) rfl) rfl ?_
            | refine LOps.pure (Pure.gtr rfl rfl) rfl ?_
            | refine LOps.pure (Pure.pickT (lv := .atom _) rfl rfl) rfl ?_
            | refine LOps.pure (Pure.pickF (lv := .atom _) rfl rfl) rfl ?_
            | refine LOps.want rfl rfl ?_
          refine LOps.bcase 46 rfl (fun h3 => ?_) (fun h3 => ?_)
          · have h3' : cv c > 57 := of_decide_eq_true h3
            repeat first
              | refine LOps.nil ?_
              | refine QThen.normal ?_
              | refine LOps.pure (Pure.mv (lv := .atom _) rfl) rfl ?_
              | refine LOps.pure (Pure.pickT (lv := .atom _) rfl rfl) rfl ?_
              | refine LOps.pure (Pure.neq rfl rfl) rfl ?_
              | refine LOps.want rfl rfl ?_
            exact ⟨⟨rfl, rfl, bool_eq (inner_no (by rw [Bool.not_eq_true', decide_eq_false_iff_not]; unfold cv at *; constructor <;> intro hx <;> omega)), trivial⟩, rfl, rfl⟩
          · have h3' : ¬ cv c > 57 := of_decide_eq_false h3
            repeat first
              | refine LOps.nil ?_
              | refine QThen.normal ?_
              | refine LOps.pure (Pure.pickF (lv := .atom _) rfl rfl) rfl ?_
              | refine LOps.skip rfl rfl rfl rfl ?_
            exact ⟨⟨rfl, rfl, bool_eq (inner_no (by simp only [Bool.false_eq_true, false_iff, Decidable.not_not]; omega)), trivial⟩, rfl, rfl⟩
      · have h1' : ¬ cv c < 97 := of_decide_eq_false h1
        repeat first
          | refine LOps.pure (Pure.mv (lv := .atom _) rfl) rfl ?_
          | refine LOps.pure (Pure.gtr rfl rfl) rfl ?_
          | refine LOps.pure (Pure.pickF (lv := .atom _) rfl rfl) rfl ?_
          | refine LOps.want rfl rfl ?_
        refine LOps.bcase 38 rfl (fun h2 => ?_) (fun h2 => ?_)
        · have h2' : cv c > 122 := of_decide_eq_true h2
          repeat first
            | refine LOps.pure (Pure.mv (lv := .atom _) rfl) rfl ?_
            | refine LOps.pure (Pure.lss rfl rfl) rfl ?_
            | refine LOps.want rfl rfl ?_
          refine LOps.bcase 41 rfl (fun h3 => ?_) (fun h3 => ?_)
          · have h3' : cv c < 48 := of_decide_eq_true h3
            omega
          · repeat first
              | refine LOps.pure (Pure.mv (lv := .atom _) rfl) rfl ?_
              | refine LOps.pure (Pure.gtr rfl rfl) rfl ?_
              | refine LOps.pure (Pure.pickT (lv := .atom _) rfl rfl) rfl ?_
              | refine LOps.pure (Pure.pickF (lv := .atom _) rfl rfl) rfl ?_
              | refine LOps.want rfl rfl ?_
            refine LOps.bcase 46 rfl (fun h4 => ?_) (fun h4 => ?_)
            · repeat first
                | refine LOps.nil ?_
                | refine QThen.normal ?_
                | refine LOps.pure (Pure.mv (lv := .atom _) rfl) rfl ?_
                | refine LOps.pure (Pure.pickT (lv := .atom _) rfl rfl) rfl ?_
                | refine LOps.pure (Pure.neq rfl rfl) rfl ?_
                | refine LOps.want rfl rfl ?_
              exact ⟨⟨rfl, rfl, bool_eq (inner_no (by rw [Bool.not_eq_true', decide_eq_false_iff_not]; unfold cv at *; constructor <;> intro hx <;> omega)), trivial⟩, rfl, rfl⟩
            · have h4' : ¬ cv c > 57 := of_decide_eq_false h4
              omega
        · have h2' : ¬ cv c > 122 := of_decide_eq_false h2
          repeat first
            | refine LOps.nil ?_
            | refine QThen.normal ?_
            | refine LOps.pure (Pure.mv (lv := .atom _) rfl) rfl ?_
            | refine LOps.pure (Pure.pickF (lv := .atom _) rfl rfl) rfl ?_
            | refine LOps.skip rfl rfl rfl rfl ?_
            | refine LOps.skipU rfl rfl rfl ?_
          exact ⟨⟨rfl, rfl, bool_eq (inner_no (by simp only [Bool.false_eq_true, false_iff, Decidable.not_not]; omega)), trivial⟩, rfl, rfl⟩
    refine LCode.cond rfl (fun h => ?_) (fun h => ?_)
    · have h' : isInner c = false := by simpa using h
      rw [h', Bool.false_and] at hD
      rw [hD] at hN
      repeat first
        | refine LOps.nil ?_
        | refine LCode.seq ?_
        | refine LCode.region ?_
        | refine LCode.ret ?_
        | refine QThen.normal ?_
        | refine QThen.ret ?_
        | refine QBlock.ret ?_
        | refine LOps.pure (Pure.as (lv := .atom _) rfl) rfl ?_
      exact retRet (hj2.trans hj) (AllRes.cons (ResIs.tmp (v := .atom _) rfl (LV.Sub.refl _)) AllRes.nil) (bool_eq hN.symm)
    · have h' : isInner c = true := by simpa using h
      rw [h', Bool.true_and] at hD
      repeat first
        | refine LOps.nil ?_
        | refine LCode.region ?_
        | refine LCode.skip ?_
        | refine QThen.normal ?_
        | refine QBlock.normal ?_
        | refine LOps.pure (Pure.as (lv := .atom _) rfl) rfl ?_
        | refine LOps.pure (Pure.mv (lv := .atom _) rfl) rfl ?_
        | refine LOps.pure (Pure.add rfl rfl (by omega)) rfl ?_
      exact ⟨_, _, _, by omega, ⟨i + 1, by omega, rfl, rfl, rfl, hD⟩, ⟨rfl, int_eq (by omega), trivial⟩, HSub.refl _, hj2.trans hj⟩
  · have hi' : i = s.length := by have := of_decide_eq_false hc; omega
    subst hi'
    rw [List.drop_length, List.all_nil] at hD
    rw [hD] at hN
    repeat first
      | refine LOps.nil ?_
      | refine LCode.seq ?_
      | refine LCode.region ?_
      | refine LCode.ret ?_
      | refine LCode.exit ?_
      | refine QThen.normal ?_
      | refine QThen.exit ?_
      | refine QBlock.hit ?_
      | refine LOps.pure (Pure.as (lv := .atom _) rfl) rfl ?_
    exact retRet hj (AllRes.cons (ResIs.tmp (v := .atom _) rfl (LV.Sub.refl _)) AllRes.nil) (bool_eq hN.symm)
theorem definition24_spec (s : Wd) (hs : s.length ≤ 1000000000) : LCalls (KC B0 w0) 61 [str s] [] (Ret (str (defR s))) := by
  have hD := defR_eq s
  refine LCalls.intro Tryz.func61 rfl (n := 27) rfl rfl rfl ?_
  repeat first
    | refine LOps.nil ?_
    | refine LCode.seq ?_
    | refine LCode.region ?_
    | refine QThen.normal ?_
    | refine LOps.pure (Pure.as (lv := .atom _) rfl) rfl ?_
    | refine LOps.pure (Pure.mv (lv := .atom _) rfl) rfl ?_
    | refine LOps.pure (Pure.slen rfl) rfl ?_
    | refine LOps.pure (Pure.gtr rfl rfl) rfl ?_
  refine LOps.bcase 6 rfl (fun h1 => ?_) (fun h1 => ?_)
  · have h1' : 1 < s.length := by have := of_decide_eq_true h1; omega
    have hl := last_get h1'
    have hdl : (s.take ((s.length : Int) - 1).toNat).drop (0 : Int).toNat = s.dropLast := by
      rw [show ((s.length : Int) - 1).toNat = s.length - 1 by omega, List.dropLast_eq_take]
      rfl
    have hget : s[((s.length : Int) - 1).toNat]? = some s[s.length - 1] := by
      rw [show ((s.length : Int) - 1).toNat = s.length - 1 by omega, List.getElem?_eq_getElem (by omega)]
    generalize s[s.length - 1] = c at hl hget
    repeat first
      | refine LOps.pure (Pure.mv (lv := .atom _) rfl) rfl ?_
      | refine LOps.pure (Pure.slen rfl) rfl ?_
      | refine LOps.pure (Pure.sub rfl rfl (by omega)) rfl ?_
      | refine LOps.want rfl rfl ?_
    refine LOps.pure (Pure.sindex (c := c) rfl rfl (by omega) hget) rfl ?_
    repeat first
      | refine LOps.pure (Pure.mv (lv := .atom _) rfl) rfl ?_
      | refine LOps.pure (Pure.eql rfl rfl) rfl ?_
      | refine LOps.pure (Pure.pickT (lv := .atom _) rfl rfl) rfl ?_
      | refine LOps.want rfl rfl ?_
    refine LOps.bcase 14 rfl (fun h2 => ?_) (fun h2 => ?_)
    · have h2' : c = 58 := (cv_nat c 58 (by decide)).2 (of_decide_eq_true h2)
      subst h2'
      repeat first
        | refine LOps.pure (Pure.mv (lv := .atom _) rfl) rfl ?_
        | refine LOps.pure (Pure.slen rfl) rfl ?_
        | refine LOps.pure (Pure.sub rfl rfl (by omega)) rfl ?_
        | refine LOps.want rfl rfl ?_
      refine LOps.pure (show Go.GL.Pure _ _ _ _ (str s.dropLast) from hdl ▸ Pure.sslice (l := s) (i := 0) (j := (s.length : Int) - 1) rfl rfl ⟨_, rfl⟩ (by decide) (by omega) (by omega)) rfl ?_
      repeat first
        | refine LOps.want rfl rfl ?_
      refine LOps.step (S.fn [_] rfl (name24_spec s.dropLast) ?_) rfl
      repeat first
        | refine LOps.nil ?_
        | refine QThen.normal ?_
        | refine LOps.pure (Pure.pickT (lv := .atom _) rfl rfl) rfl ?_
      refine LCode.cond rfl (fun h => ?_) (fun h => ?_)
      · rw [if_pos ⟨h1', hl, h⟩] at hD
        repeat first
          | refine LCode.seq ?_
          | refine LCode.region ?_
          | refine LOps.pure (Pure.mv (lv := .atom _) rfl) rfl ?_
          | refine LOps.pure (Pure.slen rfl) rfl ?_
          | refine LOps.pure (Pure.sub rfl rfl (by omega)) rfl ?_
        refine LOps.pure (show Go.GL.Pure _ _ _ _ (str s.dropLast) from hdl ▸ Pure.sslice (l := s) (i := 0) (j := (s.length : Int) - 1) rfl rfl ⟨_, rfl⟩ (by decide) (by omega) (by omega)) rfl ?_
        repeat first
          | refine LOps.nil ?_
          | refine LCode.ret ?_
          | refine QThen.normal ?_
          | refine QThen.ret ?_
          | refine LOps.pure (Pure.as (lv := .atom _) rfl) rfl ?_
        exact retRet rfl (AllRes.cons (ResIs.tmp (v := .atom _) rfl (LV.Sub.refl _)) AllRes.nil) (str_eq hD.symm)
      · rw [if_neg (by rw [h]; simp)] at hD
        repeat first
          | refine LOps.nil ?_
          | refine LCode.seq ?_
          | refine LCode.region ?_
          | refine LCode.skip ?_
          | refine LCode.ret ?_
          | refine QThen.normal ?_
          | refine LOps.pure (Pure.as (lv := .atom _) rfl) rfl ?_
        exact retRet rfl (AllRes.cons (ResIs.tmp (v := .atom _) rfl (LV.Sub.refl _)) AllRes.nil) (str_eq hD.symm)
    · have h2' : ¬ c = 58 := fun e => of_decide_eq_false h2 ((cv_nat c 58 (by decide)).1 e)
      rw [if_neg (by rw [hl]; simp [h2'])] at hD
      repeat first
        | refine LOps.nil ?_
        | refine QThen.normal ?_
        | refine LOps.pure (Pure.pickF (lv := .atom _) rfl rfl) rfl ?_
        | refine LOps.skip rfl rfl rfl rfl ?_
      refine LCode.cond rfl (fun h => by cases h) (fun h => ?_)
      repeat first
        | refine LOps.nil ?_
        | refine LCode.seq ?_
        | refine LCode.region ?_
        | refine LCode.skip ?_
        | refine LCode.ret ?_
        | refine QThen.normal ?_
        | refine LOps.pure (Pure.as (lv := .atom _) rfl) rfl ?_
      exact retRet rfl (AllRes.cons (ResIs.tmp (v := .atom _) rfl (LV.Sub.refl _)) AllRes.nil) (str_eq hD.symm)
  · have h1' : ¬ 1 < s.length := by have := of_decide_eq_false h1; omega
    rw [if_neg fun h => h1' h.1] at hD
    repeat first
      | refine LOps.nil ?_
      | refine QThen.normal ?_
      | refine LOps.pure (Pure.mv (lv := .atom _) rfl) rfl ?_
      | refine LOps.pure (Pure.pickF (lv := .atom _) rfl rfl) rfl ?_
      | refine LOps.skip rfl rfl rfl rfl ?_
    refine LCode.cond rfl (fun h => by cases h) (fun h => ?_)
    repeat first
      | refine LOps.nil ?_
      | refine LCode.seq ?_
      | refine LCode.region ?_
      | refine LCode.skip ?_
      | refine LCode.ret ?_
      | refine QThen.normal ?_
      | refine LOps.pure (Pure.as (lv := .atom _) rfl) rfl ?_
    exact retRet rfl (AllRes.cons (ResIs.tmp (v := .atom _) rfl (LV.Sub.refl _)) AllRes.nil) (str_eq hD.symm)
theorem reference24_spec (s : Wd) (hs : s.length ≤ 1000000000) : LCalls (KC B0 w0) 59 [str s] [] (Ret (str (refR s))) := by
  cases s with
  | nil =>
    refine LCalls.intro Tryz.func59 rfl (n := 18) rfl rfl rfl ?_
    repeat first
      | refine LOps.nil ?_
      | refine LCode.seq ?_
      | refine LCode.region ?_
      | refine QThen.normal ?_
      | refine LOps.pure (Pure.as (lv := .atom _) rfl) rfl ?_
      | refine LOps.pure (Pure.mv (lv := .atom _) rfl) rfl ?_
      | refine LOps.pure (Pure.slen rfl) rfl ?_
      | refine LOps.pure (Pure.gtr rfl rfl) rfl ?_
      | refine LOps.pure (Pure.pickF (lv := .atom _) rfl rfl) rfl ?_
      | refine LOps.skip rfl rfl rfl rfl ?_
    refine LCode.cond rfl (fun h => by cases h) (fun h => ?_)
    repeat first
      | refine LOps.nil ?_
      | refine LCode.seq ?_
      | refine LCode.region ?_
      | refine LCode.skip ?_
      | refine LCode.ret ?_
      | refine QThen.normal ?_
      | refine LOps.pure (Pure.as (lv := .atom _) rfl) rfl ?_
    exact retRet rfl (AllRes.cons (ResIs.tmp (v := .atom _) rfl (LV.Sub.refl _)) AllRes.nil) rfl
  | cons c r =>
    have hD := refR_eq c r
    have hcl : (c :: r).length = r.length + 1 := rfl
    have hdl : ((c :: r).take (((c :: r).length : Nat) : Int).toNat).drop (1 : Int).toNat = r := by
      rw [Int.toNat_natCast, List.take_length]
      rfl
    refine LCalls.intro Tryz.func59 rfl (n := 18) rfl rfl rfl ?_
    repeat first
      | refine LOps.nil ?_
      | refine LCode.seq ?_
      | refine LCode.region ?_
      | refine QThen.normal ?_
      | refine LOps.pure (Pure.as (lv := .atom _) rfl) rfl ?_
      | refine LOps.pure (Pure.mv (lv := .atom _) rfl) rfl ?_
      | refine LOps.pure (Pure.slen rfl) rfl ?_
      | refine LOps.pure (Pure.gtr rfl rfl) rfl ?_
    refine LOps.bcase 6 rfl (fun h1 => ?_) (fun h1 => ?_)
    · have h1' : 1 < (c :: r).length := by have := of_decide_eq_true h1; omega
      repeat first
        | refine LOps.pure (Pure.mv (lv := .atom _) rfl) rfl ?_
        | refine LOps.want rfl rfl ?_
      refine LOps.pure (Pure.sindex (c := c) rfl rfl (by omega) rfl) rfl ?_
      repeat first
        | refine LOps.pure (Pure.mv (lv := .atom _) rfl) rfl ?_
        | refine LOps.pure (Pure.eql rfl rfl) rfl ?_
        | refine LOps.pure (Pure.pickT (lv := .atom _) rfl rfl) rfl ?_
        | refine LOps.want rfl rfl ?_
      refine LOps.bcase 11 rfl (fun h2 => ?_) (fun h2 => ?_)
      · have h2' : c = 38 := (cv_nat c 38 (by decide)).2 (of_decide_eq_true h2)
        subst h2'
        repeat first
          | refine LOps.pure (Pure.mv (lv := .atom _) rfl) rfl ?_
          | refine LOps.want rfl rfl ?_
        refine LOps.pure ((congrArg (fun x => Go.GL.Pure _ _ _ _ (str x)) hdl).mp (Pure.sslice (l := 38 :: r) (i := 1) (j := (((38 :: r).length : Nat) : Int)) rfl ⟨_, rfl⟩ rfl (by decide) (by omega) (by omega))) rfl ?_
        repeat first
          | refine LOps.want rfl rfl ?_
        refine LOps.step (S.fn [_] rfl (name24_spec r) ?_) rfl
        repeat first
          | refine LOps.nil ?_
          | refine QThen.normal ?_
          | refine LOps.pure (Pure.pickT (lv := .atom _) rfl rfl) rfl ?_
        refine LCode.cond rfl (fun h => ?_) (fun h => ?_)
        · rw [if_pos ⟨rfl, h⟩] at hD
          repeat first
            | refine LCode.seq ?_
            | refine LCode.region ?_
            | refine LOps.pure (Pure.mv (lv := .atom _) rfl) rfl ?_
          refine LOps.pure ((congrArg (fun x => Go.GL.Pure _ _ _ _ (str x)) hdl).mp (Pure.sslice (l := 38 :: r) (i := 1) (j := (((38 :: r).length : Nat) : Int)) rfl ⟨_, rfl⟩ rfl (by decide) (by omega) (by omega))) rfl ?_
          repeat first
            | refine LOps.nil ?_
            | refine LCode.ret ?_
            | refine QThen.normal ?_
            | refine QThen.ret ?_
            | refine LOps.pure (Pure.as (lv := .atom _) rfl) rfl ?_
          exact retRet rfl (AllRes.cons (ResIs.tmp (v := .atom _) rfl (LV.Sub.refl _)) AllRes.nil) (str_eq hD.symm)
        · rw [if_neg (by rw [h]; simp)] at hD
          repeat first
            | refine LOps.nil ?_
            | refine LCode.seq ?_
            | refine LCode.region ?_
            | refine LCode.skip ?_
            | refine LCode.ret ?_
            | refine QThen.normal ?_
            | refine LOps.pure (Pure.as (lv := .atom _) rfl) rfl ?_
          exact retRet rfl (AllRes.cons (ResIs.tmp (v := .atom _) rfl (LV.Sub.refl _)) AllRes.nil) (str_eq hD.symm)
      · have h2' : ¬ c = 38 := fun e => of_decide_eq_false h2 ((cv_nat c 38 (by decide)).1 e)
        rw [if_neg fun h => h2' h.1] at hD
        repeat first
          | refine LOps.nil ?_
          | refine QThen.normal ?_
          | refine LOps.pure (Pure.pickF (lv := .atom _) rfl rfl) rfl ?_
          | refine LOps.skip rfl rfl rfl rfl ?_
        refine LCode.cond rfl (fun h => by cases h) (fun h => ?_)
        repeat first
          | refine LOps.nil ?_
          | refine LCode.seq ?_
          | refine LCode.region ?_
          | refine LCode.skip ?_
          | refine LCode.ret ?_
          | refine QThen.normal ?_
          | refine LOps.pure (Pure.as (lv := .atom _) rfl) rfl ?_
        exact retRet rfl (AllRes.cons (ResIs.tmp (v := .atom _) rfl (LV.Sub.refl _)) AllRes.nil) (str_eq hD.symm)
    · have h1' : r = [] := List.eq_nil_of_length_eq_zero (by have := of_decide_eq_false h1; omega)
      subst h1'
      rw [if_neg (by simp [nameW])] at hD
      repeat first
        | refine LOps.nil ?_
        | refine QThen.normal ?_
        | refine LOps.pure (Pure.mv (lv := .atom _) rfl) rfl ?_
        | refine LOps.pure (Pure.pickF (lv := .atom _) rfl rfl) rfl ?_
        | refine LOps.skip rfl rfl rfl rfl ?_
      refine LCode.cond rfl (fun h => by cases h) (fun h => ?_)
      repeat first
        | refine LOps.nil ?_
        | refine LCode.seq ?_
        | refine LCode.region ?_
        | refine LCode.skip ?_
        | refine LCode.ret ?_
        | refine QThen.normal ?_
        | refine LOps.pure (Pure.as (lv := .atom _) rfl) rfl ?_
      exact retRet rfl (AllRes.cons (ResIs.tmp (v := .atom _) rfl (LV.Sub.refl _)) AllRes.nil) (str_eq hD.symm)
theorem compute24_spec (a b : Nat) (op : Wd) (ha : a < 4294967296) (hb : b < 4294967296) : LCalls (KC B0 w0) 86 [int .u32 a, int .u32 b, str op] [] (Ret (.tuple [int .u32 ((compW a op b).getD 0 : Nat), bool (compW a op b).isSome])) := by
  have hC : compW a op b = compW a op b := rfl
  conv at hC => rhs; unfold compW
  refine LCalls.intro Tryz.func86 rfl (n := 48) rfl rfl rfl ?_
  repeat first
    | refine LOps.nil ?_
    | refine LCode.seq ?_
    | refine LCode.region ?_
    | refine LCode.block ?_
    | refine QThen.normal ?_
    | refine LOps.pure (Pure.as (lv := .atom _) rfl) rfl ?_
    | refine LOps.pure (Pure.mv (lv := .atom _) rfl) rfl ?_
    | refine LOps.pure (Pure.seq rfl rfl) rfl ?_
  refine LCode.cond rfl (fun h1 => ?_) (fun h1 => ?_)
  · rw [if_pos (of_decide_eq_true h1)] at hC
    repeat first
      | refine LCode.seq ?_
      | refine LCode.region ?_
      | refine LOps.pure (Pure.mv (lv := .atom _) rfl) rfl ?_
    refine LOps.pure (Pure.addW rfl rfl) rfl ?_
    repeat first
      | refine LOps.nil ?_
      | refine LCode.ret ?_
      | refine QThen.normal ?_
      | refine QThen.ret ?_
      | refine QBlock.ret ?_
      | refine LOps.pure (Pure.as (lv := .atom _) rfl) rfl ?_
    exact retRet rfl (AllRes.cons (ResIs.tmp (v := .atom _) rfl (LV.Sub.refl _)) (AllRes.cons (ResIs.tmp (v := .atom _) rfl (LV.Sub.refl _)) AllRes.nil)) (resT hC (wadd a b))
  rw [if_neg (of_decide_eq_false h1)] at hC
  repeat first
    | refine LOps.nil ?_
    | refine LCode.seq ?_
    | refine LCode.region ?_
    | refine QThen.normal ?_
    | refine LOps.pure (Pure.as (lv := .atom _) rfl) rfl ?_
    | refine LOps.pure (Pure.seq rfl rfl) rfl ?_
  refine LCode.cond rfl (fun h2 => ?_) (fun h2 => ?_)
  · rw [if_pos (of_decide_eq_true h2)] at hC
    repeat first
      | refine LCode.seq ?_
      | refine LCode.region ?_
      | refine LOps.pure (Pure.mv (lv := .atom _) rfl) rfl ?_
    refine LOps.pure (Pure.subW rfl rfl) rfl ?_
    repeat first
      | refine LOps.nil ?_
      | refine LCode.ret ?_
      | refine QThen.normal ?_
      | refine QThen.ret ?_
      | refine QBlock.ret ?_
      | refine LOps.pure (Pure.as (lv := .atom _) rfl) rfl ?_
    exact retRet rfl (AllRes.cons (ResIs.tmp (v := .atom _) rfl (LV.Sub.refl _)) (AllRes.cons (ResIs.tmp (v := .atom _) rfl (LV.Sub.refl _)) AllRes.nil)) (resT hC (wsub hb))
  rw [if_neg (of_decide_eq_false h2)] at hC
  repeat first
    | refine LOps.nil ?_
    | refine LCode.seq ?_
    | refine LCode.region ?_
    | refine QThen.normal ?_
    | refine LOps.pure (Pure.as (lv := .atom _) rfl) rfl ?_
    | refine LOps.pure (Pure.seq rfl rfl) rfl ?_
  refine LCode.cond rfl (fun h3 => ?_) (fun h3 => ?_)
  · rw [if_pos (of_decide_eq_true h3)] at hC
    repeat first
      | refine LCode.seq ?_
      | refine LCode.region ?_
      | refine LOps.pure (Pure.mv (lv := .atom _) rfl) rfl ?_
    refine LOps.pure (Pure.mulW rfl rfl) rfl ?_
    repeat first
      | refine LOps.nil ?_
      | refine LCode.ret ?_
      | refine QThen.normal ?_
      | refine QThen.ret ?_
      | refine QBlock.ret ?_
      | refine LOps.pure (Pure.as (lv := .atom _) rfl) rfl ?_
    exact retRet rfl (AllRes.cons (ResIs.tmp (v := .atom _) rfl (LV.Sub.refl _)) (AllRes.cons (ResIs.tmp (v := .atom _) rfl (LV.Sub.refl _)) AllRes.nil)) (resT hC (wmul a b))
  rw [if_neg (of_decide_eq_false h3)] at hC
  repeat first
    | refine LOps.nil ?_
    | refine LCode.seq ?_
    | refine LCode.region ?_
    | refine QThen.normal ?_
    | refine LOps.pure (Pure.as (lv := .atom _) rfl) rfl ?_
    | refine LOps.pure (Pure.seq rfl rfl) rfl ?_
  refine LCode.cond rfl (fun h4 => ?_) (fun h4 => ?_)
  · rw [if_pos (of_decide_eq_true h4)] at hC
    repeat first
      | refine LCode.seq ?_
      | refine LCode.region ?_
      | refine LOps.pure (Pure.mv (lv := .atom _) rfl) rfl ?_
    refine LOps.pure (Pure.xorW rfl rfl) rfl ?_
    repeat first
      | refine LOps.nil ?_
      | refine LCode.ret ?_
      | refine QThen.normal ?_
      | refine QThen.ret ?_
      | refine QBlock.ret ?_
      | refine LOps.pure (Pure.as (lv := .atom _) rfl) rfl ?_
    exact retRet rfl (AllRes.cons (ResIs.tmp (v := .atom _) rfl (LV.Sub.refl _)) (AllRes.cons (ResIs.tmp (v := .atom _) rfl (LV.Sub.refl _)) AllRes.nil)) (resT hC (xor32 ha hb))
  rw [if_neg (of_decide_eq_false h4)] at hC
  repeat first
    | refine LOps.nil ?_
    | refine LCode.seq ?_
    | refine LCode.region ?_
    | refine QThen.normal ?_
    | refine LOps.pure (Pure.as (lv := .atom _) rfl) rfl ?_
    | refine LOps.pure (Pure.seq rfl rfl) rfl ?_
  refine LCode.cond rfl (fun h5 => ?_) (fun h5 => ?_)
  · rw [if_pos (of_decide_eq_true h5)] at hC
    repeat first
      | refine LOps.nil ?_
      | refine LCode.seq ?_
      | refine LCode.region ?_
      | refine QThen.normal ?_
      | refine LOps.pure (Pure.mv (lv := .atom _) rfl) rfl ?_
      | refine LOps.pure (Pure.lss rfl rfl) rfl ?_
    refine LCode.cond rfl (fun h6 => ?_) (fun h6 => ?_)
    · have hlt : a < b := by have := of_decide_eq_true h6; omega
      repeat first
        | refine LOps.nil ?_
        | refine LCode.seq ?_
        | refine LCode.region ?_
        | refine LCode.ret ?_
        | refine QThen.normal ?_
        | refine QThen.ret ?_
        | refine QBlock.ret ?_
        | refine LOps.pure (Pure.as (lv := .atom _) rfl) rfl ?_
      exact retRet rfl (AllRes.cons (ResIs.tmp (v := .atom _) rfl (LV.Sub.refl _)) (AllRes.cons (ResIs.tmp (v := .atom _) rfl (LV.Sub.refl _)) AllRes.nil)) (by rw [hC, if_pos hlt]; rfl)
    · have hlt : ¬ a < b := by have := of_decide_eq_false h6; omega
      repeat first
        | refine LOps.nil ?_
        | refine LCode.seq ?_
        | refine LCode.region ?_
        | refine LCode.skip ?_
        | refine LCode.ret ?_
        | refine QThen.normal ?_
        | refine QThen.ret ?_
        | refine QBlock.ret ?_
        | refine LOps.pure (Pure.as (lv := .atom _) rfl) rfl ?_
      exact retRet rfl (AllRes.cons (ResIs.tmp (v := .atom _) rfl (LV.Sub.refl _)) (AllRes.cons (ResIs.tmp (v := .atom _) rfl (LV.Sub.refl _)) AllRes.nil)) (by rw [hC, if_neg hlt]; rfl)
  rw [if_neg (of_decide_eq_false h5)] at hC
  repeat first
    | refine LOps.nil ?_
    | refine LCode.seq ?_
    | refine LCode.region ?_
    | refine QThen.normal ?_
    | refine LOps.pure (Pure.as (lv := .atom _) rfl) rfl ?_
    | refine LOps.pure (Pure.seq rfl rfl) rfl ?_
  refine LCode.cond rfl (fun h6 => ?_) (fun h6 => ?_)
  · rw [if_pos (of_decide_eq_true h6)] at hC
    repeat first
      | refine LOps.nil ?_
      | refine LCode.seq ?_
      | refine LCode.region ?_
      | refine QThen.normal ?_
      | refine LOps.pure (Pure.mv (lv := .atom _) rfl) rfl ?_
      | refine LOps.pure (Pure.neq rfl rfl) rfl ?_
    refine LCode.cond rfl (fun h7 => ?_) (fun h7 => ?_)
    · have hb0 : ¬ b = 0 := by
        have h8 : ¬ ((b : Int) = 0) := by simpa using h7
        omega
      have hle : a / b ≤ a := Nat.div_le_self _ _
      have e1 : IntKind.u32.wrap ((a : Int).tdiv (b : Int)) = ((a / b : Nat) : Int) := by
        rw [Int.tdiv_eq_ediv_of_nonneg (by omega), ← Int.natCast_ediv]
        exact wrapU32 ⟨Int.natCast_nonneg _, Int.ofNat_le.2 (show a / b ≤ 4294967295 by omega)⟩
      rw [if_neg hb0] at hC
      repeat first
        | refine LCode.seq ?_
        | refine LCode.region ?_
        | refine LOps.pure (Pure.mv (lv := .atom _) rfl) rfl ?_
      refine LOps.pure (Pure.quoW rfl rfl (by omega)) rfl ?_
      repeat first
        | refine LOps.nil ?_
        | refine LCode.ret ?_
        | refine QThen.normal ?_
        | refine QThen.ret ?_
        | refine QBlock.ret ?_
        | refine LOps.pure (Pure.as (lv := .atom _) rfl) rfl ?_
      exact retRet rfl (AllRes.cons (ResIs.tmp (v := .atom _) rfl (LV.Sub.refl _)) (AllRes.cons (ResIs.tmp (v := .atom _) rfl (LV.Sub.refl _)) AllRes.nil)) (resT hC e1)
    · have hb0 : b = 0 := by
        have h8 : (b : Int) = 0 := by simpa using h7
        omega
      rw [if_pos hb0] at hC
      repeat first
        | refine LOps.nil ?_
        | refine LCode.seq ?_
        | refine LCode.region ?_
        | refine LCode.skip ?_
        | refine LCode.ret ?_
        | refine QThen.normal ?_
        | refine QBlock.normal ?_
        | refine LOps.pure (Pure.as (lv := .atom _) rfl) rfl ?_
      exact retRet rfl (AllRes.cons (ResIs.tmp (v := .atom _) rfl (LV.Sub.refl _)) (AllRes.cons (ResIs.tmp (v := .atom _) rfl (LV.Sub.refl _)) AllRes.nil)) (by rw [hC]; rfl)
  rw [if_neg (of_decide_eq_false h6)] at hC
  repeat first
    | refine LOps.nil ?_
    | refine LCode.seq ?_
    | refine LCode.region ?_
    | refine QThen.normal ?_
    | refine LOps.pure (Pure.as (lv := .atom _) rfl) rfl ?_
    | refine LOps.pure (Pure.seq rfl rfl) rfl ?_
  refine LCode.cond rfl (fun h7 => ?_) (fun h7 => ?_)
  · rw [if_pos (of_decide_eq_true h7)] at hC
    repeat first
      | refine LOps.nil ?_
      | refine LCode.seq ?_
      | refine LCode.region ?_
      | refine QThen.normal ?_
      | refine LOps.pure (Pure.mv (lv := .atom _) rfl) rfl ?_
      | refine LOps.pure (Pure.neq rfl rfl) rfl ?_
    refine LCode.cond rfl (fun h8 => ?_) (fun h8 => ?_)
    · have hb0 : ¬ b = 0 := by
        have h8 : ¬ ((b : Int) = 0) := by simpa using h8
        omega
      have e1 : (a : Int).tmod (b : Int) = ((a % b : Nat) : Int) := by
        rw [Int.tmod_eq_emod_of_nonneg (by omega), ← Int.natCast_emod]
      rw [if_neg hb0] at hC
      repeat first
        | refine LCode.seq ?_
        | refine LCode.region ?_
        | refine LOps.pure (Pure.mv (lv := .atom _) rfl) rfl ?_
      refine LOps.pure (Pure.remW rfl rfl (by omega)) rfl ?_
      repeat first
        | refine LOps.nil ?_
        | refine LCode.ret ?_
        | refine QThen.normal ?_
        | refine QThen.ret ?_
        | refine QBlock.ret ?_
        | refine LOps.pure (Pure.as (lv := .atom _) rfl) rfl ?_
      exact retRet rfl (AllRes.cons (ResIs.tmp (v := .atom _) rfl (LV.Sub.refl _)) (AllRes.cons (ResIs.tmp (v := .atom _) rfl (LV.Sub.refl _)) AllRes.nil)) (resT hC e1)
    · have hb0 : b = 0 := by
        have h8 : (b : Int) = 0 := by simpa using h8
        omega
      rw [if_pos hb0] at hC
      repeat first
        | refine LOps.nil ?_
        | refine LCode.seq ?_
        | refine LCode.region ?_
        | refine LCode.skip ?_
        | refine LCode.ret ?_
        | refine QThen.normal ?_
        | refine QBlock.normal ?_
        | refine LOps.pure (Pure.as (lv := .atom _) rfl) rfl ?_
      exact retRet rfl (AllRes.cons (ResIs.tmp (v := .atom _) rfl (LV.Sub.refl _)) (AllRes.cons (ResIs.tmp (v := .atom _) rfl (LV.Sub.refl _)) AllRes.nil)) (by rw [hC]; rfl)
  rw [if_neg (of_decide_eq_false h7)] at hC
  repeat first
    | refine LOps.nil ?_
    | refine LCode.seq ?_
    | refine LCode.region ?_
    | refine LCode.skip ?_
    | refine LCode.ret ?_
    | refine QThen.normal ?_
    | refine QBlock.normal ?_
    | refine LOps.pure (Pure.as (lv := .atom _) rfl) rfl ?_
  exact retRet rfl (AllRes.cons (ResIs.tmp (v := .atom _) rfl (LV.Sub.refl _)) (AllRes.cons (ResIs.tmp (v := .atom _) rfl (LV.Sub.refl _)) AllRes.nil)) (by rw [hC]; rfl)
theorem at24_spec (v : List Wd) (i : Nat) (hv : v.length ≤ 1000000000) : LCalls (KC B0 w0) 56 [.list (v.map str), int .i64 (i : Nat)] [] (Ret (str (wdAt v i))) := by
  have hla : (v.map str).length = v.length := List.length_map _
  refine LCalls.intro Tryz.func56 rfl (n := 13) rfl rfl rfl ?_
  repeat first
    | refine LOps.nil ?_
    | refine LCode.seq ?_
    | refine LCode.region ?_
    | refine QThen.normal ?_
    | refine LOps.pure (Pure.as (lv := .atom _) rfl) rfl ?_
    | refine LOps.pure (Pure.mv (lv := .atom _) rfl) rfl ?_
    | refine LOps.pure (Pure.mv (lv := .list _) rfl) rfl ?_
    | refine LOps.pure (Pure.llen rfl) rfl ?_
    | refine LOps.pure (Pure.lss rfl rfl) rfl ?_
  refine LCode.cond rfl (fun h => ?_) (fun h => ?_)
  · have hlt : i < v.length := by have := of_decide_eq_true h; omega
    have hw := wdAt_get hlt
    repeat first
      | refine LCode.seq ?_
      | refine LCode.region ?_
      | refine LOps.pure (Pure.mv (lv := .atom _) rfl) rfl ?_
      | refine LOps.pure (Pure.mv (lv := .list _) rfl) rfl ?_
    refine LOps.pure (Pure.ixRef (el' := str v[i]) (cs := [str v[i]]) rfl rfl (by omega) (map_get _ _ _ hlt) rfl rfl) rfl ?_
    repeat first
      | refine LOps.nil ?_
      | refine LCode.ret ?_
      | refine QThen.normal ?_
      | refine QThen.ret ?_
      | refine LOps.pure (Pure.as (lv := .atom _) rfl) rfl ?_
      | refine LOps.pure (Pure.loadRef (c := .atom _) rfl rfl) rfl ?_
    exact retRet rfl (AllRes.cons (ResIs.tmp (v := .atom _) rfl (LV.Sub.refl _)) AllRes.nil) (str_eq hw.symm)
  · have hw : wdAt v i = [] := wdAt_out (by have := of_decide_eq_false h; omega)
    repeat first
      | refine LOps.nil ?_
      | refine LCode.seq ?_
      | refine LCode.region ?_
      | refine LCode.skip ?_
      | refine LCode.ret ?_
      | refine QThen.normal ?_
      | refine LOps.pure (Pure.as (lv := .atom _) rfl) rfl ?_
    exact retRet rfl (AllRes.cons (ResIs.tmp (v := .atom _) rfl (LV.Sub.refl _)) AllRes.nil) (str_eq hw.symm)
theorem fold24_spec (x y op : Wd) (hx : x.length ≤ 1000000) (hy : y.length ≤ 1000000) : LCalls (KC B0 w0) 58 [str x, str y, str op] [] (RetIf (OptLV (joinedW x op y))) := by
  have n1 := number24_spec (B0 := B0) (w0 := w0) x
  have n2 := number24_spec (B0 := B0) (w0 := w0) y
  have hJ : joinedW x op y = match numW x, numW y with
    | some a, some b => match compW a op b with
      | some c => if (Go.Lib.decDigits c).length ≤ x.length + y.length + 1 then some (Go.Lib.decDigits c) else none
      | none => none
    | _, _ => none := rfl
  refine LCalls.intro Tryz.func58 rfl (n := 53) rfl rfl rfl ?_
  repeat first
    | refine LOps.nil ?_
    | refine LCode.seq ?_
    | refine LCode.region ?_
    | refine QThen.normal ?_
    | refine LOps.pure (Pure.as (lv := .atom _) rfl) rfl ?_
    | refine LOps.pure (Pure.mv (lv := .atom _) rfl) rfl ?_
  refine LOps.step (S.fn [_] rfl n1 ?_) rfl
  repeat first
    | refine LOps.nil ?_
    | refine LCode.seq ?_
    | refine LCode.region ?_
    | refine QThen.normal ?_
    | refine LOps.pure (Pure.as (lv := .atom _) rfl) rfl ?_
    | refine LOps.pure (Pure.mv (lv := .atom _) rfl) rfl ?_
    | refine LOps.pure (Pure.mv (lv := .tuple _) rfl) rfl ?_
    | refine LOps.pure (Pure.extract (c := .atom _) rfl rfl) rfl ?_
  refine LOps.step (S.fn [_] rfl n2 ?_) rfl
  repeat first
    | refine LOps.nil ?_
    | refine LCode.seq ?_
    | refine LCode.region ?_
    | refine QThen.normal ?_
    | refine LOps.pure (Pure.as (lv := .atom _) rfl) rfl ?_
    | refine LOps.pure (Pure.mv (lv := .atom _) rfl) rfl ?_
    | refine LOps.pure (Pure.mv (lv := .tuple _) rfl) rfl ?_
    | refine LOps.pure (Pure.extract (c := .atom _) rfl rfl) rfl ?_
    | refine LOps.pure (Pure.not rfl) rfl ?_
  cases ha : numW x with
  | none =>
    rw [ha] at hJ
    repeat first
      | refine LOps.nil ?_
      | refine QThen.normal ?_
      | refine LOps.pure (Pure.pickT (lv := .atom _) rfl rfl) rfl ?_
      | refine LOps.skip rfl rfl rfl rfl ?_
    refine LCode.cond rfl (fun h => ?_) (fun h => by cases h)
    repeat first
      | refine LOps.nil ?_
      | refine LCode.seq ?_
      | refine LCode.region ?_
      | refine LCode.ret ?_
      | refine QThen.normal ?_
      | refine QThen.ret ?_
      | refine LOps.pure (Pure.as (lv := .atom _) rfl) rfl ?_
    exact retRetIf rfl (AllRes.cons (ResIs.tmp (v := .atom _) rfl (LV.Sub.refl _)) (AllRes.cons (ResIs.tmp (v := .atom _) rfl (LV.Sub.refl _)) AllRes.nil)) (OptLV.mk (by rw [hJ]; rfl) (by
      intro l' h'
      rw [hJ] at h'
      cases h'))
  | some a =>
    rw [ha] at hJ
    cases hb : numW y with
    | none =>
      rw [hb] at hJ
      repeat first
        | refine LOps.nil ?_
        | refine QThen.normal ?_
        | refine LOps.pure (Pure.mv (lv := .atom _) rfl) rfl ?_
        | refine LOps.pure (Pure.not rfl) rfl ?_
        | refine LOps.pure (Pure.pickF (lv := .atom _) rfl rfl) rfl ?_
        | refine LOps.want rfl rfl ?_
      refine LCode.cond rfl (fun h => ?_) (fun h => by cases h)
      repeat first
        | refine LOps.nil ?_
        | refine LCode.seq ?_
        | refine LCode.region ?_
        | refine LCode.ret ?_
        | refine QThen.normal ?_
        | refine QThen.ret ?_
        | refine LOps.pure (Pure.as (lv := .atom _) rfl) rfl ?_
      exact retRetIf rfl (AllRes.cons (ResIs.tmp (v := .atom _) rfl (LV.Sub.refl _)) (AllRes.cons (ResIs.tmp (v := .atom _) rfl (LV.Sub.refl _)) AllRes.nil)) (OptLV.mk (by rw [hJ]; rfl) (by
        intro l' h'
        rw [hJ] at h'
        cases h'))
    | some b =>
      rw [hb] at hJ
      simp only at hJ
      have hal := numW_lt ha
      have hbl := numW_lt hb
      have n3 := compute24_spec (B0 := B0) (w0 := w0) a b op hal hbl
      repeat first
        | refine LOps.nil ?_
        | refine QThen.normal ?_
        | refine LOps.pure (Pure.mv (lv := .atom _) rfl) rfl ?_
        | refine LOps.pure (Pure.not rfl) rfl ?_
        | refine LOps.pure (Pure.pickF (lv := .atom _) rfl rfl) rfl ?_
        | refine LOps.want rfl rfl ?_
      refine LCode.cond rfl (fun h => by cases h) (fun h => ?_)
      repeat first
        | refine LCode.seq ?_
        | refine LCode.region ?_
        | refine LCode.skip ?_
        | refine QThen.normal ?_
        | refine LOps.pure (Pure.mv (lv := .atom _) rfl) rfl ?_
      refine LOps.step (S.fn [_, _, _] rfl n3 ?_) rfl
      repeat first
        | refine LOps.nil ?_
        | refine LCode.seq ?_
        | refine LCode.region ?_
        | refine QThen.normal ?_
        | refine LOps.pure (Pure.as (lv := .atom _) rfl) rfl ?_
        | refine LOps.pure (Pure.mv (lv := .atom _) rfl) rfl ?_
        | refine LOps.pure (Pure.mv (lv := .tuple _) rfl) rfl ?_
        | refine LOps.pure (Pure.extract (c := .atom _) rfl rfl) rfl ?_
      cases hc : compW a op b with
      | none =>
        rw [hc] at hJ
        refine LOps.step (S.fn [_] rfl (dec24_spec 0 0 (Nat.le_refl _) (by decide)) ?_) rfl
        repeat first
          | refine LOps.nil ?_
          | refine LCode.seq ?_
          | refine LCode.region ?_
          | refine LCode.ret ?_
          | refine QThen.normal ?_
          | refine LOps.pure (Pure.as (lv := .atom _) rfl) rfl ?_
          | refine LOps.pure (Pure.mv (lv := .atom _) rfl) rfl ?_
          | refine LOps.pure (Pure.pickF (lv := .atom _) rfl rfl) rfl ?_
          | refine LOps.skip rfl rfl rfl rfl ?_
        exact retRetIf rfl (AllRes.cons (ResIs.tmp (v := .atom _) rfl (LV.Sub.refl _)) (AllRes.cons (ResIs.tmp (v := .atom _) rfl (LV.Sub.refl _)) AllRes.nil)) (OptLV.mk (by rw [hJ]; rfl) (by
          intro l' h'
          rw [hJ] at h'
          cases h'))
      | some c =>
        rw [hc] at hJ
        have hcl := comp_lt hal hbl hc
        have hdl := dec_len hcl
        try simp only at hJ
        refine LOps.step (S.fn [_] rfl (dec24_spec c c (Nat.le_refl _) hcl) ?_) rfl
        repeat first
          | refine LOps.nil ?_
          | refine LCode.seq ?_
          | refine LCode.region ?_
          | refine LCode.ret ?_
          | refine QThen.normal ?_
          | refine LOps.pure (Pure.as (lv := .atom _) rfl) rfl ?_
          | refine LOps.pure (Pure.mv (lv := .atom _) rfl) rfl ?_
          | refine LOps.pure (Pure.pickT (lv := .atom _) rfl rfl) rfl ?_
          | refine LOps.pure (Pure.slen rfl) rfl ?_
          | refine LOps.pure (Pure.add rfl rfl (by omega)) rfl ?_
          | refine LOps.pure (Pure.leq rfl rfl) rfl ?_
          | refine LOps.want rfl rfl ?_
        exact retRetIf rfl (AllRes.cons (ResIs.tmp (v := .atom _) rfl (LV.Sub.refl _)) (AllRes.cons (ResIs.tmp (v := .atom _) rfl (LV.Sub.refl _)) AllRes.nil)) (OptLV.mk (by
          rw [hJ]
          by_cases hle : (Go.Lib.decDigits c).length ≤ x.length + y.length + 1
          · rw [if_pos hle, decide_eq_true (by omega)]; rfl
          · rw [if_neg hle, decide_eq_false (by omega)]; rfl) (by
          intro l' h'
          rw [hJ] at h'
          split at h'
          · injection h'
          · cases h'))
end
end Go.Proofs.YtkjjenppmmipmaaGreatDoor
namespace Go.Proofs.YtkjjenppmmipmaaGreatDoor
open Go.GL Go.RowKit Go.Stele
set_option maxRecDepth 100000
set_option maxHeartbeats 4000000
theorem add_eq (i k : Nat) : int .i64 ((i : Int) + (k : Int)) = int .i64 ((i + k : Nat) : Int) := int_eq (by omega)
/-- An unconditional jump at i, as the reference asks for it. -/
def jumpB (v : List Wd) (i : Nat) : Bool := decide (wdAt v i = [48] ∧ (jumpW v (i + 1)).isSome = true)
theorem jumpB_drop (l : List Wd) (i k : Nat) : jumpB (l.drop i) k = jumpB l (i + k) := by
  unfold jumpB
  rw [wdAt_drop, jumpW_drop, Nat.add_assoc]
theorem cNext_no {v : List Wd} (h : jumpB v 0 = false) : cNext v = false := by
  unfold cNext
  unfold jumpB at h
  have h := of_decide_eq_false h
  cases hj : jumpW v 1 with
  | none => rfl
  | some d => exact decide_eq_false fun hc => h ⟨hc.1, by rw [show 0 + 1 = 1 from rfl, hj]; rfl⟩
theorem cNext_yes {v : List Wd} (h : jumpB v 0 = true) : ∃ d, refR (wdAt v 1) = d ∧ wdAt v 0 = [48] ∧ cNext v = nextW d (v.drop 3) := by
  obtain ⟨h0, h1⟩ := of_decide_eq_true h
  obtain ⟨d, hd⟩ := Option.isSome_iff_exists.1 h1
  rw [show 0 + 1 = 1 from rfl] at hd
  refine ⟨d, ?_, h0, ?_⟩
  · unfold jumpW at hd
    split at hd
    · rename_i l hl
      split at hd
      · cases hd
        exact refR_some hl
      · cases hd
    · cases hd
  · unfold cNext
    rw [hd]
    simp only [h0, true_and]
    cases nextW d (List.drop 3 v) <;> rfl
theorem stopW_eq (v : List Wd) : stopW v = if wdAt v 0 = [59] ∨ wdAt v 0 = [36] then 1 else if jumpB v 0 = true then 3 else 0 := by
  unfold stopW jumpB
  by_cases h1 : wdAt v 0 = [59] ∨ wdAt v 0 = [36]
  · have h2 : ¬ wdAt v 0 = [48] := by rcases h1 with h | h <;> rw [h] <;> decide
    rw [if_neg fun h => h2 h.2, if_pos h1, if_pos h1]
  · rw [if_neg h1, if_neg h1]
    simp only [decide_eq_true_eq]
    by_cases h3 : wdAt v 0 = [48] ∧ (jumpW v (0 + 1)).isSome = true
    · rw [if_pos h3, if_pos ⟨h3.2, h3.1⟩]
    · rw [if_neg h3, if_neg fun h => h3 ⟨h.2, h.1⟩]
theorem jumpW_isR (l : List Wd) (i : Nat) : (jumpW l i).isSome = decide (¬ refR (wdAt l i) = [] ∧ wdAt l (i + 1) = [63]) := by
  rw [jumpW_is, decide_eq_decide, refR_nil]
theorem cNever_eq (v : List Wd) : cNever v = decide ((numW (wdAt v 0)).isSome = true ∧ ¬ (numW (wdAt v 0)).getD 0 = 0 ∧ (jumpW v 1).isSome = true) := by
  unfold cNever
  cases h : numW (wdAt v 0) with
  | none => simp
  | some n => simp
attribute [local irreducible] LOps LCode LStep LCalls Go.GL.Pure QThen QBlock RetPost LQ LAny LLate LLateOp
section
variable {B0 : Nat} {w0 : World}
theorem jump24_spec (l : List Wd) (i : Nat) (hl : Small l) (hi : i ≤ 1000000) : LCalls (KC B0 w0) 60 [.list (l.map str), int .i64 (i : Nat)] [] (Ret (bool (jumpB l i))) := by
  have k0 := at24_spec (B0 := B0) (w0 := w0) l i (by have := hl.1; omega)
  have k1 := at24_spec (B0 := B0) (w0 := w0) l (i + 1) (by have := hl.1; omega)
  have k2 := at24_spec (B0 := B0) (w0 := w0) l (i + 2) (by have := hl.1; omega)
  rw [← add_eq i 1] at k1
  rw [← add_eq i 2] at k2
  have kr := reference24_spec (B0 := B0) (w0 := w0) (wdAt l (i + 1)) (by have := hl.at (i + 1); omega)
  have hJ : (jumpW l (i + 1)).isSome = decide (¬ refR (wdAt l (i + 1)) = [] ∧ wdAt l (i + 2) = [63]) := jumpW_isR l (i + 1)
  have hB : jumpB l i = decide (wdAt l i = [48] ∧ (jumpW l (i + 1)).isSome = true) := rfl
  rw [hJ] at hB
  refine LCalls.intro Tryz.func60 rfl (n := 24) rfl rfl rfl ?_
  repeat first
    | refine LOps.nil ?_
    | refine LCode.seq ?_
    | refine LCode.region ?_
    | refine QThen.normal ?_
    | refine LOps.pure (Pure.as (lv := .atom _) rfl) rfl ?_
    | refine LOps.pure (Pure.mv (lv := .list _) rfl) rfl ?_
    | refine LOps.pure (Pure.mv (lv := .atom _) rfl) rfl ?_
  refine LOps.step (S.fn [_, _] rfl k0 ?_) rfl
  repeat first
    | refine LOps.pure (Pure.mv (lv := .atom _) rfl) rfl ?_
    | refine LOps.pure (Pure.seq rfl rfl) rfl ?_
  refine LOps.bcase 9 rfl (fun h1 => ?_) (fun h1 => ?_)
  · have e1 : wdAt l i = [48] := of_decide_eq_true h1
    repeat first
      | refine LOps.pure (Pure.mv (lv := .list _) rfl) rfl ?_
      | refine LOps.pure (Pure.mv (lv := .atom _) rfl) rfl ?_
      | refine LOps.pure (Pure.add rfl rfl (by omega)) rfl ?_
      | refine LOps.want rfl rfl ?_
    refine LOps.step (S.fn [_, _] rfl k1 ?_) rfl
    repeat first
      | refine LOps.want rfl rfl ?_
    refine LOps.step (S.fn [_] rfl kr ?_) rfl
    repeat first
      | refine LOps.pure (Pure.mv (lv := .atom _) rfl) rfl ?_
      | refine LOps.pure (Pure.sneq rfl rfl) rfl ?_
      | refine LOps.pure (Pure.pickT (lv := .atom _) rfl rfl) rfl ?_
      | refine LOps.want rfl rfl ?_
    refine LOps.bcase 17 rfl (fun h2 => ?_) (fun h2 => ?_)
    · have e2 : ¬ refR (wdAt l (i + 1)) = [] := by simpa using h2
      repeat first
        | refine LOps.pure (Pure.mv (lv := .list _) rfl) rfl ?_
        | refine LOps.pure (Pure.mv (lv := .atom _) rfl) rfl ?_
        | refine LOps.pure (Pure.add rfl rfl (by omega)) rfl ?_
        | refine LOps.want rfl rfl ?_
      refine LOps.step (S.fn [_, _] rfl k2 ?_) rfl
      repeat first
        | refine LOps.nil ?_
        | refine LCode.ret ?_
        | refine QThen.normal ?_
        | refine LOps.pure (Pure.as (lv := .atom _) rfl) rfl ?_
        | refine LOps.pure (Pure.seq rfl rfl) rfl ?_
        | refine LOps.pure (Pure.pickT (lv := .atom _) rfl rfl) rfl ?_
        | refine LOps.want rfl rfl ?_
      exact retRet rfl (AllRes.cons (ResIs.tmp (v := .atom _) rfl (LV.Sub.refl _)) AllRes.nil) (bool_eq (by rw [hB]; simp [e1, e2]))
    · have e2 : refR (wdAt l (i + 1)) = [] := by simpa using h2
      repeat first
        | refine LOps.nil ?_
        | refine LCode.ret ?_
        | refine QThen.normal ?_
        | refine LOps.pure (Pure.as (lv := .atom _) rfl) rfl ?_
        | refine LOps.pure (Pure.pickF (lv := .atom _) rfl rfl) rfl ?_
        | refine LOps.skip rfl rfl rfl rfl ?_
      exact retRet rfl (AllRes.cons (ResIs.tmp (v := .atom _) rfl (LV.Sub.refl _)) AllRes.nil) (bool_eq (by rw [hB]; simp [e1, e2]))
  · have e1 : ¬ wdAt l i = [48] := of_decide_eq_false h1
    repeat first
      | refine LOps.nil ?_
      | refine LCode.ret ?_
      | refine QThen.normal ?_
      | refine LOps.pure (Pure.as (lv := .atom _) rfl) rfl ?_
      | refine LOps.pure (Pure.mv (lv := .atom _) rfl) rfl ?_
      | refine LOps.pure (Pure.pickF (lv := .atom _) rfl rfl) rfl ?_
      | refine LOps.skip rfl rfl rfl rfl ?_
    exact retRet rfl (AllRes.cons (ResIs.tmp (v := .atom _) rfl (LV.Sub.refl _)) AllRes.nil) (bool_eq (by rw [hB]; simp [e1]))
theorem match24_spec (l : List Wd) (hl : Small l) (i : Nat) (hi : i ≤ l.length) : LCalls (KC B0 w0) 33 [.list (l.map str), int .i64 (i : Nat)] [] (Ret (ruleLV (ruleW (usedW l) (l.drop i)))) := by
  have hl1 := hl.1
  have hla : (l.map str).length = l.length := List.length_map _
  obtain ⟨v, hv⟩ : ∃ v, v = l.drop i := ⟨_, rfl⟩
  have hvl : v.length = l.length - i := by rw [hv, List.length_drop]
  have hvs : Small v := by rw [hv]; exact hl.drop i
  have ka : ∀ k, LCalls (KC B0 w0) 56 [.list (l.map str), int .i64 ((i : Int) + (k : Nat))] [] (Ret (str (wdAt v k))) := fun k => by
    have := at24_spec (B0 := B0) (w0 := w0) l (i + k) (by omega)
    rw [hv, wdAt_drop, add_eq]
    exact this
  have k0 : LCalls (KC B0 w0) 56 [.list (l.map str), int .i64 (i : Nat)] [] (Ret (str (wdAt v 0))) := by
    have := at24_spec (B0 := B0) (w0 := w0) l i (by omega)
    rw [hv, wdAt_drop]
    exact this
  have ks : ∀ k, (wdAt v k).length ≤ 1000000 := fun k => hvs.at k
  have kn := number24_spec (B0 := B0) (w0 := w0) (wdAt v 0)
  have kf := fold24_spec (B0 := B0) (w0 := w0) (wdAt v 0) (wdAt v 1) (wdAt v 2) (ks 0) (ks 1)
  have kf2 := fold24_spec (B0 := B0) (w0 := w0) (wdAt v 0) (wdAt v 2) (wdAt v 1) (ks 0) (ks 2)
  have kr1 := reference24_spec (B0 := B0) (w0 := w0) (wdAt v 1) (by have := ks 1; omega)
  have kr4 := reference24_spec (B0 := B0) (w0 := w0) (wdAt v 4) (by have := ks 4; omega)
  have kd0 := definition24_spec (B0 := B0) (w0 := w0) (wdAt v 0) (by have := ks 0; omega)
  have kj : LCalls (KC B0 w0) 60 [.list (l.map str), int .i64 (i : Nat)] [] (Ret (bool (jumpB v 0))) := by
    rw [hv, jumpB_drop]
    exact jump24_spec l i hl (by omega)
  rw [← hv]
  refine LCalls.intro Tryz.func33 rfl (n := 244) rfl rfl rfl ?_
  repeat first
    | refine LOps.nil ?_
    | refine LCode.seq ?_
    | refine LCode.region ?_
    | refine QThen.normal ?_
    | refine LOps.pure (Pure.as (lv := .atom _) rfl) rfl ?_
    | refine LOps.pure (Pure.mv (lv := .list _) rfl) rfl ?_
    | refine LOps.pure (Pure.mv (lv := .atom _) rfl) rfl ?_
  refine LOps.step (S.fn [_, _] rfl k0 ?_) rfl
  repeat first
    | refine LOps.pure (Pure.mv (lv := .list _) rfl) rfl ?_
    | refine LOps.pure (Pure.mv (lv := .atom _) rfl) rfl ?_
    | refine LOps.pure (Pure.add rfl rfl (by omega)) rfl ?_
  refine LOps.step (S.fn [_, _] rfl (ka 1) ?_) rfl
  repeat first
    | refine LOps.pure (Pure.mv (lv := .list _) rfl) rfl ?_
    | refine LOps.pure (Pure.mv (lv := .atom _) rfl) rfl ?_
    | refine LOps.pure (Pure.add rfl rfl (by omega)) rfl ?_
  refine LOps.step (S.fn [_, _] rfl (ka 2) ?_) rfl
  repeat first
    | refine LOps.pure (Pure.mv (lv := .list _) rfl) rfl ?_
    | refine LOps.pure (Pure.mv (lv := .atom _) rfl) rfl ?_
    | refine LOps.pure (Pure.add rfl rfl (by omega)) rfl ?_
  refine LOps.step (S.fn [_, _] rfl (ka 3) ?_) rfl
  repeat first
    | refine LOps.nil ?_
    | refine LCode.seq ?_
    | refine LCode.region ?_
    | refine QThen.normal ?_
    | refine LOps.pure (Pure.as (lv := .atom _) rfl) rfl ?_
    | refine LOps.pure (Pure.mv (lv := .atom _) rfl) rfl ?_
  refine LOps.step (S.fn [_] rfl kn ?_) rfl
  repeat first
    | refine LOps.nil ?_
    | refine LCode.seq ?_
    | refine LCode.region ?_
    | refine QThen.normal ?_
    | refine LOps.pure (Pure.as (lv := .atom _) rfl) rfl ?_
    | refine LOps.pure (Pure.mv (lv := .atom _) rfl) rfl ?_
    | refine LOps.pure (Pure.mv (lv := .tuple _) rfl) rfl ?_
    | refine LOps.pure (Pure.extract (c := .atom _) rfl rfl) rfl ?_
  refine LOps.step (S.fnIf [_, _, _] rfl kf ?_) rfl
  rintro lv ⟨s, rfl, hs⟩
  repeat first
    | refine LOps.nil ?_
    | refine LCode.seq ?_
    | refine LCode.region ?_
    | refine QThen.normal ?_
    | refine LOps.pure (Pure.as (lv := .atom _) rfl) rfl ?_
    | refine LOps.pure (Pure.mv (lv := .atom _) rfl) rfl ?_
    | refine LOps.pure (Pure.mv (lv := .tuple _) rfl) rfl ?_
    | refine LOps.pure (Pure.extract (c := .atom _) rfl rfl) rfl ?_
  refine LCode.cond rfl (fun h => ?_) (fun h => ?_)
  · obtain ⟨s', hs'⟩ := Option.isSome_iff_exists.1 h
    obtain rfl := hs s' hs'
    have hR := rule1 (used := usedW l) (v := v) hs'
    repeat first
      | refine LCode.seq ?_
      | refine LCode.region ?_
      | refine LOps.pure (Pure.mv (lv := .atom _) rfl) rfl ?_
    refine LOps.step (S.lit [_] rfl (elemsOk.cons rfl rfl elemsOk.nil) rfl rfl rfl ?_) rfl
    repeat first
      | refine LOps.nil ?_
      | refine LCode.ret ?_
      | refine QThen.normal ?_
      | refine QThen.ret ?_
      | refine LOps.pure (Pure.as (lv := .atom _) rfl) rfl ?_
      | refine LOps.pure (Pure.as (lv := .list _) rfl) rfl ?_
    exact retRet rfl (AllRes.cons (ResIs.tmp (v := .atom _) rfl (LV.Sub.refl _)) (AllRes.cons (ResIs.tmp (v := .list _) rfl (LV.Sub.refl _)) AllRes.nil)) (by rw [hR]; rfl)
  have n1 : dFold v = none := by
    cases ho : joinedW (wdAt v 0) (wdAt v 2) (wdAt v 1) with
    | none => exact ho
    | some d => rw [ho] at h; cases h
  clear h
  repeat (first | refine LCode.skip ?_ | refine QThen.normal ?_)
  refine LCode.seq ?_
  refine LCode.midC (A := Unit) (fun _ => [(0, .list (l.map str)), (1, int .i64 (i : Nat)), (6, str (wdAt v 0)), (7, str (wdAt v 1)), (8, str (wdAt v 2)), (9, str (wdAt v 3)), (10, int .u32 ((numW (wdAt v 0)).getD 0 : Nat)), (11, bool (numW (wdAt v 0)).isSome)]) (fun _ => []) (fun _ => ¬ cNeutral v) ?_ ?_
  · repeat first
      | refine LCode.seq ?_
      | refine LCode.region ?_
      | refine LOps.pure (Pure.mv (lv := .atom _) rfl) rfl ?_
      | refine LOps.pure (Pure.seq rfl rfl) rfl ?_
    refine LOps.cut [(0, .list (l.map str)), (1, int .i64 (i : Nat)), (6, str (wdAt v 0)), (7, str (wdAt v 1)), (8, str (wdAt v 2)), (9, str (wdAt v 3)), (10, int .u32 ((numW (wdAt v 0)).getD 0 : Nat)), (11, bool (numW (wdAt v 0)).isSome), (75, bool (decide (wdAt v 0 = [48] ∧ (wdAt v 1 = [43] ∨ wdAt v 1 = [45] ∨ wdAt v 1 = [94]) ∨ wdAt v 0 = [49] ∧ (wdAt v 1 = [42] ∨ wdAt v 1 = [47]))))] ?_ (fun j hj => ?_)
    · refine LOps.bcase 52 rfl (fun h1 => ?_) (fun h1 => ?_)
      · have e1 : wdAt v 0 = [48] := of_decide_eq_true h1
        have n1 : ¬ wdAt v 0 = [49] := by rw [e1]; decide
        repeat first
          | refine LOps.pure (Pure.mv (lv := .atom _) rfl) rfl ?_
          | refine LOps.pure (Pure.seq rfl rfl) rfl ?_
          | refine LOps.want rfl rfl ?_
        refine LOps.bcase 55 rfl (fun h2 => ?_) (fun h2 => ?_)
        · have e2 : wdAt v 1 = [43] := of_decide_eq_true h2
          repeat first
            | refine LOps.nil ?_
            | refine QThen.normal ?_
            | refine LOps.pure (Pure.mv (lv := .atom _) rfl) rfl ?_
            | refine LOps.pure (Pure.pickT (lv := .atom _) rfl rfl) rfl ?_
            | refine LOps.want rfl rfl ?_
            | refine LOps.skip rfl rfl rfl rfl ?_
            | refine LOps.skipU rfl rfl rfl ?_
          exact ⟨⟨rfl, rfl, rfl, rfl, rfl, rfl, rfl, rfl, bool_eq (by simp [e1, e2]), trivial⟩, rfl, rfl⟩
        · have e2 : ¬ wdAt v 1 = [43] := of_decide_eq_false h2
          repeat first
            | refine LOps.pure (Pure.mv (lv := .atom _) rfl) rfl ?_
            | refine LOps.pure (Pure.seq rfl rfl) rfl ?_
            | refine LOps.pure (Pure.pickF (lv := .atom _) rfl rfl) rfl ?_
            | refine LOps.want rfl rfl ?_
          refine LOps.bcase 59 rfl (fun h3 => ?_) (fun h3 => ?_)
          · have e3 : wdAt v 1 = [45] := of_decide_eq_true h3
            repeat first
              | refine LOps.nil ?_
              | refine QThen.normal ?_
              | refine LOps.pure (Pure.mv (lv := .atom _) rfl) rfl ?_
              | refine LOps.pure (Pure.pickT (lv := .atom _) rfl rfl) rfl ?_
              | refine LOps.want rfl rfl ?_
              | refine LOps.skip rfl rfl rfl rfl ?_
              | refine LOps.skipU rfl rfl rfl ?_
            exact ⟨⟨rfl, rfl, rfl, rfl, rfl, rfl, rfl, rfl, bool_eq (by simp [e1, e3]), trivial⟩, rfl, rfl⟩
          · have e3 : ¬ wdAt v 1 = [45] := of_decide_eq_false h3
            repeat first
              | refine LOps.pure (Pure.mv (lv := .atom _) rfl) rfl ?_
              | refine LOps.pure (Pure.seq rfl rfl) rfl ?_
              | refine LOps.pure (Pure.pickT (lv := .atom _) rfl rfl) rfl ?_
              | refine LOps.pure (Pure.pickF (lv := .atom _) rfl rfl) rfl ?_
              | refine LOps.want rfl rfl ?_
            refine LOps.bcase 64 rfl (fun h4 => ?_) (fun h4 => ?_)
            · have e4 : wdAt v 1 = [94] := of_decide_eq_true h4
              repeat first
                | refine LOps.nil ?_
                | refine QThen.normal ?_
                | refine LOps.pure (Pure.pickT (lv := .atom _) rfl rfl) rfl ?_
                | refine LOps.skip rfl rfl rfl rfl ?_
                | refine LOps.skipU rfl rfl rfl ?_
              exact ⟨⟨rfl, rfl, rfl, rfl, rfl, rfl, rfl, rfl, bool_eq (by simp [e1, e4]), trivial⟩, rfl, rfl⟩
            · have e4 : ¬ wdAt v 1 = [94] := of_decide_eq_false h4
              repeat first
                | refine LOps.pure (Pure.mv (lv := .atom _) rfl) rfl ?_
                | refine LOps.pure (Pure.seq rfl rfl) rfl ?_
                | refine LOps.want rfl rfl ?_
              refine LOps.bcase 67 rfl (fun h5 => absurd (of_decide_eq_true h5) n1) (fun h5 => ?_)
              repeat first
                | refine LOps.nil ?_
                | refine QThen.normal ?_
                | refine LOps.pure (Pure.pickF (lv := .atom _) rfl rfl) rfl ?_
                | refine LOps.want rfl rfl ?_
                | refine LOps.skip rfl rfl rfl rfl ?_
                | refine LOps.skipU rfl rfl rfl ?_
              exact ⟨⟨rfl, rfl, rfl, rfl, rfl, rfl, rfl, rfl, bool_eq (by simp [e2, e3, e4, n1]), trivial⟩, rfl, rfl⟩
      · have e1 : ¬ wdAt v 0 = [48] := of_decide_eq_false h1
        repeat first
          | refine LOps.pure (Pure.mv (lv := .atom _) rfl) rfl ?_
          | refine LOps.pure (Pure.seq rfl rfl) rfl ?_
          | refine LOps.pure (Pure.pickF (lv := .atom _) rfl rfl) rfl ?_
          | refine LOps.want rfl rfl ?_
          | refine LOps.skip rfl rfl rfl rfl ?_
          | refine LOps.skipU rfl rfl rfl ?_
        refine LOps.bcase 67 rfl (fun h2 => ?_) (fun h2 => ?_)
        · have e2 : wdAt v 0 = [49] := of_decide_eq_true h2
          repeat first
            | refine LOps.pure (Pure.mv (lv := .atom _) rfl) rfl ?_
            | refine LOps.pure (Pure.seq rfl rfl) rfl ?_
            | refine LOps.want rfl rfl ?_
          refine LOps.bcase 70 rfl (fun h3 => ?_) (fun h3 => ?_)
          · have e3 : wdAt v 1 = [42] := of_decide_eq_true h3
            repeat first
              | refine LOps.nil ?_
              | refine QThen.normal ?_
              | refine LOps.pure (Pure.pickT (lv := .atom _) rfl rfl) rfl ?_
              | refine LOps.pure (Pure.pickF (lv := .atom _) rfl rfl) rfl ?_
              | refine LOps.want rfl rfl ?_
              | refine LOps.skip rfl rfl rfl rfl ?_
            exact ⟨⟨rfl, rfl, rfl, rfl, rfl, rfl, rfl, rfl, bool_eq (by simp [e2, e3]), trivial⟩, rfl, rfl⟩
          · have e3 : ¬ wdAt v 1 = [42] := of_decide_eq_false h3
            repeat first
              | refine LOps.nil ?_
              | refine QThen.normal ?_
              | refine LOps.pure (Pure.mv (lv := .atom _) rfl) rfl ?_
              | refine LOps.pure (Pure.seq rfl rfl) rfl ?_
              | refine LOps.pure (Pure.pickT (lv := .atom _) rfl rfl) rfl ?_
              | refine LOps.pure (Pure.pickF (lv := .atom _) rfl rfl) rfl ?_
              | refine LOps.want rfl rfl ?_
            exact ⟨⟨rfl, rfl, rfl, rfl, rfl, rfl, rfl, rfl, bool_eq (by simp [e2, e3]), trivial⟩, rfl, rfl⟩
        · have e2 : ¬ wdAt v 0 = [49] := of_decide_eq_false h2
          repeat first
            | refine LOps.nil ?_
            | refine QThen.normal ?_
            | refine LOps.pure (Pure.pickF (lv := .atom _) rfl rfl) rfl ?_
            | refine LOps.want rfl rfl ?_
            | refine LOps.skip rfl rfl rfl rfl ?_
            | refine LOps.skipU rfl rfl rfl ?_
          exact ⟨⟨rfl, rfl, rfl, rfl, rfl, rfl, rfl, rfl, bool_eq (by simp [e1, e2]), trivial⟩, rfl, rfl⟩
    refine LCode.cond rfl (fun h => ?_) (fun h => ?_)
    · have hR := rule2 (used := usedW l) (v := v) n1 (of_decide_eq_true h)
      repeat first
        | refine LOps.nil ?_
        | refine LCode.seq ?_
        | refine LCode.region ?_
        | refine LCode.ret ?_
        | refine QThen.normal ?_
        | refine QThen.ret ?_
        | refine LOps.pure (Pure.as (lv := .atom _) rfl) rfl ?_
      exact retRet hj (AllRes.cons (ResIs.tmp (v := .atom _) rfl (LV.Sub.refl _)) (AllRes.cons (ResIs.tmp (v := nilSlice) rfl LV.Sub.nil) AllRes.nil)) (by rw [hR]; rfl)
    · repeat first
        | refine LCode.skip ?_
        | refine QThen.normal ?_
      exact ⟨(), of_decide_eq_false h, ⟨rfl, rfl, rfl, rfl, rfl, rfl, rfl, rfl, trivial⟩, HSub.refl _, hj⟩
  rintro _ n2 j2 hj2
  have d2 : j2.ds = [] := hj2
  refine LCode.seq ?_
  refine LCode.midC (A := Unit) (fun _ => [(0, .list (l.map str)), (1, int .i64 (i : Nat)), (6, str (wdAt v 0)), (7, str (wdAt v 1)), (8, str (wdAt v 2)), (9, str (wdAt v 3)), (10, int .u32 ((numW (wdAt v 0)).getD 0 : Nat)), (11, bool (numW (wdAt v 0)).isSome)]) (fun _ => []) (fun _ => ¬ cRegroup v ∨ dRegroup v = none) ?_ ?_
  · repeat first
      | refine LCode.seq ?_
      | refine LCode.region ?_
      | refine LOps.pure (Pure.mv (lv := .atom _) rfl) rfl ?_
      | refine LOps.pure (Pure.seq rfl rfl) rfl ?_
    refine LOps.cut [(0, .list (l.map str)), (1, int .i64 (i : Nat)), (6, str (wdAt v 0)), (7, str (wdAt v 1)), (8, str (wdAt v 2)), (9, str (wdAt v 3)), (10, int .u32 ((numW (wdAt v 0)).getD 0 : Nat)), (11, bool (numW (wdAt v 0)).isSome), (90, bool (decide ((wdAt v 1 = [43] ∨ wdAt v 1 = [42] ∨ wdAt v 1 = [94]) ∧ wdAt v 3 = wdAt v 1)))] ?_ (fun j hj => ?_)
    · refine LOps.bcase 79 rfl (fun h1 => ?_) (fun h1 => ?_)
      · have e1 : wdAt v 1 = wdAt v 3 := of_decide_eq_true h1
        repeat first
          | refine LOps.pure (Pure.mv (lv := .atom _) rfl) rfl ?_
          | refine LOps.pure (Pure.seq rfl rfl) rfl ?_
          | refine LOps.want rfl rfl ?_
        refine LOps.bcase 82 rfl (fun h2 => ?_) (fun h2 => ?_)
        · have e2 : wdAt v 1 = [43] := of_decide_eq_true h2
          have e3 : wdAt v 3 = [43] := by rw [← e1, e2]
          repeat first
            | refine LOps.nil ?_
            | refine QThen.normal ?_
            | refine LOps.pure (Pure.mv (lv := .atom _) rfl) rfl ?_
            | refine LOps.pure (Pure.pickT (lv := .atom _) rfl rfl) rfl ?_
            | refine LOps.want rfl rfl ?_
            | refine LOps.skip rfl rfl rfl rfl ?_
          exact ⟨⟨rfl, rfl, rfl, rfl, rfl, rfl, rfl, rfl, bool_eq (by simp [e2, e3]), trivial⟩, rfl, rfl⟩
        · have e2 : ¬ wdAt v 1 = [43] := of_decide_eq_false h2
          repeat first
            | refine LOps.pure (Pure.mv (lv := .atom _) rfl) rfl ?_
            | refine LOps.pure (Pure.seq rfl rfl) rfl ?_
            | refine LOps.pure (Pure.pickF (lv := .atom _) rfl rfl) rfl ?_
            | refine LOps.want rfl rfl ?_
          refine LOps.bcase 86 rfl (fun h3 => ?_) (fun h3 => ?_)
          · have e3 : wdAt v 1 = [42] := of_decide_eq_true h3
            have e4 : wdAt v 3 = [42] := by rw [← e1, e3]
            repeat first
              | refine LOps.nil ?_
              | refine QThen.normal ?_
              | refine LOps.pure (Pure.pickT (lv := .atom _) rfl rfl) rfl ?_
              | refine LOps.want rfl rfl ?_
              | refine LOps.skip rfl rfl rfl rfl ?_
            exact ⟨⟨rfl, rfl, rfl, rfl, rfl, rfl, rfl, rfl, bool_eq (by simp [e3, e4]), trivial⟩, rfl, rfl⟩
          · have e3 : ¬ wdAt v 1 = [42] := of_decide_eq_false h3
            repeat first
              | refine LOps.nil ?_
              | refine QThen.normal ?_
              | refine LOps.pure (Pure.mv (lv := .atom _) rfl) rfl ?_
              | refine LOps.pure (Pure.seq rfl rfl) rfl ?_
              | refine LOps.pure (Pure.pickT (lv := .atom _) rfl rfl) rfl ?_
              | refine LOps.pure (Pure.pickF (lv := .atom _) rfl rfl) rfl ?_
              | refine LOps.want rfl rfl ?_
            exact ⟨⟨rfl, rfl, rfl, rfl, rfl, rfl, rfl, rfl, bool_eq (by rw [decide_eq_decide]; exact ⟨fun h => ⟨.inr (.inr h), e1.symm⟩, fun h => by rcases h.1 with h | h | h; exact absurd h e2; exact absurd h e3; exact h⟩), trivial⟩, rfl, rfl⟩
      · have e1 : ¬ wdAt v 3 = wdAt v 1 := fun h => of_decide_eq_false h1 h.symm
        repeat first
          | refine LOps.nil ?_
          | refine QThen.normal ?_
          | refine LOps.pure (Pure.pickF (lv := .atom _) rfl rfl) rfl ?_
          | refine LOps.skip rfl rfl rfl rfl ?_
          | refine LOps.skipU rfl rfl rfl ?_
        exact ⟨⟨rfl, rfl, rfl, rfl, rfl, rfl, rfl, rfl, bool_eq (by simp [e1]), trivial⟩, rfl, rfl⟩
    refine LCode.cond rfl (fun h => ?_) (fun h => ?_)
    · repeat first
        | refine LCode.seq ?_
        | refine LCode.region ?_
        | refine LOps.pure (Pure.mv (lv := .atom _) rfl) rfl ?_
      refine LOps.step (S.fnIf [_, _, _] rfl kf2 ?_) rfl
      rintro lv ⟨s, rfl, hs⟩
      repeat first
        | refine LOps.nil ?_
        | refine LCode.seq ?_
        | refine LCode.region ?_
        | refine QThen.normal ?_
        | refine LOps.pure (Pure.as (lv := .atom _) rfl) rfl ?_
        | refine LOps.pure (Pure.mv (lv := .atom _) rfl) rfl ?_
        | refine LOps.pure (Pure.mv (lv := .tuple _) rfl) rfl ?_
        | refine LOps.pure (Pure.extract (c := .atom _) rfl rfl) rfl ?_
      refine LCode.cond rfl (fun h3 => ?_) (fun h3 => ?_)
      · obtain ⟨s', hs'⟩ := Option.isSome_iff_exists.1 h3
        obtain rfl := hs s' hs'
        have hR := rule3 (used := usedW l) (v := v) n1 n2 (of_decide_eq_true h) hs'
        repeat first
          | refine LCode.seq ?_
          | refine LCode.region ?_
          | refine LOps.pure (Pure.mv (lv := .atom _) rfl) rfl ?_
        refine LOps.step (S.lit [.tmp 99, .tmp 100] rfl (elemsOk.cons rfl rfl (elemsOk.cons rfl rfl elemsOk.nil)) rfl rfl rfl ?_) rfl
        repeat first
          | refine LOps.nil ?_
          | refine LCode.ret ?_
          | refine QThen.normal ?_
          | refine QThen.ret ?_
          | refine LOps.pure (Pure.as (lv := .atom _) rfl) rfl ?_
          | refine LOps.pure (Pure.as (lv := .list _) rfl) rfl ?_
        exact retRet (hj.trans d2) (AllRes.cons (ResIs.tmp (v := .atom _) rfl (LV.Sub.refl _)) (AllRes.cons (ResIs.tmp (v := .list _) rfl (LV.Sub.refl _)) AllRes.nil)) (by rw [hR]; rfl)
      · repeat first
          | refine LCode.skip ?_
          | refine QThen.normal ?_
        exact ⟨(), .inr (by
          cases ho : joinedW (wdAt v 0) (wdAt v 1) (wdAt v 2) with
          | none => exact ho
          | some d => rw [ho] at h3; cases h3), ⟨rfl, rfl, rfl, rfl, rfl, rfl, rfl, rfl, trivial⟩, HSub.refl _, hj⟩
    · repeat first
        | refine LCode.skip ?_
        | refine QThen.normal ?_
      exact ⟨(), .inl (of_decide_eq_false h), ⟨rfl, rfl, rfl, rfl, rfl, rfl, rfl, rfl, trivial⟩, HSub.refl _, hj⟩
  rintro _ n3 j3 hj3
  have d3 : j3.ds = [] := hj3.trans d2
  refine LCode.seq ?_
  refine LCode.midC (A := Unit) (fun _ => [(0, .list (l.map str)), (1, int .i64 (i : Nat)), (6, str (wdAt v 0)), (7, str (wdAt v 1)), (8, str (wdAt v 2)), (9, str (wdAt v 3)), (10, int .u32 ((numW (wdAt v 0)).getD 0 : Nat)), (11, bool (numW (wdAt v 0)).isSome)]) (fun _ => []) (fun _ => ¬ cSame v) ?_ ?_
  · repeat first
      | refine LCode.seq ?_
      | refine LCode.region ?_
      | refine LOps.pure (Pure.mv (lv := .atom _) rfl) rfl ?_
    refine LOps.cut [(0, .list (l.map str)), (1, int .i64 (i : Nat)), (6, str (wdAt v 0)), (7, str (wdAt v 1)), (8, str (wdAt v 2)), (9, str (wdAt v 3)), (10, int .u32 ((numW (wdAt v 0)).getD 0 : Nat)), (11, bool (numW (wdAt v 0)).isSome), (115, bool (decide ((numW (wdAt v 0)).isSome = true ∧ wdAt v 1 = [64] ∧ wdAt v 2 = wdAt v 0 ∧ wdAt v 3 = [33])))] ?_ (fun j hj => ?_)
    · skip
      refine LOps.bcase 103 rfl (fun h0 => ?_) (fun h0 => ?_)
      · have e0 : (numW (wdAt v 0)).isSome = true := by simpa using h0
        repeat first
          | refine LOps.pure (Pure.mv (lv := .atom _) rfl) rfl ?_
          | refine LOps.pure (Pure.seq rfl rfl) rfl ?_
          | refine LOps.pure (Pure.pickT (lv := .atom _) rfl rfl) rfl ?_
          | refine LOps.want rfl rfl ?_
        refine LOps.bcase 107 rfl (fun h1 => ?_) (fun h1 => ?_)
        · have e1 : wdAt v 1 = [64] := by simpa using h1
          repeat first
            | refine LOps.pure (Pure.mv (lv := .atom _) rfl) rfl ?_
            | refine LOps.pure (Pure.seq rfl rfl) rfl ?_
            | refine LOps.pure (Pure.pickT (lv := .atom _) rfl rfl) rfl ?_
            | refine LOps.want rfl rfl ?_
          refine LOps.bcase 112 rfl (fun h2 => ?_) (fun h2 => ?_)
          · have e2 : wdAt v 2 = wdAt v 0 := by simpa using h2
            repeat first
              | refine LOps.nil ?_
              | refine QThen.normal ?_
              | refine LOps.pure (Pure.mv (lv := .atom _) rfl) rfl ?_
              | refine LOps.pure (Pure.seq rfl rfl) rfl ?_
              | refine LOps.pure (Pure.pickT (lv := .atom _) rfl rfl) rfl ?_
              | refine LOps.want rfl rfl ?_
            exact ⟨⟨rfl, rfl, rfl, rfl, rfl, rfl, rfl, rfl, bool_eq (by simp [e0, e1, e2]), trivial⟩, rfl, rfl⟩
          · have e2 : ¬ (wdAt v 2 = wdAt v 0) := by simpa using h2
            repeat first
              | refine LOps.nil ?_
              | refine QThen.normal ?_
              | refine LOps.pure (Pure.pickF (lv := .atom _) rfl rfl) rfl ?_
              | refine LOps.skip rfl rfl rfl rfl ?_
            exact ⟨⟨rfl, rfl, rfl, rfl, rfl, rfl, rfl, rfl, bool_eq (by simp [e2]), trivial⟩, rfl, rfl⟩
        · have e1 : ¬ (wdAt v 1 = [64]) := by simpa using h1
          repeat first
            | refine LOps.nil ?_
            | refine QThen.normal ?_
            | refine LOps.pure (Pure.mv (lv := .atom _) rfl) rfl ?_
            | refine LOps.pure (Pure.pickF (lv := .atom _) rfl rfl) rfl ?_
            | refine LOps.skip rfl rfl rfl rfl ?_
          exact ⟨⟨rfl, rfl, rfl, rfl, rfl, rfl, rfl, rfl, bool_eq (by simp [e1]), trivial⟩, rfl, rfl⟩
      · have e0 : ¬ ((numW (wdAt v 0)).isSome = true) := by simpa using h0
        repeat first
          | refine LOps.nil ?_
          | refine QThen.normal ?_
          | refine LOps.pure (Pure.mv (lv := .atom _) rfl) rfl ?_
          | refine LOps.pure (Pure.pickF (lv := .atom _) rfl rfl) rfl ?_
          | refine LOps.skip rfl rfl rfl rfl ?_
        exact ⟨⟨rfl, rfl, rfl, rfl, rfl, rfl, rfl, rfl, bool_eq (by simp [e0]), trivial⟩, rfl, rfl⟩
    refine LCode.cond rfl (fun h => ?_) (fun h => ?_)
    · have hR := rule4 (used := usedW l) (v := v) n1 n2 n3 (of_decide_eq_true h)
      repeat first
        | refine LOps.nil ?_
        | refine LCode.seq ?_
        | refine LCode.region ?_
        | refine LCode.ret ?_
        | refine QThen.normal ?_
        | refine QThen.ret ?_
        | refine LOps.pure (Pure.as (lv := .atom _) rfl) rfl ?_
      exact retRet (hj.trans d3) (AllRes.cons (ResIs.tmp (v := .atom _) rfl (LV.Sub.refl _)) (AllRes.cons (ResIs.tmp (v := nilSlice) rfl LV.Sub.nil) AllRes.nil)) (by rw [hR]; rfl)
    · repeat first
        | refine LCode.skip ?_
        | refine QThen.normal ?_
      exact ⟨(), of_decide_eq_false h, ⟨rfl, rfl, rfl, rfl, rfl, rfl, rfl, rfl, trivial⟩, HSub.refl _, hj⟩
  rintro _ n4 j4 hj4
  have d4 : j4.ds = [] := hj4.trans d3
  have hJ4 : (jumpW v 4).isSome = decide (¬ refR (wdAt v 4) = [] ∧ wdAt v 5 = [63]) := jumpW_isR v 4
  have hJ1 : (jumpW v 1).isSome = decide (¬ refR (wdAt v 1) = [] ∧ wdAt v 2 = [63]) := jumpW_isR v 1
  refine LCode.seq ?_
  refine LCode.midC (A := Unit) (fun _ => [(0, .list (l.map str)), (1, int .i64 (i : Nat)), (6, str (wdAt v 0)), (7, str (wdAt v 1)), (8, str (wdAt v 2)), (9, str (wdAt v 3)), (10, int .u32 ((numW (wdAt v 0)).getD 0 : Nat)), (11, bool (numW (wdAt v 0)).isSome)]) (fun _ => []) (fun _ => ¬ cDouble v) ?_ ?_
  · repeat first
      | refine LCode.seq ?_
      | refine LCode.region ?_
      | refine LOps.pure (Pure.mv (lv := .atom _) rfl) rfl ?_
      | refine LOps.pure (Pure.seq rfl rfl) rfl ?_
    refine LOps.cut [(0, .list (l.map str)), (1, int .i64 (i : Nat)), (6, str (wdAt v 0)), (7, str (wdAt v 1)), (8, str (wdAt v 2)), (9, str (wdAt v 3)), (10, int .u32 ((numW (wdAt v 0)).getD 0 : Nat)), (11, bool (numW (wdAt v 0)).isSome), (144, bool (decide ((jumpW v 4).isSome = true ∧ wdAt v 0 = [49] ∧ wdAt v 1 = [60] ∧ wdAt v 2 = [49] ∧ wdAt v 3 = [60])))] ?_ (fun j hj => ?_)
    · rw [hJ4]
      refine LOps.bcase 118 rfl (fun h0 => ?_) (fun h0 => ?_)
      · have e0 : wdAt v 0 = [49] := by simpa using h0
        repeat first
          | refine LOps.pure (Pure.mv (lv := .atom _) rfl) rfl ?_
          | refine LOps.pure (Pure.seq rfl rfl) rfl ?_
          | refine LOps.pure (Pure.pickT (lv := .atom _) rfl rfl) rfl ?_
          | refine LOps.want rfl rfl ?_
        refine LOps.bcase 122 rfl (fun h1 => ?_) (fun h1 => ?_)
        · have e1 : wdAt v 1 = [60] := by simpa using h1
          repeat first
            | refine LOps.pure (Pure.mv (lv := .atom _) rfl) rfl ?_
            | refine LOps.pure (Pure.seq rfl rfl) rfl ?_
            | refine LOps.pure (Pure.pickT (lv := .atom _) rfl rfl) rfl ?_
            | refine LOps.want rfl rfl ?_
          refine LOps.bcase 126 rfl (fun h2 => ?_) (fun h2 => ?_)
          · have e2 : wdAt v 2 = [49] := by simpa using h2
            repeat first
              | refine LOps.pure (Pure.mv (lv := .atom _) rfl) rfl ?_
              | refine LOps.pure (Pure.seq rfl rfl) rfl ?_
              | refine LOps.pure (Pure.pickT (lv := .atom _) rfl rfl) rfl ?_
              | refine LOps.want rfl rfl ?_
            refine LOps.bcase 130 rfl (fun h3 => ?_) (fun h3 => ?_)
            · have e3 : wdAt v 3 = [60] := by simpa using h3
              repeat first
                | refine LOps.pure (Pure.mv (lv := .list _) rfl) rfl ?_
                | refine LOps.pure (Pure.mv (lv := .atom _) rfl) rfl ?_
                | refine LOps.pure (Pure.add rfl rfl (by omega)) rfl ?_
                | refine LOps.want rfl rfl ?_
              skip
              refine LOps.step (S.fn [_, _] rfl (ka 4) ?_) rfl
              repeat first
                | refine LOps.want rfl rfl ?_
              refine LOps.step (S.fn [_] rfl kr4 ?_) rfl
              repeat first
                | refine LOps.pure (Pure.mv (lv := .atom _) rfl) rfl ?_
                | refine LOps.pure (Pure.pickT (lv := .atom _) rfl rfl) rfl ?_
                | refine LOps.pure (Pure.sneq rfl rfl) rfl ?_
                | refine LOps.want rfl rfl ?_
              refine LOps.bcase 138 rfl (fun h4 => ?_) (fun h4 => ?_)
              · have e4 : ¬ refR (wdAt v 4) = [] := by simpa using h4
                repeat first
                  | refine LOps.pure (Pure.mv (lv := .list _) rfl) rfl ?_
                  | refine LOps.pure (Pure.mv (lv := .atom _) rfl) rfl ?_
                  | refine LOps.pure (Pure.add rfl rfl (by omega)) rfl ?_
                  | refine LOps.want rfl rfl ?_
                refine LOps.step (S.fn [_, _] rfl (ka 5) ?_) rfl
                repeat first
                  | refine LOps.nil ?_
                  | refine QThen.normal ?_
                  | refine LOps.pure (Pure.seq rfl rfl) rfl ?_
                  | refine LOps.pure (Pure.pickT (lv := .atom _) rfl rfl) rfl ?_
                  | refine LOps.want rfl rfl ?_
                exact ⟨⟨rfl, rfl, rfl, rfl, rfl, rfl, rfl, rfl, bool_eq (by simp [e0, e1, e2, e3, e4]), trivial⟩, rfl, rfl⟩
              · have e4 : ¬ (¬ refR (wdAt v 4) = []) := by simpa using h4
                repeat first
                  | refine LOps.nil ?_
                  | refine QThen.normal ?_
                  | refine LOps.pure (Pure.pickF (lv := .atom _) rfl rfl) rfl ?_
                  | refine LOps.skip rfl rfl rfl rfl ?_
                exact ⟨⟨rfl, rfl, rfl, rfl, rfl, rfl, rfl, rfl, bool_eq (by simp [e4]), trivial⟩, rfl, rfl⟩
            · have e3 : ¬ (wdAt v 3 = [60]) := by simpa using h3
              repeat first
                | refine LOps.nil ?_
                | refine QThen.normal ?_
                | refine LOps.pure (Pure.mv (lv := .atom _) rfl) rfl ?_
                | refine LOps.pure (Pure.pickF (lv := .atom _) rfl rfl) rfl ?_
                | refine LOps.skip rfl rfl rfl rfl ?_
              exact ⟨⟨rfl, rfl, rfl, rfl, rfl, rfl, rfl, rfl, bool_eq (by simp [e3]), trivial⟩, rfl, rfl⟩
          · have e2 : ¬ (wdAt v 2 = [49]) := by simpa using h2
            repeat first
              | refine LOps.nil ?_
              | refine QThen.normal ?_
              | refine LOps.pure (Pure.mv (lv := .atom _) rfl) rfl ?_
              | refine LOps.pure (Pure.pickF (lv := .atom _) rfl rfl) rfl ?_
              | refine LOps.skip rfl rfl rfl rfl ?_
            exact ⟨⟨rfl, rfl, rfl, rfl, rfl, rfl, rfl, rfl, bool_eq (by simp [e2]), trivial⟩, rfl, rfl⟩
        · have e1 : ¬ (wdAt v 1 = [60]) := by simpa using h1
          repeat first
            | refine LOps.nil ?_
            | refine QThen.normal ?_
            | refine LOps.pure (Pure.mv (lv := .atom _) rfl) rfl ?_
            | refine LOps.pure (Pure.pickF (lv := .atom _) rfl rfl) rfl ?_
            | refine LOps.skip rfl rfl rfl rfl ?_
          exact ⟨⟨rfl, rfl, rfl, rfl, rfl, rfl, rfl, rfl, bool_eq (by simp [e1]), trivial⟩, rfl, rfl⟩
      · have e0 : ¬ (wdAt v 0 = [49]) := by simpa using h0
        repeat first
          | refine LOps.nil ?_
          | refine QThen.normal ?_
          | refine LOps.pure (Pure.mv (lv := .atom _) rfl) rfl ?_
          | refine LOps.pure (Pure.pickF (lv := .atom _) rfl rfl) rfl ?_
          | refine LOps.skip rfl rfl rfl rfl ?_
        exact ⟨⟨rfl, rfl, rfl, rfl, rfl, rfl, rfl, rfl, bool_eq (by simp [e0]), trivial⟩, rfl, rfl⟩
    refine LCode.cond rfl (fun h => ?_) (fun h => ?_)
    · have hC := of_decide_eq_true h
      have hR := rule5 (used := usedW l) (v := v) n1 n2 n3 n4 hC
      have h5 := hC.1
      rw [hJ4] at h5
      have h6 := (of_decide_eq_true h5).2
      obtain ⟨lb, hlb⟩ := Option.isSome_iff_exists.1 hC.1
      have h7 := jumpW_lt hlb
      have hix : (l.map str)[((i : Int) + 4).toNat]? = some (str (wdAt v 4)) := by
        rw [show ((i : Int) + 4).toNat = i + 4 by omega, hv, wdAt_drop, wdAt_get (by omega), List.getElem?_map, List.getElem?_eq_getElem (by omega)]
        rfl
      repeat first
        | refine LCode.seq ?_
      refine LCode.draw (m := 8) rfl [] ?_
      refine LAny.take (i := 0) (by first | exact HSub.nil _ | exact HSub.refl _ | exact HSub.drop (HSub.refl _) | exact HSub.pick Pick.here (HSub.nil _) | exact HSub.pick (Pick.there Pick.here) (HSub.nil _) | exact HSub.pick (Pick.there (Pick.there Pick.here)) (HSub.nil _)) rfl (by kernel_rfl) (by kernel_rfl) (by kernel_rfl) rfl (Pure.mv (lv := .list _) rfl) ?_
      refine LAny.take (i := 1) (by first | exact HSub.nil _ | exact HSub.refl _ | exact HSub.drop (HSub.refl _) | exact HSub.pick Pick.here (HSub.nil _) | exact HSub.pick (Pick.there Pick.here) (HSub.nil _) | exact HSub.pick (Pick.there (Pick.there Pick.here)) (HSub.nil _)) rfl (by kernel_rfl) (by kernel_rfl) (by kernel_rfl) rfl (Pure.mv (lv := .atom _) rfl) ?_
      refine LAny.take (i := 2) (by first | exact HSub.nil _ | exact HSub.refl _ | exact HSub.drop (HSub.refl _) | exact HSub.pick Pick.here (HSub.nil _) | exact HSub.pick (Pick.there Pick.here) (HSub.nil _) | exact HSub.pick (Pick.there (Pick.there Pick.here)) (HSub.nil _)) rfl (by kernel_rfl) (by kernel_rfl) (by kernel_rfl) rfl (Pure.add rfl rfl (by omega)) ?_
      refine LAny.take (i := 6) (by first | exact HSub.nil _ | exact HSub.refl _ | exact HSub.drop (HSub.refl _) | exact HSub.pick Pick.here (HSub.nil _) | exact HSub.pick (Pick.there Pick.here) (HSub.nil _) | exact HSub.pick (Pick.there (Pick.there Pick.here)) (HSub.nil _)) rfl (by kernel_rfl) (by kernel_rfl) (by kernel_rfl) rfl (Pure.as (lv := .atom _) rfl) ?_
      refine LAny.take (i := 3) (HSub.refl _) rfl (by kernel_rfl) (by kernel_rfl) (by kernel_rfl) rfl (Pure.ixRef (el' := str (wdAt v 4)) (cs := [str (wdAt v 4)]) rfl rfl (by omega) hix rfl rfl) ?_
      refine LAny.take (i := 4) (by first | exact HSub.nil _ | exact HSub.refl _ | exact HSub.drop (HSub.refl _) | exact HSub.pick Pick.here (HSub.nil _) | exact HSub.pick (Pick.there Pick.here) (HSub.nil _) | exact HSub.pick (Pick.there (Pick.there Pick.here)) (HSub.nil _)) rfl (by kernel_rfl) (by kernel_rfl) (by kernel_rfl) rfl (Pure.loadRef (c := .atom _) rfl rfl) ?_
      refine LAny.late ?_ (HSub.refl _)
      refine LLate.one (i := 5) (by kernel_rfl) (LLateOp.step (H1 := []) rfl (.inl rfl) rfl (List.Perm.refl _) (HSub.refl _) (S.lit [.tmp 149, .const (.string { data := #[63] })] rfl (elemsOk.cons rfl rfl (elemsOk.cons rfl rfl elemsOk.nil)) rfl rfl rfl ?_))
      refine LLate.any [] (fun _ h => h) ?_
      refine LAny.take (i := 7) (by first | exact HSub.nil _ | exact HSub.refl _ | exact HSub.drop (HSub.refl _) | exact HSub.pick Pick.here (HSub.nil _) | exact HSub.pick (Pick.there Pick.here) (HSub.nil _) | exact HSub.pick (Pick.there (Pick.there Pick.here)) (HSub.nil _)) rfl (by kernel_rfl) (by kernel_rfl) (by kernel_rfl) rfl (Pure.as (lv := .list _) rfl) ?_
      refine LAny.late ?_ (HSub.refl _)
      refine LLate.done (by kernel_rfl) ?_
      repeat first
        | refine LCode.ret ?_
        | refine QThen.normal ?_
        | refine QThen.ret ?_
      exact retRet (hj.trans d4) (AllRes.cons (ResIs.tmp (v := .atom _) rfl (LV.Sub.refl _)) (AllRes.cons (ResIs.tmp (v := .list _) rfl (LV.Sub.refl _)) AllRes.nil)) (by rw [hR, h6]; rfl)
    · repeat first
        | refine LCode.skip ?_
        | refine QThen.normal ?_
      exact ⟨(), of_decide_eq_false h, ⟨rfl, rfl, rfl, rfl, rfl, rfl, rfl, rfl, trivial⟩, HSub.refl _, hj⟩
  rintro _ n5 j5 hj5
  have d5 : j5.ds = [] := hj5.trans d4
  refine LCode.seq ?_
  refine LCode.midC (A := Unit) (fun _ => [(0, .list (l.map str)), (1, int .i64 (i : Nat)), (6, str (wdAt v 0)), (7, str (wdAt v 1)), (8, str (wdAt v 2)), (9, str (wdAt v 3)), (10, int .u32 ((numW (wdAt v 0)).getD 0 : Nat)), (11, bool (numW (wdAt v 0)).isSome)]) (fun _ => []) (fun _ => cNever v = false) ?_ ?_
  · repeat first
      | refine LCode.seq ?_
      | refine LCode.region ?_
      | refine LOps.pure (Pure.mv (lv := .atom _) rfl) rfl ?_
    refine LOps.cut [(0, .list (l.map str)), (1, int .i64 (i : Nat)), (6, str (wdAt v 0)), (7, str (wdAt v 1)), (8, str (wdAt v 2)), (9, str (wdAt v 3)), (10, int .u32 ((numW (wdAt v 0)).getD 0 : Nat)), (11, bool (numW (wdAt v 0)).isSome), (164, bool (cNever v))] ?_ (fun j hj => ?_)
    · rw [cNever_eq, hJ1]
      refine LOps.bcase 152 rfl (fun h0 => ?_) (fun h0 => ?_)
      · have e0 : (numW (wdAt v 0)).isSome = true := h0
        repeat first
          | refine LOps.pure (Pure.mv (lv := .atom _) rfl) rfl ?_
          | refine LOps.pure (Pure.pickT (lv := .atom _) rfl rfl) rfl ?_
          | refine LOps.pure (Pure.neq rfl rfl) rfl ?_
          | refine LOps.want rfl rfl ?_
        refine LOps.bcase 156 rfl (fun h1 => ?_) (fun h1 => ?_)
        · have e1 : ¬ (numW (wdAt v 0)).getD 0 = 0 := by
            have : ¬ (((numW (wdAt v 0)).getD 0 : Nat) : Int) = 0 := by simpa using h1
            omega
          repeat first
            | refine LOps.pure (Pure.mv (lv := .atom _) rfl) rfl ?_
            | refine LOps.want rfl rfl ?_
          refine LOps.step (S.fn [_] rfl kr1 ?_) rfl
          repeat first
            | refine LOps.pure (Pure.mv (lv := .atom _) rfl) rfl ?_
            | refine LOps.pure (Pure.pickT (lv := .atom _) rfl rfl) rfl ?_
            | refine LOps.pure (Pure.sneq rfl rfl) rfl ?_
            | refine LOps.want rfl rfl ?_
          refine LOps.bcase 161 rfl (fun h2 => ?_) (fun h2 => ?_)
          · have e2 : ¬ refR (wdAt v 1) = [] := by simpa using h2
            repeat first
              | refine LOps.nil ?_
              | refine QThen.normal ?_
              | refine LOps.pure (Pure.mv (lv := .atom _) rfl) rfl ?_
              | refine LOps.pure (Pure.seq rfl rfl) rfl ?_
              | refine LOps.pure (Pure.pickT (lv := .atom _) rfl rfl) rfl ?_
              | refine LOps.want rfl rfl ?_
            exact ⟨⟨rfl, rfl, rfl, rfl, rfl, rfl, rfl, rfl, bool_eq (by simp [e0, e1, e2]), trivial⟩, rfl, rfl⟩
          · have e2 : refR (wdAt v 1) = [] := by simpa using h2
            repeat first
              | refine LOps.nil ?_
              | refine QThen.normal ?_
              | refine LOps.pure (Pure.pickF (lv := .atom _) rfl rfl) rfl ?_
              | refine LOps.skip rfl rfl rfl rfl ?_
            exact ⟨⟨rfl, rfl, rfl, rfl, rfl, rfl, rfl, rfl, bool_eq (by simp [e2]), trivial⟩, rfl, rfl⟩
        · have e1 : (numW (wdAt v 0)).getD 0 = 0 := by
            have : (((numW (wdAt v 0)).getD 0 : Nat) : Int) = 0 := by simpa using h1
            omega
          repeat first
            | refine LOps.nil ?_
            | refine QThen.normal ?_
            | refine LOps.pure (Pure.mv (lv := .atom _) rfl) rfl ?_
            | refine LOps.pure (Pure.pickF (lv := .atom _) rfl rfl) rfl ?_
            | refine LOps.skip rfl rfl rfl rfl ?_
          exact ⟨⟨rfl, rfl, rfl, rfl, rfl, rfl, rfl, rfl, bool_eq (by simp [e1]), trivial⟩, rfl, rfl⟩
      · have e0 : (numW (wdAt v 0)).isSome = false := h0
        repeat first
          | refine LOps.nil ?_
          | refine QThen.normal ?_
          | refine LOps.pure (Pure.mv (lv := .atom _) rfl) rfl ?_
          | refine LOps.pure (Pure.pickF (lv := .atom _) rfl rfl) rfl ?_
          | refine LOps.skip rfl rfl rfl rfl ?_
        exact ⟨⟨rfl, rfl, rfl, rfl, rfl, rfl, rfl, rfl, bool_eq (by simp [e0]), trivial⟩, rfl, rfl⟩
    refine LCode.cond rfl (fun h => ?_) (fun h => ?_)
    · have hR := rule6 (used := usedW l) (v := v) n1 n2 n3 n4 n5 h
      repeat first
        | refine LOps.nil ?_
        | refine LCode.seq ?_
        | refine LCode.region ?_
        | refine LCode.ret ?_
        | refine QThen.normal ?_
        | refine QThen.ret ?_
        | refine LOps.pure (Pure.as (lv := .atom _) rfl) rfl ?_
      exact retRet (hj.trans d5) (AllRes.cons (ResIs.tmp (v := .atom _) rfl (LV.Sub.refl _)) (AllRes.cons (ResIs.tmp (v := nilSlice) rfl LV.Sub.nil) AllRes.nil)) (by rw [hR]; rfl)
    · repeat first
        | refine LCode.skip ?_
        | refine QThen.normal ?_
      exact ⟨(), h, ⟨rfl, rfl, rfl, rfl, rfl, rfl, rfl, rfl, trivial⟩, HSub.refl _, hj⟩
  rintro _ n6 j6 hj6
  have d6 : j6.ds = [] := hj6.trans d5
  refine LCode.seq ?_
  refine LCode.midC (A := Unit) (fun _ => [(0, .list (l.map str)), (1, int .i64 (i : Nat)), (6, str (wdAt v 0)), (7, str (wdAt v 1)), (8, str (wdAt v 2)), (9, str (wdAt v 3)), (10, int .u32 ((numW (wdAt v 0)).getD 0 : Nat)), (11, bool (numW (wdAt v 0)).isSome)]) (fun _ => []) (fun _ => cNext v = false) ?_ ?_
  · repeat first
      | refine LCode.seq ?_
      | refine LCode.region ?_
      | refine LOps.pure (Pure.mv (lv := .list _) rfl) rfl ?_
      | refine LOps.pure (Pure.mv (lv := .atom _) rfl) rfl ?_
    refine LOps.step (S.fn [_, _] rfl kj ?_) rfl
    repeat first
      | refine LOps.nil ?_
      | refine QThen.normal ?_
    refine LCode.cond rfl (fun h => ?_) (fun h => ?_)
    · obtain ⟨d, hd, ha0, hN⟩ := cNext_yes h
      have hd3 : v.drop 3 = l.drop (i + 3) := by rw [hv, List.drop_drop]
      rw [hd3] at hN
      repeat first
        | refine LOps.nil ?_
        | refine LCode.seq ?_
        | refine LCode.region ?_
        | refine LCode.block ?_
        | refine QThen.normal ?_
        | refine LOps.pure (Pure.as (lv := .atom _) rfl) rfl ?_
        | refine LOps.pure (Pure.mv (lv := .atom _) rfl) rfl ?_
        | refine LOps.pure (Pure.add rfl rfl (by omega)) rfl ?_
      refine LCode.loopI (fun kk ls H => ∃ k : Nat, i + 3 ≤ k ∧ (k ≤ l.length ∨ k = i + 3) ∧ kk = l.length + 4 - k ∧ ls = [(0, .list (l.map str)), (1, int .i64 (i : Nat)), (6, str (wdAt v 0)), (7, str (wdAt v 1)), (8, str (wdAt v 2)), (9, str (wdAt v 3)), (10, int .u32 ((numW (wdAt v 0)).getD 0 : Nat)), (11, bool (numW (wdAt v 0)).isSome), (16, int .i64 (k : Nat))] ∧ H = [] ∧ cNext v = nextW d (l.drop k))
        ⟨_, _, _, ⟨i + 3, Nat.le_refl _, Or.inr rfl, rfl, rfl, rfl, hN⟩, ⟨rfl, rfl, rfl, rfl, rfl, rfl, rfl, rfl, int_eq (by omega), trivial⟩, HSub.refl _⟩ ?_
      rintro kk ls H ⟨k, hk1, hk2, rfl, rfl, rfl, hE⟩ j hj
      have k1 := at24_spec (B0 := B0) (w0 := w0) l k (by omega)
      have k2 := definition24_spec (B0 := B0) (w0 := w0) (wdAt l k) (by have := hl.at k; omega)
      rw [nextW_step d l k] at hE
      repeat first
        | refine LCode.seq ?_
        | refine LCode.region ?_
        | refine LOps.pure (Pure.mv (lv := .list _) rfl) rfl ?_
        | refine LOps.pure (Pure.mv (lv := .atom _) rfl) rfl ?_
      refine LOps.step (S.fn [_, _] rfl k1 ?_) rfl
      refine LOps.step (S.fn [_] rfl k2 ?_) rfl
      repeat first
        | refine LOps.nil ?_
        | refine QThen.normal ?_
        | refine LOps.pure (Pure.sneq rfl rfl) rfl ?_
      refine LCode.cond rfl (fun h2 => ?_) (fun h2 => ?_)
      · have h2' : ¬ defR (wdAt l k) = [] := by simpa using h2
        obtain ⟨e, he⟩ : ∃ e, defW (wdAt l k) = some e := by
          cases ho : defW (wdAt l k) with
          | none => exact absurd ((defR_nil _).2 ho) h2'
          | some e => exact ⟨e, rfl⟩
        have hlt := defW_lt he
        have hde := defR_some he
        rw [he] at hE
        simp only at hE
        have hix : (l.map str)[((k : Nat) : Int).toNat]? = some (str (wdAt l k)) := by rw [wdAt_get hlt]; exact map_get _ _ _ hlt
        repeat first
          | refine LCode.seq ?_
          | refine LCode.region ?_
          | refine LCode.skip ?_
          | refine LCode.block ?_
          | refine QThen.normal ?_
          | refine LOps.pure (Pure.mv (lv := .list _) rfl) rfl ?_
          | refine LOps.pure (Pure.mv (lv := .atom _) rfl) rfl ?_
        refine LOps.pure (Pure.ixRef (el' := str (wdAt l k)) (cs := [str (wdAt l k)]) rfl rfl (by omega) hix rfl rfl) rfl ?_
        repeat first
          | refine LOps.pure (Pure.loadRef (c := .atom _) rfl rfl) rfl ?_
        refine LOps.step (S.fn [_] rfl k2 ?_) rfl
        repeat first
          | refine LOps.pure (Pure.mv (lv := .atom _) rfl) rfl ?_
        refine LOps.step (S.fn [_] rfl kr1 ?_) rfl
        repeat first
          | refine LOps.nil ?_
          | refine QThen.normal ?_
          | refine LOps.pure (Pure.seq rfl rfl) rfl ?_
        refine LCode.cond rfl (fun h3 => ?_) (fun h3 => ?_)
        · have h3' : e = d := by rw [← hde, ← hd]; exact of_decide_eq_true h3
          rw [decide_eq_true h3', Bool.true_or] at hE
          have hR := rule7 (used := usedW l) (v := v) n1 n2 n3 n4 n5 n6 hE
          repeat first
            | refine LOps.nil ?_
            | refine LCode.seq ?_
            | refine LCode.region ?_
            | refine LCode.ret ?_
            | refine QThen.normal ?_
            | refine QThen.ret ?_
            | refine QBlock.ret ?_
            | refine LOps.pure (Pure.as (lv := .atom _) rfl) rfl ?_
          exact retRet (hj.trans d6) (AllRes.cons (ResIs.tmp (v := .atom _) rfl (LV.Sub.refl _)) (AllRes.cons (ResIs.tmp (v := nilSlice) rfl LV.Sub.nil) AllRes.nil)) (by rw [hR]; rfl)
        · have h3' : ¬ e = d := by
            intro hc
            apply of_decide_eq_false h3
            rw [hde, hd, hc]
          rw [decide_eq_false h3', Bool.false_or] at hE
          repeat first
            | refine LOps.nil ?_
            | refine LCode.region ?_
            | refine LCode.skip ?_
            | refine QThen.normal ?_
            | refine QBlock.normal ?_
            | refine LOps.pure (Pure.as (lv := .atom _) rfl) rfl ?_
            | refine LOps.pure (Pure.mv (lv := .atom _) rfl) rfl ?_
            | refine LOps.pure (Pure.add rfl rfl (by omega)) rfl ?_
          exact ⟨_, _, _, by omega, ⟨k + 1, by omega, Or.inl (by omega), rfl, rfl, rfl, hE⟩, ⟨rfl, rfl, rfl, rfl, rfl, rfl, rfl, rfl, int_eq (by omega), trivial⟩, HSub.refl _, hj⟩
      · have h2' : defR (wdAt l k) = [] := by simpa using h2
        rw [(defR_nil _).1 h2'] at hE
        repeat first
          | refine LCode.exit ?_
          | refine QThen.normal ?_
          | refine QThen.exit ?_
          | refine QBlock.hit ?_
        exact ⟨(), hE, ⟨rfl, rfl, rfl, rfl, rfl, rfl, rfl, rfl, trivial⟩, HSub.refl _, hj⟩
    · repeat first
        | refine LCode.skip ?_
        | refine QThen.normal ?_
      exact ⟨(), cNext_no h, ⟨rfl, rfl, rfl, rfl, rfl, rfl, rfl, rfl, trivial⟩, HSub.refl _, rfl⟩
  rintro _ n7 j7 hj7
  have d7 : j7.ds = [] := hj7.trans d6
  have hS := stopW_eq v
  refine LCode.seq ?_
  repeat (first | refine LCode.region ?_ | refine LOps.pure (Pure.as (lv := .atom _) rfl) rfl ?_ | refine LOps.nil ?_ | refine QThen.normal ?_)
  refine LCode.seq ?_
  refine LCode.midC (A := Unit) (fun _ => [(0, .list (l.map str)), (1, int .i64 (i : Nat)), (6, str (wdAt v 0)), (7, str (wdAt v 1)), (8, str (wdAt v 2)), (9, str (wdAt v 3)), (10, int .u32 ((numW (wdAt v 0)).getD 0 : Nat)), (11, bool (numW (wdAt v 0)).isSome), (17, int .i64 ((if jumpB v 0 = true then 3 else 0 : Nat) : Nat))]) (fun _ => []) (fun _ => True) ?_ ?_
  · repeat first
      | refine LCode.seq ?_
      | refine LCode.region ?_
      | refine LOps.pure (Pure.mv (lv := .list _) rfl) rfl ?_
      | refine LOps.pure (Pure.mv (lv := .atom _) rfl) rfl ?_
    refine LOps.step (S.fn [_, _] rfl kj ?_) rfl
    repeat first
      | refine LOps.nil ?_
      | refine QThen.normal ?_
    refine LCode.cond rfl (fun h => ?_) (fun h => ?_)
    · repeat first
        | refine LOps.nil ?_
        | refine LCode.region ?_
        | refine QThen.normal ?_
        | refine LOps.pure (Pure.as (lv := .atom _) rfl) rfl ?_
      exact ⟨(), trivial, ⟨rfl, rfl, rfl, rfl, rfl, rfl, rfl, rfl, int_eq (by rw [if_pos h]; rfl), trivial⟩, HSub.refl _, rfl⟩
    · repeat first
        | refine LCode.skip ?_
        | refine QThen.normal ?_
      exact ⟨(), trivial, ⟨rfl, rfl, rfl, rfl, rfl, rfl, rfl, rfl, int_eq (by rw [if_neg (by rw [h]; decide)]; rfl), trivial⟩, HSub.refl _, rfl⟩
  rintro _ _ j8 hj8
  have d8 : j8.ds = [] := hj8.trans d7
  refine LCode.seq ?_
  refine LCode.midC (A := Unit) (fun _ => [(0, .list (l.map str)), (1, int .i64 (i : Nat)), (6, str (wdAt v 0)), (7, str (wdAt v 1)), (8, str (wdAt v 2)), (9, str (wdAt v 3)), (10, int .u32 ((numW (wdAt v 0)).getD 0 : Nat)), (11, bool (numW (wdAt v 0)).isSome), (17, int .i64 (stopW v : Nat))]) (fun _ => []) (fun _ => True) ?_ ?_
  · repeat first
      | refine LCode.seq ?_
      | refine LCode.region ?_
      | refine LOps.pure (Pure.mv (lv := .atom _) rfl) rfl ?_
      | refine LOps.pure (Pure.seq rfl rfl) rfl ?_
    refine LOps.cut [(0, .list (l.map str)), (1, int .i64 (i : Nat)), (6, str (wdAt v 0)), (7, str (wdAt v 1)), (8, str (wdAt v 2)), (9, str (wdAt v 3)), (10, int .u32 ((numW (wdAt v 0)).getD 0 : Nat)), (11, bool (numW (wdAt v 0)).isSome), (17, int .i64 ((if jumpB v 0 = true then 3 else 0 : Nat) : Nat)), (193, bool (decide (wdAt v 0 = [59] ∨ wdAt v 0 = [36])))] ?_ (fun j hj => ?_)
    · refine LOps.bcase 190 rfl (fun h1 => ?_) (fun h1 => ?_)
      · have e1 : wdAt v 0 = [59] := of_decide_eq_true h1
        repeat first
          | refine LOps.nil ?_
          | refine QThen.normal ?_
          | refine LOps.pure (Pure.pickT (lv := .atom _) rfl rfl) rfl ?_
          | refine LOps.skip rfl rfl rfl rfl ?_
        exact ⟨⟨rfl, rfl, rfl, rfl, rfl, rfl, rfl, rfl, rfl, bool_eq (by simp [e1]), trivial⟩, rfl, rfl⟩
      · have e1 : ¬ wdAt v 0 = [59] := of_decide_eq_false h1
        repeat first
          | refine LOps.nil ?_
          | refine QThen.normal ?_
          | refine LOps.pure (Pure.mv (lv := .atom _) rfl) rfl ?_
          | refine LOps.pure (Pure.seq rfl rfl) rfl ?_
          | refine LOps.pure (Pure.pickF (lv := .atom _) rfl rfl) rfl ?_
          | refine LOps.want rfl rfl ?_
        exact ⟨⟨rfl, rfl, rfl, rfl, rfl, rfl, rfl, rfl, rfl, bool_eq (by simp [e1]), trivial⟩, rfl, rfl⟩
    refine LCode.cond rfl (fun h => ?_) (fun h => ?_)
    · rw [if_pos (of_decide_eq_true h)] at hS
      repeat first
        | refine LOps.nil ?_
        | refine LCode.region ?_
        | refine QThen.normal ?_
        | refine LOps.pure (Pure.as (lv := .atom _) rfl) rfl ?_
      exact ⟨(), trivial, ⟨rfl, rfl, rfl, rfl, rfl, rfl, rfl, rfl, int_eq (by rw [hS]; rfl), trivial⟩, HSub.refl _, hj⟩
    · rw [if_neg (of_decide_eq_false h)] at hS
      repeat first
        | refine LCode.skip ?_
        | refine QThen.normal ?_
      exact ⟨(), trivial, ⟨rfl, rfl, rfl, rfl, rfl, rfl, rfl, rfl, int_eq (by rw [hS]), trivial⟩, HSub.refl _, hj⟩
  rintro _ _ j9 hj9
  have d9 : j9.ds = [] := hj9.trans d8
  have hsl := stop_le v
  generalize hn : stopW v = n at hsl
  refine LCode.seq ?_
  refine LCode.midC (A := Unit) (fun _ => [(0, .list (l.map str)), (1, int .i64 (i : Nat)), (6, str (wdAt v 0)), (7, str (wdAt v 1)), (8, str (wdAt v 2)), (9, str (wdAt v 3)), (10, int .u32 ((numW (wdAt v 0)).getD 0 : Nat)), (11, bool (numW (wdAt v 0)).isSome)]) (fun _ => []) (fun _ => ¬ cDead v) ?_ ?_
  · repeat first
      | refine LOps.nil ?_
      | refine LCode.seq ?_
      | refine LCode.region ?_
      | refine QThen.normal ?_
      | refine LOps.pure (Pure.mv (lv := .atom _) rfl) rfl ?_
      | refine LOps.pure (Pure.gtr rfl rfl) rfl ?_
    refine LCode.cond rfl (fun h => ?_) (fun h => ?_)
    · have hn0 : 0 < n := by have := of_decide_eq_true h; omega
      have hdn : v.drop n = l.drop (i + n) := by rw [hv, List.drop_drop]
      repeat first
        | refine LOps.nil ?_
        | refine LCode.seq ?_
        | refine LCode.region ?_
        | refine LCode.block ?_
        | refine QThen.normal ?_
        | refine LOps.pure (Pure.as (lv := .atom _) rfl) rfl ?_
        | refine LOps.pure (Pure.mv (lv := .atom _) rfl) rfl ?_
        | refine LOps.pure (Pure.add rfl rfl (by omega)) rfl ?_
      refine LCode.loopI (fun kk ls H => ∃ k : Nat, i + n ≤ k ∧ k ≤ l.length ∧ kk = l.length - k ∧ ls = [(0, .list (l.map str)), (1, int .i64 (i : Nat)), (6, str (wdAt v 0)), (7, str (wdAt v 1)), (8, str (wdAt v 2)), (9, str (wdAt v 3)), (10, int .u32 ((numW (wdAt v 0)).getD 0 : Nat)), (11, bool (numW (wdAt v 0)).isSome), (17, int .i64 (n : Nat)), (18, int .i64 (k : Nat))] ∧ H = [] ∧ deadLen (v.drop n) = (k - (i + n)) + deadLen (l.drop k))
        ⟨_, _, _, ⟨i + n, Nat.le_refl _, by omega, rfl, rfl, rfl, by rw [hdn]; omega⟩, ⟨rfl, rfl, rfl, rfl, rfl, rfl, rfl, rfl, rfl, int_eq (by omega), trivial⟩, HSub.refl _⟩ ?_
      rintro kk ls H ⟨k, hk1, hk2, rfl, rfl, rfl, hE⟩ j hj
      repeat first
        | refine LCode.seq ?_
        | refine LCode.region ?_
        | refine LOps.pure (Pure.mv (lv := .list _) rfl) rfl ?_
        | refine LOps.pure (Pure.mv (lv := .atom _) rfl) rfl ?_
        | refine LOps.pure (Pure.llen rfl) rfl ?_
        | refine LOps.pure (Pure.lss rfl rfl) rfl ?_
      refine LOps.cut [(0, .list (l.map str)), (1, int .i64 (i : Nat)), (6, str (wdAt v 0)), (7, str (wdAt v 1)), (8, str (wdAt v 2)), (9, str (wdAt v 3)), (10, int .u32 ((numW (wdAt v 0)).getD 0 : Nat)), (11, bool (numW (wdAt v 0)).isSome), (17, int .i64 (n : Nat)), (18, int .i64 (k : Nat)), (210, bool (decide (k < l.length ∧ defW (wdAt l k) = none)))] ?_ (fun jj hjj => ?_)
      · refine LOps.bcase 203 rfl (fun h1 => ?_) (fun h1 => ?_)
        · have hlt : k < l.length := by have := of_decide_eq_true h1; omega
          have k2 := definition24_spec (B0 := B0) (w0 := w0) (wdAt l k) (by have := hl.at k; omega)
          have hix : (l.map str)[((k : Nat) : Int).toNat]? = some (str (wdAt l k)) := by rw [wdAt_get hlt]; exact map_get _ _ _ hlt
          repeat first
            | refine LOps.pure (Pure.mv (lv := .list _) rfl) rfl ?_
            | refine LOps.pure (Pure.mv (lv := .atom _) rfl) rfl ?_
            | refine LOps.want rfl rfl ?_
          refine LOps.pure (Pure.ixRef (el' := str (wdAt l k)) (cs := [str (wdAt l k)]) rfl rfl (by omega) hix rfl rfl) rfl ?_
          repeat first
            | refine LOps.pure (Pure.loadRef (c := .atom _) rfl rfl) rfl ?_
            | refine LOps.want rfl rfl ?_
          refine LOps.step (S.fn [_] rfl k2 ?_) rfl
          repeat first
            | refine LOps.nil ?_
            | refine QThen.normal ?_
            | refine LOps.pure (Pure.seq rfl rfl) rfl ?_
            | refine LOps.pure (Pure.pickT (lv := .atom _) rfl rfl) rfl ?_
            | refine LOps.want rfl rfl ?_
          exact ⟨⟨rfl, rfl, rfl, rfl, rfl, rfl, rfl, rfl, rfl, rfl, bool_eq (by rw [decide_eq_decide, defR_nil]; exact ⟨fun h => ⟨hlt, h⟩, fun h => h.2⟩), trivial⟩, rfl, rfl⟩
        · have hlt : ¬ k < l.length := by have := of_decide_eq_false h1; omega
          repeat first
            | refine LOps.nil ?_
            | refine QThen.normal ?_
            | refine LOps.pure (Pure.pickF (lv := .atom _) rfl rfl) rfl ?_
            | refine LOps.skip rfl rfl rfl rfl ?_
          exact ⟨⟨rfl, rfl, rfl, rfl, rfl, rfl, rfl, rfl, rfl, rfl, bool_eq (by rw [decide_eq_false fun h => hlt h.1]), trivial⟩, rfl, rfl⟩
      refine LCode.cond rfl (fun h1 => ?_) (fun h1 => ?_)
      · obtain ⟨hlt, hdn⟩ := of_decide_eq_true h1
        rw [wdAt_get hlt] at hdn
        rw [deadLen_step hlt (by rw [hdn]; rfl)] at hE
        repeat first
          | refine LOps.nil ?_
          | refine LCode.region ?_
          | refine LCode.skip ?_
          | refine LCode.block ?_
          | refine QThen.normal ?_
          | refine QBlock.normal ?_
          | refine LOps.pure (Pure.as (lv := .atom _) rfl) rfl ?_
          | refine LOps.pure (Pure.mv (lv := .atom _) rfl) rfl ?_
          | refine LOps.pure (Pure.add rfl rfl (by omega)) rfl ?_
        exact ⟨_, _, _, by omega, ⟨k + 1, by omega, by omega, rfl, rfl, rfl, by omega⟩, ⟨rfl, rfl, rfl, rfl, rfl, rfl, rfl, rfl, rfl, int_eq (by omega), trivial⟩, HSub.refl _, hjj.trans hj⟩
      · have hz : deadLen (l.drop k) = 0 := by
          by_cases hlt : k < l.length
          · refine deadLen_def hlt ?_
            have h2 := fun hc => of_decide_eq_false h1 ⟨hlt, hc⟩
            rw [wdAt_get hlt] at h2
            cases ho : defW l[k] with
            | none => exact absurd ho h2
            | some e => rfl
          · exact deadLen_stop (by omega)
        rw [hz] at hE
        repeat first
          | refine LOps.nil ?_
          | refine LCode.seq ?_
          | refine LCode.region ?_
          | refine LCode.exit ?_
          | refine QThen.normal ?_
          | refine QThen.exit ?_
          | refine QBlock.hit ?_
          | refine LOps.pure (Pure.mv (lv := .atom _) rfl) rfl ?_
          | refine LOps.pure (Pure.add rfl rfl (by omega)) rfl ?_
          | refine LOps.pure (Pure.gtr rfl rfl) rfl ?_
        refine LCode.cond rfl (fun h2 => ?_) (fun h2 => ?_)
        · have h2' : i + n < k := by have := of_decide_eq_true h2; omega
          have hR := rule8 (used := usedW l) (v := v) n1 n2 n3 n4 n5 n6 n7 ⟨by rw [hn]; exact hn0, by rw [hn, hE]; omega⟩
          rw [hn, hE] at hR
          have hsl2 : ((l.map str).take ((i : Int) + n).toNat).drop ((i : Nat) : Int).toNat = (v.take n).map str := by
            rw [show ((i : Int) + n).toNat = i + n by omega, Int.toNat_natCast, hv, List.map_take, List.map_drop, List.take_drop]
          repeat first
            | refine LCode.seq ?_
          refine LCode.draw (m := 11) rfl [] ?_
          refine LAny.take (i := 0) (by first | exact HSub.nil _ | exact HSub.refl _ | exact HSub.drop (HSub.refl _) | exact HSub.pick Pick.here (HSub.nil _) | exact HSub.pick (Pick.there Pick.here) (HSub.nil _) | exact HSub.pick (Pick.there (Pick.there Pick.here)) (HSub.nil _)) rfl (by kernel_rfl) (by kernel_rfl) (by kernel_rfl) rfl (Pure.mv (lv := .atom _) rfl) ?_
          refine LAny.take (i := 1) (by first | exact HSub.nil _ | exact HSub.refl _ | exact HSub.drop (HSub.refl _) | exact HSub.pick Pick.here (HSub.nil _) | exact HSub.pick (Pick.there Pick.here) (HSub.nil _) | exact HSub.pick (Pick.there (Pick.there Pick.here)) (HSub.nil _)) rfl (by kernel_rfl) (by kernel_rfl) (by kernel_rfl) rfl (Pure.mv (lv := .atom _) rfl) ?_
          refine LAny.take (i := 2) (by first | exact HSub.nil _ | exact HSub.refl _ | exact HSub.drop (HSub.refl _) | exact HSub.pick Pick.here (HSub.nil _) | exact HSub.pick (Pick.there Pick.here) (HSub.nil _) | exact HSub.pick (Pick.there (Pick.there Pick.here)) (HSub.nil _)) rfl (by kernel_rfl) (by kernel_rfl) (by kernel_rfl) rfl (Pure.sub rfl rfl (by omega)) ?_
          refine LAny.take (i := 3) (by first | exact HSub.nil _ | exact HSub.refl _ | exact HSub.drop (HSub.refl _) | exact HSub.pick Pick.here (HSub.nil _) | exact HSub.pick (Pick.there Pick.here) (HSub.nil _) | exact HSub.pick (Pick.there (Pick.there Pick.here)) (HSub.nil _)) rfl (by kernel_rfl) (by kernel_rfl) (by kernel_rfl) rfl (Pure.mv (lv := .list _) rfl) ?_
          refine LAny.take (i := 4) (by first | exact HSub.nil _ | exact HSub.refl _ | exact HSub.drop (HSub.refl _) | exact HSub.pick Pick.here (HSub.nil _) | exact HSub.pick (Pick.there Pick.here) (HSub.nil _) | exact HSub.pick (Pick.there (Pick.there Pick.here)) (HSub.nil _)) rfl (by kernel_rfl) (by kernel_rfl) (by kernel_rfl) rfl (Pure.mv (lv := .atom _) rfl) ?_
          refine LAny.take (i := 5) (by first | exact HSub.nil _ | exact HSub.refl _ | exact HSub.drop (HSub.refl _) | exact HSub.pick Pick.here (HSub.nil _) | exact HSub.pick (Pick.there Pick.here) (HSub.nil _) | exact HSub.pick (Pick.there (Pick.there Pick.here)) (HSub.nil _)) rfl (by kernel_rfl) (by kernel_rfl) (by kernel_rfl) rfl (Pure.mv (lv := .atom _) rfl) ?_
          refine LAny.take (i := 6) (by first | exact HSub.nil _ | exact HSub.refl _ | exact HSub.drop (HSub.refl _) | exact HSub.pick Pick.here (HSub.nil _) | exact HSub.pick (Pick.there Pick.here) (HSub.nil _) | exact HSub.pick (Pick.there (Pick.there Pick.here)) (HSub.nil _)) rfl (by kernel_rfl) (by kernel_rfl) (by kernel_rfl) rfl (Pure.mv (lv := .atom _) rfl) ?_
          refine LAny.take (i := 7) (by first | exact HSub.nil _ | exact HSub.refl _ | exact HSub.drop (HSub.refl _) | exact HSub.pick Pick.here (HSub.nil _) | exact HSub.pick (Pick.there Pick.here) (HSub.nil _) | exact HSub.pick (Pick.there (Pick.there Pick.here)) (HSub.nil _)) rfl (by kernel_rfl) (by kernel_rfl) (by kernel_rfl) rfl (Pure.add rfl rfl (by omega)) ?_
          refine LAny.take (i := 8) (HSub.refl _) rfl (by kernel_rfl) (by kernel_rfl) (by kernel_rfl) rfl (Pure.lslice (es := l.map str) (i := (i : Nat)) (j := (i : Int) + n) rfl ⟨_, rfl⟩ ⟨_, rfl⟩ (by omega) (by omega) (by omega) (strs_len l)) ?_
          refine LAny.take (i := 9) (by first | exact HSub.nil _ | exact HSub.refl _ | exact HSub.drop (HSub.refl _) | exact HSub.pick Pick.here (HSub.nil _) | exact HSub.pick (Pick.there Pick.here) (HSub.nil _) | exact HSub.pick (Pick.there (Pick.there Pick.here)) (HSub.nil _)) rfl (by kernel_rfl) (by kernel_rfl) (by kernel_rfl) rfl (Pure.as (lv := .atom _) rfl) ?_
          refine LAny.take (i := 10) (by first | exact HSub.nil _ | exact HSub.refl _ | exact HSub.drop (HSub.refl _) | exact HSub.pick Pick.here (HSub.nil _) | exact HSub.pick (Pick.there Pick.here) (HSub.nil _) | exact HSub.pick (Pick.there (Pick.there Pick.here)) (HSub.nil _)) rfl (by kernel_rfl) (by kernel_rfl) (by kernel_rfl) rfl (Pure.as (lv := .list _) rfl) ?_
          refine LAny.late ?_ (HSub.refl _)
          refine LLate.done (by kernel_rfl) ?_
          repeat first
            | refine LCode.ret ?_
            | refine QThen.normal ?_
            | refine QThen.ret ?_
          exact retRet (hjj.trans (hj.trans d9)) (AllRes.cons (ResIs.tmp (v := .atom _) rfl (LV.Sub.refl _)) (AllRes.cons (ResIs.tmp (v := .list _) rfl (LV.Sub.refl _)) AllRes.nil)) (by
            rw [hR, hsl2]
            unfold ruleLV
            rw [show n + (k - (i + n) + 0) = k - i by omega]
            exact congrArg (fun x => LV.tuple [int .i64 x, .list ((v.take n).map str)]) (by omega))
        · have h2' : ¬ i + n < k := by have := of_decide_eq_false h2; omega
          repeat first
            | refine LCode.skip ?_
            | refine QThen.normal ?_
          exact ⟨(), fun hc => by
            have := hc.2
            rw [hn, hE] at this
            omega, ⟨rfl, rfl, rfl, rfl, rfl, rfl, rfl, rfl, trivial⟩, HSub.refl _, hjj.trans hj⟩
    · have hn0 : ¬ 0 < n := by have := of_decide_eq_false h; omega
      repeat first
        | refine LCode.skip ?_
        | refine QThen.normal ?_
      exact ⟨(), fun hc => hn0 (by rw [← hn]; exact hc.1), ⟨rfl, rfl, rfl, rfl, rfl, rfl, rfl, rfl, trivial⟩, HSub.refl _, rfl⟩
  rintro _ n8 j10 hj10
  have d10 : j10.ds = [] := hj10.trans d9
  have hR := rule9 (used := usedW l) (v := v) n1 n2 n3 n4 n5 n6 n7 n8
  have hU : rUnused (usedW l) v = match defW (wdAt v 0) with
    | some d => if usedW l d = true then (0, []) else (1, [])
    | none => (0, []) := rfl
  repeat first
    | refine LCode.seq ?_
    | refine LCode.region ?_
    | refine LOps.pure (Pure.mv (lv := .atom _) rfl) rfl ?_
  refine LOps.step (S.fn [_] rfl kd0 ?_) rfl
  repeat first
    | refine LOps.nil ?_
    | refine QThen.normal ?_
    | refine LOps.pure (Pure.sneq rfl rfl) rfl ?_
  refine LCode.cond rfl (fun h => ?_) (fun h => ?_)
  · have h' : ¬ defR (wdAt v 0) = [] := by simpa using h
    obtain ⟨d, hd⟩ : ∃ e, defW (wdAt v 0) = some e := by
      cases ho : defW (wdAt v 0) with
      | none => exact absurd ((defR_nil _).2 ho) h'
      | some e => exact ⟨e, rfl⟩
    have hdr := defR_some hd
    have hdne := defW_ne hd
    rw [hd] at hU
    simp only at hU
    rw [hU] at hR
    repeat first
      | refine LOps.nil ?_
      | refine LCode.seq ?_
      | refine LCode.region ?_
      | refine LCode.block ?_
      | refine QThen.normal ?_
      | refine LOps.pure (Pure.as (lv := .atom _) rfl) rfl ?_
    refine LCode.loopI (fun kk ls H => ∃ k : Nat, k ≤ l.length ∧ kk = l.length - k ∧ ls = [(0, .list (l.map str)), (1, int .i64 (i : Nat)), (6, str (wdAt v 0)), (7, str (wdAt v 1)), (8, str (wdAt v 2)), (9, str (wdAt v 3)), (10, int .u32 ((numW (wdAt v 0)).getD 0 : Nat)), (11, bool (numW (wdAt v 0)).isSome), (19, int .i64 (k : Nat))] ∧ H = [] ∧ usedW l d = usedW (l.drop k) d)
      ⟨_, _, _, ⟨0, Nat.zero_le _, rfl, rfl, rfl, rfl⟩, ⟨rfl, rfl, rfl, rfl, rfl, rfl, rfl, rfl, rfl, trivial⟩, HSub.refl _⟩ ?_
    rintro kk ls H ⟨k, hk, rfl, rfl, rfl, hE⟩ j hj
    repeat first
      | refine LOps.nil ?_
      | refine LCode.seq ?_
      | refine LCode.region ?_
      | refine QThen.normal ?_
      | refine LOps.pure (Pure.mv (lv := .list _) rfl) rfl ?_
      | refine LOps.pure (Pure.mv (lv := .atom _) rfl) rfl ?_
      | refine LOps.pure (Pure.llen rfl) rfl ?_
      | refine LOps.pure (Pure.lss rfl rfl) rfl ?_
    refine LCode.cond rfl (fun hc => ?_) (fun hc => ?_)
    · have hlt : k < l.length := by have := of_decide_eq_true hc; omega
      have k2 := reference24_spec (B0 := B0) (w0 := w0) l[k] (by have := hl.2 _ (List.getElem_mem hlt); omega)
      have hq : decide (refW l[k] = some d) = decide (refR l[k] = defR (wdAt v 0)) := by
        rw [decide_eq_decide, hdr]
        unfold refR
        cases refW l[k] with
        | none => simp [Ne.symm hdne]
        | some e => simp
      rw [List.drop_eq_getElem_cons hlt, show usedW (l[k] :: l.drop (k + 1)) d = (decide (refW l[k] = some d) || usedW (l.drop (k + 1)) d) from rfl, hq] at hE
      repeat first
        | refine LCode.seq ?_
        | refine LCode.region ?_
        | refine LCode.skip ?_
        | refine LCode.block ?_
        | refine QThen.normal ?_
        | refine LOps.pure (Pure.mv (lv := .list _) rfl) rfl ?_
        | refine LOps.pure (Pure.mv (lv := .atom _) rfl) rfl ?_
      refine LOps.pure (Pure.ixRef (el' := str l[k]) (cs := [str l[k]]) rfl rfl (by omega) (map_get _ _ _ hlt) rfl rfl) rfl ?_
      repeat first
        | refine LOps.pure (Pure.loadRef (c := .atom _) rfl rfl) rfl ?_
      refine LOps.step (S.fn [_] rfl k2 ?_) rfl
      repeat first
        | refine LOps.pure (Pure.mv (lv := .atom _) rfl) rfl ?_
      refine LOps.step (S.fn [_] rfl kd0 ?_) rfl
      repeat first
        | refine LOps.nil ?_
        | refine QThen.normal ?_
        | refine LOps.pure (Pure.seq rfl rfl) rfl ?_
      refine LCode.cond rfl (fun h3 => ?_) (fun h3 => ?_)
      · rw [h3, Bool.true_or] at hE
        have hE' : usedW l d = true := hE
        rw [if_pos hE'] at hR
        repeat first
          | refine LOps.nil ?_
          | refine LCode.seq ?_
          | refine LCode.region ?_
          | refine LCode.ret ?_
          | refine QThen.normal ?_
          | refine QThen.ret ?_
          | refine QBlock.ret ?_
          | refine LOps.pure (Pure.as (lv := .atom _) rfl) rfl ?_
        exact retRet (hj.trans d10) (AllRes.cons (ResIs.tmp (v := .atom _) rfl (LV.Sub.refl _)) (AllRes.cons (ResIs.tmp (v := nilSlice) rfl LV.Sub.nil) AllRes.nil)) (by rw [hR]; rfl)
      · rw [h3, Bool.false_or] at hE
        repeat first
          | refine LOps.nil ?_
          | refine LCode.region ?_
          | refine LCode.skip ?_
          | refine QThen.normal ?_
          | refine QBlock.normal ?_
          | refine LOps.pure (Pure.as (lv := .atom _) rfl) rfl ?_
          | refine LOps.pure (Pure.mv (lv := .atom _) rfl) rfl ?_
          | refine LOps.pure (Pure.add rfl rfl (by omega)) rfl ?_
        exact ⟨_, _, _, by omega, ⟨k + 1, by omega, rfl, rfl, rfl, hE⟩, ⟨rfl, rfl, rfl, rfl, rfl, rfl, rfl, rfl, int_eq (by omega), trivial⟩, HSub.refl _, hj⟩
    · have hk' : k = l.length := by have := of_decide_eq_false hc; omega
      subst hk'
      rw [List.drop_length] at hE
      rw [if_neg (by rw [hE]; exact fun hh => Bool.noConfusion (show false = true from hh))] at hR
      repeat first
        | refine LOps.nil ?_
        | refine LCode.seq ?_
        | refine LCode.region ?_
        | refine LCode.ret ?_
        | refine LCode.exit ?_
        | refine QThen.normal ?_
        | refine QThen.exit ?_
        | refine QThen.ret ?_
        | refine QBlock.hit ?_
        | refine LOps.pure (Pure.as (lv := .atom _) rfl) rfl ?_
      exact retRet (hj.trans d10) (AllRes.cons (ResIs.tmp (v := .atom _) rfl (LV.Sub.refl _)) (AllRes.cons (ResIs.tmp (v := nilSlice) rfl LV.Sub.nil) AllRes.nil)) (by rw [hR]; rfl)
  · have h' : defR (wdAt v 0) = [] := by simpa using h
    rw [(defR_nil _).1 h'] at hU
    rw [hU] at hR
    repeat first
      | refine LOps.nil ?_
      | refine LCode.seq ?_
      | refine LCode.region ?_
      | refine LCode.skip ?_
      | refine LCode.ret ?_
      | refine QThen.normal ?_
      | refine LOps.pure (Pure.as (lv := .atom _) rfl) rfl ?_
    exact retRet d10 (AllRes.cons (ResIs.tmp (v := .atom _) rfl (LV.Sub.refl _)) (AllRes.cons (ResIs.tmp (v := nilSlice) rfl LV.Sub.nil) AllRes.nil)) (by rw [hR]; rfl)
end
end Go.Proofs.YtkjjenppmmipmaaGreatDoor
namespace Go.Proofs.YtkjjenppmmipmaaGreatDoor
open Go.GL Go.RowKit Go.Stele
set_option maxRecDepth 100000
set_option maxHeartbeats 4000000
def aliveA : List UInt8 := [50, 32, 51, 32, 43, 32, 48, 32, 94, 32, 46, 32, 36, 32, 55, 32, 46]
def aliveB : List UInt8 := [38, 102, 32, 58, 32, 49, 32, 36, 32, 102, 58, 32, 48, 32, 38, 106, 32, 63, 32, 57, 32, 106, 58, 32, 59]
theorem aliveA_is : optimizeP aliveA = ([53, 32, 46, 32, 36], 0) := by kernel_rfl
theorem aliveB_is : optimizeP aliveB = ([38, 102, 32, 58, 32, 49, 32, 36, 32, 102, 58, 32, 59], 0) := by kernel_rfl
theorem ret_any {C : Ctx} {f : FuncId} {args : List LV} {v : Value} (h : LCalls C f args [] (Ret (.atom v))) : LCalls C f args [] (fun r _ => r = .ret (.atom v)) := LCalls.mono h fun _ _ h => h.1
/-- What the statements ask of a list of words. -/
def Modest (l : List Wd) : Prop := l.length ≤ 200 ∧ ∀ w ∈ l, w.length ≤ 60
theorem Modest.small {l : List Wd} (h : Modest l) : Small l := ⟨by have := h.1; omega, fun w hw => by have := h.2 w hw; omega⟩
theorem Modest.join {l : List Wd} (h : Modest l) : (Go.Lib.join l [32]).length ≤ 12200 := by
  have h1 := join_size l h.2
  have := h.1
  omega
attribute [local irreducible] LOps LCode LStep LCalls Go.GL.Pure QThen QBlock RetPost LQ LAny LLate LLateOp
section
variable {B0 : Nat} {w0 : World}
theorem alive_spec (hG : GW B0 w0) : LCalls (KC B0 w0) 9 [] [] (Ret (bool true)) := by
  have h1 := optimize_spec hG aliveA (by decide)
  rw [aliveA_is] at h1
  have h2 := optimize_spec hG aliveB (by decide)
  rw [aliveB_is] at h2
  refine LCalls.intro Tryz.func9 rfl (n := 27) rfl rfl rfl ?_
  repeat first
    | refine LOps.nil ?_
    | refine LCode.seq ?_
    | refine LCode.region ?_
    | refine QThen.normal ?_
    | refine LOps.pure (Pure.as (lv := .atom _) rfl) rfl ?_
  refine LOps.step (S.fn [_] rfl h1 ?_) rfl
  repeat first
    | refine LOps.nil ?_
    | refine LCode.seq ?_
    | refine LCode.region ?_
    | refine QThen.normal ?_
    | refine LOps.pure (Pure.as (lv := .atom _) rfl) rfl ?_
    | refine LOps.pure (Pure.mv (lv := .tuple _) rfl) rfl ?_
    | refine LOps.pure (Pure.extract (c := .atom _) rfl rfl) rfl ?_
  refine LOps.step (S.fn [_] rfl h2 ?_) rfl
  repeat first
    | refine LOps.nil ?_
    | refine LCode.seq ?_
    | refine LCode.region ?_
    | refine LCode.ret ?_
    | refine QThen.normal ?_
    | refine LOps.pure (Pure.as (lv := .atom _) rfl) rfl ?_
    | refine LOps.pure (Pure.mv (lv := .tuple _) rfl) rfl ?_
    | refine LOps.pure (Pure.extract (c := .atom _) rfl rfl) rfl ?_
    | refine LOps.pure (Pure.mv (lv := .atom _) rfl) rfl ?_
    | refine LOps.pure (Pure.seq rfl rfl) rfl ?_
    | refine LOps.pure (Pure.eql rfl rfl) rfl ?_
    | refine LOps.pure (Pure.pickT (lv := .atom _) rfl rfl) rfl ?_
    | refine LOps.want rfl rfl ?_
  exact retRet rfl (AllRes.cons (ResIs.tmp (v := .atom _) rfl (LV.Sub.refl _)) AllRes.nil) rfl
theorem great_spec (l : List Wd) : LCalls (KC B0 w0) 10 [.list (l.map str)] [] (RetIf fun lv => ∃ g, lv = bool g ∧ (g = false → Modest l)) := by
  have hla : (l.map str).length = l.length := List.length_map _
  refine LCalls.intro Tryz.func10 rfl (n := 19) rfl rfl rfl ?_
  repeat first
    | refine LOps.nil ?_
    | refine LCode.seq ?_
    | refine LCode.region ?_
    | refine QThen.normal ?_
    | refine LOps.pure (Pure.as (lv := .atom _) rfl) rfl ?_
    | refine LOps.pure (Pure.mv (lv := .list _) rfl) rfl ?_
    | refine LOps.pure (Pure.llen rfl) rfl ?_
    | refine LOps.pure (Pure.gtr rfl rfl) rfl ?_
  refine LCode.cond rfl (fun h1 => ?_) (fun h1 => ?_)
  · repeat first
      | refine LOps.nil ?_
      | refine LCode.seq ?_
      | refine LCode.region ?_
      | refine LCode.ret ?_
      | refine QThen.normal ?_
      | refine QThen.ret ?_
      | refine LOps.pure (Pure.as (lv := .atom _) rfl) rfl ?_
    exact retRetIf rfl (AllRes.cons (ResIs.tmp (v := .atom _) rfl (LV.Sub.refl _)) AllRes.nil) ⟨true, rfl, fun h => by cases h⟩
  have hle : l.length ≤ 200 := by have := of_decide_eq_false h1; omega
  repeat first
    | refine LOps.nil ?_
    | refine LCode.seq ?_
    | refine LCode.region ?_
    | refine LCode.skip ?_
    | refine LCode.block ?_
    | refine QThen.normal ?_
    | refine LOps.pure (Pure.as (lv := .atom _) rfl) rfl ?_
  refine LCode.loopI (fun k ls H => ∃ i : Nat, k = l.length - i ∧ i ≤ l.length ∧ ls = [(0, .list (l.map str)), (3, int .i64 (i : Nat))] ∧ H = [] ∧ ∀ w ∈ l.take i, w.length ≤ 60)
    ⟨_, _, _, ⟨0, rfl, Nat.zero_le _, rfl, rfl, by simp⟩, ⟨rfl, rfl, trivial⟩, HSub.refl _⟩ ?_
  rintro k ls H ⟨i, rfl, hi, rfl, rfl, hE⟩ j hj
  repeat first
    | refine LOps.nil ?_
    | refine LCode.seq ?_
    | refine LCode.region ?_
    | refine QThen.normal ?_
    | refine LOps.pure (Pure.mv (lv := .list _) rfl) rfl ?_
    | refine LOps.pure (Pure.mv (lv := .atom _) rfl) rfl ?_
    | refine LOps.pure (Pure.llen rfl) rfl ?_
    | refine LOps.pure (Pure.lss rfl rfl) rfl ?_
  refine LCode.cond rfl (fun hc => ?_) (fun hc => ?_)
  · have hlt : i < l.length := by have := of_decide_eq_true hc; omega
    repeat first
      | refine LCode.seq ?_
      | refine LCode.region ?_
      | refine LCode.skip ?_
      | refine LCode.block ?_
      | refine QThen.normal ?_
      | refine LOps.pure (Pure.mv (lv := .list _) rfl) rfl ?_
      | refine LOps.pure (Pure.mv (lv := .atom _) rfl) rfl ?_
    refine LOps.pure (Pure.ixRef (el' := str l[i]) (cs := [str l[i]]) rfl rfl (by omega) (map_get _ _ _ hlt) rfl rfl) rfl ?_
    repeat first
      | refine LOps.nil ?_
      | refine QThen.normal ?_
      | refine LOps.pure (Pure.gtr rfl rfl) rfl ?_
      | refine LOps.pure (Pure.loadRef (c := .atom _) rfl rfl) rfl ?_
      | refine LOps.pure (Pure.slen rfl) rfl ?_
    refine LCode.cond rfl (fun hd => ?_) (fun hd => ?_)
    · repeat first
        | refine LOps.nil ?_
        | refine LCode.seq ?_
        | refine LCode.region ?_
        | refine LCode.ret ?_
        | refine QThen.normal ?_
        | refine QThen.ret ?_
        | refine QBlock.ret ?_
        | refine LOps.pure (Pure.as (lv := .atom _) rfl) rfl ?_
      exact retRetIf hj (AllRes.cons (ResIs.tmp (v := .atom _) rfl (LV.Sub.refl _)) AllRes.nil) ⟨true, rfl, fun h => by cases h⟩
    · have hd' : l[i].length ≤ 60 := by have := of_decide_eq_false hd; omega
      repeat first
        | refine LOps.nil ?_
        | refine LCode.region ?_
        | refine LCode.skip ?_
        | refine QThen.normal ?_
        | refine QBlock.normal ?_
        | refine LOps.pure (Pure.as (lv := .atom _) rfl) rfl ?_
        | refine LOps.pure (Pure.mv (lv := .atom _) rfl) rfl ?_
        | refine LOps.pure (Pure.add rfl rfl (by omega)) rfl ?_
      exact ⟨_, _, _, by omega, ⟨i + 1, rfl, by omega, rfl, rfl, fun w hw => by
        rw [List.take_succ_eq_append_getElem hlt] at hw
        rcases List.mem_append.1 hw with hw | hw
        · exact hE w hw
        · rw [List.mem_singleton.1 hw]; exact hd'⟩, ⟨rfl, int_eq (by omega), trivial⟩, HSub.refl _, hj⟩
  · have hi' : i = l.length := by have := of_decide_eq_false hc; omega
    subst hi'
    rw [List.take_length] at hE
    repeat first
      | refine LOps.nil ?_
      | refine LCode.seq ?_
      | refine LCode.region ?_
      | refine LCode.ret ?_
      | refine LCode.exit ?_
      | refine QThen.normal ?_
      | refine QThen.exit ?_
      | refine QBlock.hit ?_
      | refine LOps.pure (Pure.as (lv := .atom _) rfl) rfl ?_
    exact retRetIf hj (AllRes.cons (ResIs.tmp (v := .atom _) rfl (LV.Sub.refl _)) AllRes.nil) ⟨false, rfl, fun _ => ⟨hle, hE⟩⟩
theorem same_true (a : List Wd) (ha : a.length ≤ 1000000) : LCalls (KC B0 w0) 12 [.list (a.map str), .list (a.map str)] [] (Ret (bool true)) := by
  have hla : (a.map str).length = a.length := List.length_map _
  refine LCalls.intro Tryz.func12 rfl (n := 26) rfl rfl rfl ?_
  repeat first
    | refine LOps.nil ?_
    | refine LCode.seq ?_
    | refine LCode.region ?_
    | refine QThen.normal ?_
    | refine LOps.pure (Pure.as (lv := .atom _) rfl) rfl ?_
    | refine LOps.pure (Pure.mv (lv := .list _) rfl) rfl ?_
    | refine LOps.pure (Pure.llen rfl) rfl ?_
    | refine LOps.pure (Pure.neq rfl rfl) rfl ?_
  refine LCode.cond rfl (fun hc => ?_) (fun hc => ?_)
  · exact absurd hc (by simp)
  repeat first
    | refine LOps.nil ?_
    | refine LCode.seq ?_
    | refine LCode.region ?_
    | refine LCode.skip ?_
    | refine LCode.block ?_
    | refine QThen.normal ?_
    | refine LOps.pure (Pure.as (lv := .atom _) rfl) rfl ?_
  refine LCode.loopI (fun k ls H => ∃ i : Nat, k = a.length - i ∧ i ≤ a.length ∧ ls = [(0, .list (a.map str)), (1, .list (a.map str)), (5, int .i64 (i : Nat))] ∧ H = [])
    ⟨_, _, _, ⟨0, rfl, Nat.zero_le _, rfl, rfl⟩, ⟨rfl, rfl, rfl, trivial⟩, HSub.refl _⟩ ?_
  rintro k ls H ⟨i, rfl, hi, rfl, rfl⟩ j hj
  repeat first
    | refine LOps.nil ?_
    | refine LCode.seq ?_
    | refine LCode.region ?_
    | refine QThen.normal ?_
    | refine LOps.pure (Pure.mv (lv := .list _) rfl) rfl ?_
    | refine LOps.pure (Pure.mv (lv := .atom _) rfl) rfl ?_
    | refine LOps.pure (Pure.llen rfl) rfl ?_
    | refine LOps.pure (Pure.lss rfl rfl) rfl ?_
  refine LCode.cond rfl (fun hc => ?_) (fun hc => ?_)
  · have hlt : i < a.length := by have := of_decide_eq_true hc; omega
    repeat first
      | refine LCode.seq ?_
      | refine LCode.skip ?_
      | refine LCode.block ?_
      | refine QThen.normal ?_
    refine LCode.cut [(0, .list (a.map str)), (1, .list (a.map str)), (5, int .i64 (i : Nat)), (25, bool (!decide (a[i] = a[i])))] ?_ (fun j2 hj2 => ?_)
    · refine LCode.quiet (by kernel_rfl) ?_
      repeat first
        | refine LQ.pure (Pure.mv (lv := .list _) rfl) rfl ?_
        | refine LQ.pure (Pure.mv (lv := .atom _) rfl) rfl ?_
      refine LQ.pure (Pure.ixRef (el' := str a[i]) (cs := [_]) rfl rfl (by omega) (map_get _ _ _ hlt) rfl rfl) rfl ?_
      repeat first
        | refine LQ.pure (Pure.mv (lv := .list _) rfl) rfl ?_
        | refine LQ.pure (Pure.mv (lv := .atom _) rfl) rfl ?_
        | refine LQ.pure (Pure.loadRef (c := .atom _) rfl rfl) rfl ?_
      refine LQ.pure (Pure.ixRef (el' := str a[i]) (cs := [_]) rfl rfl (by omega) (map_get _ _ _ hlt) rfl rfl) rfl ?_
      repeat first
        | refine LQ.pure (Pure.loadRef (c := .atom _) rfl rfl) rfl ?_
        | refine LQ.pure (Pure.sneq rfl rfl) rfl ?_
        | refine LQ.nil ?_
        | refine QThen.normal ?_
      exact ⟨⟨rfl, rfl, rfl, rfl, trivial⟩, rfl, rfl⟩
    refine LCode.cond rfl (fun hd => ?_) (fun hd => ?_)
    · exact absurd hd (by simp)
    · repeat first
        | refine LOps.nil ?_
        | refine LCode.region ?_
        | refine LCode.skip ?_
        | refine QThen.normal ?_
        | refine QBlock.normal ?_
        | refine LOps.pure (Pure.as (lv := .atom _) rfl) rfl ?_
        | refine LOps.pure (Pure.mv (lv := .atom _) rfl) rfl ?_
        | refine LOps.pure (Pure.add rfl rfl (by omega)) rfl ?_
      exact ⟨_, _, _, by omega, ⟨i + 1, rfl, by omega, rfl, rfl⟩, ⟨rfl, rfl, int_eq (by omega), trivial⟩, HSub.refl _, hj2.trans hj⟩
  · repeat first
      | refine LOps.nil ?_
      | refine LCode.seq ?_
      | refine LCode.region ?_
      | refine LCode.ret ?_
      | refine LCode.exit ?_
      | refine QThen.normal ?_
      | refine QThen.exit ?_
      | refine QBlock.hit ?_
      | refine LOps.pure (Pure.as (lv := .atom _) rfl) rfl ?_
    exact retRet hj (AllRes.cons (ResIs.tmp (v := .atom _) rfl (LV.Sub.refl _)) AllRes.nil) rfl
end
end Go.Proofs.YtkjjenppmmipmaaGreatDoor
