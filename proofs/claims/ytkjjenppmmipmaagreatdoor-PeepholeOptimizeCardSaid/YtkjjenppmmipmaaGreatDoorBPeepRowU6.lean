/- PeepholeOptimize: Optimize agrees with the reference for any string of up to 3000 bytes, and for strings that exceed the limit: for every string and either flag the law returns true. The card: the listed package-level variables read as the program's text lays them. -/
import Derived.Test.YtkjjenppmmipmaaGreatDoorCards
import Derived.Test.YtkjjenppmmipmaaGreatDoorTie
import Derived.WalkKit
import Derived.ProofKit
import Derived.OpenShut
import Derived.ChangeMaps5
import Derived.SliceStrings
import Derived.WideKeyArgs
import Derived.Deep.DeepHandedRow
import Derived.Lib.LaidTab
import Derived.Test.YtkjjenppmmipmaaGreatDoorBPeepRowU4
import Derived.Test.YtkjjenppmmipmaaGreatDoorBPeepRowU5
set_option linter.unusedVariables false
set_option linter.unusedSimpArgs false
namespace Go.Proofs.YtkjjenppmmipmaaGreatDoor
open Go.GL Go.RowKit Go.Stele
set_option maxRecDepth 100000
set_option maxHeartbeats 4000000
attribute [local irreducible] LOps LCode LStep LCalls Go.GL.Pure QThen QBlock RetPost LQ LAny LLate LLateOp
section
variable {B0 : Nat} {w0 : World}
theorem once24_spec (l : List Wd) (hl : Small l) : LCalls (KC B0 w0) 13 [.list (l.map str)] [] (Ret (.list ((onceP l).map str))) := by
  have hl1 := hl.1
  have hla : (l.map str).length = l.length := List.length_map _
  refine LCalls.intro Tryz.func13 rfl (n := 32) rfl rfl rfl ?_
  repeat first
    | refine LOps.nil ?_
    | refine LCode.seq ?_
    | refine LCode.region ?_
    | refine QThen.normal ?_
    | refine LOps.pure (Pure.as (lv := .atom _) rfl) rfl ?_
  refine LOps.step (S.litA [] rfl elemsOk.nil rfl rfl rfl fun b => ?_) rfl
  refine LOps.pure (Pure.as (lv := .app b 0 1 []) rfl) rfl ?_
  repeat first
    | refine LOps.nil ?_
    | refine LCode.seq ?_
    | refine LCode.region ?_
    | refine LCode.block ?_
    | refine QThen.normal ?_
    | refine LOps.pure (Pure.as (lv := .atom _) rfl) rfl ?_
  refine LCode.loopI (fun k ls H => ∃ (i f : Nat) (out : List Wd) (v : LV), i ≤ l.length ∧ k = l.length - i ∧ ls = [(0, .list (l.map str)), (3, v), (4, int .i64 (i : Nat))] ∧ Acc 1 v (out.map str) H [] ∧ l.length - i ≤ f ∧ out.length ≤ i ∧ out ++ onceF (usedW l) f (l.drop i) = onceP l)
    ⟨_, _, _, ⟨0, l.length, [], .app b 0 1 [], Nat.zero_le _, rfl, rfl, Acc.row, by omega, Nat.zero_le _, rfl⟩, ⟨rfl, rfl, rfl, trivial⟩, HSub.refl _⟩ ?_
  rintro k ls H ⟨i, f, out, v, hi, rfl, rfl, hacc, hf, hlen, hE⟩ j hj
  have hol : (out.map str).length = out.length := List.length_map _
  repeat first
    | refine LOps.nil ?_
    | refine LCode.seq ?_
    | refine LCode.region ?_
    | refine QThen.normal ?_
    | refine LOps.pure (Pure.mv (lv := .atom _) rfl) rfl ?_
    | refine LOps.pure (Pure.mv (lv := .list _) rfl) rfl ?_
    | refine LOps.pure (Pure.llen rfl) rfl ?_
    | refine LOps.pure (Pure.lss rfl rfl) rfl ?_
  refine LCode.cond rfl (fun hc => ?_) (fun hc => ?_)
  · have hlt : i < l.length := by have := of_decide_eq_true hc; omega
    obtain ⟨f, rfl⟩ : ∃ g, f = g + 1 := ⟨f - 1, by omega⟩
    have hR : (ruleW (usedW l) (l.drop i)).1 ≠ 0 → (ruleW (usedW l) (l.drop i)).1 ≤ (l.drop i).length ∧ (ruleW (usedW l) (l.drop i)).2.length < (ruleW (usedW l) (l.drop i)).1 := rule_ok (usedW l) (l.drop i)
    rw [List.drop_eq_getElem_cons hlt, onceF_cons, ← List.drop_eq_getElem_cons hlt, List.drop_drop] at hE
    have hdl : (l.drop i).length = l.length - i := List.length_drop
    have hm := match24_spec (B0 := B0) (w0 := w0) l hl i hi
    generalize ruleW (usedW l) (l.drop i) = r at hR hE hm
    have hrl : (r.2.map str).length = r.2.length := List.length_map _
    have hsl : ((l.map str).take ((i : Int) + 1).toNat).drop ((i : Nat) : Int).toNat = [str l[i]] := by
      rw [show ((i : Int) + 1).toNat = i + 1 by omega, Int.toNat_natCast, ← List.map_take, ← List.map_drop, List.take_succ_eq_append_getElem hlt, List.drop_append_of_le_length (by rw [List.length_take]; omega), List.drop_eq_nil_of_le (by rw [List.length_take]; omega)]
      rfl
    repeat first
      | refine LCode.seq ?_
      | refine LCode.region ?_
      | refine LCode.skip ?_
      | refine LCode.block ?_
      | refine QThen.normal ?_
      | refine LOps.pure (Pure.mv (lv := .atom _) rfl) rfl ?_
      | refine LOps.pure (Pure.mv (lv := .list _) rfl) rfl ?_
    refine LOps.step (S.fn [_, _] rfl hm ?_) rfl
    repeat first
      | refine LOps.nil ?_
      | refine LCode.seq ?_
      | refine LCode.region ?_
      | refine QThen.normal ?_
      | refine LOps.pure (Pure.as (lv := .list _) rfl) rfl ?_
      | refine LOps.pure (Pure.as (lv := .atom _) rfl) rfl ?_
      | refine LOps.pure (Pure.mv (lv := .atom _) rfl) rfl ?_
      | refine LOps.pure (Pure.mv (lv := .tuple _) rfl) rfl ?_
      | refine LOps.pure (Pure.extract (c := .atom _) rfl rfl) rfl ?_
      | refine LOps.pure (Pure.extract (c := .list _) rfl rfl) rfl ?_
      | refine LOps.pure (Pure.eql rfl rfl) rfl ?_
    refine LCode.cond rfl (fun h => ?_) (fun h => ?_)
    · have h0 : r.1 = 0 := by have := of_decide_eq_true h; omega
      rw [if_pos h0] at hE
      repeat first
        | refine LOps.nil ?_
        | refine LCode.seq ?_
        | refine LCode.region ?_
        | refine QThen.normal ?_
        | refine LOps.pure (Pure.as (lv := .atom _) rfl) rfl ?_
        | refine LOps.pure (Pure.mv (lv := .atom _) rfl) rfl ?_
        | refine LOps.pure (Pure.mv (lv := .list _) rfl) rfl ?_
        | refine LOps.pure (Pure.add rfl rfl (by omega)) rfl ?_
      refine LOps.pure ((congrArg (fun x => Go.GL.Pure _ _ _ _ (.list x)) hsl).mp (Pure.lslice (es := l.map str) (i := ((i : Nat) : Int)) (j := (i : Int) + 1) rfl ⟨_, rfl⟩ ⟨_, rfl⟩ (by omega) (by omega) (by omega) (strs_len l))) rfl ?_
      repeat first
        | refine LOps.nil ?_
        | refine LCode.seq ?_
        | refine LCode.region ?_
        | refine QThen.normal ?_
        | refine LOps.pure (Pure.as (lv := .list _) rfl) rfl ?_
      refine LOps.pure (Pure.mv (lv := v) rfl) rfl ?_
      repeat first
        | refine LOps.pure (Pure.mv (lv := .list _) rfl) rfl ?_
      refine LOps.step (S.acc rfl hacc rfl (by simp; rfl) rfl (by simp; omega) fun v2 H2 hacc2 => ?_) rfl
      refine LOps.pure (Pure.as (lv := v2) rfl) rfl ?_
      repeat first
        | refine LOps.nil ?_
        | refine LCode.region ?_
        | refine QThen.normal ?_
        | refine QBlock.normal ?_
        | refine LOps.pure (Pure.as (lv := .atom _) rfl) rfl ?_
        | refine LOps.pure (Pure.mv (lv := .atom _) rfl) rfl ?_
        | refine LOps.pure (Pure.add rfl rfl (by omega)) rfl ?_
      exact ⟨_, _, _, by omega, ⟨i + 1, f, out ++ [l[i]], v2, by omega, rfl, rfl, by rw [List.map_append]; exact hacc2, by omega, by simp; omega, by rw [List.append_assoc]; exact hE⟩, ⟨rfl, rfl, int_eq (by omega), trivial⟩, HSub.refl _, hj⟩
    · have h0 : r.1 ≠ 0 := by have := of_decide_eq_false h; omega
      rw [if_neg h0] at hE
      obtain ⟨hR1, hR2⟩ := hR h0
      repeat first
        | refine LCode.seq ?_
        | refine LCode.region ?_
        | refine LCode.skip ?_
        | refine QThen.normal ?_
      refine LOps.pure (Pure.mv (lv := v) rfl) rfl ?_
      repeat first
        | refine LOps.pure (Pure.mv (lv := .list _) rfl) rfl ?_
      refine LOps.step (S.acc rfl hacc rfl (strs_len _) (strs_ok _) (by omega) fun v2 H2 hacc2 => ?_) rfl
      refine LOps.pure (Pure.as (lv := v2) rfl) rfl ?_
      repeat first
        | refine LOps.nil ?_
        | refine LCode.region ?_
        | refine QThen.normal ?_
        | refine QBlock.normal ?_
        | refine LOps.pure (Pure.as (lv := .atom _) rfl) rfl ?_
        | refine LOps.pure (Pure.mv (lv := .atom _) rfl) rfl ?_
        | refine LOps.pure (Pure.add rfl rfl (by omega)) rfl ?_
      exact ⟨_, _, _, by omega, ⟨i + r.1, f, out ++ r.2, v2, by omega, rfl, rfl, by rw [List.map_append]; exact hacc2, by omega, by rw [List.length_append]; omega, by rw [List.append_assoc]; exact hE⟩, ⟨rfl, rfl, int_eq (by omega), trivial⟩, HSub.refl _, hj⟩
  · have hi' : i = l.length := by have := of_decide_eq_false hc; omega
    subst hi'
    rw [List.drop_length, onceF_nil, List.append_nil] at hE
    subst hE
    refine LCode.sub (d := 3) (v := v) rfl hacc.sub ?_
    refine LCode.weak (HSub.nil _) ?_
    repeat first
      | refine LOps.nil ?_
      | refine LCode.seq ?_
      | refine LCode.region ?_
      | refine LCode.ret ?_
      | refine LCode.exit ?_
      | refine QThen.normal ?_
      | refine QThen.exit ?_
      | refine QBlock.hit ?_
      | refine LOps.pure (Pure.as (lv := .list _) rfl) rfl ?_
      | refine LOps.pure (Pure.mv (lv := .list _) rfl) rfl ?_
    exact retRet hj (AllRes.cons (ResIs.tmp (v := .list _) rfl (LV.Sub.refl _)) AllRes.nil) rfl
theorem once_law (hG : GW B0 w0) (l : List Wd) : LCalls (KC B0 w0) 3 [.list (l.map str)] [] (Ret (bool true)) := by
  refine LCalls.intro Tryz.func3 rfl (n := 21) rfl rfl rfl ?_
  repeat first
    | refine LOps.nil ?_
    | refine LCode.seq ?_
    | refine LCode.region ?_
    | refine QThen.normal ?_
    | refine LOps.pure (Pure.as (lv := .atom _) rfl) rfl ?_
  refine LOps.step (S.fn [] rfl (alive_spec hG) ?_) rfl
  repeat first
    | refine LOps.nil ?_
    | refine QThen.normal ?_
    | refine LOps.pure (Pure.not rfl) rfl ?_
  refine LCode.cond rfl (fun h0 => ?_) (fun h0 => ?_)
  · cases h0
  repeat first
    | refine LCode.seq ?_
    | refine LCode.region ?_
    | refine LCode.skip ?_
    | refine QThen.normal ?_
    | refine LOps.pure (Pure.mv (lv := .list _) rfl) rfl ?_
  refine LOps.step (S.fnIf [_] rfl (great_spec l) ?_) rfl
  rintro lv ⟨g, rfl, hg⟩
  repeat first
    | refine LOps.nil ?_
    | refine QThen.normal ?_
  refine LCode.cond rfl (fun h1 => ?_) (fun h1 => ?_)
  · repeat first
      | refine LOps.nil ?_
      | refine LCode.seq ?_
      | refine LCode.region ?_
      | refine LCode.ret ?_
      | refine QThen.normal ?_
      | refine QThen.ret ?_
      | refine LOps.pure (Pure.as (lv := .atom _) rfl) rfl ?_
    exact retRet rfl (AllRes.cons (ResIs.tmp (v := .atom _) rfl (LV.Sub.refl _)) AllRes.nil) rfl
  have hm := hg h1
  have hsm := hm.small
  have c1 := once_spec hG l hsm
  have c2 := once24_spec (B0 := B0) (w0 := w0) l hsm
  have hle := onceP_len l
  have hsl := hsm.1
  have s1 := same_true (B0 := B0) (w0 := w0) (onceP l) (by omega)
  repeat first
    | refine LCode.seq ?_
    | refine LCode.region ?_
    | refine LCode.skip ?_
    | refine QThen.normal ?_
    | refine LOps.pure (Pure.mv (lv := .list _) rfl) rfl ?_
  refine LOps.step (S.fn [_] rfl c1 ?_) rfl
  repeat first
    | refine LOps.nil ?_
    | refine LCode.seq ?_
    | refine LCode.region ?_
    | refine QThen.normal ?_
    | refine LOps.pure (Pure.mv (lv := .list _) rfl) rfl ?_
    | refine LOps.pure (Pure.as (lv := .list _) rfl) rfl ?_
  refine LOps.step (S.fn [_] rfl c2 ?_) rfl
  refine LOps.step (S.fn [_, _] rfl s1 ?_) rfl
  repeat first
    | refine LOps.nil ?_
    | refine LCode.ret ?_
    | refine QThen.normal ?_
    | refine LOps.pure (Pure.as (lv := .atom _) rfl) rfl ?_
    | refine LOps.pure (Pure.mv (lv := .list _) rfl) rfl ?_
    | refine LOps.pure (Pure.mv (lv := .atom _) rfl) rfl ?_
    | refine LOps.pure (Pure.llen rfl) rfl ?_
    | refine LOps.pure (Pure.leq rfl rfl) rfl ?_
    | refine LOps.pure (Pure.pickT (lv := .atom _) rfl rfl) rfl ?_
    | refine LOps.want rfl rfl ?_
  exact retRet rfl (AllRes.cons (ResIs.tmp (v := .atom _) rfl (LV.Sub.refl _)) AllRes.nil) (bool_eq (by simp [hle]))
end
end Go.Proofs.YtkjjenppmmipmaaGreatDoor
namespace Go.Stele
open Go.Lib
/-- A character that ends a word. -/
def EndC (c : UInt8) : Prop := c = 32 ∨ c = 10 ∨ c = 35
instance (c : UInt8) : Decidable (EndC c) := by unfold EndC; infer_instance
theorem flush_nil : flush [] = [] := rfl
theorem scan_end {c : UInt8} (h : EndC c) (cur r : List UInt8) : scanW cur false (c :: r) = flush cur ++ scanW [] false (c :: r) := by
  rcases h with rfl | rfl | rfl <;> simp [scanW, flush_nil]
theorem scan_nl (com : Bool) (r : List UInt8) : scanW [] com (10 :: r) = scanW [] false r := by
  simp [scanW, flush_nil]
theorem scan_hash (com : Bool) (r : List UInt8) : scanW [] com (35 :: r) = scanW [] true r := by
  cases com <;> simp [scanW, flush_nil]
theorem scan_com {c : UInt8} (h : c ≠ 10) (r : List UInt8) : scanW [] true (c :: r) = scanW [] true r := by
  simp [scanW, h]
theorem scan_sp (r : List UInt8) : scanW [] false (32 :: r) = scanW [] false r := by
  simp [scanW, flush_nil]
theorem scan_ch {c : UInt8} (h : ¬ EndC c) (cur r : List UInt8) : scanW cur false (c :: r) = scanW (cur ++ [c]) false r := by
  have h1 : c ≠ 32 := fun e => h (.inl e)
  have h2 : c ≠ 10 := fun e => h (.inr (.inl e))
  have h3 : c ≠ 35 := fun e => h (.inr (.inr e))
  rw [scanW, if_neg h2, if_neg (by decide), if_neg h3, if_neg h1]
/-- The word begun: where it begins. -/
def fromI : Option Nat → Int
  | none => -1
  | some p => p
def curOf (s : List UInt8) (i : Nat) : Option Nat → List UInt8
  | none => []
  | some p => (s.take i).drop p
theorem cur_ne {s : List UInt8} {i p : Nat} (hp : p < i) (hi : i ≤ s.length) : curOf s i (some p) ≠ [] := by
  intro h
  have := congrArg List.length h
  simp only [curOf, List.length_drop, List.length_take, List.length_nil] at this
  omega
theorem cur_next {s : List UInt8} {i p : Nat} (hp : p ≤ i) (hi : i < s.length) : curOf s (i + 1) (some p) = (s.take i).drop p ++ [s[i]] := by
  simp only [curOf]
  rw [List.take_succ_eq_append_getElem hi, List.drop_append_of_le_length (by rw [List.length_take]; omega)]
theorem join_snoc1 : ∀ (l : List Wd) (x : Wd), l ≠ [] → join (l ++ [x]) [32] = join l [32] ++ [32] ++ x
  | [], _, h => absurd rfl h
  | [a], x, _ => by simp [join]
  | a :: b :: r, x, _ => by
    have h := join_snoc1 (b :: r) x (by simp)
    rw [List.cons_append, List.cons_append, join_two', ← List.cons_append, h, join_two']
    simp
theorem join_upto {l : List Wd} {i : Nat} (h : i < l.length) : join (l.take (i + 1)) [32] = if 0 < i then join (l.take i) [32] ++ [32] ++ l[i] else l[i] := by
  rw [List.take_succ_eq_append_getElem h]
  split
  · exact join_snoc1 _ _ (by intro h0; have := congrArg List.length h0; rw [List.length_take, List.length_nil] at this; omega)
  · have h0 : i = 0 := by omega
    subst h0
    simp [join]
theorem tot_take (l : List Wd) (i : Nat) : tot (l.take i) ≤ tot l := by
  have := tot_split l i
  omega
end Go.Stele
namespace Go.Proofs.YtkjjenppmmipmaaGreatDoor
open Go.GL Go.RowKit Go.Stele
set_option maxRecDepth 100000
set_option maxHeartbeats 4000000
attribute [local irreducible] LOps LCode LStep LCalls Go.GL.Pure QThen QBlock RetPost LQ LAny LLate LLateOp
section
variable {B0 : Nat} {w0 : World}
theorem words18_spec (s : List UInt8) (hs : s.length ≤ 1000000) : LCalls (KC B0 w0) 75 [str s] [] (RetIf fun lv => ∃ ts : List (Wd × Nat), lv = .list (ts.map tokLV) ∧ ts.map (·.1) = wordsP s) := by
  refine LCalls.intro Tryz.func75 rfl (n := 82) rfl rfl rfl ?_
  repeat first
    | refine LOps.nil ?_
    | refine LCode.seq ?_
    | refine LCode.region ?_
    | refine QThen.normal ?_
    | refine LOps.pure (Pure.as (lv := .atom _) rfl) rfl ?_
  refine LOps.step (S.litA [] rfl elemsOk.nil rfl rfl rfl fun b => ?_) rfl
  refine LOps.pure (Pure.as (lv := .app b 0 2 []) rfl) rfl ?_
  repeat first
    | refine LOps.nil ?_
    | refine LCode.seq ?_
    | refine LCode.region ?_
    | refine LCode.block ?_
    | refine QThen.normal ?_
    | refine LOps.pure (Pure.as (lv := .atom _) rfl) rfl ?_
  refine LCode.loopI (fun k ls H => ∃ (i : Nat) (out : List (Wd × Nat)) (v : LV) (ln : Nat) (o : Option Nat) (com : Bool), i ≤ s.length ∧ k = s.length - i ∧ ls = [(0, str s), (3, v), (4, int .i64 (ln : Nat)), (5, int .i64 (fromI o)), (6, bool com), (7, int .i64 (i : Nat))] ∧ Acc 2 v (out.map tokLV) H [] ∧ (∀ p, o = some p → p < i ∧ com = false) ∧ out.length ≤ i ∧ ln ≤ i + 1 ∧ out.map (·.1) ++ scanW (curOf s i o) com (s.drop i) = wordsP s)
    ⟨_, _, _, ⟨0, [], .app b 0 2 [], 1, none, false, Nat.zero_le _, rfl, rfl, Acc.row, by simp, Nat.zero_le _, by omega, scan_words s⟩, ⟨rfl, rfl, rfl, rfl, rfl, rfl, trivial⟩, HSub.refl _⟩ ?_
  rintro k ls H ⟨i, out, v, ln, o, com, hi, rfl, rfl, hacc, ho, hlen, hln, hE⟩ j hj
  have hol : (out.map tokLV).length = out.length := List.length_map _
  repeat first
    | refine LOps.nil ?_
    | refine LCode.seq ?_
    | refine LCode.region ?_
    | refine QThen.normal ?_
    | refine LOps.pure (Pure.mv (lv := .atom _) rfl) rfl ?_
    | refine LOps.pure (Pure.slen rfl) rfl ?_
    | refine LOps.pure (Pure.leq rfl rfl) rfl ?_
  refine LCode.cond rfl (fun hc => ?_) (fun hc => ?_)
  · repeat first
      | refine LCode.seq ?_
      | refine LCode.region ?_
      | refine LCode.skip ?_
      | refine LCode.block ?_
      | refine QThen.normal ?_
      | refine LOps.pure (Pure.mv (lv := .atom _) rfl) rfl ?_
      | refine LOps.pure (Pure.slen rfl) rfl ?_
      | refine LOps.pure (Pure.eql rfl rfl) rfl ?_
    refine LOps.bcase 20 rfl (fun h1 => ?_) (fun h1 => ?_)
    · have hie : i = s.length := by have := of_decide_eq_true h1; omega
      subst hie
      rw [List.drop_length] at hE
      cases com with
      | true =>
        obtain rfl : o = none := by
          cases o with
          | none => rfl
          | some p => cases (ho p rfl).2
        have hE' : out.map (·.1) = wordsP s := by simpa [scanW, curOf, flush_nil] using hE
        repeat first
          | refine LOps.nil ?_
          | refine LCode.seq ?_
          | refine LCode.region ?_
          | refine QThen.normal ?_
          | refine LOps.pure (Pure.as (lv := .atom _) rfl) rfl ?_
          | refine LOps.pure (Pure.mv (lv := .atom _) rfl) rfl ?_
          | refine LOps.pure (Pure.pickT (lv := .atom _) rfl rfl) rfl ?_
          | refine LOps.pure (Pure.pickF (lv := .atom _) rfl rfl) rfl ?_
          | refine LOps.pure (Pure.not rfl) rfl ?_
          | refine LOps.skip rfl rfl rfl rfl ?_
        refine LCode.cond rfl (fun h => by cases h) (fun h => ?_)
        repeat first
          | refine LOps.nil ?_
          | refine LCode.seq ?_
          | refine LCode.region ?_
          | refine LCode.skip ?_
          | refine QThen.normal ?_
          | refine LOps.pure (Pure.mv (lv := .atom _) rfl) rfl ?_
          | refine LOps.pure (Pure.slen rfl) rfl ?_
          | refine LOps.pure (Pure.eql rfl rfl) rfl ?_
        refine LCode.cond rfl (fun h2 => ?_) (fun h2 => absurd h2 (by simp))
        refine LCode.sub (d := 3) (v := v) rfl hacc.sub ?_
        refine LCode.weak (HSub.nil _) ?_
        repeat first
          | refine LOps.nil ?_
          | refine LCode.seq ?_
          | refine LCode.region ?_
          | refine LCode.ret ?_
          | refine LCode.exit ?_
          | refine QThen.normal ?_
          | refine QThen.exit ?_
          | refine QBlock.hit ?_
          | refine QBlock.miss (by decide) ?_
          | refine LOps.pure (Pure.as (lv := .list _) rfl) rfl ?_
          | refine LOps.pure (Pure.mv (lv := .list _) rfl) rfl ?_
        exact retRetIf hj (AllRes.cons (ResIs.tmp (v := .list _) rfl (LV.Sub.refl _)) AllRes.nil) ⟨out, rfl, hE'⟩
      | false =>
        cases o with
        | none =>
          have hE' : out.map (·.1) = wordsP s := by simpa [scanW, curOf, flush_nil] using hE
          repeat first
            | refine LOps.nil ?_
            | refine LCode.seq ?_
            | refine LCode.region ?_
            | refine QThen.normal ?_
            | refine LOps.pure (Pure.as (lv := .atom _) rfl) rfl ?_
            | refine LOps.pure (Pure.mv (lv := .atom _) rfl) rfl ?_
            | refine LOps.pure (Pure.pickT (lv := .atom _) rfl rfl) rfl ?_
            | refine LOps.pure (Pure.pickF (lv := .atom _) rfl rfl) rfl ?_
            | refine LOps.pure (Pure.not rfl) rfl ?_
            | refine LOps.pure (Pure.geq rfl rfl) rfl ?_
            | refine LOps.want rfl rfl ?_
            | refine LOps.skip rfl rfl rfl rfl ?_
          refine LCode.cond rfl (fun h => by cases h) (fun h => ?_)
          repeat first
            | refine LOps.nil ?_
            | refine LCode.seq ?_
            | refine LCode.region ?_
            | refine LCode.skip ?_
            | refine QThen.normal ?_
            | refine LOps.pure (Pure.mv (lv := .atom _) rfl) rfl ?_
            | refine LOps.pure (Pure.slen rfl) rfl ?_
            | refine LOps.pure (Pure.eql rfl rfl) rfl ?_
          refine LCode.cond rfl (fun h2 => ?_) (fun h2 => absurd h2 (by simp))
          refine LCode.sub (d := 3) (v := v) rfl hacc.sub ?_
          refine LCode.weak (HSub.nil _) ?_
          repeat first
            | refine LOps.nil ?_
            | refine LCode.seq ?_
            | refine LCode.region ?_
            | refine LCode.ret ?_
            | refine LCode.exit ?_
            | refine QThen.normal ?_
            | refine QThen.exit ?_
            | refine QBlock.hit ?_
            | refine QBlock.miss (by decide) ?_
            | refine LOps.pure (Pure.as (lv := .list _) rfl) rfl ?_
            | refine LOps.pure (Pure.mv (lv := .list _) rfl) rfl ?_
          exact retRetIf hj (AllRes.cons (ResIs.tmp (v := .list _) rfl (LV.Sub.refl _)) AllRes.nil) ⟨out, rfl, hE'⟩
        | some p =>
          obtain ⟨hp, _⟩ := ho p rfl
          have hne := cur_ne hp (Nat.le_refl s.length)
          have hE' : out.map (·.1) ++ [curOf s s.length (some p)] = wordsP s := by simpa [scanW, flush, hne] using hE
          repeat first
            | refine LOps.nil ?_
            | refine LCode.seq ?_
            | refine LCode.region ?_
            | refine QThen.normal ?_
            | refine LOps.pure (Pure.as (lv := .atom _) rfl) rfl ?_
            | refine LOps.pure (Pure.mv (lv := .atom _) rfl) rfl ?_
            | refine LOps.pure (Pure.pickT (lv := .atom _) rfl rfl) rfl ?_
            | refine LOps.pure (Pure.not rfl) rfl ?_
            | refine LOps.pure (Pure.geq rfl rfl) rfl ?_
            | refine LOps.want rfl rfl ?_
            | refine LOps.skip rfl rfl rfl rfl ?_
          refine LCode.cond rfl (fun h => ?_) (fun h => by cases h)
          repeat first
            | refine LCode.seq ?_
            | refine LCode.region ?_
          refine LOps.pure (Pure.mv (lv := v) rfl) rfl ?_
          repeat first
            | refine LOps.pure (Pure.mv (lv := .atom _) rfl) rfl ?_
          refine LOps.pure (Pure.sslice (i := ((p : Nat) : Int)) (j := ((s.length : Nat) : Int)) rfl ⟨_, rfl⟩ ⟨_, rfl⟩ (by omega) (by omega) (by omega)) rfl ?_
          repeat first
            | refine LOps.pure (Pure.mv (lv := .atom _) rfl) rfl ?_
            | refine LOps.pure (Pure.bld _ (cs := [_, _]) rfl) rfl ?_
          refine LOps.step (S.lit [_] rfl (elemsOk.cons rfl rfl elemsOk.nil) rfl rfl rfl ?_) rfl
          refine LOps.step (S.acc rfl hacc rfl (by simp; rfl) rfl (by simp; omega) fun v2 H2 hacc2 => ?_) rfl
          refine LOps.pure (Pure.as (lv := v2) rfl) rfl ?_
          repeat first
            | refine LOps.nil ?_
            | refine LCode.seq ?_
            | refine LCode.region ?_
            | refine QThen.normal ?_
            | refine LOps.pure (Pure.as (lv := .atom _) rfl) rfl ?_
            | refine LOps.pure (Pure.mv (lv := .atom _) rfl) rfl ?_
            | refine LOps.pure (Pure.slen rfl) rfl ?_
            | refine LOps.pure (Pure.eql rfl rfl) rfl ?_
          refine LCode.cond rfl (fun h2 => ?_) (fun h2 => absurd h2 (by simp))
          have hacc3 : Acc 2 v2 ((out ++ [(curOf s s.length (some p), ln)]).map tokLV) H2 [] := by rw [List.map_append]; exact hacc2
          refine LCode.sub (d := 3) (v := v2) rfl hacc3.sub ?_
          refine LCode.weak (HSub.nil _) ?_
          repeat first
            | refine LOps.nil ?_
            | refine LCode.seq ?_
            | refine LCode.region ?_
            | refine LCode.ret ?_
            | refine LCode.exit ?_
            | refine QThen.normal ?_
            | refine QThen.exit ?_
            | refine QBlock.hit ?_
            | refine QBlock.miss (by decide) ?_
            | refine LOps.pure (Pure.as (lv := .list _) rfl) rfl ?_
            | refine LOps.pure (Pure.mv (lv := .list _) rfl) rfl ?_
          exact retRetIf hj (AllRes.cons (ResIs.tmp (v := .list _) rfl (LV.Sub.refl _)) AllRes.nil) ⟨_, rfl, by rw [List.map_append]; exact hE'⟩
    · have hlt : i < s.length := by
        have := of_decide_eq_false h1
        have := of_decide_eq_true hc
        omega
      rw [List.drop_eq_getElem_cons hlt] at hE
      repeat first
        | refine LOps.pure (Pure.mv (lv := .atom _) rfl) rfl ?_
        | refine LOps.want rfl rfl ?_
      refine LOps.cut [(0, str s), (3, v), (4, int .i64 (ln : Nat)), (5, int .i64 (fromI o)), (6, bool com), (7, int .i64 (i : Nat)), (8, bool (decide (EndC s[i])))] ?_ (fun j2 hj2 => ?_)
      · refine LOps.pure (Pure.sindex (c := s[i]) rfl rfl (by omega) (by simp)) rfl ?_
        repeat first
          | refine LOps.pure (Pure.mv (lv := .atom _) rfl) rfl ?_
          | refine LOps.pure (Pure.eql rfl rfl) rfl ?_
          | refine LOps.pure (Pure.pickF (lv := .atom _) rfl rfl) rfl ?_
          | refine LOps.want rfl rfl ?_
        refine LOps.bcase 26 rfl (fun g1 => ?_) (fun g1 => ?_)
        · have e : s[i] = 32 := (cv_nat _ 32 (by decide)).2 (of_decide_eq_true g1)
          repeat first
            | refine LOps.nil ?_
            | refine QThen.normal ?_
            | refine LOps.pure (Pure.as (lv := .atom _) rfl) rfl ?_
            | refine LOps.pure (Pure.mv (lv := .atom _) rfl) rfl ?_
            | refine LOps.pure (Pure.pickT (lv := .atom _) rfl rfl) rfl ?_
            | refine LOps.skip rfl rfl rfl rfl ?_
          exact ⟨⟨rfl, rfl, rfl, rfl, rfl, rfl, bool_eq (by rw [decide_eq_true (show EndC s[i] from .inl e)]), trivial⟩, rfl, rfl⟩
        · have e1 : ¬ s[i] = 32 := fun e => of_decide_eq_false g1 ((cv_nat _ 32 (by decide)).1 e)
          repeat first
            | refine LOps.pure (Pure.mv (lv := .atom _) rfl) rfl ?_
            | refine LOps.want rfl rfl ?_
          refine LOps.pure (Pure.sindex (c := s[i]) rfl rfl (by omega) (by simp)) rfl ?_
          repeat first
            | refine LOps.pure (Pure.mv (lv := .atom _) rfl) rfl ?_
            | refine LOps.pure (Pure.eql rfl rfl) rfl ?_
            | refine LOps.pure (Pure.pickF (lv := .atom _) rfl rfl) rfl ?_
            | refine LOps.want rfl rfl ?_
          refine LOps.bcase 32 rfl (fun g2 => ?_) (fun g2 => ?_)
          · have e : s[i] = 10 := (cv_nat _ 10 (by decide)).2 (of_decide_eq_true g2)
            repeat first
              | refine LOps.nil ?_
              | refine QThen.normal ?_
              | refine LOps.pure (Pure.as (lv := .atom _) rfl) rfl ?_
              | refine LOps.pure (Pure.pickT (lv := .atom _) rfl rfl) rfl ?_
              | refine LOps.skip rfl rfl rfl rfl ?_
            exact ⟨⟨rfl, rfl, rfl, rfl, rfl, rfl, bool_eq (by rw [decide_eq_true (show EndC s[i] from .inr (.inl e))]), trivial⟩, rfl, rfl⟩
          · have e2 : ¬ s[i] = 10 := fun e => of_decide_eq_false g2 ((cv_nat _ 10 (by decide)).1 e)
            repeat first
              | refine LOps.pure (Pure.mv (lv := .atom _) rfl) rfl ?_
              | refine LOps.want rfl rfl ?_
            refine LOps.pure (Pure.sindex (c := s[i]) rfl rfl (by omega) (by simp)) rfl ?_
            repeat first
              | refine LOps.nil ?_
              | refine QThen.normal ?_
              | refine LOps.pure (Pure.as (lv := .atom _) rfl) rfl ?_
              | refine LOps.pure (Pure.eql rfl rfl) rfl ?_
              | refine LOps.pure (Pure.pickF (lv := .atom _) rfl rfl) rfl ?_
              | refine LOps.want rfl rfl ?_
            exact ⟨⟨rfl, rfl, rfl, rfl, rfl, rfl, bool_eq (by
              rw [decide_eq_decide]
              constructor
              · exact fun e => .inr (.inr ((cv_nat _ 35 (by decide)).2 e))
              · rintro (e | e | e)
                · exact absurd e e1
                · exact absurd e e2
                · exact (cv_nat _ 35 (by decide)).1 e), trivial⟩, rfl, rfl⟩
      refine LCode.seq ?_
      refine LCode.midC (A := List (Wd × Nat) × LV × Heap × Option Nat) (fun a => [(0, str s), (3, a.2.1), (4, int .i64 (ln : Nat)), (5, int .i64 (fromI a.2.2.2)), (6, bool com), (7, int .i64 (i : Nat)), (8, bool (decide (EndC s[i])))]) (fun a => a.2.2.1) (fun a => Acc 2 a.2.1 (a.1.map tokLV) a.2.2.1 [] ∧ (∀ p, a.2.2.2 = some p → p < i ∧ com = false ∧ ¬ EndC s[i]) ∧ a.1.length ≤ i + 1 ∧ a.1.map (·.1) ++ scanW (curOf s i a.2.2.2) com (s[i] :: s.drop (i + 1)) = wordsP s) ?_ ?_
      · cases com with
        | true =>
          obtain rfl : o = none := by
            cases o with
            | none => rfl
            | some p => cases (ho p rfl).2
          repeat first
            | refine LOps.nil ?_
            | refine LCode.seq ?_
            | refine LCode.region ?_
            | refine QThen.normal ?_
            | refine LOps.pure (Pure.mv (lv := .atom _) rfl) rfl ?_
            | refine LOps.pure (Pure.pickF (lv := .atom _) rfl rfl) rfl ?_
            | refine LOps.pure (Pure.not rfl) rfl ?_
            | refine LOps.skip rfl rfl rfl rfl ?_
          refine LCode.cond rfl (fun h => by cases h) (fun h => ?_)
          repeat first
            | refine LCode.skip ?_
            | refine QThen.normal ?_
          exact ⟨(out, v, H, none), ⟨hacc, by simp, by simp only; omega, hE⟩, ⟨rfl, rfl, rfl, rfl, rfl, rfl, rfl, trivial⟩, HSub.refl _, rfl⟩
        | false =>
          cases o with
          | none =>
            repeat first
              | refine LOps.nil ?_
              | refine LCode.seq ?_
              | refine LCode.region ?_
              | refine QThen.normal ?_
              | refine LOps.pure (Pure.mv (lv := .atom _) rfl) rfl ?_
              | refine LOps.pure (Pure.pickT (lv := .atom _) rfl rfl) rfl ?_
              | refine LOps.pure (Pure.pickF (lv := .atom _) rfl rfl) rfl ?_
              | refine LOps.pure (Pure.not rfl) rfl ?_
              | refine LOps.pure (Pure.geq rfl rfl) rfl ?_
              | refine LOps.want rfl rfl ?_
              | refine LOps.skip rfl rfl rfl rfl ?_
            refine LCode.cond rfl (fun h => by cases h) (fun h => ?_)
            repeat first
              | refine LCode.skip ?_
              | refine QThen.normal ?_
            exact ⟨(out, v, H, none), ⟨hacc, by simp, by simp only; omega, hE⟩, ⟨rfl, rfl, rfl, rfl, rfl, rfl, rfl, trivial⟩, HSub.refl _, rfl⟩
          | some p =>
            obtain ⟨hp, _⟩ := ho p rfl
            have hne := cur_ne hp hi
            repeat first
              | refine LOps.nil ?_
              | refine LCode.seq ?_
              | refine LCode.region ?_
              | refine QThen.normal ?_
              | refine LOps.pure (Pure.mv (lv := .atom _) rfl) rfl ?_
              | refine LOps.pure (Pure.pickT (lv := .atom _) rfl rfl) rfl ?_
              | refine LOps.pure (Pure.not rfl) rfl ?_
              | refine LOps.pure (Pure.geq rfl rfl) rfl ?_
              | refine LOps.want rfl rfl ?_
            refine LCode.cond rfl (fun h => ?_) (fun h => ?_)
            · have hec : EndC s[i] := of_decide_eq_true h
              rw [scan_end hec] at hE
              have hfl : flush (curOf s i (some p)) = [curOf s i (some p)] := by unfold flush; rw [if_neg hne]
              rw [hfl, ← List.append_assoc] at hE
              repeat first
                | refine LCode.seq ?_
                | refine LCode.region ?_
              refine LOps.pure (Pure.mv (lv := v) rfl) rfl ?_
              repeat first
                | refine LOps.pure (Pure.mv (lv := .atom _) rfl) rfl ?_
              refine LOps.pure (Pure.sslice (i := ((p : Nat) : Int)) (j := ((i : Nat) : Int)) rfl ⟨_, rfl⟩ ⟨_, rfl⟩ (by omega) (by omega) (by omega)) rfl ?_
              repeat first
                | refine LOps.pure (Pure.mv (lv := .atom _) rfl) rfl ?_
                | refine LOps.pure (Pure.bld _ (cs := [_, _]) rfl) rfl ?_
              refine LOps.step (S.lit [_] rfl (elemsOk.cons rfl rfl elemsOk.nil) rfl rfl rfl ?_) rfl
              refine LOps.step (S.acc rfl hacc rfl (by simp; rfl) rfl (by simp; omega) fun v2 H2 hacc2 => ?_) rfl
              refine LOps.pure (Pure.as (lv := v2) rfl) rfl ?_
              repeat first
                | refine LOps.nil ?_
                | refine LCode.region ?_
                | refine QThen.normal ?_
                | refine LOps.pure (Pure.as (lv := .atom _) rfl) rfl ?_
              exact ⟨(out ++ [(curOf s i (some p), ln)], v2, H2, none), ⟨by rw [List.map_append]; exact hacc2, by simp, by simp; omega, by rw [List.map_append]; exact hE⟩, ⟨rfl, rfl, rfl, rfl, rfl, rfl, rfl, trivial⟩, HSub.refl _, rfl⟩
            · have hec : ¬ EndC s[i] := of_decide_eq_false h
              repeat first
                | refine LCode.skip ?_
                | refine QThen.normal ?_
              exact ⟨(out, v, H, some p), ⟨hacc, by rintro q hq; cases hq; exact ⟨hp, rfl, hec⟩, by simp only; omega, hE⟩, ⟨rfl, rfl, rfl, rfl, rfl, rfl, rfl, trivial⟩, HSub.refl _, rfl⟩
      clear hE ho hlen hol hacc
      rintro ⟨out2, v2, H2, o2⟩ ⟨hacc2, ho2, hlen2, hE2⟩ j3 hj3
      simp only at hacc2 ho2 hlen2 hE2
      have d3 := hj3.trans (hj2.trans hj)
      have hnone : (com = true ∨ EndC s[i]) → o2 = none := fun hh => by
        cases o2 with
        | none => rfl
        | some p =>
          obtain ⟨_, h2, h3⟩ := ho2 p rfl
          rcases hh with hh | hh
          · rw [hh] at h2; cases h2
          · exact absurd hh h3
      repeat first
        | refine LOps.nil ?_
        | refine LCode.seq ?_
        | refine LCode.region ?_
        | refine QThen.normal ?_
        | refine LOps.pure (Pure.mv (lv := .atom _) rfl) rfl ?_
        | refine LOps.pure (Pure.slen rfl) rfl ?_
        | refine LOps.pure (Pure.eql rfl rfl) rfl ?_
      refine LCode.cond rfl (fun h => by have := of_decide_eq_true h; omega) (fun h => ?_)
      repeat first
        | refine LCode.seq ?_
        | refine LCode.region ?_
        | refine LCode.skip ?_
        | refine QThen.normal ?_
        | refine LOps.pure (Pure.mv (lv := .atom _) rfl) rfl ?_
      refine LOps.pure (Pure.sindex (c := s[i]) rfl rfl (by omega) (by simp)) rfl ?_
      repeat first
        | refine LOps.nil ?_
        | refine QThen.normal ?_
        | refine LOps.pure (Pure.eql rfl rfl) rfl ?_
      refine LCode.cond rfl (fun g1 => ?_) (fun g1 => ?_)
      · have e : s[i] = 35 := (cv_nat _ 35 (by decide)).2 (of_decide_eq_true g1)
        obtain rfl := hnone (.inr (.inr (.inr e)))
        rw [e] at hE2
        rw [show curOf s i none = [] from rfl, scan_hash] at hE2
        repeat first
          | refine LOps.nil ?_
          | refine LCode.seq ?_
          | refine LCode.region ?_
          | refine QThen.normal ?_
          | refine LOps.pure (Pure.as (lv := .atom _) rfl) rfl ?_
          | refine LOps.pure (Pure.mv (lv := .atom _) rfl) rfl ?_
        refine LOps.pure (Pure.sindex (c := s[i]) rfl rfl (by omega) (by simp)) rfl ?_
        repeat first
          | refine LOps.nil ?_
          | refine QThen.normal ?_
          | refine LOps.pure (Pure.eql rfl rfl) rfl ?_
        refine LCode.cond rfl (fun g2 => ?_) (fun g2 => ?_)
        · have e2 : s[i] = 10 := (cv_nat _ 10 (by decide)).2 (of_decide_eq_true g2)
          rw [e] at e2
          exact absurd e2 (by decide)
        repeat first
          | refine LOps.nil ?_
          | refine LCode.seq ?_
          | refine LCode.region ?_
          | refine LCode.skip ?_
          | refine QThen.normal ?_
          | refine LOps.pure (Pure.mv (lv := .atom _) rfl) rfl ?_
          | refine LOps.pure (Pure.pickF (lv := .atom _) rfl rfl) rfl ?_
          | refine LOps.pure (Pure.not rfl) rfl ?_
          | refine LOps.skip rfl rfl rfl rfl ?_
        refine LCode.cond rfl (fun h => by cases h) (fun h => ?_)
        repeat first
          | refine LOps.nil ?_
          | refine LCode.region ?_
          | refine LCode.skip ?_
          | refine QThen.normal ?_
          | refine QBlock.normal ?_
          | refine LOps.pure (Pure.as (lv := .atom _) rfl) rfl ?_
          | refine LOps.pure (Pure.mv (lv := .atom _) rfl) rfl ?_
          | refine LOps.pure (Pure.add rfl rfl (by omega)) rfl ?_
        exact ⟨_, _, _, by omega, ⟨i + 1, out2, v2, ln, none, true, by omega, rfl, rfl, hacc2, by simp, hlen2, by omega, hE2⟩, ⟨rfl, rfl, rfl, rfl, rfl, int_eq (by omega), trivial⟩, HSub.refl _, d3⟩
      · have n35 : ¬ s[i] = 35 := fun e => of_decide_eq_false g1 ((cv_nat _ 35 (by decide)).1 e)
        repeat first
          | refine LCode.seq ?_
          | refine LCode.region ?_
          | refine LCode.skip ?_
          | refine QThen.normal ?_
          | refine LOps.pure (Pure.mv (lv := .atom _) rfl) rfl ?_
        refine LOps.pure (Pure.sindex (c := s[i]) rfl rfl (by omega) (by simp)) rfl ?_
        repeat first
          | refine LOps.nil ?_
          | refine QThen.normal ?_
          | refine LOps.pure (Pure.eql rfl rfl) rfl ?_
        refine LCode.cond rfl (fun g2 => ?_) (fun g2 => ?_)
        · have e : s[i] = 10 := (cv_nat _ 10 (by decide)).2 (of_decide_eq_true g2)
          have hec : EndC s[i] := .inr (.inl e)
          obtain rfl := hnone (.inr hec)
          rw [e] at hE2
          rw [show curOf s i none = [] from rfl, scan_nl] at hE2
          repeat first
            | refine LOps.nil ?_
            | refine LCode.seq ?_
            | refine LCode.region ?_
            | refine QThen.normal ?_
            | refine LOps.pure (Pure.as (lv := .atom _) rfl) rfl ?_
            | refine LOps.pure (Pure.mv (lv := .atom _) rfl) rfl ?_
            | refine LOps.pure (Pure.pickT (lv := .atom _) rfl rfl) rfl ?_
            | refine LOps.pure (Pure.not rfl) rfl ?_
            | refine LOps.pure (Pure.add rfl rfl (by omega)) rfl ?_
            | refine LOps.want rfl rfl ?_
          refine LOps.bcase 76 rfl (fun g3 => absurd hec (by simpa using g3)) (fun g3 => ?_)
          repeat first
            | refine LOps.nil ?_
            | refine QThen.normal ?_
            | refine LOps.pure (Pure.pickF (lv := .atom _) rfl rfl) rfl ?_
            | refine LOps.skip rfl rfl rfl rfl ?_
          refine LCode.cond rfl (fun h => by cases h) (fun h => ?_)
          repeat first
            | refine LOps.nil ?_
            | refine LCode.region ?_
            | refine LCode.skip ?_
            | refine QThen.normal ?_
            | refine QBlock.normal ?_
            | refine LOps.pure (Pure.as (lv := .atom _) rfl) rfl ?_
            | refine LOps.pure (Pure.mv (lv := .atom _) rfl) rfl ?_
            | refine LOps.pure (Pure.add rfl rfl (by omega)) rfl ?_
          exact ⟨_, _, _, by omega, ⟨i + 1, out2, v2, ln + 1, none, false, by omega, rfl, rfl, hacc2, by simp, hlen2, by omega, hE2⟩, ⟨rfl, rfl, int_eq (by omega), rfl, rfl, int_eq (by omega), trivial⟩, HSub.refl _, d3⟩
        · have n10 : ¬ s[i] = 10 := fun e => of_decide_eq_false g2 ((cv_nat _ 10 (by decide)).1 e)
          repeat first
            | refine LCode.seq ?_
            | refine LCode.region ?_
            | refine LCode.skip ?_
            | refine QThen.normal ?_
            | refine LOps.pure (Pure.mv (lv := .atom _) rfl) rfl ?_
            | refine LOps.pure (Pure.not rfl) rfl ?_
          refine LOps.bcase 72 rfl (fun g3 => ?_) (fun g3 => ?_)
          · have hcf : com = false := by simpa using g3
            subst hcf
            repeat first
              | refine LOps.pure (Pure.mv (lv := .atom _) rfl) rfl ?_
              | refine LOps.pure (Pure.pickT (lv := .atom _) rfl rfl) rfl ?_
              | refine LOps.pure (Pure.not rfl) rfl ?_
              | refine LOps.want rfl rfl ?_
            refine LOps.bcase 76 rfl (fun g4 => ?_) (fun g4 => ?_)
            · have hec : ¬ EndC s[i] := by simpa using g4
              rw [scan_ch hec] at hE2
              repeat first
                | refine LOps.nil ?_
                | refine QThen.normal ?_
                | refine LOps.pure (Pure.mv (lv := .atom _) rfl) rfl ?_
                | refine LOps.pure (Pure.pickT (lv := .atom _) rfl rfl) rfl ?_
                | refine LOps.pure (Pure.lss rfl rfl) rfl ?_
                | refine LOps.want rfl rfl ?_
              refine LCode.cond rfl (fun g5 => ?_) (fun g5 => ?_)
              · obtain rfl : o2 = none := by
                  cases o2 with
                  | none => rfl
                  | some p => exact absurd (of_decide_eq_true g5) (by simp only [fromI]; omega)
                repeat first
                  | refine LOps.nil ?_
                  | refine LCode.region ?_
                  | refine QThen.normal ?_
                  | refine QBlock.normal ?_
                  | refine LOps.pure (Pure.as (lv := .atom _) rfl) rfl ?_
                  | refine LOps.pure (Pure.mv (lv := .atom _) rfl) rfl ?_
                  | refine LOps.pure (Pure.add rfl rfl (by omega)) rfl ?_
                exact ⟨_, _, _, by omega, ⟨i + 1, out2, v2, ln, some i, false, by omega, rfl, rfl, hacc2, by rintro q hq; cases hq; exact ⟨by omega, rfl⟩, hlen2, by omega, by
                  rw [cur_next (Nat.le_refl i) hlt, List.drop_eq_nil_of_le (by rw [List.length_take]; omega)]
                  exact hE2⟩, ⟨rfl, rfl, rfl, rfl, rfl, int_eq (by omega), trivial⟩, HSub.refl _, d3⟩
              · obtain ⟨p, rfl⟩ : ∃ p, o2 = some p := by
                  cases o2 with
                  | none =>
                    have h3 : ¬ ((-1 : Int) < 0) := of_decide_eq_false g5
                    exact absurd (by decide) h3
                  | some p => exact ⟨p, rfl⟩
                obtain ⟨hp, _, _⟩ := ho2 p rfl
                repeat first
                  | refine LOps.nil ?_
                  | refine LCode.region ?_
                  | refine LCode.skip ?_
                  | refine QThen.normal ?_
                  | refine QBlock.normal ?_
                  | refine LOps.pure (Pure.as (lv := .atom _) rfl) rfl ?_
                  | refine LOps.pure (Pure.mv (lv := .atom _) rfl) rfl ?_
                  | refine LOps.pure (Pure.add rfl rfl (by omega)) rfl ?_
                exact ⟨_, _, _, by omega, ⟨i + 1, out2, v2, ln, some p, false, by omega, rfl, rfl, hacc2, by rintro q hq; cases hq; exact ⟨by omega, rfl⟩, hlen2, by omega, by
                  rw [cur_next (by omega) hlt]
                  exact hE2⟩, ⟨rfl, rfl, rfl, rfl, rfl, int_eq (by omega), trivial⟩, HSub.refl _, d3⟩
            · have hec : EndC s[i] := by simpa using g4
              have e : s[i] = 32 := by
                rcases hec with h | h | h
                · exact h
                · exact absurd h n10
                · exact absurd h n35
              obtain rfl := hnone (.inr hec)
              rw [e] at hE2
              rw [show curOf s i none = [] from rfl, scan_sp] at hE2
              repeat first
                | refine LOps.nil ?_
                | refine QThen.normal ?_
                | refine LOps.pure (Pure.pickF (lv := .atom _) rfl rfl) rfl ?_
                | refine LOps.skip rfl rfl rfl rfl ?_
              refine LCode.cond rfl (fun h => by cases h) (fun h => ?_)
              repeat first
                | refine LOps.nil ?_
                | refine LCode.region ?_
                | refine LCode.skip ?_
                | refine QThen.normal ?_
                | refine QBlock.normal ?_
                | refine LOps.pure (Pure.as (lv := .atom _) rfl) rfl ?_
                | refine LOps.pure (Pure.mv (lv := .atom _) rfl) rfl ?_
                | refine LOps.pure (Pure.add rfl rfl (by omega)) rfl ?_
              exact ⟨_, _, _, by omega, ⟨i + 1, out2, v2, ln, none, false, by omega, rfl, rfl, hacc2, by simp, hlen2, by omega, hE2⟩, ⟨rfl, rfl, rfl, rfl, rfl, int_eq (by omega), trivial⟩, HSub.refl _, d3⟩
          · have hct : com = true := by simpa using g3
            subst hct
            obtain rfl := hnone (.inl rfl)
            rw [show curOf s i none = [] from rfl, scan_com n10] at hE2
            repeat first
              | refine LOps.nil ?_
              | refine QThen.normal ?_
              | refine LOps.pure (Pure.mv (lv := .atom _) rfl) rfl ?_
              | refine LOps.pure (Pure.pickF (lv := .atom _) rfl rfl) rfl ?_
              | refine LOps.skip rfl rfl rfl rfl ?_
            refine LCode.cond rfl (fun h => by cases h) (fun h => ?_)
            repeat first
              | refine LOps.nil ?_
              | refine LCode.region ?_
              | refine LCode.skip ?_
              | refine QThen.normal ?_
              | refine QBlock.normal ?_
              | refine LOps.pure (Pure.as (lv := .atom _) rfl) rfl ?_
              | refine LOps.pure (Pure.mv (lv := .atom _) rfl) rfl ?_
              | refine LOps.pure (Pure.add rfl rfl (by omega)) rfl ?_
            exact ⟨_, _, _, by omega, ⟨i + 1, out2, v2, ln, none, true, by omega, rfl, rfl, hacc2, by simp, hlen2, by omega, hE2⟩, ⟨rfl, rfl, rfl, rfl, rfl, int_eq (by omega), trivial⟩, HSub.refl _, d3⟩
  · have := of_decide_eq_false hc
    omega
theorem Words18_spec (s : List UInt8) (hs : s.length ≤ 1000000) : LCalls (KC B0 w0) 43 [str s] [] (Ret (.list ((wordsP s).map str))) := by
  have ht := words18_spec (B0 := B0) (w0 := w0) s hs
  have htl := wordsP_len s
  refine LCalls.intro Tryz.func43 rfl (n := 24) rfl rfl rfl ?_
  repeat first
    | refine LOps.nil ?_
    | refine LCode.seq ?_
    | refine LCode.region ?_
    | refine QThen.normal ?_
    | refine LOps.pure (Pure.as (lv := .atom _) rfl) rfl ?_
  refine LOps.step (S.litA [] rfl elemsOk.nil rfl rfl rfl fun b => ?_) rfl
  refine LOps.pure (Pure.as (lv := .app b 0 1 []) rfl) rfl ?_
  repeat first
    | refine LOps.nil ?_
    | refine LCode.seq ?_
    | refine LCode.region ?_
    | refine QThen.normal ?_
    | refine LOps.pure (Pure.mv (lv := .atom _) rfl) rfl ?_
  refine LOps.step (S.fnIf [_] rfl ht ?_) rfl
  rintro lv ⟨l, rfl, hl⟩
  rw [← hl, List.length_map] at htl
  rw [← hl]
  have hla : (l.map tokLV).length = l.length := List.length_map _
  repeat first
    | refine LOps.nil ?_
    | refine LCode.seq ?_
    | refine LCode.region ?_
    | refine LCode.block ?_
    | refine QThen.normal ?_
    | refine LOps.pure (Pure.as (lv := .list _) rfl) rfl ?_
    | refine LOps.pure (Pure.as (lv := .atom _) rfl) rfl ?_
  refine LCode.loopI (fun k ls H => ∃ (v : LV) (i : Nat), i ≤ l.length ∧ k = l.length - i ∧ ls = [(3, v), (4, .list (l.map tokLV)), (5, int .i64 (i : Nat))] ∧ Acc 1 v (((l.take i).map (·.1)).map str) H [])
    ⟨_, _, _, ⟨.app b 0 1 [], 0, Nat.zero_le _, rfl, rfl, Acc.row⟩, ⟨rfl, rfl, rfl, trivial⟩, HSub.refl _⟩ ?_
  rintro k ls H ⟨v, i, hi, rfl, rfl, hacc⟩ j hj
  repeat first
    | refine LOps.nil ?_
    | refine LCode.seq ?_
    | refine LCode.region ?_
    | refine QThen.normal ?_
    | refine LOps.pure (Pure.mv (lv := .atom _) rfl) rfl ?_
    | refine LOps.pure (Pure.mv (lv := .list _) rfl) rfl ?_
    | refine LOps.pure (Pure.llen rfl) rfl ?_
    | refine LOps.pure (Pure.lss rfl rfl) rfl ?_
  refine LCode.cond rfl (fun hc => ?_) (fun hc => ?_)
  · have hlt : i < l.length := by have := of_decide_eq_true hc; omega
    repeat first
      | refine LCode.seq ?_
      | refine LCode.region ?_
      | refine LCode.skip ?_
      | refine LCode.block ?_
      | refine QThen.normal ?_
    refine LOps.pure (Pure.mv (lv := v) rfl) rfl ?_
    repeat first
      | refine LOps.pure (Pure.mv (lv := .atom _) rfl) rfl ?_
      | refine LOps.pure (Pure.mv (lv := .list _) rfl) rfl ?_
    refine LOps.pure (Pure.ixRef (el' := tokLV l[i]) (cs := [_, _]) rfl rfl (by omega) (map_get _ _ _ hlt) rfl rfl) rfl ?_
    repeat first
      | refine LOps.pure (Pure.field1 rfl rfl) rfl ?_
      | refine LOps.pure (Pure.loadRef (c := .atom _) rfl rfl) rfl ?_
    refine LOps.step (S.lit [_] rfl (elemsOk.cons rfl rfl elemsOk.nil) rfl rfl rfl ?_) rfl
    refine LOps.step (S.acc rfl hacc rfl (by simp; rfl) rfl (by simp; omega) fun v' H' hacc' => ?_) rfl
    refine LOps.pure (Pure.as (lv := v') rfl) rfl ?_
    repeat first
      | refine LOps.nil ?_
      | refine LCode.region ?_
      | refine QThen.normal ?_
      | refine QBlock.normal ?_
      | refine LOps.pure (Pure.as (lv := .atom _) rfl) rfl ?_
      | refine LOps.pure (Pure.mv (lv := .atom _) rfl) rfl ?_
      | refine LOps.pure (Pure.add rfl rfl (by omega)) rfl ?_
    exact ⟨_, _, _, by omega, ⟨v', i + 1, by omega, rfl, rfl, by
      rw [List.take_succ_eq_append_getElem hlt, List.map_append, List.map_append]
      exact hacc'⟩, ⟨rfl, rfl, int_eq (by omega), trivial⟩, HSub.refl _, hj⟩
  · have hi' : i = l.length := by have := of_decide_eq_false hc; omega
    subst hi'
    rw [List.take_length] at hacc
    refine LCode.sub (d := 3) (v := v) rfl hacc.sub ?_
    refine LCode.weak (HSub.nil _) ?_
    repeat first
      | refine LOps.nil ?_
      | refine LCode.seq ?_
      | refine LCode.region ?_
      | refine LCode.ret ?_
      | refine LCode.exit ?_
      | refine QThen.normal ?_
      | refine QThen.exit ?_
      | refine QBlock.hit ?_
      | refine LOps.pure (Pure.as (lv := .list _) rfl) rfl ?_
      | refine LOps.pure (Pure.mv (lv := .list _) rfl) rfl ?_
    exact retRet hj (AllRes.cons (ResIs.tmp (v := .list _) rfl (LV.Sub.refl _)) AllRes.nil) rfl
end
end Go.Proofs.YtkjjenppmmipmaaGreatDoor
namespace Go.Proofs.YtkjjenppmmipmaaGreatDoor
open Go.GL Go.RowKit Go.Stele
set_option maxRecDepth 100000
set_option maxHeartbeats 4000000
attribute [local irreducible] LOps LCode LStep LCalls Go.GL.Pure QThen QBlock RetPost LQ LAny LLate LLateOp
section
variable {B0 : Nat} {w0 : World}
theorem optimize24_spec (s : List UInt8) (hs : s.length ≤ 1000000) : LCalls (KC B0 w0) 19 [str s] [] (Ret (.tuple [str (optimizeP s).1, int .i64 (optimizeP s).2])) := by
  refine LCalls.intro Tryz.func19 rfl (n := 38) rfl rfl rfl ?_
  repeat first
    | refine LOps.nil ?_
    | refine LCode.seq ?_
    | refine LCode.region ?_
    | refine QThen.normal ?_
    | refine LOps.pure (Pure.as (lv := .atom _) rfl) rfl ?_
    | refine LOps.pure (Pure.mv (lv := .atom _) rfl) rfl ?_
    | refine LOps.pure (Pure.slen rfl) rfl ?_
    | refine LOps.pure (Pure.gtr rfl rfl) rfl ?_
  refine LCode.cond rfl (fun h1 => ?_) (fun h1 => ?_)
  · have hlt : 400000 < s.length := by have := of_decide_eq_true h1; omega
    have hO : optimizeP s = ([], 6) := by unfold optimizeP; rw [if_pos hlt]
    repeat first
      | refine LOps.nil ?_
      | refine LCode.seq ?_
      | refine LCode.region ?_
      | refine LCode.ret ?_
      | refine QThen.normal ?_
      | refine QThen.ret ?_
      | refine LOps.pure (Pure.as (lv := .atom _) rfl) rfl ?_
    exact retRet rfl (AllRes.cons (ResIs.tmp (v := .atom _) rfl (LV.Sub.refl _)) (AllRes.cons (ResIs.tmp (v := .atom _) rfl (LV.Sub.refl _)) AllRes.nil)) (by rw [hO]; rfl)
  have hlt : ¬ 400000 < s.length := by have := of_decide_eq_false h1; omega
  have hO : optimizeP s = (Go.Lib.join (optP (wordsP s)) [32], 0) := by unfold optimizeP; rw [if_neg hlt]
  have ht := words_tot s
  repeat first
    | refine LCode.seq ?_
    | refine LCode.region ?_
    | refine LCode.skip ?_
    | refine QThen.normal ?_
    | refine LOps.pure (Pure.mv (lv := .atom _) rfl) rfl ?_
  refine LOps.step (S.fn [_] rfl (Words18_spec s hs) ?_) rfl
  repeat first
    | refine LOps.nil ?_
    | refine LCode.seq ?_
    | refine LCode.block ?_
    | refine QThen.normal ?_
    | refine LOps.pure (Pure.as (lv := .list _) rfl) rfl ?_
  refine LCode.loopI (fun k ls H => ∃ l : List Wd, k = l.length ∧ ls = [(4, .list (l.map str))] ∧ H = [] ∧ tot l ≤ 400001 ∧ optP (wordsP s) = optP l)
    ⟨_, _, _, ⟨_, rfl, rfl, rfl, by omega, rfl⟩, ⟨rfl, trivial⟩, HSub.refl _⟩ ?_
  rintro k ls H ⟨l, rfl, rfl, rfl, htl, hE⟩ j hj
  have h1 := once24_spec (B0 := B0) (w0 := w0) l (small_tot (by omega))
  have h2 := onceP_tot l
  have hor := onceP_or l
  have hln := tot_len l
  have hla : (l.map str).length = l.length := List.length_map _
  have hlo : ((onceP l).map str).length = (onceP l).length := List.length_map _
  repeat first
    | refine LCode.seq ?_
    | refine LCode.region ?_
    | refine LCode.block ?_
    | refine LOps.pure (Pure.mv (lv := .list _) rfl) rfl ?_
  refine LOps.step (S.fn [_] rfl h1 ?_) rfl
  repeat first
    | refine LOps.nil ?_
    | refine LCode.seq ?_
    | refine LCode.region ?_
    | refine QThen.normal ?_
    | refine LOps.pure (Pure.as (lv := .list _) rfl) rfl ?_
    | refine LOps.pure (Pure.mv (lv := .list _) rfl) rfl ?_
    | refine LOps.pure (Pure.llen rfl) rfl ?_
    | refine LOps.pure (Pure.eql rfl rfl) rfl ?_
  refine LCode.cond rfl (fun h3 => ?_) (fun h3 => ?_)
  · have he : onceP l = l := onceP_len_eq (by have := of_decide_eq_true h3; omega)
    rw [optP_eq he] at hE
    rw [hE] at hO
    repeat first
      | refine LOps.nil ?_
      | refine LCode.seq ?_
      | refine LCode.region ?_
      | refine LCode.exit ?_
      | refine LCode.block ?_
      | refine QThen.normal ?_
      | refine QThen.exit ?_
      | refine QBlock.hit ?_
      | refine QBlock.miss (by decide) ?_
      | refine LOps.pure (Pure.as (lv := .atom _) rfl) rfl ?_
    refine LCode.loopI (fun k ls H => ∃ i : Nat, i ≤ l.length ∧ k = l.length - i ∧ ls = [(4, .list (l.map str)), (6, str (Go.Lib.join (l.take i) [32])), (7, int .i64 (i : Nat))] ∧ H = [])
      ⟨_, _, _, ⟨0, Nat.zero_le _, rfl, rfl, rfl⟩, ⟨rfl, rfl, rfl, trivial⟩, HSub.refl _⟩ ?_
    rintro k ls H ⟨i, hi, rfl, rfl, rfl⟩ j2 hj2
    repeat first
      | refine LOps.nil ?_
      | refine LCode.seq ?_
      | refine LCode.region ?_
      | refine QThen.normal ?_
      | refine LOps.pure (Pure.mv (lv := .atom _) rfl) rfl ?_
      | refine LOps.pure (Pure.mv (lv := .list _) rfl) rfl ?_
      | refine LOps.pure (Pure.llen rfl) rfl ?_
      | refine LOps.pure (Pure.lss rfl rfl) rfl ?_
    refine LCode.cond rfl (fun hc => ?_) (fun hc => ?_)
    · have hlt : i < l.length := by have := of_decide_eq_true hc; omega
      have hju := join_upto hlt
      have hjl := join_tot (l.take i)
      have htt := tot_take l i
      have hwl := tot_mem (List.getElem_mem hlt)
      repeat first
        | refine LOps.nil ?_
        | refine LCode.seq ?_
        | refine LCode.region ?_
        | refine LCode.skip ?_
        | refine LCode.block ?_
        | refine QThen.normal ?_
        | refine LOps.pure (Pure.mv (lv := .atom _) rfl) rfl ?_
        | refine LOps.pure (Pure.gtr rfl rfl) rfl ?_
      refine LCode.cond rfl (fun h4 => ?_) (fun h4 => ?_)
      · have h0 : 0 < i := by have := of_decide_eq_true h4; omega
        rw [if_pos h0] at hju
        repeat first
          | refine LOps.nil ?_
          | refine LCode.region ?_
          | refine QThen.normal ?_
          | refine LOps.pure (Pure.as (lv := .atom _) rfl) rfl ?_
          | refine LOps.pure (Pure.mv (lv := .atom _) rfl) rfl ?_
          | refine LOps.pure (Pure.mv (lv := .list _) rfl) rfl ?_
          | refine LOps.pure (Pure.sadd rfl rfl (by first | omega | (simp only [List.length_append, List.length_cons, List.length_nil]; omega))) rfl ?_
        refine LOps.pure (Pure.ixRef (el' := str l[i]) (cs := [str l[i]]) rfl rfl (by omega) (map_get _ _ _ hlt) rfl rfl) rfl ?_
        repeat first
          | refine LOps.nil ?_
          | refine LCode.region ?_
          | refine QThen.normal ?_
          | refine QBlock.normal ?_
          | refine LOps.pure (Pure.as (lv := .atom _) rfl) rfl ?_
          | refine LOps.pure (Pure.mv (lv := .atom _) rfl) rfl ?_
          | refine LOps.pure (Pure.sadd rfl rfl (by first | omega | (simp only [List.length_append, List.length_cons, List.length_nil]; omega))) rfl ?_
          | refine LOps.pure (Pure.loadRef (c := .atom _) rfl rfl) rfl ?_
          | refine LOps.pure (Pure.add rfl rfl (by omega)) rfl ?_
        exact ⟨_, _, _, by omega, ⟨i + 1, by omega, rfl, rfl, rfl⟩, ⟨rfl, str_eq hju.symm, int_eq (by omega), trivial⟩, HSub.refl _, hj2⟩
      · have h0 : ¬ 0 < i := by have := of_decide_eq_false h4; omega
        rw [if_neg h0] at hju
        have h0' : i = 0 := by omega
        subst h0'
        repeat first
          | refine LCode.region ?_
          | refine LCode.skip ?_
          | refine QThen.normal ?_
          | refine LOps.pure (Pure.mv (lv := .atom _) rfl) rfl ?_
          | refine LOps.pure (Pure.mv (lv := .list _) rfl) rfl ?_
        refine LOps.pure (Pure.ixRef (el' := str l[0]) (cs := [str l[0]]) rfl rfl (by omega) (map_get _ _ _ hlt) rfl rfl) rfl ?_
        repeat first
          | refine LOps.nil ?_
          | refine LCode.region ?_
          | refine QThen.normal ?_
          | refine QBlock.normal ?_
          | refine LOps.pure (Pure.as (lv := .atom _) rfl) rfl ?_
          | refine LOps.pure (Pure.mv (lv := .atom _) rfl) rfl ?_
          | refine LOps.pure (Pure.sadd rfl rfl (by first | omega | (simp only [List.length_append, List.length_cons, List.length_nil]; omega))) rfl ?_
          | refine LOps.pure (Pure.loadRef (c := .atom _) rfl rfl) rfl ?_
          | refine LOps.pure (Pure.add rfl rfl (by omega)) rfl ?_
        exact ⟨_, _, _, by omega, ⟨0 + 1, by omega, rfl, rfl, rfl⟩, ⟨rfl, str_eq hju.symm, int_eq (by omega), trivial⟩, HSub.refl _, hj2⟩
    · have hi' : i = l.length := by have := of_decide_eq_false hc; omega
      subst hi'
      rw [List.take_length]
      repeat first
        | refine LOps.nil ?_
        | refine LCode.seq ?_
        | refine LCode.region ?_
        | refine LCode.ret ?_
        | refine LCode.exit ?_
        | refine QThen.normal ?_
        | refine QThen.exit ?_
        | refine QBlock.hit ?_
        | refine LOps.pure (Pure.as (lv := .atom _) rfl) rfl ?_
        | refine LOps.pure (Pure.mv (lv := .atom _) rfl) rfl ?_
      exact retRet (hj2.trans hj) (AllRes.cons (ResIs.tmp (v := .atom _) rfl (LV.Sub.refl _)) (AllRes.cons (ResIs.tmp (v := .atom _) rfl (LV.Sub.refl _)) AllRes.nil)) (by rw [hO]; rfl)
  · have hne : ¬ onceP l = l := fun h => of_decide_eq_false h3 (by rw [hla, hlo, h])
    rw [optP_step hne] at hE
    repeat first
      | refine LOps.nil ?_
      | refine LCode.region ?_
      | refine LCode.skip ?_
      | refine QThen.normal ?_
      | refine QBlock.normal ?_
      | refine LOps.pure (Pure.as (lv := .list _) rfl) rfl ?_
      | refine LOps.pure (Pure.mv (lv := .list _) rfl) rfl ?_
    exact ⟨_, _, _, by rcases hor with h | h; exact absurd h hne; exact h, ⟨onceP l, rfl, rfl, rfl, by omega, hE⟩, ⟨rfl, trivial⟩, HSub.refl _, hj⟩
theorem repeat_spec (c : UInt8) (k : Nat) (hk : k ≤ 1000000) : LCalls (KC B0 w0) 18 [str [c], int .i64 k] [] (Ret (str (List.replicate k c))) :=
  LCalls.ret_of (vs := [.string ⟨#[c]⟩, .int .i64 k]) fun w _ => (Tryz.strings_Repeat ⟨#[c]⟩ k w (by omega) (by show 1 * k ≤ _; omega)).mono fun e w' he => by
    obtain ⟨h1, h2⟩ := he
    refine ⟨?_, h2⟩
    rw [h1]
    have := Go.Lib.repeatL_replicate c 1 k
    simp only [List.replicate_one, Nat.mul_one] at this
    exact congrArg (fun l : List UInt8 => Ending.returned (.string ⟨l.toArray⟩)) this
theorem optimize_law (hG : GW B0 w0) (s : List UInt8) (long : Bool) : LCalls (KC B0 w0) 6 [str s, bool long] [] (Ret (bool true)) := by
  refine LCalls.intro Tryz.func6 rfl (n := 51) rfl rfl rfl ?_
  repeat first
    | refine LOps.nil ?_
    | refine LCode.seq ?_
    | refine LCode.region ?_
    | refine QThen.normal ?_
    | refine LOps.pure (Pure.as (lv := .atom _) rfl) rfl ?_
  refine LOps.step (S.fn [] rfl (alive_spec hG) ?_) rfl
  repeat first
    | refine LOps.nil ?_
    | refine QThen.normal ?_
    | refine LOps.pure (Pure.not rfl) rfl ?_
  refine LCode.cond rfl (fun h0 => ?_) (fun h0 => ?_)
  · cases h0
  repeat first
    | refine LOps.nil ?_
    | refine LCode.seq ?_
    | refine LCode.region ?_
    | refine LCode.skip ?_
    | refine QThen.normal ?_
    | refine LOps.pure (Pure.mv (lv := .atom _) rfl) rfl ?_
    | refine LOps.pure (Pure.slen rfl) rfl ?_
    | refine LOps.pure (Pure.gtr rfl rfl) rfl ?_
  refine LCode.cond rfl (fun h1 => ?_) (fun h1 => ?_)
  · repeat first
      | refine LOps.nil ?_
      | refine LCode.seq ?_
      | refine LCode.region ?_
      | refine LCode.ret ?_
      | refine QThen.normal ?_
      | refine QThen.ret ?_
      | refine LOps.pure (Pure.as (lv := .atom _) rfl) rfl ?_
    exact retRet rfl (AllRes.cons (ResIs.tmp (v := .atom _) rfl (LV.Sub.refl _)) AllRes.nil) rfl
  have hl : s.length ≤ 3000 := by have := of_decide_eq_false h1; omega
  repeat first
    | refine LOps.nil ?_
    | refine LCode.seq ?_
    | refine LCode.region ?_
    | refine LCode.skip ?_
    | refine QThen.normal ?_
    | refine LOps.pure (Pure.mv (lv := .atom _) rfl) rfl ?_
  refine LCode.cond rfl (fun h2 => ?_) (fun h2 => ?_)
  · have hr := repeat_spec (B0 := B0) (w0 := w0) 32 (400001 - s.length) (by omega)
    have e1 : int .i64 ((400001 : Int) - s.length) = int .i64 ((400001 - s.length : Nat) : Int) := int_eq (by omega)
    rw [← e1] at hr
    have hrl : (List.replicate (400001 - s.length) (32 : UInt8)).length = 400001 - s.length := List.length_replicate
    have hlen : (s ++ List.replicate (400001 - s.length) 32).length = 400001 := by rw [List.length_append, hrl]; omega
    have ho := optimize_spec hG (s ++ List.replicate (400001 - s.length) 32) (by omega)
    have hO : optimizeP (s ++ List.replicate (400001 - s.length) 32) = ([], 6) := by unfold optimizeP; rw [if_pos (by omega)]
    rw [hO] at ho
    repeat first
      | refine LCode.seq ?_
      | refine LCode.region ?_
      | refine LOps.pure (Pure.mv (lv := .atom _) rfl) rfl ?_
      | refine LOps.pure (Pure.slen rfl) rfl ?_
      | refine LOps.pure (Pure.sub rfl rfl (by omega)) rfl ?_
    refine LOps.step (S.fn [_, _] rfl hr ?_) rfl
    repeat first
      | refine LOps.pure (Pure.sadd rfl rfl (by first | omega | (simp only [List.length_append, List.length_cons, List.length_nil]; omega))) rfl ?_
    refine LOps.step (S.fn [_] rfl ho ?_) rfl
    repeat first
      | refine LOps.nil ?_
      | refine LCode.seq ?_
      | refine LCode.region ?_
      | refine LCode.ret ?_
      | refine QThen.normal ?_
      | refine QThen.ret ?_
      | refine LOps.pure (Pure.as (lv := .atom _) rfl) rfl ?_
      | refine LOps.pure (Pure.mv (lv := .atom _) rfl) rfl ?_
      | refine LOps.pure (Pure.mv (lv := .tuple _) rfl) rfl ?_
      | refine LOps.pure (Pure.extract (c := .atom _) rfl rfl) rfl ?_
      | refine LOps.pure (Pure.seq rfl rfl) rfl ?_
      | refine LOps.pure (Pure.eql rfl rfl) rfl ?_
      | refine LOps.pure (Pure.pickT (lv := .atom _) rfl rfl) rfl ?_
      | refine LOps.want rfl rfl ?_
    exact retRet rfl (AllRes.cons (ResIs.tmp (v := .atom _) rfl (LV.Sub.refl _)) AllRes.nil) rfl
  · have o1 := optimize_spec hG s (by omega)
    have o2 := optimize24_spec (B0 := B0) (w0 := w0) s (by omega)
    repeat first
      | refine LCode.seq ?_
      | refine LCode.region ?_
      | refine LCode.skip ?_
      | refine QThen.normal ?_
      | refine LOps.pure (Pure.mv (lv := .atom _) rfl) rfl ?_
    refine LOps.step (S.fn [_] rfl o1 ?_) rfl
    repeat first
      | refine LOps.nil ?_
      | refine LCode.seq ?_
      | refine LCode.region ?_
      | refine QThen.normal ?_
      | refine LOps.pure (Pure.as (lv := .atom _) rfl) rfl ?_
      | refine LOps.pure (Pure.mv (lv := .atom _) rfl) rfl ?_
      | refine LOps.pure (Pure.mv (lv := .tuple _) rfl) rfl ?_
      | refine LOps.pure (Pure.extract (c := .atom _) rfl rfl) rfl ?_
    refine LOps.step (S.fn [_] rfl o2 ?_) rfl
    repeat first
      | refine LOps.nil ?_
      | refine LCode.seq ?_
      | refine LCode.region ?_
      | refine QThen.normal ?_
      | refine LOps.pure (Pure.as (lv := .atom _) rfl) rfl ?_
      | refine LOps.pure (Pure.mv (lv := .atom _) rfl) rfl ?_
      | refine LOps.pure (Pure.mv (lv := .tuple _) rfl) rfl ?_
      | refine LOps.pure (Pure.extract (c := .atom _) rfl rfl) rfl ?_
      | refine LOps.pure (Pure.seq rfl rfl) rfl ?_
    refine LOps.bcase 46 rfl (fun h3 => ?_) (fun h3 => absurd h3 (by simp))
    repeat first
      | refine LOps.nil ?_
      | refine LCode.ret ?_
      | refine QThen.normal ?_
      | refine LOps.pure (Pure.as (lv := .atom _) rfl) rfl ?_
      | refine LOps.pure (Pure.mv (lv := .atom _) rfl) rfl ?_
      | refine LOps.pure (Pure.eql rfl rfl) rfl ?_
      | refine LOps.pure (Pure.pickT (lv := .atom _) rfl rfl) rfl ?_
      | refine LOps.want rfl rfl ?_
    exact retRet rfl (AllRes.cons (ResIs.tmp (v := .atom _) rfl (LV.Sub.refl _)) AllRes.nil) (bool_eq (by simp))
end
end Go.Proofs.YtkjjenppmmipmaaGreatDoor
namespace Go.Proofs.YtkjjenppmmipmaaGreatDoor
open Go.ChangeShapes Go.WideShapes Go.ChangeAt Go.RowKit
set_option maxRecDepth 100000
theorem own : ownKnob Tryz.prog.godebug = none := by kernel_rfl
/-- The variables that every row lists. -/
def lst : List (String × DataW Unit) := [("math/bits.deBruijn32tab", Rows.laid_math_bits_deBruijn32tab), ("math/bits.deBruijn64tab", Rows.laid_math_bits_deBruijn64tab), ("internal/strconv.uint64pow10", Rows.laid_internal_strconv_uint64pow10), ("unicode/utf8.acceptRanges", Rows.laid_unicode_utf8_acceptRanges), ("strconv.ErrRange", Rows.laid_strconv_ErrRange), ("strconv.ErrSyntax", Rows.laid_strconv_ErrSyntax), ("unicode/utf8.first", Rows.laid_unicode_utf8_first)]
/-- A variable's cells: numbers. -/
def NumCells (W : World) (g : Nat) (t : TypeId) (n : Nat) (ts : List TypeId) : Prop := ∃ cs, W.heap[g]? = some (.cells cs t) ∧ cs.size = n ∧ ∀ i v, cs[i]? = some v → ∃ u k n, ts[i % ts.length]? = some u ∧ Tryz.prog.underlying u = some (.int k) ∧ v = .int k n
theorem num_cells {W : World} (hs : W.ShapedOpen Tryz.prog) (g : Nat) (t : TypeId) (n : Nat) (ts : List TypeId) (hg : decide (g < Tryz.prog.globals.size) = true) (h0 : (((begin Tryz.prog (fun _ _ => 0) default).world.heap[g]?).bind Obj.row?).map (fun r => (r.1.size, r.2)) = some (n, t)) (hb : Tryz.prog.buildable t = true) (hc : Tryz.prog.cellTypes Tryz.prog.depth t = some ts)
    (hall : (ts.all fun u => match Tryz.prog.underlying u with | some (.int _) => true | _ => false) = true) : NumCells W g t n ts := by
  obtain ⟨⟨zero, t'⟩, h0', h1⟩ := Option.map_eq_some_iff.1 h0
  simp only [Prod.mk.injEq] at h1
  obtain ⟨rfl, rfl⟩ := h1
  obtain ⟨cs, h1, h2, h3⟩ := hs.1 g zero _ (of_decide_eq_true hg) h0'
  obtain ⟨ts', e1, e2, e3⟩ := h3 hb
  obtain rfl := Option.some.inj (hc.symm.trans e1)
  refine ⟨cs, h1, h2, fun i v hv => ?_⟩
  obtain ⟨u, hu, hok⟩ := e3 i v hv
  have := List.all_eq_true.1 hall u (List.mem_of_getElem? hu)
  unfold Cell.ok at hok
  split at this
  · rename_i k hk
    rw [hk] at hok
    cases v <;> simp only at hok
    rename_i k' n
    exact ⟨u, k, n, hu, hk, by rw [hok.1]⟩
  · cases this
theorem cells0 {W : World} (hs : W.ShapedOpen Tryz.prog) : NumCells W 0 3 1 [3] := num_cells hs 0 3 1 [3] (by kernel_rfl) (by kernel_rfl) (by kernel_rfl) (by kernel_rfl) (by kernel_rfl)
theorem cells1 {W : World} (hs : W.ShapedOpen Tryz.prog) : NumCells W 1 158 20 (List.replicate 20 82) := num_cells hs 1 158 20 (List.replicate 20 82) (by kernel_rfl) (by kernel_rfl) (by kernel_rfl) (by kernel_rfl) (by kernel_rfl)
theorem cells4 {W : World} (hs : W.ShapedOpen Tryz.prog) : NumCells W 4 180 32 (List.replicate 32 5) := num_cells hs 4 180 32 (List.replicate 32 5) (by kernel_rfl) (by kernel_rfl) (by kernel_rfl) (by kernel_rfl) (by kernel_rfl)
theorem cells5 {W : World} (hs : W.ShapedOpen Tryz.prog) : NumCells W 5 181 64 (List.replicate 64 5) := num_cells hs 5 181 64 (List.replicate 64 5) (by kernel_rfl) (by kernel_rfl) (by kernel_rfl) (by kernel_rfl) (by kernel_rfl)
theorem cells6 {W : World} (hs : W.ShapedOpen Tryz.prog) : NumCells W 6 182 256 (List.replicate 256 5) := num_cells hs 6 182 256 (List.replicate 256 5) (by kernel_rfl) (by kernel_rfl) (by kernel_rfl) (by kernel_rfl) (by kernel_rfl)
theorem cells7 {W : World} (hs : W.ShapedOpen Tryz.prog) : NumCells W 7 185 32 (List.replicate 32 5) := num_cells hs 7 185 32 (List.replicate 32 5) (by kernel_rfl) (by kernel_rfl) (by kernel_rfl) (by kernel_rfl) (by kernel_rfl)
theorem gw_of {W : World} (h : laidMetH Tryz.prog lst W) (hs : W.ShapedOpen Tryz.prog) : GW 8 W := by
  have h0 : laidMet Tryz.prog lst W := h
  have hp : laidMet Tryz.prog [("internal/strconv.uint64pow10", Rows.laid_internal_strconv_uint64pow10)] W := h0.filter (fun x => x.1 == "internal/strconv.uint64pow10")
  have he : laidMet Tryz.prog [("strconv.ErrRange", Rows.laid_strconv_ErrRange)] W := h0.filter (fun x => x.1 == "strconv.ErrRange")
  have hy : laidMet Tryz.prog [("strconv.ErrSyntax", Rows.laid_strconv_ErrSyntax)] W := h0.filter (fun x => x.1 == "strconv.ErrSyntax")
  refine ⟨?_, ?_, ?_, ?_, Nat.le_refl _⟩
  · exact Lib.tabIs_of_head (g := 1) (t := 158) (e := 82) (n := 20) (rest := []) (by kernel_rfl) (by kernel_rfl) (by kernel_rfl) (by kernel_rfl) (by kernel_rfl) (by kernel_rfl) hp
  · obtain ⟨ps, ⟨g, t, cs, fuel, p, q, hg, ht, hvar, hd, _, _⟩, _⟩ := he
    have hg' : Tryz.prog.globalNamed "strconv.ErrRange" = some 3 := by kernel_rfl
    obtain rfl := Option.some.inj (hg'.symm.trans hg)
    have ht' : (Tryz.prog.globals[3]?).map (·.type) = some 61 := by kernel_rfl
    obtain rfl := Option.some.inj (ht'.symm.trans ht)
    obtain ⟨ms, hms⟩ : ∃ ms, Tryz.prog.underlying 61 = some (.interface ms) := (inferInstance : Go.GL.TIface Tryz.prog 61).und
    obtain ⟨_, u, v, hcs, _, _⟩ := iface_of_trod hms hd
    refine ⟨u, v, ?_⟩
    rw [hvar]
    congr 1
    exact Array.ext' (by simpa using hcs)
  · obtain ⟨ps, ⟨g, t, cs, fuel, p, q, hg, ht, hvar, hd, _, _⟩, _⟩ := hy
    have hg' : Tryz.prog.globalNamed "strconv.ErrSyntax" = some 2 := by kernel_rfl
    obtain rfl := Option.some.inj (hg'.symm.trans hg)
    have ht' : (Tryz.prog.globals[2]?).map (·.type) = some 61 := by kernel_rfl
    obtain rfl := Option.some.inj (ht'.symm.trans ht)
    obtain ⟨ms, hms⟩ : ∃ ms, Tryz.prog.underlying 61 = some (.interface ms) := (inferInstance : Go.GL.TIface Tryz.prog 61).und
    obtain ⟨_, u, v, hcs, _, _⟩ := iface_of_trod hms hd
    refine ⟨u, v, ?_⟩
    rw [hvar]
    congr 1
    exact Array.ext' (by simpa using hcs)
  · obtain ⟨cs, h1, h2, h3⟩ := cells0 hs
    have h4 : 0 < cs.size := by omega
    obtain ⟨u, k, n, e1, e2, e3⟩ := h3 0 cs[0] (by simp [h4])
    have e4 : u = 3 := by simpa using e1.symm
    subst e4
    have e5 : Tryz.prog.underlying 3 = some (.int .i64) := Tryz.underlying3
    rw [e5] at e2
    cases e2
    exact ⟨n, by simp [World.cell?, h1, h4, e3]⟩
/-- The heap reaches beyond the variables. -/
theorem heap_eight {W : World} (hs : W.ShapedOpen Tryz.prog) : 8 ≤ W.heap.size := by
  obtain ⟨cs, h1, _⟩ := cells7 hs
  have := (Array.getElem?_eq_some_iff.1 h1).1
  omega
theorem num_not {W : World} {g : Nat} {t : TypeId} {m : Nat} {ts : List TypeId} (h : NumCells W g t m ts) {i : Nat} {s : ByteArray} (hc : W.cell? ⟨g, i, none⟩ = some (.string s)) : False := by
  obtain ⟨cs, h1, _, h3⟩ := h
  simp only [World.cell?, h1, Option.isSome_none, Bool.false_eq_true, if_false] at hc
  obtain ⟨u, k, n, _, _, h4⟩ := h3 i _ hc
  cases h4
theorem iface_not {W : World} {g : Nat} {name : String} {tp : TypeId} {p : Value} (hg : Tryz.prog.globalNamed name = some g) (h : W.var? Tryz.prog name = some #[.iface tp p]) {i : Nat} {s : ByteArray} (hc : W.cell? ⟨g, i, none⟩ = some (.string s)) : False := by
  unfold World.var? at h
  rw [hg, Option.bind_some] at h
  simp only [World.cell?] at hc
  split at h
  · rename_i cs t fr hh
    rw [hh] at hc
    cases h
    simp only [Option.isSome_none, Bool.false_eq_true, if_false] at hc
    cases i with
    | zero => simp at hc
    | succ i => simp at hc
  · cases h
/-- No variable holds a string. -/
theorem no_string {W : World} (hG : GW 8 W) (hs : W.ShapedOpen Tryz.prog) {b i : Nat} {s : ByteArray} (h : W.cell? ⟨b, i, none⟩ = some (.string s)) : 8 ≤ b := by
  rcases Nat.lt_or_ge b 8 with hb | hb
  · exfalso
    have h8 : b = 0 ∨ b = 1 ∨ b = 2 ∨ b = 3 ∨ b = 4 ∨ b = 5 ∨ b = 6 ∨ b = 7 := by omega
    rcases h8 with rfl | rfl | rfl | rfl | rfl | rfl | rfl | rfl
    · exact num_not (cells0 hs) h
    · exact num_not (cells1 hs) h
    · obtain ⟨tp, p, hv⟩ := hG.errSyntax
      exact iface_not (by kernel_rfl) hv h
    · obtain ⟨tp, p, hv⟩ := hG.errRange
      exact iface_not (by kernel_rfl) hv h
    · exact num_not (cells4 hs) h
    · exact num_not (cells5 hs) h
    · exact num_not (cells6 hs) h
    · exact num_not (cells7 hs) h
  · exact hb
theorem post_of_below {H : Type} {enc : TypeId × Value → H} {P : Program} {f : Func} {s : ChangeSpec} {apart fresh handsOn again : Bool} {W W' : World} {args : Array Value} {v : Value} {ds gs : List (DataW H)} {before pa pv : List MemPlace}
    (hW : DataW.Whole enc P f.params.toList s.vars apart W args.toList ds gs before)
    (hres : ∀ (b : Nat) (sp : Nat → Bool) (hd : Bool), DataW.TrodAll enc P W' b sp hd f.resultTypes.toList (v.resultList f.resultTypes.size) (s.fn H (ds ++ gs)).results [])
    (hargs : ∀ sp : Nat → Bool, (∀ p ∈ before, sp p.block = true) → DataW.TrodAll enc P W' 0 sp true f.params.toList args.toList (s.fn H (ds ++ gs)).args pa)
    (hvars : ∀ sp : Nat → Bool, (∀ p ∈ before, sp p.block = true) → DataW.TrodVars enc P W' sp s.vars (s.fn H (ds ++ gs)).vars pv)
    (hps : before = pa ++ pv) (hb : Below W.heap.size W W')
    (hok : ∀ (j : Nat) (t : TypeId) (r : Value), f.resultTypes[j]? = some t → (v.resultList f.resultTypes.size)[j]? = some r → Value.okWide P W' .any 0 t r) :
    s.post enc P f apart fresh handsOn again W args v W' := by
  have hold : ∀ p ∈ before, (fun b => decide (b < W.heap.size)) p.block = true := fun p hp => by simpa using hW.lt p hp
  have hlt := hW.lt
  refine ⟨ds, gs, before, [], pa, pv, hW, hres _ _ _, hargs _ hold, hvars _ hold, World.keptBut_mono (fun p hp => ⟨hp, ?_⟩) (hb.frame (· ∈ before)), fun _ => ?_⟩
  · rw [hps, List.mem_append] at hp
    exact Or.inr hp
  · obtain ⟨_, _, _, _, _, hz, hn⟩ := hW
    refine ⟨hok, _, _, ([] ++ pa) ++ pv, ⟨[] ++ pa, pv, trodAll_append (hargs _ (fun _ _ => rfl)) (hres _ _ _), hvars _ (fun _ _ => rfl), rfl, ?_, ?_⟩, ?_⟩
    · intro b off hp
      have hp' : MemPlace.cell b off ∈ before := by rw [hps]; simpa using hp
      rw [hb.frozen (p := ⟨b, off, none⟩) (hlt _ hp')]
      exact hz b off hp'
    · intro ha
      have := hn ha
      rw [hps] at this
      simpa using this
    · intro p hp _
      rw [hps]
      simpa using hp
noncomputable def low : Nat := (World.holding Tryz.prog default ⟨#[], #[], []⟩).heap.size
/-- A world that meets the condition: the settled one, each listed variable's cells laid. -/
noncomputable def laidWorld (os : Os) : World :=
  let w0 := World.holding Tryz.prog os ⟨#[.cells #[.string ⟨#[118, 97, 108, 117, 101, 32, 111, 117, 116, 32, 111, 102, 32, 114, 97, 110, 103, 101]⟩] 189, .cells #[.string ⟨#[105, 110, 118, 97, 108, 105, 100, 32, 115, 121, 110, 116, 97, 120]⟩] 189], #[], []⟩
  let put (h : Array Obj) (g : Nat) (cs : Array Value) : Array Obj := h.modify g fun
    | .cells _ t frozen => .cells cs t frozen
    | o => o
  { w0 with heap := put (put (put (put (put (put (put w0.heap 4 #[.int .u8 0, .int .u8 1, .int .u8 28, .int .u8 2, .int .u8 29, .int .u8 14, .int .u8 24, .int .u8 3, .int .u8 30, .int .u8 22, .int .u8 20, .int .u8 15, .int .u8 25, .int .u8 17, .int .u8 4, .int .u8 8, .int .u8 31, .int .u8 27, .int .u8 13, .int .u8 23, .int .u8 21, .int .u8 19, .int .u8 16, .int .u8 7, .int .u8 26, .int .u8 12, .int .u8 18, .int .u8 6, .int .u8 11, .int .u8 5, .int .u8 10, .int .u8 9]) 5 #[.int .u8 0, .int .u8 1, .int .u8 56, .int .u8 2, .int .u8 57, .int .u8 49, .int .u8 28, .int .u8 3, .int .u8 61, .int .u8 58, .int .u8 42, .int .u8 50, .int .u8 38, .int .u8 29, .int .u8 17, .int .u8 4, .int .u8 62, .int .u8 47, .int .u8 59, .int .u8 36, .int .u8 45, .int .u8 43, .int .u8 51, .int .u8 22, .int .u8 53, .int .u8 39, .int .u8 33, .int .u8 30, .int .u8 24, .int .u8 18, .int .u8 12, .int .u8 5, .int .u8 63, .int .u8 55, .int .u8 48, .int .u8 27, .int .u8 60, .int .u8 41, .int .u8 37, .int .u8 16, .int .u8 46, .int .u8 35, .int .u8 44, .int .u8 21, .int .u8 52, .int .u8 32, .int .u8 23, .int .u8 11, .int .u8 54, .int .u8 26, .int .u8 40, .int .u8 15, .int .u8 34, .int .u8 20, .int .u8 31, .int .u8 10, .int .u8 25, .int .u8 14, .int .u8 19, .int .u8 9, .int .u8 13, .int .u8 8, .int .u8 7, .int .u8 6]) 1 #[.int .u64 1, .int .u64 10, .int .u64 100, .int .u64 1000, .int .u64 10000, .int .u64 100000, .int .u64 1000000, .int .u64 10000000, .int .u64 100000000, .int .u64 1000000000, .int .u64 10000000000, .int .u64 100000000000, .int .u64 1000000000000, .int .u64 10000000000000, .int .u64 100000000000000, .int .u64 1000000000000000, .int .u64 10000000000000000, .int .u64 100000000000000000, .int .u64 1000000000000000000, .int .u64 10000000000000000000]) 7 #[.int .u8 128, .int .u8 191, .int .u8 160, .int .u8 191, .int .u8 128, .int .u8 159, .int .u8 144, .int .u8 191, .int .u8 128, .int .u8 143, .int .u8 0, .int .u8 0, .int .u8 0, .int .u8 0, .int .u8 0, .int .u8 0, .int .u8 0, .int .u8 0, .int .u8 0, .int .u8 0, .int .u8 0, .int .u8 0, .int .u8 0, .int .u8 0, .int .u8 0, .int .u8 0, .int .u8 0, .int .u8 0, .int .u8 0, .int .u8 0, .int .u8 0, .int .u8 0]) 6 (Go.Pinned.utf8FirstZ.map fun n : Nat => Value.int .u8 (n : Int)).toArray) 3 #[.iface 187 (.pointer (some ⟨low, 0, none⟩))]) 2 #[.iface 187 (.pointer (some ⟨low + 1, 0, none⟩))] }
theorem laid_met (os : Os) (args : Array Value) : laidMet Tryz.prog lst ((laidWorld os).forCall (fun _ _ => 0) ⟨#[], args, []⟩).memory :=
  laidMet_of_run' 8 (by kernel_rfl) (by kernel_rfl)
end Go.Proofs.YtkjjenppmmipmaaGreatDoor
namespace Go.Proofs.YtkjjenppmmipmaaGreatDoor
open Go.ChangeShapes Go.WideShapes Go.ChangeAt Go.RowKit
set_option maxRecDepth 100000
theorem laidOut : laidOutB Tryz.prog = true := by kernel_rfl
theorem rows_of {W : World} {L : Go.GL.Live} {b : Nat} : ∀ (l : List (List UInt8)) (off : Nat), (∀ i (h : i < l.length), off + i < L b ∧ W.cell? ⟨b, off + i, none⟩ = some (.string ⟨l[i].toArray⟩)) → Go.GL.RepRows W L b 1 off (l.map Go.GL.str)
  | [], off, h => by simp [Go.GL.RepRows]
  | s :: l, off, h => by
    have h0 := h 0 (by simp)
    simp only [List.map_cons, Go.GL.str, Go.GL.RepRows]
    refine ⟨⟨trivial, h0.1, _, h0.2, rfl⟩, ?_⟩
    refine rows_of l (off + 1) fun i hi => ?_
    have := h (i + 1) (by simpa using hi)
    rw [show off + (i + 1) = off + 1 + i by omega] at this
    simpa using this
theorem relH_of {W : World} {L : Go.GL.Live} (hs : W.ShapedOpen Tryz.prog) (h1 : ∀ b, b < 8 → L b = 0) (h2 : ∀ b, W.heap.size ≤ b → L b = 0) : Go.GL.RelH (KC 8 W) W L [] :=
  ⟨Below.refl _ _, h1, heap_eight hs, h2, List.nodup_nil, by simp⟩
theorem open_words {H : Type} {enc : TypeId × Value → H} {W : World} {v : Value} {d : DataW H} {ps : List MemPlace} {base : Nat} (hG : GW 8 W) (hs : W.ShapedOpen Tryz.prog) (hval : Value.okWide Tryz.prog W .any base 22 v) (hd : DataW.Trod enc Tryz.prog W 0 (fun _ => true) true 22 v d ps) :
    ∃ (l : List (List UInt8)) (L : Go.GL.Live), Go.GL.RepL W L [.list (l.map Go.GL.str)] [v] ∧ Go.GL.RelH (KC 8 W) W L [] := by
  have ht : Tryz.prog.underlying 22 = some (.slice 9) := by kernel_rfl
  have he : Tryz.prog.underlying 9 = some .string := by kernel_rfl
  have hc : Tryz.prog.cellsOf 9 = 1 := by kernel_rfl
  obtain ⟨a0, len0, cap0, rfl⟩ := okWide_slice ht hval
  obtain ⟨fuel, hf⟩ := hd
  have nilcase : ∀ cap, Go.GL.RepL W (fun _ => 0) [.list (([] : List (List UInt8)).map Go.GL.str)] [.slice a0 0 cap] := fun cap => by
    simp only [Go.GL.RepL, Go.GL.Rep, List.map_nil]
    exact ⟨_, _, rfl, ⟨a0, cap, rfl, Nat.zero_le _, fun h => absurd rfl h⟩, rfl⟩
  rcases open_strings ht he hc hf with ⟨hcs, hx⟩ | ⟨a, len, cap, ss, hcs, _, hl, hm, hz, hx, hcell, hsz⟩
  · have e0 : Value.slice a0 len0 cap0 = .slice none 0 0 := by
      have : [Value.slice a0 len0 cap0] = [.slice none 0 0] := hcs
      exact List.head_eq_of_cons_eq this
    injection e0 with e1 e2 e3
    subst e2
    exact ⟨[], fun _ => 0, nilcase _, relH_of hs (fun _ _ => rfl) (fun _ _ => rfl)⟩
  · have e0 : Value.slice a0 len0 cap0 = .slice (some a) len cap := by
      have : [Value.slice a0 len0 cap0] = [.slice (some a) len cap] := hcs
      exact List.head_eq_of_cons_eq this
    injection e0 with e1 e2 e3
    subst e1 e2 e3
    rw [if_pos rfl] at hz
    by_cases h0 : len0 = 0
    · subst h0
      exact ⟨[], fun _ => 0, nilcase _, relH_of hs (fun _ _ => rfl) (fun _ _ => rfl)⟩
    · have hsp : a.spot = none := by
        unfold Value.okWide at hval
        rw [ht] at hval
        simp only [Cell.okWide, ht, Cell.ok] at hval
        exact hval.2.2.2.1
      obtain ⟨b, off, sp⟩ := a
      simp only at hsp
      subst hsp
      have hcell' : ∀ i (h : i < ss.length), W.cell? ⟨b, off + i, none⟩ = some (.string ss[i]) := fun i hi => by
        have := hcell i hi
        rw [List.getD_eq_getElem?_getD, List.getElem?_eq_getElem hi] at this
        unfold Addr.add at this
        split at this
        · rename_i h
          subst h
          exact this
        · exact this
      have h8 := no_string hG hs (hcell' 0 (by omega))
      have hlt := World.block_lt_of_cell? _ _ (hcell' 0 (by omega))
      have hll : ((ss.take len0).map fun s => s.data.toList).length = len0 := by rw [List.length_map, List.length_take]; omega
      refine ⟨(ss.take len0).map fun s => s.data.toList, fun x => if x = b then off + len0 else 0, ?_, relH_of hs (fun x hx => if_neg (by omega)) (fun x hx => if_neg (by simp only at hlt; omega))⟩
      simp only [Go.GL.RepL, Go.GL.Rep]
      refine ⟨_, _, rfl, ⟨some ⟨b, off, none⟩, cap0, by rw [List.length_map, hll], by rw [List.length_map, hll]; exact hl, fun _ => ⟨b, off, 1, rfl, rows_of _ _ fun i hi => ?_⟩⟩, rfl⟩
      have hi' : i < len0 := by rw [hll] at hi; exact hi
      refine ⟨by simp only [if_true]; omega, ?_⟩
      rw [hcell' i (by omega)]
      simp
/-- The law's own call, in the words of the walk. -/
theorem lift_at {f : FuncId} {args : List Go.GL.LV} {vs : List Value} {W : World} {L : Go.GL.Live} (h : Go.GL.LCalls (KC 8 W) f args [] (Go.GL.Ret (Go.GL.bool true))) (hr : Go.GL.RepL W L args vs) (hR : Go.GL.RelH (KC 8 W) W L []) : Calls Tryz.prog f vs.toArray W fun e W' => e = .returned (.bool true) ∧ Below W.heap.size W W' := by
  refine (h vs W L hr hR).mono ?_
  intro e W' he
  cases e with
  | returned v =>
    obtain ⟨lv, H', L', h1, h2, h3, h4, _⟩ := he
    injection h4 with h4
    subst h4
    simp only [Go.GL.Rep] at h3
    subst h3
    exact ⟨rfl, h1.os, h1.tape, h1.output, h1.ext.size, fun k hk => h1.block k hk (by simp [Go.GL.keys])⟩
  | panicked ch =>
    obtain ⟨H', L', h1, h2, h3, _⟩ := he
    cases h3
  | outgrown => exact he.elim
theorem stay_words {H : Type} {enc : TypeId × Value → H} {W W' : World} {v : Value} {d : DataW H} {ps : List MemPlace} {sp : Nat → Bool} (hd : DataW.Trod enc Tryz.prog W 0 (fun _ => true) true 22 v d ps) (hb : Below W.heap.size W W') (hlt : ∀ x ∈ ps, x.block < W.heap.size) (hsp : ∀ p ∈ ps, sp p.block = true) : DataW.Trod enc Tryz.prog W' 0 sp true 22 v d ps :=
  WideElems.Trod_stays laidOut (by kernel_rfl) (of_decide_eq_true (by kernel_rfl)) hd (fun x hx => hb.same (hlt x hx)) hsp
end Go.Proofs.YtkjjenppmmipmaaGreatDoor
namespace Go.Proofs.YtkjjenppmmipmaaGreatDoor.fnOpt
open Go.ChangeShapes Go.WideShapes Go.ChangeAt Go.RowKit Go.ChangeMaps
set_option maxRecDepth 100000
theorem contract (H : Type) (enc : TypeId × Value → H) (W : World) (base : Nat) (args : Array Value) (ds gs : List (DataW H)) (before : List MemPlace)
    (hval : ∀ (j : Nat) t v, Tryz.f6.params[j]? = some t → args[j]? = some v → Value.okWide Tryz.prog W .any base t v)
    (hW : DataW.Whole enc Tryz.prog Tryz.f6.params.toList Rows.peepholeOptimizeSpec.vars false W args.toList ds gs before) (hL : laidMetH Tryz.prog Rows.peepholeOptimizeRow.laid W) (hS : W.ShapedOpen Tryz.prog) :
    Calls Tryz.prog 6 args W fun e W' => ∃ v, e = .returned v ∧ Rows.peepholeOptimizeSpec.post enc Tryz.prog Tryz.f6 false true false false W args v W' := by
  have hW' := hW
  obtain ⟨p, q, hA0, hV, rfl, hfz, hnd⟩ := hW
  have hA : DataW.TrodAll enc Tryz.prog W 0 (fun _ => true) true Tryz.f6.params.toList args.toList ds p := hA0
  rw [Tryz.params6] at hA hval
  obtain ⟨v0, vs0, d0, ds0, p0, q0, hargs, rfl, rfl, h0, r0⟩ := trodAll_cons hA
  obtain ⟨v1, vs1, d1, ds1, p1, q1, rfl, rfl, rfl, h1, r1⟩ := trodAll_cons r0
  obtain ⟨rfl, rfl, rfl⟩ := trodAll_nil r1
  obtain rfl : args = #[v0, v1] := by cases args; simp_all
  obtain ⟨rfl, rfl⟩ := trodVars_none hV
  obtain ⟨a, rfl, rfl, rfl, wa⟩ := open_string Tryz.underlying9 (hval 0 9 v0 rfl rfl) h0
  obtain ⟨b, rfl, rfl, rfl⟩ := open_bool Tryz.underlying4 (hval 1 4 v1 rfl rfl) h1
  clear hA0
  simp only [List.append_nil] at hW'
  have ha : (⟨a.data.toList.toArray⟩ : ByteArray) = a := by simp
  have hs := optimize_law (gw_of hL hS) a.data.toList b
  unfold Go.GL.str at hs
  rw [ha] at hs
  refine (lift_at (vs := [.string a, .bool b]) hs (Go.GL.repL_atoms (w := W) (L := fun _ => 0) [.string a, .bool b]) (relH_of hS (fun _ _ => rfl) (fun _ _ => rfl))).mono fun e W' ⟨he, hg⟩ => ?_
  subst he
  exact ⟨_, rfl, post_of_below (pa := []) (pv := []) hW' (fun _ _ _ => trodAll_cons_mk (shut_bool Tryz.underlying4 _) trodAll_mk0) (fun _ _ => trodAll_cons_mk (shut_string Tryz.underlying9 wa) (trodAll_cons_mk (shut_bool Tryz.underlying4 _) trodAll_mk0)) (fun _ _ => rfl) rfl
    hg (ok_one (by kernel_rfl) rfl (okWide_bool_mk Tryz.underlying4 _))⟩
theorem reads (os : Os) {H : Type} (enc : TypeId × Value → H) : ∃ places, DataW.whole enc Tryz.prog ((laidWorld os).forCall (fun _ _ => 0) ⟨#[], #[.string ⟨#[]⟩, .bool false], []⟩).memory Tryz.f6.params.toList Rows.peepholeOptimizeSpec.vars false #[Value.string ⟨#[]⟩, Value.bool false].toList 8 = some ([.lit (.string []), .lit (.bool false)], [], places) :=
  ⟨[], by kernel_rfl⟩
theorem lifted (os : Os) (started : os.Started) (H : Type) (enc : TypeId × Value → H) (F : Stop.Interp) :
    ReturnsInHanded {} Tryz.checked os 6 .any ((OpenSpec.ofChange Rows.peepholeOptimizeSpec).preRow enc Tryz.prog Tryz.f6 Rows.peepholeOptimizeRow.domain false Rows.peepholeOptimizeRow.laid) (((OpenSpec.ofChange Rows.peepholeOptimizeSpec).at F).post enc Tryz.prog Tryz.f6 false true false false) := by
  obtain ⟨places, hx⟩ := reads os enc
  refine returnsInHanded_of_row (C := Tryz.checked) (s := OpenSpec.ofChange Rows.peepholeOptimizeSpec) own started (by kernel_rfl) Tryz.func6
    (witness_row_at (enc := enc) (C := Tryz.checked) false (laidWorld os) #[.string ⟨#[]⟩, .bool false] rfl (by kernel_rfl) (by kernel_rfl) (by kernel_rfl)
      (OpenSpec.preRow_of_cond 8 hx (by kernel_rfl) (fun k hk => by cases hk) (by kernel_rfl) (laid_met os _))) ?_
  intro W base args ds gs before hval hW _ _ _ hL hS _
  exact contract H enc W base args ds gs before hval hW hL hS
theorem said : Rows.PeepholeOptimizeSaid :=
  OpenClaim.holds_of_cond 6 Tryz.f6 rfl rfl rfl rfl rfl rfl rfl ⟨rfl, rfl, rfl, rfl, rfl⟩ rfl rfl rfl rfl rfl (by kernel_rfl) Tryz.func6 (by kernel_rfl)
    (of_decide_eq_true (by kernel_rfl)) (by unfold Func.isWrapper; first | (rw [if_pos (by decide +kernel)]; kernel_rfl) | (rw [if_neg (by decide +kernel)]; exact ⟨rfl, rfl⟩))
    (fun os started H enc _ F => by rw [OpenClaim.pre_eq_preRow]; exact lifted os started H enc F)
theorem plain (f : FuncId) (fn : Func) (hf : Tryz.pinned.checked.prog.funcNamed "stele/stelelaw24.PeepholeOptimize" = some f) (hfn : Tryz.pinned.checked.prog.funcs[f]? = some fn) :
    true = Tryz.pinned.checked.prog.looks [] ∧ ∀ (j : Nat) t, fn.params[j]? = some t → Tryz.pinned.checked.prog.wantsStandIn t = false := by
  obtain rfl : f = 6 := Option.some.inj ((show Tryz.prog.funcNamed "stele/stelelaw24.PeepholeOptimize" = some 6 by kernel_rfl).symm.trans hf) |>.symm
  obtain rfl : fn = Tryz.f6 := (Option.some.inj (Tryz.func6.symm.trans hfn)).symm
  refine ⟨by kernel_rfl, fun j t ht => ?_⟩
  rw [Tryz.params6] at ht
  have h2 : t = 9 ∨ t = 4 := by simpa using Array.mem_of_getElem? ht
  rcases h2 with rfl | rfl
  · exact (show Tryz.prog.wantsStandIn 9 = false by kernel_rfl)
  · exact (show Tryz.prog.wantsStandIn 4 = false by kernel_rfl)
end Go.Proofs.YtkjjenppmmipmaaGreatDoor.fnOpt
namespace Go.Proofs.YtkjjenppmmipmaaGreatDoor
theorem peepholeOptimize_card : Rows.PeepholeOptimizeCardSaid :=
  Claim7.holds_tied_plain_at .later [] _ _ _ _ fnOpt.said (fun _ h => by cases h) (by kernel_rfl) (fun _ h => by cases h) peepholeOptimize_row_tie rfl ⟨rfl, rfl⟩ (by kernel_rfl) rfl fnOpt.plain (by kernel_rfl)
#print axioms peepholeOptimize_card
end Go.Proofs.YtkjjenppmmipmaaGreatDoor
