/- PeepholeAssembles: if a source can be assembled, so can the optimized one, and its program text is not longer: for every list of words the law returns true. The card: the listed package-level variables read as the program's text lays them. -/
import Derived.Test.YtkjjenppmmipmaaGreatDoorCards
import Derived.Test.YtkjjenppmmipmaaGreatDoorTie
import Derived.WalkKit
import Derived.ProofKit
import Derived.OpenShut
import Derived.ChangeMaps5
import Derived.SliceStrings
import Derived.WideKeyArgs
import Derived.Deep.DeepHandedRow
import Derived.Lib.LaidTab
import Derived.Test.YtkjjenppmmipmaaGreatDoorBPeepRowX5
set_option linter.unusedVariables false
set_option linter.unusedSimpArgs false
namespace Go.Proofs.YtkjjenppmmipmaaGreatDoor
open Go.GL Go.RowKit Go.Stele
set_option maxRecDepth 100000
set_option maxHeartbeats 4000000
attribute [local irreducible] LOps LCode LStep LCalls Go.GL.Pure QThen QBlock RetPost LQ LAny LLate LLateOp
section
variable {B0 : Nat} {w0 : World}
theorem assemble_spec (hG : GW B0 w0) (src : List UInt8) (hs : src.length ≤ 300000) : LCalls (KC B0 w0) 17 [str src, int .i64 10000] [] (RetIf fun lv => ∃ (t : List UInt8) (x : LV) (ln e : Int), lv = .tuple [str t, x, int .i64 ln, int .i64 e] ∧ (e = 0 ↔ AsmOk (wordsP src) ∧ lenW false (wordsP src) ≤ 40000) ∧ (e = 0 → t.length = lenW false (wordsP src))) := by
  have hft := toksP_fst src
  have hwt := words_tot src
  have hwl := wordsP_len src
  have hcl := wordsP_clean src
  have hlw := lenW_le (wordsP src) false
  have htk := tokens_spec hG src (by omega)
  rw [← hft] at hwt hwl hcl hlw ⊢
  rw [List.length_map] at hwl
  generalize toksP src = l at hwt hwl hcl hlw htk
  have hsz : ∀ p ∈ l, p.1 ≠ [] ∧ p.1.length ≤ 1000000 := fun p hp => by
    have hm : p.1 ∈ l.map (·.1) := List.mem_map_of_mem hp
    have := tot_mem hm
    exact ⟨(hcl _ hm).1, by omega⟩
  have hck := check_spec (B0 := B0) (w0 := w0) l (by omega) (fun p hp => (hsz p hp).2)
  have hjo := fun km Hk hK => joined_spec2 hG l 10000 (by omega) (by omega) hsz (by show lenW false (l.map (·.1)) ≤ _; omega) km Hk hK
  refine LCalls.intro4 Tryz.func17 rfl (n := 65) rfl rfl rfl ?_
  repeat first
    | refine LOps.nil ?_
    | refine LCode.seq ?_
    | refine LCode.region ?_
    | refine QThen.normal ?_
    | refine LOps.pure (Pure.as (lv := .atom _) rfl) rfl ?_
    | refine LOps.pure (Pure.mv (lv := .atom _) rfl) rfl ?_
    | refine LOps.pure (Pure.lss rfl rfl) rfl ?_
    | refine LOps.pure (Pure.geq rfl rfl) rfl ?_
    | refine LOps.pure (Pure.pickF (lv := .atom _) rfl rfl) rfl ?_
    | refine LOps.want rfl rfl ?_
  refine LCode.cond rfl (fun h => absurd h (by decide)) (fun h => ?_)
  repeat first
    | refine LCode.seq ?_
    | refine LCode.region ?_
    | refine LCode.skip ?_
    | refine QThen.normal ?_
    | refine LOps.pure (Pure.mv (lv := .atom _) rfl) rfl ?_
  refine LOps.step (S.fn [_] rfl htk ?_) rfl
  repeat first
    | refine LOps.nil ?_
    | refine LCode.seq ?_
    | refine LCode.region ?_
    | refine QThen.normal ?_
    | refine LOps.pure (Pure.as (lv := .list _) rfl) rfl ?_
    | refine LOps.pure (Pure.mv (lv := .list _) rfl) rfl ?_
  refine LOps.step (S.fnIf [_] rfl hck ?_) rfl
  rintro lv ⟨ln, e, rfl, he⟩
  repeat first
    | refine LOps.nil ?_
    | refine LCode.seq ?_
    | refine LCode.region ?_
    | refine QThen.normal ?_
    | refine LOps.pure (Pure.as (lv := .atom _) rfl) rfl ?_
    | refine LOps.pure (Pure.mv (lv := .atom _) rfl) rfl ?_
    | refine LOps.pure (Pure.mv (lv := .tuple _) rfl) rfl ?_
    | refine LOps.pure (Pure.extract (c := .atom _) rfl rfl) rfl ?_
    | refine LOps.pure (Pure.neq rfl rfl) rfl ?_
  refine LCode.cond rfl (fun h1 => ?_) (fun h1 => ?_)
  · have h1' : ¬ e = 0 := by simpa using h1
    repeat first
      | refine LOps.nil ?_
      | refine LCode.seq ?_
      | refine LCode.region ?_
      | refine LCode.ret ?_
      | refine QThen.normal ?_
      | refine QThen.ret ?_
      | refine LOps.pure (Pure.as (lv := .atom _) rfl) rfl ?_
      | refine LOps.pure (Pure.mv (lv := .atom _) rfl) rfl ?_
    exact retRetIf rfl (AllRes.cons (ResIs.tmp (v := .atom _) rfl (LV.Sub.refl _)) (AllRes.cons (ResIs.tmp (v := nilSlice) rfl LV.Sub.nil) (AllRes.cons (ResIs.tmp (v := .atom _) rfl (LV.Sub.refl _)) (AllRes.cons (ResIs.tmp (v := .atom _) rfl (LV.Sub.refl _)) AllRes.nil)))) ⟨[], .list [], ln, e, rfl, ⟨fun h => absurd h h1', fun h => absurd (he.2 h.1) h1'⟩, fun h => absurd h h1'⟩
  have h1' : e = 0 := by simpa using h1
  have hA := he.1 h1'
  repeat first
    | refine LCode.seq ?_
    | refine LCode.region ?_
    | refine LCode.skip ?_
    | refine QThen.normal ?_
    | refine LOps.pure (Pure.mv (lv := .atom _) rfl) rfl ?_
    | refine LOps.pure (Pure.mv (lv := .list _) rfl) rfl ?_
  refine LOps.step (S.callH (H1 := []) (F := []) [_, _, .const (.map none)] rfl (List.Perm.refl _) (hjo none [] (.inl ⟨rfl, rfl⟩)) (fun v' H' hh => ?_) (fun ch H' hh => by obtain ⟨_, _, h, _⟩ := hh; cases h)) rfl
  obtain ⟨t1, labs, hv, rfl, _, hll, hlm⟩ := hh
  cases hv
  have hlab : (labs.map tokLV).length = labs.length := List.length_map _
  repeat first
    | refine LOps.nil ?_
    | refine LCode.seq ?_
    | refine LCode.region ?_
    | refine QThen.normal ?_
    | refine LOps.pure (Pure.as (lv := .atom _) rfl) rfl ?_
    | refine LOps.pure (Pure.as (lv := .list _) rfl) rfl ?_
    | refine LOps.pure (Pure.mv (lv := .tuple _) rfl) rfl ?_
    | refine LOps.pure (Pure.extract (c := .atom _) rfl rfl) rfl ?_
    | refine LOps.pure (Pure.extract (c := .list _) rfl rfl) rfl ?_
  refine LOps.step (S.makeMap fun m => ?_) rfl
  repeat first
    | refine LOps.nil ?_
    | refine LCode.seq ?_
    | refine LCode.region ?_
    | refine LCode.block ?_
    | refine QThen.normal ?_
    | refine LOps.pure (Pure.as (lv := .atom _) rfl) rfl ?_
    | refine LOps.pure (Pure.mv (lv := .atom _) rfl) rfl ?_
    | refine LOps.pure (Pure.mv (lv := .list _) rfl) rfl ?_
    | refine LOps.pure (Pure.llen rfl) rfl ?_
  refine LCode.loopI (fun k ls H => ∃ (i : Nat) (es : Array MapEntry) (clock : Nat), i ≤ labs.length ∧ k = labs.length - i ∧ ls = [(1, int .i64 10000), (8, .list (l.map tokLV)), (13, .atom (.map (some m))), (41, .list (labs.map tokLV)), (42, int .i64 labs.length), (43, int .i64 (i : Nat))] ∧ H = [(m, .obj (.map es clock))] ∧ IntMap es 2000000)
    ⟨_, _, _, ⟨0, #[], 0, Nat.zero_le _, rfl, rfl, rfl, IntMap.nil _⟩, ⟨rfl, rfl, rfl, rfl, int_eq (by omega), rfl, trivial⟩, HSub.refl _⟩ ?_
  rintro k ls H ⟨i, es, clock, hi, rfl, rfl, rfl, hI⟩ j hj
  repeat first
    | refine LOps.nil ?_
    | refine LCode.seq ?_
    | refine LCode.region ?_
    | refine QThen.normal ?_
    | refine LOps.pure (Pure.lss rfl rfl) rfl ?_
  refine LCode.cond rfl (fun hc => ?_) (fun hc => ?_)
  · have hlt : i < labs.length := by have := of_decide_eq_true hc; omega
    have hle := hlm _ (List.getElem_mem hlt)
    repeat first
      | refine LCode.seq ?_
      | refine LCode.region ?_
      | refine LCode.skip ?_
      | refine LCode.block ?_
      | refine QThen.normal ?_
    refine LOps.pure (Pure.ixRef (el' := tokLV labs[i]) (cs := [_, _]) rfl rfl (by omega) (map_get _ _ _ hlt) rfl rfl) rfl ?_
    repeat first
      | refine LOps.pure (Pure.ldRefAgg (cs' := [_, _]) rfl rfl rfl) rfl ?_
    refine LOps.step (S.alloc fun b15 => ?_) rfl
    repeat first
      | refine LOps.nil ?_
      | refine LCode.region ?_
      | refine QThen.normal ?_
      | refine LOps.pure (Pure.mv (lv := .atom _) rfl) rfl ?_
      | refine LOps.pure (Pure.fieldH rfl) rfl ?_
      | refine LOps.pure (Pure.loadH (c := .atom _) rfl (List.Mem.head _) rfl) rfl ?_
      | refine LOps.step (S.store (cs' := [_, _]) rfl Pick.here rfl rfl rfl rfl rfl ?_) rfl
    refine LOps.step (S.intPut (t := 73) (kt := 9) (el := 3) (by kernel_rfl) (by kernel_rfl) rfl rfl rfl (Pick.there Pick.here) hI hle fun es' clock' hI' => ?_) rfl
    repeat first
      | refine LOps.nil ?_
      | refine LCode.region ?_
      | refine QThen.normal ?_
      | refine QBlock.normal ?_
      | refine LOps.pure (Pure.mv (lv := .atom _) rfl) rfl ?_
      | refine LOps.pure (Pure.add rfl rfl (by omega)) rfl ?_
    exact ⟨_, _, _, by omega, ⟨i + 1, es', clock', by omega, rfl, rfl, rfl, hI'⟩, ⟨rfl, rfl, rfl, rfl, rfl, int_eq (by omega), trivial⟩, ⟨[_], List.Perm.refl _⟩, hj⟩
  · repeat first
      | refine LCode.seq ?_
      | refine LCode.region ?_
      | refine LCode.exit ?_
      | refine QThen.normal ?_
      | refine QThen.exit ?_
      | refine QBlock.hit ?_
      | refine LOps.pure (Pure.mv (lv := .atom _) rfl) rfl ?_
      | refine LOps.pure (Pure.mv (lv := .list _) rfl) rfl ?_
    refine LOps.step (S.callH (H1 := [(m, .obj (.map es clock))]) (F := []) [_, _, _] rfl (List.Perm.refl _) (hjo (some m) _ (.inr ⟨m, es, clock, rfl, rfl, hI⟩)) (fun v' H' hh => ?_) (fun ch H' hh => by obtain ⟨_, _, h, _⟩ := hh; cases h)) rfl
    obtain ⟨t2, labs2, hv, rfl, ht2, _, _⟩ := hh
    cases hv
    repeat first
      | refine LOps.nil ?_
      | refine LCode.seq ?_
      | refine LCode.region ?_
      | refine QThen.normal ?_
      | refine LOps.pure (Pure.as (lv := .atom _) rfl) rfl ?_
      | refine LOps.pure (Pure.as (lv := .list _) rfl) rfl ?_
      | refine LOps.pure (Pure.mv (lv := .atom _) rfl) rfl ?_
      | refine LOps.pure (Pure.mv (lv := .tuple _) rfl) rfl ?_
      | refine LOps.pure (Pure.extract (c := .atom _) rfl rfl) rfl ?_
      | refine LOps.pure (Pure.extract (c := .list _) rfl rfl) rfl ?_
      | refine LOps.pure (Pure.slen rfl) rfl ?_
      | refine LOps.pure (Pure.gtr rfl rfl) rfl ?_
    refine LCode.cond rfl (fun h2 => ?_) (fun h2 => ?_)
    · have h2' : ¬ t2.length ≤ 40000 := by have := of_decide_eq_true h2; omega
      repeat first
        | refine LOps.nil ?_
        | refine LCode.seq ?_
        | refine LCode.region ?_
        | refine LCode.ret ?_
        | refine QThen.normal ?_
        | refine QThen.ret ?_
        | refine LOps.pure (Pure.as (lv := .atom _) rfl) rfl ?_
      exact retRetIf hj (AllRes.cons (ResIs.tmp (v := .atom _) rfl (LV.Sub.refl _)) (AllRes.cons (ResIs.tmp (v := nilSlice) rfl LV.Sub.nil) (AllRes.cons (ResIs.tmp (v := .atom _) rfl (LV.Sub.refl _)) (AllRes.cons (ResIs.tmp (v := .atom _) rfl (LV.Sub.refl _)) AllRes.nil)))) ⟨[], .list [], 0, 6, rfl, ⟨(fun h => (by cases h)), fun h => absurd (show t2.length ≤ 40000 by rw [ht2]; exact h.2) h2'⟩, fun h => by cases h⟩
    · have h2' : t2.length ≤ 40000 := by have := of_decide_eq_false h2; omega
      repeat first
        | refine LOps.nil ?_
        | refine LCode.seq ?_
        | refine LCode.region ?_
        | refine LCode.skip ?_
        | refine LCode.ret ?_
        | refine QThen.normal ?_
        | refine LOps.pure (Pure.as (lv := .atom _) rfl) rfl ?_
        | refine LOps.pure (Pure.as (lv := .list _) rfl) rfl ?_
        | refine LOps.pure (Pure.mv (lv := .atom _) rfl) rfl ?_
        | refine LOps.pure (Pure.mv (lv := .list _) rfl) rfl ?_
      exact retRetIf hj (AllRes.cons (ResIs.tmp (v := .atom _) rfl (LV.Sub.refl _)) (AllRes.cons (ResIs.tmp (v := .list _) rfl (LV.Sub.refl _)) (AllRes.cons (ResIs.tmp (v := .atom _) rfl (LV.Sub.refl _)) (AllRes.cons (ResIs.tmp (v := .atom _) rfl (LV.Sub.refl _)) AllRes.nil)))) ⟨t2, .list (labs2.map tokLV), 0, 0, rfl, ⟨fun _ => ⟨hA, by rw [← ht2]; exact h2'⟩, fun _ => rfl⟩, fun _ => ht2⟩
theorem assembles_law (hG : GW B0 w0) (l : List Wd) : LCalls (KC B0 w0) 5 [.list (l.map str)] [] (Ret (bool true)) := by
  refine LCalls.intro Tryz.func5 rfl (n := 54) rfl rfl rfl ?_
  repeat first
    | refine LOps.nil ?_
    | refine LCode.seq ?_
    | refine LCode.region ?_
    | refine QThen.normal ?_
    | refine LOps.pure (Pure.as (lv := .atom _) rfl) rfl ?_
  refine LOps.step (S.fn [] rfl (alive_spec hG) ?_) rfl
  repeat first
    | refine LOps.nil ?_
    | refine QThen.normal ?_
    | refine LOps.pure (Pure.not rfl) rfl ?_
  refine LCode.cond rfl (fun h0 => ?_) (fun h0 => ?_)
  · cases h0
  repeat first
    | refine LCode.seq ?_
    | refine LCode.region ?_
    | refine LCode.skip ?_
    | refine QThen.normal ?_
    | refine LOps.pure (Pure.mv (lv := .list _) rfl) rfl ?_
  refine LOps.step (S.fnIf [_] rfl (great_spec l) ?_) rfl
  rintro lv ⟨g, rfl, hg⟩
  repeat first
    | refine LOps.nil ?_
    | refine QThen.normal ?_
  refine LCode.cond rfl (fun h1 => ?_) (fun h1 => ?_)
  · repeat first
      | refine LOps.nil ?_
      | refine LCode.seq ?_
      | refine LCode.region ?_
      | refine LCode.ret ?_
      | refine QThen.normal ?_
      | refine QThen.ret ?_
      | refine LOps.pure (Pure.as (lv := .atom _) rfl) rfl ?_
    exact retRet rfl (AllRes.cons (ResIs.tmp (v := .atom _) rfl (LV.Sub.refl _)) AllRes.nil) rfl
  have hm := hg h1
  have hjl := hm.join
  have j0 := joinS_spec (B0 := B0) (w0 := w0) [32] l (by have := hm.1; omega) (by omega)
  have a1 := assemble_spec hG (Go.Lib.join l [32]) (by omega)
  have o1 := optimize_spec hG (Go.Lib.join l [32]) (by omega)
  obtain ⟨_, e2⟩ := optimize_again (s := Go.Lib.join l [32]) (by omega)
  have hos := opt_size (Go.Lib.join l [32])
  have hO : optimizeP (Go.Lib.join l [32]) = (Go.Lib.join (optP (wordsP (Go.Lib.join l [32]))) [32], 0) := by unfold optimizeP; rw [if_neg (by omega)]
  have hopt := @opt_asm (wordsP (Go.Lib.join l [32]))
  rw [hO] at e2 o1
  simp only at e2 o1
  generalize wordsP (Go.Lib.join l [32]) = ws at a1 o1 e2 hos hO hopt
  have a2 := assemble_spec hG (Go.Lib.join (optP ws) [32]) (by omega)
  rw [e2] at a2
  repeat first
    | refine LCode.seq ?_
    | refine LCode.region ?_
    | refine LCode.skip ?_
    | refine QThen.normal ?_
    | refine LOps.pure (Pure.mv (lv := .list _) rfl) rfl ?_
  refine LOps.step (S.fn [_, _] rfl j0 ?_) rfl
  repeat first
    | refine LOps.nil ?_
    | refine LCode.seq ?_
    | refine LCode.region ?_
    | refine QThen.normal ?_
    | refine LOps.pure (Pure.as (lv := .atom _) rfl) rfl ?_
    | refine LOps.pure (Pure.mv (lv := .atom _) rfl) rfl ?_
  refine LOps.step (S.fnIf [_, _] rfl a1 ?_) rfl
  rintro lv ⟨t, x, ln, e, rfl, hi, ht⟩
  refine LOps.pure (Pure.mv (lv := .tuple [str t, x, int .i64 ln, int .i64 e]) rfl) rfl ?_
  refine LOps.pure (Pure.extract (vs := [str t, x, int .i64 ln, int .i64 e]) rfl rfl) rfl ?_
  refine LOps.pure (Pure.extract (vs := [str t, x, int .i64 ln, int .i64 e]) rfl rfl) rfl ?_
  refine LOps.pure (Pure.extract (vs := [str t, x, int .i64 ln, int .i64 e]) rfl rfl) rfl ?_
  refine LOps.pure (Pure.extract (vs := [str t, x, int .i64 ln, int .i64 e]) rfl rfl) rfl ?_
  refine LOps.pure (Pure.as rfl) rfl ?_
  refine LOps.pure (Pure.as rfl) rfl ?_
  repeat first
    | refine LOps.nil ?_
    | refine LCode.seq ?_
    | refine LCode.region ?_
    | refine QThen.normal ?_
    | refine LOps.pure (Pure.as (lv := .atom _) rfl) rfl ?_
    | refine LOps.pure (Pure.mv (lv := .atom _) rfl) rfl ?_
    | refine LOps.pure (Pure.neq rfl rfl) rfl ?_
  refine LCode.cond rfl (fun h2 => ?_) (fun h2 => ?_)
  · repeat first
      | refine LOps.nil ?_
      | refine LCode.seq ?_
      | refine LCode.region ?_
      | refine LCode.ret ?_
      | refine QThen.normal ?_
      | refine QThen.ret ?_
      | refine LOps.pure (Pure.as (lv := .atom _) rfl) rfl ?_
    exact retRet rfl (AllRes.cons (ResIs.tmp (v := .atom _) rfl (LV.Sub.refl _)) AllRes.nil) rfl
  have h2' : e = 0 := by simpa using h2
  obtain ⟨hA, hL⟩ := hi.1 h2'
  have hta := ht h2'
  obtain ⟨hA2, hL2⟩ := hopt hA
  repeat first
    | refine LCode.seq ?_
    | refine LCode.region ?_
    | refine LCode.skip ?_
    | refine QThen.normal ?_
    | refine LOps.pure (Pure.mv (lv := .atom _) rfl) rfl ?_
  refine LOps.step (S.fn [_] rfl o1 ?_) rfl
  repeat first
    | refine LOps.nil ?_
    | refine LCode.seq ?_
    | refine LCode.region ?_
    | refine QThen.normal ?_
    | refine LOps.pure (Pure.as (lv := .atom _) rfl) rfl ?_
    | refine LOps.pure (Pure.mv (lv := .atom _) rfl) rfl ?_
    | refine LOps.pure (Pure.mv (lv := .tuple _) rfl) rfl ?_
    | refine LOps.pure (Pure.extract (c := .atom _) rfl rfl) rfl ?_
  refine LOps.step (S.fnIf [_, _] rfl a2 ?_) rfl
  rintro lv ⟨t2, x2, ln2, e2, rfl, hi2, ht2⟩
  obtain rfl : e2 = 0 := hi2.2 ⟨hA2, by omega⟩
  have htb := ht2 rfl
  refine LOps.pure (Pure.mv (lv := .tuple [str t2, x2, int .i64 ln2, int .i64 0]) rfl) rfl ?_
  refine LOps.pure (Pure.extract (vs := [str t2, x2, int .i64 ln2, int .i64 0]) rfl rfl) rfl ?_
  refine LOps.pure (Pure.extract (vs := [str t2, x2, int .i64 ln2, int .i64 0]) rfl rfl) rfl ?_
  refine LOps.pure (Pure.extract (vs := [str t2, x2, int .i64 ln2, int .i64 0]) rfl rfl) rfl ?_
  refine LOps.pure (Pure.extract (vs := [str t2, x2, int .i64 ln2, int .i64 0]) rfl rfl) rfl ?_
  refine LOps.pure (Pure.as rfl) rfl ?_
  refine LOps.pure (Pure.as rfl) rfl ?_
  repeat first
    | refine LOps.nil ?_
    | refine LCode.seq ?_
    | refine LCode.region ?_
    | refine LCode.ret ?_
    | refine QThen.normal ?_
    | refine LOps.pure (Pure.as (lv := .atom _) rfl) rfl ?_
    | refine LOps.pure (Pure.mv (lv := .atom _) rfl) rfl ?_
    | refine LOps.pure (Pure.eql rfl rfl) rfl ?_
    | refine LOps.pure (Pure.pickT (lv := .atom _) rfl rfl) rfl ?_
    | refine LOps.pure (Pure.slen rfl) rfl ?_
    | refine LOps.pure (Pure.leq rfl rfl) rfl ?_
    | refine LOps.want rfl rfl ?_
  exact retRet rfl (AllRes.cons (ResIs.tmp (v := .atom _) rfl (LV.Sub.refl _)) AllRes.nil) (bool_eq (by
    rw [decide_eq_true_eq]
    omega))
end
end Go.Proofs.YtkjjenppmmipmaaGreatDoor
namespace Go.Proofs.YtkjjenppmmipmaaGreatDoor
open Go.ChangeShapes Go.WideShapes Go.ChangeAt Go.RowKit
set_option maxRecDepth 100000
theorem own : ownKnob Tryz.prog.godebug = none := by kernel_rfl
/-- The variables that every row lists. -/
def lst : List (String × DataW Unit) := [("math/bits.deBruijn32tab", Rows.laid_math_bits_deBruijn32tab), ("math/bits.deBruijn64tab", Rows.laid_math_bits_deBruijn64tab), ("internal/strconv.uint64pow10", Rows.laid_internal_strconv_uint64pow10), ("unicode/utf8.acceptRanges", Rows.laid_unicode_utf8_acceptRanges), ("strconv.ErrRange", Rows.laid_strconv_ErrRange), ("strconv.ErrSyntax", Rows.laid_strconv_ErrSyntax), ("unicode/utf8.first", Rows.laid_unicode_utf8_first)]
/-- A variable's cells: numbers. -/
def NumCells (W : World) (g : Nat) (t : TypeId) (n : Nat) (ts : List TypeId) : Prop := ∃ cs, W.heap[g]? = some (.cells cs t) ∧ cs.size = n ∧ ∀ i v, cs[i]? = some v → ∃ u k n, ts[i % ts.length]? = some u ∧ Tryz.prog.underlying u = some (.int k) ∧ v = .int k n
theorem num_cells {W : World} (hs : W.ShapedOpen Tryz.prog) (g : Nat) (t : TypeId) (n : Nat) (ts : List TypeId) (hg : decide (g < Tryz.prog.globals.size) = true) (h0 : (((begin Tryz.prog (fun _ _ => 0) default).world.heap[g]?).bind Obj.row?).map (fun r => (r.1.size, r.2)) = some (n, t)) (hb : Tryz.prog.buildable t = true) (hc : Tryz.prog.cellTypes Tryz.prog.depth t = some ts)
    (hall : (ts.all fun u => match Tryz.prog.underlying u with | some (.int _) => true | _ => false) = true) : NumCells W g t n ts := by
  obtain ⟨⟨zero, t'⟩, h0', h1⟩ := Option.map_eq_some_iff.1 h0
  simp only [Prod.mk.injEq] at h1
  obtain ⟨rfl, rfl⟩ := h1
  obtain ⟨cs, h1, h2, h3⟩ := hs.1 g zero _ (of_decide_eq_true hg) h0'
  obtain ⟨ts', e1, e2, e3⟩ := h3 hb
  obtain rfl := Option.some.inj (hc.symm.trans e1)
  refine ⟨cs, h1, h2, fun i v hv => ?_⟩
  obtain ⟨u, hu, hok⟩ := e3 i v hv
  have := List.all_eq_true.1 hall u (List.mem_of_getElem? hu)
  unfold Cell.ok at hok
  split at this
  · rename_i k hk
    rw [hk] at hok
    cases v <;> simp only at hok
    rename_i k' n
    exact ⟨u, k, n, hu, hk, by rw [hok.1]⟩
  · cases this
theorem cells0 {W : World} (hs : W.ShapedOpen Tryz.prog) : NumCells W 0 3 1 [3] := num_cells hs 0 3 1 [3] (by kernel_rfl) (by kernel_rfl) (by kernel_rfl) (by kernel_rfl) (by kernel_rfl)
theorem cells1 {W : World} (hs : W.ShapedOpen Tryz.prog) : NumCells W 1 158 20 (List.replicate 20 82) := num_cells hs 1 158 20 (List.replicate 20 82) (by kernel_rfl) (by kernel_rfl) (by kernel_rfl) (by kernel_rfl) (by kernel_rfl)
theorem cells4 {W : World} (hs : W.ShapedOpen Tryz.prog) : NumCells W 4 180 32 (List.replicate 32 5) := num_cells hs 4 180 32 (List.replicate 32 5) (by kernel_rfl) (by kernel_rfl) (by kernel_rfl) (by kernel_rfl) (by kernel_rfl)
theorem cells5 {W : World} (hs : W.ShapedOpen Tryz.prog) : NumCells W 5 181 64 (List.replicate 64 5) := num_cells hs 5 181 64 (List.replicate 64 5) (by kernel_rfl) (by kernel_rfl) (by kernel_rfl) (by kernel_rfl) (by kernel_rfl)
theorem cells6 {W : World} (hs : W.ShapedOpen Tryz.prog) : NumCells W 6 182 256 (List.replicate 256 5) := num_cells hs 6 182 256 (List.replicate 256 5) (by kernel_rfl) (by kernel_rfl) (by kernel_rfl) (by kernel_rfl) (by kernel_rfl)
theorem cells7 {W : World} (hs : W.ShapedOpen Tryz.prog) : NumCells W 7 185 32 (List.replicate 32 5) := num_cells hs 7 185 32 (List.replicate 32 5) (by kernel_rfl) (by kernel_rfl) (by kernel_rfl) (by kernel_rfl) (by kernel_rfl)
theorem gw_of {W : World} (h : laidMetH Tryz.prog lst W) (hs : W.ShapedOpen Tryz.prog) : GW 8 W := by
  have h0 : laidMet Tryz.prog lst W := h
  have hp : laidMet Tryz.prog [("internal/strconv.uint64pow10", Rows.laid_internal_strconv_uint64pow10)] W := h0.filter (fun x => x.1 == "internal/strconv.uint64pow10")
  have he : laidMet Tryz.prog [("strconv.ErrRange", Rows.laid_strconv_ErrRange)] W := h0.filter (fun x => x.1 == "strconv.ErrRange")
  have hy : laidMet Tryz.prog [("strconv.ErrSyntax", Rows.laid_strconv_ErrSyntax)] W := h0.filter (fun x => x.1 == "strconv.ErrSyntax")
  refine ⟨?_, ?_, ?_, ?_, Nat.le_refl _⟩
  · exact Lib.tabIs_of_head (g := 1) (t := 158) (e := 82) (n := 20) (rest := []) (by kernel_rfl) (by kernel_rfl) (by kernel_rfl) (by kernel_rfl) (by kernel_rfl) (by kernel_rfl) hp
  · obtain ⟨ps, ⟨g, t, cs, fuel, p, q, hg, ht, hvar, hd, _, _⟩, _⟩ := he
    have hg' : Tryz.prog.globalNamed "strconv.ErrRange" = some 3 := by kernel_rfl
    obtain rfl := Option.some.inj (hg'.symm.trans hg)
    have ht' : (Tryz.prog.globals[3]?).map (·.type) = some 61 := by kernel_rfl
    obtain rfl := Option.some.inj (ht'.symm.trans ht)
    obtain ⟨ms, hms⟩ : ∃ ms, Tryz.prog.underlying 61 = some (.interface ms) := (inferInstance : Go.GL.TIface Tryz.prog 61).und
    obtain ⟨_, u, v, hcs, _, _⟩ := iface_of_trod hms hd
    refine ⟨u, v, ?_⟩
    rw [hvar]
    congr 1
    exact Array.ext' (by simpa using hcs)
  · obtain ⟨ps, ⟨g, t, cs, fuel, p, q, hg, ht, hvar, hd, _, _⟩, _⟩ := hy
    have hg' : Tryz.prog.globalNamed "strconv.ErrSyntax" = some 2 := by kernel_rfl
    obtain rfl := Option.some.inj (hg'.symm.trans hg)
    have ht' : (Tryz.prog.globals[2]?).map (·.type) = some 61 := by kernel_rfl
    obtain rfl := Option.some.inj (ht'.symm.trans ht)
    obtain ⟨ms, hms⟩ : ∃ ms, Tryz.prog.underlying 61 = some (.interface ms) := (inferInstance : Go.GL.TIface Tryz.prog 61).und
    obtain ⟨_, u, v, hcs, _, _⟩ := iface_of_trod hms hd
    refine ⟨u, v, ?_⟩
    rw [hvar]
    congr 1
    exact Array.ext' (by simpa using hcs)
  · obtain ⟨cs, h1, h2, h3⟩ := cells0 hs
    have h4 : 0 < cs.size := by omega
    obtain ⟨u, k, n, e1, e2, e3⟩ := h3 0 cs[0] (by simp [h4])
    have e4 : u = 3 := by simpa using e1.symm
    subst e4
    have e5 : Tryz.prog.underlying 3 = some (.int .i64) := Tryz.underlying3
    rw [e5] at e2
    cases e2
    exact ⟨n, by simp [World.cell?, h1, h4, e3]⟩
/-- The heap reaches beyond the variables. -/
theorem heap_eight {W : World} (hs : W.ShapedOpen Tryz.prog) : 8 ≤ W.heap.size := by
  obtain ⟨cs, h1, _⟩ := cells7 hs
  have := (Array.getElem?_eq_some_iff.1 h1).1
  omega
theorem num_not {W : World} {g : Nat} {t : TypeId} {m : Nat} {ts : List TypeId} (h : NumCells W g t m ts) {i : Nat} {s : ByteArray} (hc : W.cell? ⟨g, i, none⟩ = some (.string s)) : False := by
  obtain ⟨cs, h1, _, h3⟩ := h
  simp only [World.cell?, h1, Option.isSome_none, Bool.false_eq_true, if_false] at hc
  obtain ⟨u, k, n, _, _, h4⟩ := h3 i _ hc
  cases h4
theorem iface_not {W : World} {g : Nat} {name : String} {tp : TypeId} {p : Value} (hg : Tryz.prog.globalNamed name = some g) (h : W.var? Tryz.prog name = some #[.iface tp p]) {i : Nat} {s : ByteArray} (hc : W.cell? ⟨g, i, none⟩ = some (.string s)) : False := by
  unfold World.var? at h
  rw [hg, Option.bind_some] at h
  simp only [World.cell?] at hc
  split at h
  · rename_i cs t fr hh
    rw [hh] at hc
    cases h
    simp only [Option.isSome_none, Bool.false_eq_true, if_false] at hc
    cases i with
    | zero => simp at hc
    | succ i => simp at hc
  · cases h
/-- No variable holds a string. -/
theorem no_string {W : World} (hG : GW 8 W) (hs : W.ShapedOpen Tryz.prog) {b i : Nat} {s : ByteArray} (h : W.cell? ⟨b, i, none⟩ = some (.string s)) : 8 ≤ b := by
  rcases Nat.lt_or_ge b 8 with hb | hb
  · exfalso
    have h8 : b = 0 ∨ b = 1 ∨ b = 2 ∨ b = 3 ∨ b = 4 ∨ b = 5 ∨ b = 6 ∨ b = 7 := by omega
    rcases h8 with rfl | rfl | rfl | rfl | rfl | rfl | rfl | rfl
    · exact num_not (cells0 hs) h
    · exact num_not (cells1 hs) h
    · obtain ⟨tp, p, hv⟩ := hG.errSyntax
      exact iface_not (by kernel_rfl) hv h
    · obtain ⟨tp, p, hv⟩ := hG.errRange
      exact iface_not (by kernel_rfl) hv h
    · exact num_not (cells4 hs) h
    · exact num_not (cells5 hs) h
    · exact num_not (cells6 hs) h
    · exact num_not (cells7 hs) h
  · exact hb
theorem post_of_below {H : Type} {enc : TypeId × Value → H} {P : Program} {f : Func} {s : ChangeSpec} {apart fresh handsOn again : Bool} {W W' : World} {args : Array Value} {v : Value} {ds gs : List (DataW H)} {before pa pv : List MemPlace}
    (hW : DataW.Whole enc P f.params.toList s.vars apart W args.toList ds gs before)
    (hres : ∀ (b : Nat) (sp : Nat → Bool) (hd : Bool), DataW.TrodAll enc P W' b sp hd f.resultTypes.toList (v.resultList f.resultTypes.size) (s.fn H (ds ++ gs)).results [])
    (hargs : ∀ sp : Nat → Bool, (∀ p ∈ before, sp p.block = true) → DataW.TrodAll enc P W' 0 sp true f.params.toList args.toList (s.fn H (ds ++ gs)).args pa)
    (hvars : ∀ sp : Nat → Bool, (∀ p ∈ before, sp p.block = true) → DataW.TrodVars enc P W' sp s.vars (s.fn H (ds ++ gs)).vars pv)
    (hps : before = pa ++ pv) (hb : Below W.heap.size W W')
    (hok : ∀ (j : Nat) (t : TypeId) (r : Value), f.resultTypes[j]? = some t → (v.resultList f.resultTypes.size)[j]? = some r → Value.okWide P W' .any 0 t r) :
    s.post enc P f apart fresh handsOn again W args v W' := by
  have hold : ∀ p ∈ before, (fun b => decide (b < W.heap.size)) p.block = true := fun p hp => by simpa using hW.lt p hp
  have hlt := hW.lt
  refine ⟨ds, gs, before, [], pa, pv, hW, hres _ _ _, hargs _ hold, hvars _ hold, World.keptBut_mono (fun p hp => ⟨hp, ?_⟩) (hb.frame (· ∈ before)), fun _ => ?_⟩
  · rw [hps, List.mem_append] at hp
    exact Or.inr hp
  · obtain ⟨_, _, _, _, _, hz, hn⟩ := hW
    refine ⟨hok, _, _, ([] ++ pa) ++ pv, ⟨[] ++ pa, pv, trodAll_append (hargs _ (fun _ _ => rfl)) (hres _ _ _), hvars _ (fun _ _ => rfl), rfl, ?_, ?_⟩, ?_⟩
    · intro b off hp
      have hp' : MemPlace.cell b off ∈ before := by rw [hps]; simpa using hp
      rw [hb.frozen (p := ⟨b, off, none⟩) (hlt _ hp')]
      exact hz b off hp'
    · intro ha
      have := hn ha
      rw [hps] at this
      simpa using this
    · intro p hp _
      rw [hps]
      simpa using hp
noncomputable def low : Nat := (World.holding Tryz.prog default ⟨#[], #[], []⟩).heap.size
/-- A world that meets the condition: the settled one, each listed variable's cells laid. -/
noncomputable def laidWorld (os : Os) : World :=
  let w0 := World.holding Tryz.prog os ⟨#[.cells #[.string ⟨#[118, 97, 108, 117, 101, 32, 111, 117, 116, 32, 111, 102, 32, 114, 97, 110, 103, 101]⟩] 189, .cells #[.string ⟨#[105, 110, 118, 97, 108, 105, 100, 32, 115, 121, 110, 116, 97, 120]⟩] 189], #[], []⟩
  let put (h : Array Obj) (g : Nat) (cs : Array Value) : Array Obj := h.modify g fun
    | .cells _ t frozen => .cells cs t frozen
    | o => o
  { w0 with heap := put (put (put (put (put (put (put w0.heap 4 #[.int .u8 0, .int .u8 1, .int .u8 28, .int .u8 2, .int .u8 29, .int .u8 14, .int .u8 24, .int .u8 3, .int .u8 30, .int .u8 22, .int .u8 20, .int .u8 15, .int .u8 25, .int .u8 17, .int .u8 4, .int .u8 8, .int .u8 31, .int .u8 27, .int .u8 13, .int .u8 23, .int .u8 21, .int .u8 19, .int .u8 16, .int .u8 7, .int .u8 26, .int .u8 12, .int .u8 18, .int .u8 6, .int .u8 11, .int .u8 5, .int .u8 10, .int .u8 9]) 5 #[.int .u8 0, .int .u8 1, .int .u8 56, .int .u8 2, .int .u8 57, .int .u8 49, .int .u8 28, .int .u8 3, .int .u8 61, .int .u8 58, .int .u8 42, .int .u8 50, .int .u8 38, .int .u8 29, .int .u8 17, .int .u8 4, .int .u8 62, .int .u8 47, .int .u8 59, .int .u8 36, .int .u8 45, .int .u8 43, .int .u8 51, .int .u8 22, .int .u8 53, .int .u8 39, .int .u8 33, .int .u8 30, .int .u8 24, .int .u8 18, .int .u8 12, .int .u8 5, .int .u8 63, .int .u8 55, .int .u8 48, .int .u8 27, .int .u8 60, .int .u8 41, .int .u8 37, .int .u8 16, .int .u8 46, .int .u8 35, .int .u8 44, .int .u8 21, .int .u8 52, .int .u8 32, .int .u8 23, .int .u8 11, .int .u8 54, .int .u8 26, .int .u8 40, .int .u8 15, .int .u8 34, .int .u8 20, .int .u8 31, .int .u8 10, .int .u8 25, .int .u8 14, .int .u8 19, .int .u8 9, .int .u8 13, .int .u8 8, .int .u8 7, .int .u8 6]) 1 #[.int .u64 1, .int .u64 10, .int .u64 100, .int .u64 1000, .int .u64 10000, .int .u64 100000, .int .u64 1000000, .int .u64 10000000, .int .u64 100000000, .int .u64 1000000000, .int .u64 10000000000, .int .u64 100000000000, .int .u64 1000000000000, .int .u64 10000000000000, .int .u64 100000000000000, .int .u64 1000000000000000, .int .u64 10000000000000000, .int .u64 100000000000000000, .int .u64 1000000000000000000, .int .u64 10000000000000000000]) 7 #[.int .u8 128, .int .u8 191, .int .u8 160, .int .u8 191, .int .u8 128, .int .u8 159, .int .u8 144, .int .u8 191, .int .u8 128, .int .u8 143, .int .u8 0, .int .u8 0, .int .u8 0, .int .u8 0, .int .u8 0, .int .u8 0, .int .u8 0, .int .u8 0, .int .u8 0, .int .u8 0, .int .u8 0, .int .u8 0, .int .u8 0, .int .u8 0, .int .u8 0, .int .u8 0, .int .u8 0, .int .u8 0, .int .u8 0, .int .u8 0, .int .u8 0, .int .u8 0]) 6 (Go.Pinned.utf8FirstZ.map fun n : Nat => Value.int .u8 (n : Int)).toArray) 3 #[.iface 187 (.pointer (some ⟨low, 0, none⟩))]) 2 #[.iface 187 (.pointer (some ⟨low + 1, 0, none⟩))] }
theorem laid_met (os : Os) (args : Array Value) : laidMet Tryz.prog lst ((laidWorld os).forCall (fun _ _ => 0) ⟨#[], args, []⟩).memory :=
  laidMet_of_run' 8 (by kernel_rfl) (by kernel_rfl)
end Go.Proofs.YtkjjenppmmipmaaGreatDoor
namespace Go.Proofs.YtkjjenppmmipmaaGreatDoor
open Go.ChangeShapes Go.WideShapes Go.ChangeAt Go.RowKit
set_option maxRecDepth 100000
theorem laidOut : laidOutB Tryz.prog = true := by kernel_rfl
theorem rows_of {W : World} {L : Go.GL.Live} {b : Nat} : ∀ (l : List (List UInt8)) (off : Nat), (∀ i (h : i < l.length), off + i < L b ∧ W.cell? ⟨b, off + i, none⟩ = some (.string ⟨l[i].toArray⟩)) → Go.GL.RepRows W L b 1 off (l.map Go.GL.str)
  | [], off, h => by simp [Go.GL.RepRows]
  | s :: l, off, h => by
    have h0 := h 0 (by simp)
    simp only [List.map_cons, Go.GL.str, Go.GL.RepRows]
    refine ⟨⟨trivial, h0.1, _, h0.2, rfl⟩, ?_⟩
    refine rows_of l (off + 1) fun i hi => ?_
    have := h (i + 1) (by simpa using hi)
    rw [show off + (i + 1) = off + 1 + i by omega] at this
    simpa using this
theorem relH_of {W : World} {L : Go.GL.Live} (hs : W.ShapedOpen Tryz.prog) (h1 : ∀ b, b < 8 → L b = 0) (h2 : ∀ b, W.heap.size ≤ b → L b = 0) : Go.GL.RelH (KC 8 W) W L [] :=
  ⟨Below.refl _ _, h1, heap_eight hs, h2, List.nodup_nil, by simp⟩
theorem open_words {H : Type} {enc : TypeId × Value → H} {W : World} {v : Value} {d : DataW H} {ps : List MemPlace} {base : Nat} (hG : GW 8 W) (hs : W.ShapedOpen Tryz.prog) (hval : Value.okWide Tryz.prog W .any base 22 v) (hd : DataW.Trod enc Tryz.prog W 0 (fun _ => true) true 22 v d ps) :
    ∃ (l : List (List UInt8)) (L : Go.GL.Live), Go.GL.RepL W L [.list (l.map Go.GL.str)] [v] ∧ Go.GL.RelH (KC 8 W) W L [] := by
  have ht : Tryz.prog.underlying 22 = some (.slice 9) := by kernel_rfl
  have he : Tryz.prog.underlying 9 = some .string := by kernel_rfl
  have hc : Tryz.prog.cellsOf 9 = 1 := by kernel_rfl
  obtain ⟨a0, len0, cap0, rfl⟩ := okWide_slice ht hval
  obtain ⟨fuel, hf⟩ := hd
  have nilcase : ∀ cap, Go.GL.RepL W (fun _ => 0) [.list (([] : List (List UInt8)).map Go.GL.str)] [.slice a0 0 cap] := fun cap => by
    simp only [Go.GL.RepL, Go.GL.Rep, List.map_nil]
    exact ⟨_, _, rfl, ⟨a0, cap, rfl, Nat.zero_le _, fun h => absurd rfl h⟩, rfl⟩
  rcases open_strings ht he hc hf with ⟨hcs, hx⟩ | ⟨a, len, cap, ss, hcs, _, hl, hm, hz, hx, hcell, hsz⟩
  · have e0 : Value.slice a0 len0 cap0 = .slice none 0 0 := by
      have : [Value.slice a0 len0 cap0] = [.slice none 0 0] := hcs
      exact List.head_eq_of_cons_eq this
    injection e0 with e1 e2 e3
    subst e2
    exact ⟨[], fun _ => 0, nilcase _, relH_of hs (fun _ _ => rfl) (fun _ _ => rfl)⟩
  · have e0 : Value.slice a0 len0 cap0 = .slice (some a) len cap := by
      have : [Value.slice a0 len0 cap0] = [.slice (some a) len cap] := hcs
      exact List.head_eq_of_cons_eq this
    injection e0 with e1 e2 e3
    subst e1 e2 e3
    rw [if_pos rfl] at hz
    by_cases h0 : len0 = 0
    · subst h0
      exact ⟨[], fun _ => 0, nilcase _, relH_of hs (fun _ _ => rfl) (fun _ _ => rfl)⟩
    · have hsp : a.spot = none := by
        unfold Value.okWide at hval
        rw [ht] at hval
        simp only [Cell.okWide, ht, Cell.ok] at hval
        exact hval.2.2.2.1
      obtain ⟨b, off, sp⟩ := a
      simp only at hsp
      subst hsp
      have hcell' : ∀ i (h : i < ss.length), W.cell? ⟨b, off + i, none⟩ = some (.string ss[i]) := fun i hi => by
        have := hcell i hi
        rw [List.getD_eq_getElem?_getD, List.getElem?_eq_getElem hi] at this
        unfold Addr.add at this
        split at this
        · rename_i h
          subst h
          exact this
        · exact this
      have h8 := no_string hG hs (hcell' 0 (by omega))
      have hlt := World.block_lt_of_cell? _ _ (hcell' 0 (by omega))
      have hll : ((ss.take len0).map fun s => s.data.toList).length = len0 := by rw [List.length_map, List.length_take]; omega
      refine ⟨(ss.take len0).map fun s => s.data.toList, fun x => if x = b then off + len0 else 0, ?_, relH_of hs (fun x hx => if_neg (by omega)) (fun x hx => if_neg (by simp only at hlt; omega))⟩
      simp only [Go.GL.RepL, Go.GL.Rep]
      refine ⟨_, _, rfl, ⟨some ⟨b, off, none⟩, cap0, by rw [List.length_map, hll], by rw [List.length_map, hll]; exact hl, fun _ => ⟨b, off, 1, rfl, rows_of _ _ fun i hi => ?_⟩⟩, rfl⟩
      have hi' : i < len0 := by rw [hll] at hi; exact hi
      refine ⟨by simp only [if_true]; omega, ?_⟩
      rw [hcell' i (by omega)]
      simp
/-- The law's own call, in the words of the walk. -/
theorem lift_at {f : FuncId} {args : List Go.GL.LV} {vs : List Value} {W : World} {L : Go.GL.Live} (h : Go.GL.LCalls (KC 8 W) f args [] (Go.GL.Ret (Go.GL.bool true))) (hr : Go.GL.RepL W L args vs) (hR : Go.GL.RelH (KC 8 W) W L []) : Calls Tryz.prog f vs.toArray W fun e W' => e = .returned (.bool true) ∧ Below W.heap.size W W' := by
  refine (h vs W L hr hR).mono ?_
  intro e W' he
  cases e with
  | returned v =>
    obtain ⟨lv, H', L', h1, h2, h3, h4, _⟩ := he
    injection h4 with h4
    subst h4
    simp only [Go.GL.Rep] at h3
    subst h3
    exact ⟨rfl, h1.os, h1.tape, h1.output, h1.ext.size, fun k hk => h1.block k hk (by simp [Go.GL.keys])⟩
  | panicked ch =>
    obtain ⟨H', L', h1, h2, h3, _⟩ := he
    cases h3
  | outgrown => exact he.elim
theorem stay_words {H : Type} {enc : TypeId × Value → H} {W W' : World} {v : Value} {d : DataW H} {ps : List MemPlace} {sp : Nat → Bool} (hd : DataW.Trod enc Tryz.prog W 0 (fun _ => true) true 22 v d ps) (hb : Below W.heap.size W W') (hlt : ∀ x ∈ ps, x.block < W.heap.size) (hsp : ∀ p ∈ ps, sp p.block = true) : DataW.Trod enc Tryz.prog W' 0 sp true 22 v d ps :=
  WideElems.Trod_stays laidOut (by kernel_rfl) (of_decide_eq_true (by kernel_rfl)) hd (fun x hx => hb.same (hlt x hx)) hsp
end Go.Proofs.YtkjjenppmmipmaaGreatDoor
namespace Go.Proofs.YtkjjenppmmipmaaGreatDoor.fnAsm
open Go.ChangeShapes Go.WideShapes Go.ChangeAt Go.RowKit Go.ChangeMaps
set_option maxRecDepth 100000
theorem contract (H : Type) (enc : TypeId × Value → H) (W : World) (base : Nat) (args : Array Value) (ds gs : List (DataW H)) (before : List MemPlace)
    (hval : ∀ (j : Nat) t v, Tryz.f5.params[j]? = some t → args[j]? = some v → Value.okWide Tryz.prog W .any base t v)
    (hW : DataW.Whole enc Tryz.prog Tryz.f5.params.toList Rows.peepholeAssemblesSpec.vars false W args.toList ds gs before) (hL : laidMetH Tryz.prog Rows.peepholeAssemblesRow.laid W) (hS : W.ShapedOpen Tryz.prog) :
    Calls Tryz.prog 5 args W fun e W' => ∃ v, e = .returned v ∧ Rows.peepholeAssemblesSpec.post enc Tryz.prog Tryz.f5 false true false false W args v W' := by
  have hW' := hW
  obtain ⟨p, q, hA0, hV, rfl, hfz, hnd⟩ := hW
  have hA : DataW.TrodAll enc Tryz.prog W 0 (fun _ => true) true Tryz.f5.params.toList args.toList ds p := hA0
  rw [Tryz.params5] at hA hval
  obtain ⟨v0, vs0, d0, ds0, p0, q0, hargs, rfl, rfl, h0, r0⟩ := trodAll_cons hA
  obtain ⟨rfl, rfl, rfl⟩ := trodAll_nil r0
  obtain rfl : args = #[v0] := by cases args; simp_all
  obtain ⟨rfl, rfl⟩ := trodVars_none hV
  have hG := gw_of hL hS
  obtain ⟨l, L, hr, hR⟩ := open_words hG hS (hval 0 22 v0 rfl rfl) h0
  clear hA0
  simp only [List.append_nil] at hW'
  have hlt : ∀ x ∈ p0, x.block < W.heap.size := fun x hx => by simpa using hW'.lt x hx
  refine (lift_at (vs := [v0]) (assembles_law hG l) hr hR).mono fun e W' ⟨he, hg⟩ => ?_
  subst he
  exact ⟨_, rfl, post_of_below (pa := p0) (pv := []) hW' (fun _ _ _ => trodAll_cons_mk (shut_bool Tryz.underlying4 _) trodAll_mk0) (fun sp hsp => trodAll_mk1 (stay_words h0 hg hlt hsp)) (fun _ _ => rfl) (by simp)
    hg (ok_one (by kernel_rfl) rfl (okWide_bool_mk Tryz.underlying4 _))⟩
theorem reads (os : Os) {H : Type} (enc : TypeId × Value → H) : ∃ places, DataW.whole enc Tryz.prog ((laidWorld os).forCall (fun _ _ => 0) ⟨#[], #[.slice none 0 0], []⟩).memory Tryz.f5.params.toList Rows.peepholeAssemblesSpec.vars false #[Value.slice none 0 0].toList 8 = some ([.nil], [], places) :=
  ⟨[], by kernel_rfl⟩
theorem lifted (os : Os) (started : os.Started) (H : Type) (enc : TypeId × Value → H) (F : Stop.Interp) :
    ReturnsInHanded {} Tryz.checked os 5 .any ((OpenSpec.ofChange Rows.peepholeAssemblesSpec).preRow enc Tryz.prog Tryz.f5 Rows.peepholeAssemblesRow.domain false Rows.peepholeAssemblesRow.laid) (((OpenSpec.ofChange Rows.peepholeAssemblesSpec).at F).post enc Tryz.prog Tryz.f5 false true false false) := by
  obtain ⟨places, hx⟩ := reads os enc
  refine returnsInHanded_of_row (C := Tryz.checked) (s := OpenSpec.ofChange Rows.peepholeAssemblesSpec) own started (by kernel_rfl) Tryz.func5
    (witness_row_at (enc := enc) (C := Tryz.checked) false (laidWorld os) #[.slice none 0 0] rfl (by kernel_rfl) (by kernel_rfl) (by kernel_rfl)
      (OpenSpec.preRow_of_cond 8 hx (by kernel_rfl) (fun k hk => by cases hk) (by kernel_rfl) (laid_met os _))) ?_
  intro W base args ds gs before hval hW _ _ _ hL hS _
  exact contract H enc W base args ds gs before hval hW hL hS
theorem said : Rows.PeepholeAssemblesSaid :=
  OpenClaim.holds_of_cond 5 Tryz.f5 rfl rfl rfl rfl rfl rfl rfl ⟨rfl, rfl, rfl, rfl, rfl⟩ rfl rfl rfl rfl rfl (by kernel_rfl) Tryz.func5 (by kernel_rfl)
    (of_decide_eq_true (by kernel_rfl)) (by unfold Func.isWrapper; first | (rw [if_pos (by decide +kernel)]; kernel_rfl) | (rw [if_neg (by decide +kernel)]; exact ⟨rfl, rfl⟩))
    (fun os started H enc _ F => by rw [OpenClaim.pre_eq_preRow]; exact lifted os started H enc F)
theorem plain (f : FuncId) (fn : Func) (hf : Tryz.pinned.checked.prog.funcNamed "stele/stelelaw24.PeepholeAssembles" = some f) (hfn : Tryz.pinned.checked.prog.funcs[f]? = some fn) :
    true = Tryz.pinned.checked.prog.looks [] ∧ ∀ (j : Nat) t, fn.params[j]? = some t → Tryz.pinned.checked.prog.wantsStandIn t = false := by
  obtain rfl : f = 5 := Option.some.inj ((show Tryz.prog.funcNamed "stele/stelelaw24.PeepholeAssembles" = some 5 by kernel_rfl).symm.trans hf) |>.symm
  obtain rfl : fn = Tryz.f5 := (Option.some.inj (Tryz.func5.symm.trans hfn)).symm
  refine ⟨by kernel_rfl, fun j t ht => ?_⟩
  rw [Tryz.params5] at ht
  obtain rfl : t = 22 := by simpa using Array.mem_of_getElem? ht
  exact (show Tryz.prog.wantsStandIn 22 = false by kernel_rfl)
end Go.Proofs.YtkjjenppmmipmaaGreatDoor.fnAsm
namespace Go.Proofs.YtkjjenppmmipmaaGreatDoor
theorem peepholeAssembles_card : Rows.PeepholeAssemblesCardSaid :=
  Claim7.holds_tied_plain_at .later [] _ _ _ _ fnAsm.said (fun _ h => by cases h) (by kernel_rfl) (fun _ h => by cases h) peepholeAssembles_row_tie rfl ⟨rfl, rfl⟩ (by kernel_rfl) rfl fnAsm.plain (by kernel_rfl)
#print axioms peepholeAssembles_card
end Go.Proofs.YtkjjenppmmipmaaGreatDoor
