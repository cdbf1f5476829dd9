/- The law of the operators' precedence, walked. -/
import Derived.Test.YtfodkbchknknjaaGreatDoorLawA
import Derived.Test.YtfodkbchknknjaaGreatDoorPEq
set_option linter.unusedVariables false
set_option linter.unusedSimpArgs false
namespace Go.Proofs.YtfodkbchknknjaaGreatDoor
open Go.GL Go.RowKit Go.Stele
set_option maxRecDepth 100000
set_option maxHeartbeats 4000000
def precOps : List (List UInt8) := [[124, 124], [38, 38], [61, 61], [33, 61], [60], [62], [60, 61], [62, 61], [94], [43], [45], [42], [47], [37]]
def levOf (op : List UInt8) : Int :=
  if op = [124, 124] then 1 else if op = [38, 38] then 2 else if op = [94] then 4 else if op = [43] then 5 else if op = [45] then 5 else if op = [42] then 6 else if op = [47] then 6 else if op = [37] then 6 else 3
def precSrc (f g : List UInt8) : List UInt8 := [117, 32] ++ f ++ [32, 118, 32] ++ g ++ [32, 119]
def wantL (f g : List UInt8) : Ex := bE g (bE f (vE [117]) (vE [118])) (vE [119])
def wantR (f g : List UInt8) : Ex := bE f (vE [117]) (bE g (vE [118]) (vE [119]))
def precChk (f g : List UInt8) : Bool :=
  if levOf f = 3 ∧ levOf g = 3 then decide ((parseP (bodyOf (precSrc f g))).2.2 = 3)
  else decide ((parseP (bodyOf (precSrc f g))).2.2 = 0) && eqPr (parseP (bodyOf (precSrc f g))).1 (asP (if levOf f < levOf g then wantR f g else wantL f g))
theorem precAll : (precOps.all fun f => precOps.all fun g => precChk f g) = true := by kernel_rfl
theorem prec_at {i j : Nat} (hi : i < precOps.length) (hj : j < precOps.length) : precChk precOps[i] precOps[j] = true :=
  List.all_eq_true.1 (List.all_eq_true.1 precAll _ (List.getElem_mem hi)) _ (List.getElem_mem hj)
theorem prec_len {i : Nat} (hi : i < precOps.length) : precOps[i].length ≤ 2 := by
  have : ∀ x ∈ precOps, x.length ≤ 2 := by decide
  exact this _ (List.getElem_mem hi)
attribute [local irreducible] LOps LCode LStep LCalls Go.GL.Pure QThen QBlock RetPost LQ LAny LLate LLateOp
section
variable {B0 : Nat} {w0 : World}
theorem level_spec (op : List UInt8) : LCalls (KC B0 w0) 16 [str op] [] (Ret (int .i64 (levOf op))) := by
  refine LCalls.intro Tryz.func16 rfl (n := 17) rfl rfl rfl ?_
  unfold levOf
  repeat first
    | refine LOps.nil ?_
    | refine LCode.seq ?_
    | refine LCode.region ?_
    | refine LCode.block ?_
    | refine QThen.normal ?_
    | refine LOps.pure (Pure.as (lv := .atom _) rfl) rfl ?_
    | refine LOps.pure (Pure.mv (lv := .atom _) rfl) rfl ?_
    | refine LOps.pure (Pure.seq rfl rfl) rfl ?_
  refine LCode.cond rfl (fun h1 => ?_) (fun h1 => ?_)
  · repeat first
      | refine LOps.nil ?_
      | refine LCode.seq ?_
      | refine LCode.region ?_
      | refine LCode.ret ?_
      | refine QThen.normal ?_
      | refine QThen.ret ?_
      | refine QBlock.ret ?_
      | refine LOps.pure (Pure.as (lv := .atom _) rfl) rfl ?_
    exact retRet rfl (AllRes.cons (ResIs.tmp (v := .atom _) rfl (LV.Sub.refl _)) AllRes.nil) (by rw [if_pos (of_decide_eq_true h1)]; rfl)
  rw [if_neg (of_decide_eq_false h1)]
  repeat first
    | refine LOps.nil ?_
    | refine LCode.seq ?_
    | refine LCode.region ?_
    | refine QThen.normal ?_
    | refine LOps.pure (Pure.as (lv := .atom _) rfl) rfl ?_
    | refine LOps.pure (Pure.seq rfl rfl) rfl ?_
  refine LCode.cond rfl (fun h2 => ?_) (fun h2 => ?_)
  · repeat first
      | refine LOps.nil ?_
      | refine LCode.seq ?_
      | refine LCode.region ?_
      | refine LCode.ret ?_
      | refine QThen.normal ?_
      | refine QThen.ret ?_
      | refine QBlock.ret ?_
      | refine LOps.pure (Pure.as (lv := .atom _) rfl) rfl ?_
    exact retRet rfl (AllRes.cons (ResIs.tmp (v := .atom _) rfl (LV.Sub.refl _)) AllRes.nil) (by rw [if_pos (of_decide_eq_true h2)]; rfl)
  rw [if_neg (of_decide_eq_false h2)]
  repeat first
    | refine LOps.nil ?_
    | refine LCode.seq ?_
    | refine LCode.region ?_
    | refine QThen.normal ?_
    | refine LOps.pure (Pure.as (lv := .atom _) rfl) rfl ?_
    | refine LOps.pure (Pure.seq rfl rfl) rfl ?_
  refine LCode.cond rfl (fun h3 => ?_) (fun h3 => ?_)
  · repeat first
      | refine LOps.nil ?_
      | refine LCode.seq ?_
      | refine LCode.region ?_
      | refine LCode.ret ?_
      | refine QThen.normal ?_
      | refine QThen.ret ?_
      | refine QBlock.ret ?_
      | refine LOps.pure (Pure.as (lv := .atom _) rfl) rfl ?_
    exact retRet rfl (AllRes.cons (ResIs.tmp (v := .atom _) rfl (LV.Sub.refl _)) AllRes.nil) (by rw [if_pos (of_decide_eq_true h3)]; rfl)
  rw [if_neg (of_decide_eq_false h3)]
  repeat first
    | refine LOps.nil ?_
    | refine LCode.seq ?_
    | refine LCode.region ?_
    | refine QThen.normal ?_
    | refine LOps.pure (Pure.as (lv := .atom _) rfl) rfl ?_
    | refine LOps.pure (Pure.seq rfl rfl) rfl ?_
  refine LCode.cut [(3, str op), (10, bool (decide (op = [43]) || decide (op = [45])))] ?_ (fun j hj => ?_)
  · refine LCode.cond rfl (fun h4 => ?_) (fun h4 => ?_)
    · repeat first
        | refine LCode.skip ?_
        | refine QThen.normal ?_
      exact ⟨⟨rfl, bool_eq (by rw [h4]; rfl), trivial⟩, rfl, rfl⟩
    · repeat first
        | refine LOps.nil ?_
        | refine LCode.region ?_
        | refine QThen.normal ?_
        | refine LOps.pure (Pure.as (lv := .atom _) rfl) rfl ?_
        | refine LOps.pure (Pure.seq rfl rfl) rfl ?_
      exact ⟨⟨rfl, bool_eq (by rw [h4, Bool.false_or]), trivial⟩, rfl, rfl⟩
  refine LCode.cond rfl (fun h4 => ?_) (fun h4 => ?_)
  · repeat first
      | refine LOps.nil ?_
      | refine LCode.seq ?_
      | refine LCode.region ?_
      | refine LCode.ret ?_
      | refine QThen.normal ?_
      | refine QThen.ret ?_
      | refine QBlock.ret ?_
      | refine LOps.pure (Pure.as (lv := .atom _) rfl) rfl ?_
    refine retRet hj (AllRes.cons (ResIs.tmp (v := .atom _) rfl (LV.Sub.refl _)) AllRes.nil) ?_
    rw [Bool.or_eq_true, decide_eq_true_eq, decide_eq_true_eq] at h4
    rcases h4 with h4 | h4
    · rw [if_pos h4]; rfl
    · rw [if_neg (by rw [h4]; decide), if_pos h4]; rfl
  rw [Bool.or_eq_false_iff, decide_eq_false_iff_not, decide_eq_false_iff_not] at h4
  rw [if_neg h4.1, if_neg h4.2]
  repeat first
    | refine LOps.nil ?_
    | refine LCode.seq ?_
    | refine LCode.region ?_
    | refine QThen.normal ?_
    | refine LOps.pure (Pure.as (lv := .atom _) rfl) rfl ?_
    | refine LOps.pure (Pure.seq rfl rfl) rfl ?_
  refine LCode.cut [(3, str op), (13, bool (decide (op = [42]) || (decide (op = [47]) || decide (op = [37]))))] ?_ (fun j2 hj2 => ?_)
  · refine LCode.cond rfl (fun h5 => ?_) (fun h5 => ?_)
    · repeat first
        | refine LCode.skip ?_
        | refine QThen.normal ?_
      exact ⟨⟨rfl, bool_eq (by rw [h5]; rfl), trivial⟩, rfl, rfl⟩
    · repeat first
        | refine LOps.nil ?_
        | refine LCode.seq ?_
        | refine LCode.region ?_
        | refine QThen.normal ?_
        | refine LOps.pure (Pure.as (lv := .atom _) rfl) rfl ?_
        | refine LOps.pure (Pure.seq rfl rfl) rfl ?_
      refine LCode.cond rfl (fun h6 => ?_) (fun h6 => ?_)
      · repeat first
          | refine LCode.skip ?_
          | refine QThen.normal ?_
        exact ⟨⟨rfl, bool_eq (by rw [h5, h6]; rfl), trivial⟩, rfl, rfl⟩
      · repeat first
          | refine LOps.nil ?_
          | refine LCode.region ?_
          | refine QThen.normal ?_
          | refine LOps.pure (Pure.as (lv := .atom _) rfl) rfl ?_
          | refine LOps.pure (Pure.seq rfl rfl) rfl ?_
        exact ⟨⟨rfl, bool_eq (by rw [h5, h6, Bool.false_or, Bool.false_or]), trivial⟩, rfl, rfl⟩
  refine LCode.cond rfl (fun h5 => ?_) (fun h5 => ?_)
  · repeat first
      | refine LOps.nil ?_
      | refine LCode.seq ?_
      | refine LCode.region ?_
      | refine LCode.ret ?_
      | refine QThen.normal ?_
      | refine QThen.ret ?_
      | refine QBlock.ret ?_
      | refine LOps.pure (Pure.as (lv := .atom _) rfl) rfl ?_
    refine retRet (hj2.trans hj) (AllRes.cons (ResIs.tmp (v := .atom _) rfl (LV.Sub.refl _)) AllRes.nil) ?_
    rw [Bool.or_eq_true, Bool.or_eq_true, decide_eq_true_eq, decide_eq_true_eq, decide_eq_true_eq] at h5
    rcases h5 with h5 | h5 | h5
    · rw [if_pos h5]; rfl
    · rw [if_neg (by rw [h5]; decide), if_pos h5]; rfl
    · rw [if_neg (by rw [h5]; decide), if_neg (by rw [h5]; decide), if_pos h5]; rfl
  rw [Bool.or_eq_false_iff, Bool.or_eq_false_iff, decide_eq_false_iff_not, decide_eq_false_iff_not, decide_eq_false_iff_not] at h5
  rw [if_neg h5.1, if_neg h5.2.1, if_neg h5.2.2]
  repeat first
    | refine LOps.nil ?_
    | refine LCode.seq ?_
    | refine LCode.region ?_
    | refine LCode.skip ?_
    | refine LCode.ret ?_
    | refine QThen.normal ?_
    | refine QBlock.normal ?_
    | refine LOps.pure (Pure.as (lv := .atom _) rfl) rfl ?_
  exact retRet (hj2.trans hj) (AllRes.cons (ResIs.tmp (v := .atom _) rfl (LV.Sub.refl _)) AllRes.nil) rfl
theorem prec_spec (hG : GW B0 w0) (a b : Nat) (ha : a < 256) (hb : b < 256) : LCalls (KC B0 w0) 4 [int .u8 a, int .u8 b] [] (Ret (bool true)) := by
  obtain ⟨i, hi⟩ : ∃ i, i = a % 14 := ⟨_, rfl⟩
  obtain ⟨j0, hj0⟩ : ∃ j, j = b % 14 := ⟨_, rfl⟩
  have hil : i < precOps.length := by show i < 14; omega
  have hjl : j0 < precOps.length := by show j0 < 14; omega
  have hwa : IntKind.i64.wrap (a : Int) = (a : Int) := wrap_i64 (by omega)
  have hwb : IntKind.i64.wrap (b : Int) = (b : Int) := wrap_i64 (by omega)
  have hlen : ((precOps.map str).length : Int) = 14 := rfl
  have hla := prec_len hil
  have hlb := prec_len hjl
  refine LCalls.intro Tryz.func4 rfl (n := 80) rfl rfl rfl ?_
  repeat first
    | refine LOps.nil ?_
    | refine LCode.seq ?_
    | refine LCode.region ?_
    | refine QThen.normal ?_
    | refine LOps.pure (Pure.as (lv := .atom _) rfl) rfl ?_
  refine LOps.step (S.fn [] rfl (alive_spec hG) ?_) rfl
  repeat first
    | refine LOps.nil ?_
    | refine QThen.normal ?_
    | refine LOps.pure (Pure.not rfl) rfl ?_
  refine LCode.cond rfl (fun h0 => ?_) (fun h0 => ?_)
  · cases h0
  repeat first
    | refine LCode.seq ?_
    | refine LCode.region ?_
    | refine LCode.skip ?_
    | refine QThen.normal ?_
  refine LOps.step (S.lit (es := precOps.map str) [_, _, _, _, _, _, _, _, _, _, _, _, _, _] rfl (elemsOk.cons rfl rfl (elemsOk.cons rfl rfl (elemsOk.cons rfl rfl (elemsOk.cons rfl rfl (elemsOk.cons rfl rfl (elemsOk.cons rfl rfl (elemsOk.cons rfl rfl (elemsOk.cons rfl rfl (elemsOk.cons rfl rfl (elemsOk.cons rfl rfl (elemsOk.cons rfl rfl (elemsOk.cons rfl rfl (elemsOk.cons rfl rfl (elemsOk.cons rfl rfl elemsOk.nil)))))))))))))) rfl rfl rfl ?_) rfl
  repeat first
    | refine LOps.nil ?_
    | refine LCode.seq ?_
    | refine QThen.normal ?_
    | refine LOps.pure (Pure.as (lv := .list _) rfl) rfl ?_
  refine LCode.cut [(6, str precOps[i]), (7, str precOps[j0])] ?_ (fun j hj => ?_)
  · refine LCode.quiet (by kernel_rfl) ?_
    repeat first
      | refine LQ.pure (Pure.mv (lv := .list _) rfl) rfl ?_
      | refine LQ.pure (Pure.mv (lv := .atom _) rfl) rfl ?_
      | refine LQ.pure (Pure.cvt rfl) rfl ?_
      | refine LQ.pure (Pure.llen rfl) rfl ?_
    refine LQ.pure (Pure.rem (b := 14) (int_eq hwa) rfl (by omega) (by omega)) rfl ?_
    refine LQ.pure (Pure.ixRef (n := ((i : Nat) : Int)) (el' := str precOps[i]) (cs := [_]) rfl (int_eq (by omega)) (by omega) (map_get _ _ _ hil) rfl rfl) rfl ?_
    repeat first
      | refine LQ.pure (Pure.mv (lv := .list _) rfl) rfl ?_
      | refine LQ.pure (Pure.mv (lv := .atom _) rfl) rfl ?_
      | refine LQ.pure (Pure.cvt rfl) rfl ?_
      | refine LQ.pure (Pure.llen rfl) rfl ?_
      | refine LQ.pure (Pure.loadRef (c := .atom _) rfl rfl) rfl ?_
    refine LQ.pure (Pure.rem (b := 14) (int_eq hwb) rfl (by omega) (by omega)) rfl ?_
    refine LQ.pure (Pure.ixRef (n := ((j0 : Nat) : Int)) (el' := str precOps[j0]) (cs := [_]) rfl (int_eq (by omega)) (by omega) (map_get _ _ _ hjl) rfl rfl) rfl ?_
    repeat first
      | refine LQ.pure (Pure.as (lv := .atom _) rfl) rfl ?_
      | refine LQ.pure (Pure.loadRef (c := .atom _) rfl rfl) rfl ?_
      | refine LQ.nil ?_
      | refine QThen.normal ?_
    exact ⟨⟨rfl, rfl, trivial⟩, rfl, rfl⟩
  have hchk := prec_at hil hjl
  generalize precOps[i] = f at hchk hla
  generalize precOps[j0] = g at hchk hlb
  have hsl : (precSrc f g).length ≤ 100 := by
    simp only [precSrc, List.length_append, List.length_cons, List.length_nil]
    omega
  have hp := parse_spec hG (bodyOf (precSrc f g)) (by
    simp only [bodyOf, List.length_append, bodyPre, bodyPost, List.length_cons, List.length_nil]
    omega)
  unfold precChk at hchk
  generalize parseP (bodyOf (precSrc f g)) = r at hp hchk
  obtain ⟨p, l, e⟩ := r
  simp only at hchk
  repeat first
    | refine LCode.seq ?_
    | refine LCode.region ?_
    | refine LOps.pure (Pure.mv (lv := .atom _) rfl) rfl ?_
    | refine LOps.pure (Pure.sadd rfl rfl (by simp only [List.length_append, List.length_cons, List.length_nil]; omega)) rfl ?_
  refine LOps.step (S.fn [_] rfl (body_spec (precSrc f g) (by omega)) ?_) rfl
  refine LOps.step (S.fn [_] rfl hp ?_) rfl
  refine LOps.pure (Pure.mv rfl) rfl ?_
  refine LOps.pure (Pure.extract (vs := [encPr p, int .i64 l, int .i64 e]) rfl rfl) rfl ?_
  refine LOps.pure (Pure.extract (vs := [encPr p, int .i64 l, int .i64 e]) rfl rfl) rfl ?_
  refine LOps.pure (Pure.extract (vs := [encPr p, int .i64 l, int .i64 e]) rfl rfl) rfl ?_
  refine LOps.step (S.alloc fun b8 => ?_) rfl
  repeat first
    | refine LOps.nil ?_
    | refine LCode.seq ?_
    | refine LCode.region ?_
    | refine QThen.normal ?_
    | refine LOps.pure (Pure.as (lv := .atom _) rfl) rfl ?_
    | refine LOps.pure (Pure.mv (lv := .atom _) rfl) rfl ?_
    | refine LOps.step (S.store (cs' := [_, _, _]) rfl Pick.here rfl rfl rfl rfl rfl ?_) rfl
  refine LOps.step (S.fn [_] rfl (level_spec f) ?_) rfl
  repeat first
    | refine LOps.pure (Pure.mv (lv := .atom _) rfl) rfl ?_
    | refine LOps.pure (Pure.eql rfl rfl) rfl ?_
  refine LOps.cut [(6, str f), (7, str g), (8, ptr b8 0), (10, int .i64 e), (50, bool (decide (levOf f = 3) && decide (levOf g = 3)))] ?_ (fun j2 hj2 => ?_)
  · refine LOps.bcase 46 rfl (fun h1 => ?_) (fun h1 => ?_)
    · repeat first
        | refine LOps.pure (Pure.mv (lv := .atom _) rfl) rfl ?_
        | refine LOps.want rfl rfl ?_
      refine LOps.step (S.fn [_] rfl (level_spec g) ?_) rfl
      repeat first
        | refine LOps.nil ?_
        | refine QThen.normal ?_
        | refine LOps.pure (Pure.eql rfl rfl) rfl ?_
        | refine LOps.pure (Pure.pickT (lv := .atom _) rfl rfl) rfl ?_
        | refine LOps.want rfl rfl ?_
      exact ⟨⟨rfl, rfl, rfl, rfl, bool_eq (by rw [h1, Bool.true_and]), trivial⟩, rfl, rfl⟩
    · repeat first
        | refine LOps.nil ?_
        | refine QThen.normal ?_
        | refine LOps.pure (Pure.pickF (lv := .atom _) rfl rfl) rfl ?_
        | refine LOps.skip rfl rfl rfl rfl ?_
      exact ⟨⟨rfl, rfl, rfl, rfl, bool_eq (by rw [h1]; rfl), trivial⟩, rfl, rfl⟩
  refine LCode.cond rfl (fun h3 => ?_) (fun h3 => ?_)
  · rw [Bool.and_eq_true, decide_eq_true_eq, decide_eq_true_eq] at h3
    rw [if_pos h3] at hchk
    repeat first
      | refine LOps.nil ?_
      | refine LCode.seq ?_
      | refine LCode.region ?_
      | refine LCode.ret ?_
      | refine QThen.normal ?_
      | refine QThen.ret ?_
      | refine LOps.pure (Pure.as (lv := .atom _) rfl) rfl ?_
      | refine LOps.pure (Pure.mv (lv := .atom _) rfl) rfl ?_
      | refine LOps.pure (Pure.eql rfl rfl) rfl ?_
    exact retRet (hj2.trans hj) (AllRes.cons (ResIs.tmp (v := .atom _) rfl (LV.Sub.refl _)) AllRes.nil) (bool_eq hchk)
  have h3' : ¬ (levOf f = 3 ∧ levOf g = 3) := by
    rintro ⟨q1, q2⟩
    rw [q1, q2] at h3
    cases h3
  rw [if_neg h3', Bool.and_eq_true, decide_eq_true_eq] at hchk
  obtain ⟨rfl, hchk⟩ := hchk
  rw [eqPr_iff] at hchk
  subst hchk
  repeat first
    | refine LCode.seq ?_
    | refine LCode.region ?_
    | refine LCode.skip ?_
    | refine QThen.normal ?_
    | refine LOps.pure (Pure.mv (lv := .atom _) rfl) rfl ?_
  refine LOps.step (S.fn [_] rfl (variable_spec [117]) ?_) rfl
  refine LOps.step (S.fn [_] rfl (variable_spec [118]) ?_) rfl
  refine LOps.step (S.fn [_, _, _] rfl (lbinary_spec f (vE [117]) (vE [118])) ?_) rfl
  refine LOps.step (S.fn [_] rfl (variable_spec [119]) ?_) rfl
  refine LOps.step (S.fn [_, _, _] rfl (lbinary_spec g (bE f (vE [117]) (vE [118])) (vE [119])) ?_) rfl
  refine LOps.step (S.alloc fun b11 => ?_) rfl
  repeat first
    | refine LOps.nil ?_
    | refine LCode.seq ?_
    | refine LCode.region ?_
    | refine QThen.normal ?_
    | refine LOps.pure (Pure.mv (lv := .atom _) rfl) rfl ?_
    | refine LOps.step (S.store (cs' := [_, _, _, _]) rfl Pick.here rfl rfl rfl rfl rfl ?_) rfl
  refine LOps.step (S.fn [_] rfl (level_spec f) ?_) rfl
  repeat first
    | refine LOps.pure (Pure.mv (lv := .atom _) rfl) rfl ?_
  refine LOps.step (S.fn [_] rfl (level_spec g) ?_) rfl
  repeat first
    | refine LOps.nil ?_
    | refine QThen.normal ?_
    | refine LOps.pure (Pure.lss rfl rfl) rfl ?_
  refine LCode.cutTo [(8, ptr b8 0), (10, int .i64 0), (11, ptr b11 0)] [(b11, .cells 38 [str (exOp (if levOf f < levOf g then wantR f g else wantL f g)), int .u32 (exNum (if levOf f < levOf g then wantR f g else wantL f g)), str (exName (if levOf f < levOf g then wantR f g else wantL f g)), .list (encArgs (if levOf f < levOf g then wantR f g else wantL f g))]), (b8, .cells 27 [.list ((asP (if levOf f < levOf g then wantR f g else wantL f g)).vars.map str), .list ((asP (if levOf f < levOf g then wantR f g else wantL f g)).arrays.map encAr), .list ((asP (if levOf f < levOf g then wantR f g else wantL f g)).funcs.map encFn)])] ?_ (fun j3 hj3 => ?_)
  · refine LCode.cond rfl (fun h4 => ?_) (fun h4 => ?_)
    · have h4' := of_decide_eq_true h4
      repeat first
        | refine LCode.region ?_
        | refine LOps.pure (Pure.mv (lv := .atom _) rfl) rfl ?_
      refine LOps.step (S.fn [_] rfl (variable_spec [117]) ?_) rfl
      repeat first
        | refine LOps.pure (Pure.mv (lv := .atom _) rfl) rfl ?_
      refine LOps.step (S.fn [_] rfl (variable_spec [118]) ?_) rfl
      refine LOps.step (S.fn [_] rfl (variable_spec [119]) ?_) rfl
      refine LOps.step (S.fn [_, _, _] rfl (lbinary_spec g (vE [118]) (vE [119])) ?_) rfl
      refine LOps.step (S.fn [_, _, _] rfl (lbinary_spec f (vE [117]) (bE g (vE [118]) (vE [119]))) ?_) rfl
      repeat first
        | refine LOps.nil ?_
        | refine QThen.normal ?_
        | refine LOps.step (S.store (cs' := [_, _, _, _]) rfl Pick.here rfl rfl rfl rfl rfl ?_) rfl
      refine ⟨⟨rfl, rfl, rfl, trivial⟩, ?_, rfl⟩
      rw [if_pos h4']
      rfl
    · have h4' := of_decide_eq_false h4
      repeat first
        | refine LCode.skip ?_
        | refine QThen.normal ?_
      refine ⟨⟨rfl, rfl, rfl, trivial⟩, ?_, rfl⟩
      rw [if_neg h4']
      rfl
  have hwn : nEx (if levOf f < levOf g then wantR f g else wantL f g) ≤ 1000 := by
    split <;> simp [wantR, wantL, bE, vE, nEx, nExs]
  generalize (if levOf f < levOf g then wantR f g else wantL f g) = x at hwn
  repeat first
    | refine LCode.seq ?_
  refine LCode.draw (m := 9) rfl [(b11, .cells 38 [str (exOp x), int .u32 (exNum x), str (exName x), .list (encArgs x)]), (b8, .cells 27 [.list ((asP x).vars.map str), .list ((asP x).arrays.map encAr), .list ((asP x).funcs.map encFn)])] ?_
  refine LAny.take (i := 0) (by first | exact HSub.nil _ | exact HSub.refl _ | exact HSub.drop (HSub.refl _) | exact HSub.pick Pick.here (HSub.nil _) | exact HSub.pick (Pick.there Pick.here) (HSub.nil _) | exact HSub.pick (Pick.there (Pick.there Pick.here)) (HSub.nil _)) rfl (by kernel_rfl) (by kernel_rfl) (by kernel_rfl) rfl (Pure.mv (lv := .atom _) rfl) ?_
  refine LAny.take (i := 1) (by first | exact HSub.nil _ | exact HSub.refl _ | exact HSub.drop (HSub.refl _) | exact HSub.pick Pick.here (HSub.nil _) | exact HSub.pick (Pick.there Pick.here) (HSub.nil _) | exact HSub.pick (Pick.there (Pick.there Pick.here)) (HSub.nil _)) rfl (by kernel_rfl) (by kernel_rfl) (by kernel_rfl) rfl (Pure.eql rfl rfl) ?_
  refine LAny.take (i := 2) (by first | exact HSub.nil _ | exact HSub.refl _ | exact HSub.drop (HSub.refl _) | exact HSub.pick Pick.here (HSub.nil _) | exact HSub.pick (Pick.there Pick.here) (HSub.nil _) | exact HSub.pick (Pick.there (Pick.there Pick.here)) (HSub.nil _)) rfl (by kernel_rfl) (by kernel_rfl) (by kernel_rfl) rfl (Pure.mv (lv := .atom _) rfl) ?_
  refine LAny.takeWant (i := 3) (by first | exact HSub.nil _ | exact HSub.refl _ | exact HSub.drop (HSub.refl _) | exact HSub.pick Pick.here (HSub.nil _) | exact HSub.pick (Pick.there Pick.here) (HSub.nil _) | exact HSub.pick (Pick.there (Pick.there Pick.here)) (HSub.nil _)) rfl rfl rfl (by kernel_rfl) (by kernel_rfl) (by kernel_rfl) rfl (Pure.ldHAgg (cs' := [_, _, _]) rfl (List.Mem.tail _ (List.Mem.head _)) rfl rfl) ?_
  refine LAny.takeWant (i := 4) (by first | exact HSub.nil _ | exact HSub.refl _ | exact HSub.drop (HSub.refl _) | exact HSub.pick Pick.here (HSub.nil _) | exact HSub.pick (Pick.there Pick.here) (HSub.nil _) | exact HSub.pick (Pick.there (Pick.there Pick.here)) (HSub.nil _)) rfl rfl rfl (by kernel_rfl) (by kernel_rfl) (by kernel_rfl) rfl (Pure.ldHAgg (cs' := [_, _, _, _]) rfl (List.Mem.head _) rfl rfl) ?_
  refine LAny.late ?_ (HSub.refl _)
  refine LLate.one (i := 5) (by kernel_rfl) (LLateOp.step (H1 := []) (F := [(b11, .cells 38 [str (exOp x), int .u32 (exNum x), str (exName x), .list (encArgs x)]), (b8, .cells 27 [.list ((asP x).vars.map str), .list ((asP x).arrays.map encAr), .list ((asP x).funcs.map encFn)])]) rfl (.inr ⟨2, true, 74, rfl, rfl, rfl⟩) rfl (List.Perm.refl _) (HSub.refl _) (S.fn [_] rfl (assigned_spec x) ?_))
  refine LLate.one (i := 6) (by kernel_rfl) (LLateOp.step (H1 := []) (F := [(b11, .cells 38 [str (exOp x), int .u32 (exNum x), str (exName x), .list (encArgs x)]), (b8, .cells 27 [.list ((asP x).vars.map str), .list ((asP x).arrays.map encAr), .list ((asP x).funcs.map encFn)])]) rfl (.inr ⟨2, true, 74, rfl, rfl, rfl⟩) rfl (List.Perm.refl _) (HSub.refl _) (S.fn [_, _] rfl (by
    have := pequal_spec (B0 := B0) (w0 := w0) (asP x) (asP x) (asP_ok x hwn) (asP_ok x hwn)
    rw [(eqPr_iff _ _).2 rfl] at this
    exact this) ?_))
  refine LLate.one (i := 7) (by kernel_rfl) (LLateOp.pureH rfl rfl (Pure.pickT rfl rfl) ?_)
  refine LLate.one (i := 8) (by kernel_rfl) (LLateOp.pureH rfl rfl (Pure.as (lv := .atom _) rfl) ?_)
  refine LLate.done (by kernel_rfl) ?_
  repeat first
    | refine LCode.ret ?_
    | refine QThen.normal ?_
  exact retRet (hj3.trans (hj2.trans hj)) (AllRes.cons (ResIs.tmp (v := .atom _) rfl (LV.Sub.refl _)) AllRes.nil) rfl
end
end Go.Proofs.YtfodkbchknknjaaGreatDoor
