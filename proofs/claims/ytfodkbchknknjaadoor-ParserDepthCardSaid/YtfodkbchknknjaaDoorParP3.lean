/- The parser's index, arguments, number, names, walked. -/
import Derived.Test.YtfodkbchknknjaaDoorParE
import Derived.Test.YtfodkbchknknjaaDoorParFuel
set_option linter.unusedVariables false
set_option linter.unusedSimpArgs false
namespace Go.Proofs.YtfodkbchknknjaaDoor
open Go.GL Go.RowKit Go.Stele
set_option maxRecDepth 100000
set_option maxHeartbeats 4000000
attribute [local irreducible] LOps LCode LStep LCalls Go.GL.Pure QThen QBlock RetPost LQ LAny LLate LLateOp
theorem obind_ok {A B : Type} {v : A} {i op : Nat} {f : A → Nat → Nat → OR B} : obind (some (.ok v i op)) f = f v i op := rfl
theorem obind_err {A B : Type} {l e : Int} {f : A → Nat → Nat → OR B} : obind (some (.err l e)) f = some (.err l e) := rfl
theorem obind_is {A B : Type} {r : OR A} {f : A → Nat → Nat → OR B} {q : Res B} (h : obind r f = some q) : ∃ r1, r = some r1 := by
  cases r with
  | none => cases h
  | some r1 => exact ⟨r1, rfl⟩
/-- The tokens that a parser works on: not too many, and each number's text is a number. -/
structure TOK (T : List Tok) : Prop where
  len : T.length ≤ 100000
  txt : ∀ t ∈ T, t.text.length ≤ 100000
  num : ∀ t ∈ T, t.kind = 1 → ∃ u, u < 4294967296 ∧ Go.Lib.parseUintB 32 t.text = .ok u
theorem wrap_u32 {n : Int} (h : 0 ≤ n ∧ n ≤ 4294967295) : IntKind.u32.wrap n = n := by
  simp only [IntKind.wrap, IntKind.bits, IntKind.signed, Bool.false_and]
  simp
  omega
theorem sWord_ok {T : List Tok} {k : Int} {i op i' op' : Nat} {s : List UInt8} (h : sWord T k i op = .ok s i' op') : i' = i + 1 ∧ op' = op ∧ ∃ t, T[i]? = some t ∧ t.kind = k ∧ t.text = s := by
  unfold sWord at h
  split at h
  · rename_i t ht
    split at h
    · rename_i hk
      cases h
      exact ⟨rfl, rfl, t, ht, hk, rfl⟩
    · cases h
  · cases h
def encNames (l : List (List UInt8)) : LV := .list (l.map str)
def encN (n : Nat) : LV := int .u32 n
def ExprC (B0 : Nat) (w0 : World) (sb : Nat) (T : List Tok) (f : Nat) : Prop :=
  ∀ i op r, i ≤ T.length → op ≤ 100 → eLev T f 0 i op = some r → LCalls (KC B0 w0) 64 [ptr sb 0] [srcH sb T i op] (PostP sb T encE r)
section
variable {B0 : Nat} {w0 : World}
theorem number_specP (hG : GW B0 w0) (sb : Nat) (T : List Tok) (hT : TOK T) (i op : Nat) (hi : i ≤ 1000000) : LCalls (KC B0 w0) 44 [ptr sb 0] [srcH sb T i op] (PostP sb T encN (sNumber T i op)) := by
  have hl := hT.len
  refine LCalls.intro Tryd.func44 rfl (n := 13) rfl rfl rfl ?_
  repeat first
    | refine LOps.nil ?_
    | refine LCode.seq ?_
    | refine LCode.region ?_
    | refine QThen.normal ?_
    | refine LOps.pure (Pure.as (lv := .atom _) rfl) rfl ?_
    | refine LOps.pure (Pure.mv (lv := .atom _) rfl) rfl ?_
  refine LOps.step (S.callP [_, _] rfl Pick.here (word_spec sb T i op 1 hl hi) (fun s i1 op1 h1 => ?_) (fun l er i1 op1 h1 e' he' => ?_)) rfl
  · obtain ⟨rfl, rfl, t, ht, hk, rfl⟩ := sWord_ok h1
    have hmem := List.mem_of_getElem? ht
    obtain ⟨u, hu, hp⟩ := hT.num t hmem hk
    have htx := hT.txt t hmem
    have hn : numOf t.text = u := by rw [numOf, hp]
    have hw : IntKind.u32.wrap (u : Int) = (u : Int) := wrap_u32 (by omega)
    refine LOps.step (S.fn [_, _, _] rfl (parseUint_ok t.text (by omega) u hp) ?_) rfl
    repeat first
      | refine LOps.nil ?_
      | refine LCode.seq ?_
      | refine LCode.region ?_
      | refine LCode.ret ?_
      | refine QThen.normal ?_
      | refine LOps.pure (Pure.as (lv := .atom _) rfl) rfl ?_
      | refine LOps.pure (Pure.mv (lv := .atom _) rfl) rfl ?_
      | refine LOps.pure (Pure.mv (lv := .tuple _) rfl) rfl ?_
      | refine LOps.pure (Pure.extract (c := .atom _) rfl rfl) rfl ?_
      | refine LOps.pure (Pure.cvt rfl) rfl ?_
    exact retP (v := numOf t.text) rfl (AllRes.cons (ResIs.tmp (v := .atom _) rfl (LV.Sub.refl _)) AllRes.nil) (by rw [sNumber, h1]; rfl) (by rw [hn]; exact int_eq hw) (HSub.refl _)
  · repeat first
      | refine QThen.panic ?_
    exact panP (he'.trans rfl) (by rw [sNumber, h1]; rfl) (HSub.refl _)
theorem names_specP (sb : Nat) (T : List Tok) (hT : TOK T) (f i op : Nat) (r : Res (List (List UInt8))) (hi : i ≤ T.length) (hr : sNames T f i op = some r) :
    LCalls (KC B0 w0) 40 [ptr sb 0] [srcH sb T i op] (PostP sb T encNames r) := by
  have hl := hT.len
  rw [sNames] at hr
  refine LCalls.intro Tryd.func40 rfl (n := 15) rfl rfl rfl ?_
  repeat first
    | refine LOps.nil ?_
    | refine LCode.seq ?_
    | refine LCode.region ?_
    | refine QThen.normal ?_
    | refine LOps.pure (Pure.as (lv := .atom _) rfl) rfl ?_
    | refine LOps.pure (Pure.mv (lv := .atom _) rfl) rfl ?_
  refine LOps.step (S.callP [_, _] rfl Pick.here (word_spec sb T i op 2 hl (by omega)) (fun s i1 op1 h1 => ?_) (fun l er i1 op1 h1 e' he' => ?_)) rfl
  · rw [h1, obind_ok] at hr
    have hi1 : i1 ≤ T.length := by
      have := sWord_good T 2 i op
      rw [h1] at this
      exact this.2.2.1 hi
    refine LOps.step (S.litA [_] rfl (elemsOk.cons rfl rfl elemsOk.nil) rfl rfl rfl fun b => ?_) rfl
    repeat first
      | refine LOps.nil ?_
      | refine LCode.seq ?_
      | refine LCode.block ?_
      | refine QThen.normal ?_
      | refine LOps.pure (Pure.as (lv := .app _ _ _ _) rfl) rfl ?_
    refine LCode.loopI (fun k ls H => ∃ (v : LV) (l : List (List UInt8)) (i2 : Nat) (Ha : Heap), ls = [(0, ptr sb 0), (3, v)] ∧ H = srcH sb T i2 op1 :: Ha ∧ Acc 1 v (l.map str) Ha [] ∧ i2 ≤ T.length ∧ l.length ≤ i2 + 1 ∧ sNamesLoop T k l i2 op1 = some r)
      ⟨f, _, srcH sb T i1 op1 :: [(b, .row 1)], ⟨.app b 1 1 [str s], [s], i1, _, rfl, rfl, Acc.row, hi1, by simp, hr⟩, ⟨rfl, rfl, trivial⟩, HSub.pick (Pick.there Pick.here) (HSub.refl _)⟩ ?_
    rintro k ls H ⟨v, l, i2, Ha, rfl, rfl, hacc, hi2, hll, hI⟩ j hj
    obtain ⟨k, rfl⟩ : ∃ k', k = k' + 1 := by
      cases k with
      | zero => rw [sNamesLoop] at hI; cases hI
      | succ k => exact ⟨k, rfl⟩
    rw [sNamesLoop] at hI
    repeat first
      | refine LCode.seq ?_
      | refine LCode.region ?_
      | refine LOps.pure (Pure.mv (lv := .atom _) rfl) rfl ?_
    refine LOps.step (S.fnH [_, _] rfl Pick.here (take_spec sb T i2 op1 [44] hl (by omega)) ?_) rfl
    repeat first
      | refine LOps.nil ?_
      | refine QThen.normal ?_
    refine LCode.cond rfl (fun hc => ?_) (fun hc => ?_)
    · have hlt := isTok_lt hc
      rw [if_pos hc] at hI
      simp only [hc, if_true]
      repeat first
        | refine LCode.region ?_
        | refine LCode.skip ?_
        | refine LCode.block ?_
        | refine QThen.normal ?_
      refine LOps.pure (Pure.mv (lv := v) rfl) rfl ?_
      repeat first
        | refine LOps.pure (Pure.mv (lv := .atom _) rfl) rfl ?_
      refine LOps.step (S.callP [_, _] rfl Pick.here (word_spec sb T (i2 + 1) op1 2 hl (by omega)) (fun s2 i3 op3 h3 => ?_) (fun l er i3 op3 h3 e' he' => ?_)) rfl
      · rw [h3, obind_ok] at hI
        obtain ⟨rfl, rfl, t, ht, _, _⟩ := sWord_ok h3
        have := get_lt ht
        refine LOps.step (S.lit [_] rfl (elemsOk.cons rfl rfl elemsOk.nil) rfl rfl rfl ?_) rfl
        refine LOps.step (S.acc1 rfl hacc rfl (by simp; rfl) rfl (by simp; omega) fun v' H' hacc' => ?_) rfl
        refine LOps.pure (Pure.as (lv := v') rfl) rfl ?_
        repeat first
          | refine LOps.nil ?_
          | refine QThen.normal ?_
          | refine QBlock.normal ?_
        exact ⟨k, _, _, by omega, ⟨v', l ++ [s2], i2 + 1 + 1, H', rfl, rfl, by rw [List.map_append]; exact hacc', by omega, by simp; omega, hI⟩, ⟨rfl, rfl, trivial⟩, HSub.refl _, hj⟩
      · rw [h3, obind_err] at hI
        repeat first
          | refine QThen.panic ?_
          | refine QBlock.panic ?_
        exact panP (he'.trans hj) (by cases hI; rfl) (HSub.pick Pick.here (HSub.nil _))
    · have hc' : isTok T i2 [[44]] = false := hc
      rw [if_neg (by rw [hc']; decide)] at hI
      simp only [hc', Bool.false_eq_true, if_false]
      repeat first
        | refine LCode.seq ?_
        | refine LCode.region ?_
        | refine LCode.exit ?_
        | refine QThen.normal ?_
        | refine QThen.exit ?_
        | refine QBlock.hit ?_
      refine LOps.pure (Pure.mv (lv := v) rfl) rfl ?_
      refine LOps.pure (Pure.as (lv := v) rfl) rfl ?_
      repeat first
        | refine LOps.nil ?_
        | refine LCode.ret ?_
        | refine QThen.normal ?_
      exact retP (v := l) hj (AllRes.cons (ResIs.tmp (v := v) rfl hacc.sub) AllRes.nil) (by cases hI; rfl) rfl (HSub.pick Pick.here (HSub.nil _))
  · rw [h1, obind_err] at hr
    repeat first
      | refine QThen.panic ?_
    exact panP (he'.trans rfl) (by cases hr; rfl) (HSub.pick Pick.here (HSub.nil _))
theorem index_spec (sb : Nat) (T : List Tok) (hT : TOK T) (f : Nat) (hE : ExprC B0 w0 sb T f) (i op : Nat) (r : Res Ex) (hi : i ≤ T.length) (ho : op ≤ 100) (hr : eIndex T (f + 1) i op = some r) :
    LCalls (KC B0 w0) 85 [ptr sb 0] [srcH sb T i op] (PostP sb T encE r) := by
  have hl := hT.len
  rw [eIndex] at hr
  refine LCalls.intro Tryd.func85 rfl (n := 11) rfl rfl rfl ?_
  repeat first
    | refine LCode.seq ?_
    | refine LCode.region ?_
  refine LOps.step (S.alloc fun b => ?_) rfl
  repeat first
    | refine LOps.nil ?_
    | refine LCode.seq ?_
    | refine LCode.region ?_
    | refine QThen.normal ?_
    | refine LOps.pure (Pure.mv (lv := .atom _) rfl) rfl ?_
  refine LOps.step (S.callP [_, _] rfl (Pick.there Pick.here) (begin_spec sb T i op [91] hl (by omega) (by omega)) (fun v i1 op1 h1 => ?_) (fun l er i1 op1 h1 e' he' => ?_)) rfl
  · rw [h1, obind_ok] at hr
    obtain ⟨rfl, rfl, ho1, hi1⟩ := sBegin_ok h1
    repeat first
      | refine LOps.nil ?_
      | refine LCode.seq ?_
      | refine LCode.region ?_
      | refine QThen.normal ?_
      | refine LOps.pure (Pure.mv (lv := .atom _) rfl) rfl ?_
    obtain ⟨r1, hr1⟩ := obind_is hr
    refine LOps.step (S.callP [_] rfl Pick.here (hE _ _ r1 (by omega) (by omega) hr1) (fun v i2 op2 h2 => ?_) (fun l er i2 op2 h2 e' he' => ?_)) rfl
    · rw [hr1, h2, obind_ok] at hr
      obtain ⟨g1, _, g3, rfl⟩ := (ex_good T f).1 0 _ _ _ (hr1.trans (congrArg some h2))
      have g4 := g3 (by omega)
      refine LOps.step (S.alloc fun b2 => ?_) rfl
      repeat first
        | refine LOps.nil ?_
        | refine LCode.seq ?_
        | refine LCode.region ?_
        | refine QThen.normal ?_
        | refine LOps.pure (Pure.mv (lv := .atom _) rfl) rfl ?_
        | refine LOps.step (S.store (cs' := [_, _, _, _]) rfl Pick.here rfl rfl rfl rfl rfl ?_) rfl
      refine LOps.step (S.callP [_, _] rfl (Pick.there Pick.here) (end_spec sb T i2 (op + 1) [93] hl (by omega) (by omega) (by omega)) (fun u i3 op3 h3 => ?_) (fun l er i3 op3 h3 e' he' => ?_)) rfl
      · rw [h3, obind_ok] at hr
        repeat first
          | refine LOps.nil ?_
          | refine LCode.seq ?_
          | refine LCode.region ?_
          | refine LCode.ret ?_
          | refine QThen.normal ?_
          | refine LOps.pure (Pure.ldHAgg (cs' := [_, _, _, _]) rfl (List.Mem.tail _ (List.Mem.head _)) rfl rfl) rfl ?_
          | refine LOps.step (S.store (cs' := [_, _, _, _]) rfl (Pick.there (Pick.there Pick.here)) rfl rfl rfl rfl rfl ?_) rfl
        exact retP rfl (AllRes.cons (ResIs.cellAgg rfl (List.Mem.head _) rfl (LV.Sub.refl _)) AllRes.nil) (by cases hr; rfl) rfl (HSub.drop (HSub.pick Pick.here (HSub.nil _)))
      · rw [h3, obind_err] at hr
        repeat first
          | refine QThen.panic ?_
        exact panP (he'.trans rfl) (by cases hr; rfl) (HSub.pick Pick.here (HSub.nil _))
    · rw [hr1, h2, obind_err] at hr
      repeat first
        | refine QThen.panic ?_
      exact panP (he'.trans rfl) (by cases hr; rfl) (HSub.pick Pick.here (HSub.nil _))
  · rw [h1, obind_err] at hr
    repeat first
      | refine QThen.panic ?_
    exact panP (he'.trans rfl) (by cases hr; rfl) (HSub.pick Pick.here (HSub.nil _))
end
end Go.Proofs.YtfodkbchknknjaaDoor
