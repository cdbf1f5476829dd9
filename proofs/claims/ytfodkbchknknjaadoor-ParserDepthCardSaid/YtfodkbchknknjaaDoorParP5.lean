/- The parser's unary, walked: a range over a map of two entries, in whatever order. -/
import Derived.Test.YtfodkbchknknjaaDoorParP4
import Derived.Test.YtfodkbchknknjaaDoorGlMap
set_option linter.unusedVariables false
set_option linter.unusedSimpArgs false
namespace Go.Proofs.YtfodkbchknknjaaDoor
open Go.GL Go.RowKit Go.Stele
set_option maxRecDepth 100000
set_option maxHeartbeats 4000000
attribute [local irreducible] LOps LCode LStep LCalls Go.GL.Pure QThen QBlock RetPost LQ LAny LLate LLateOp
def e45 : MapEntry := { key := .string ⟨#[45]⟩, val := .string ⟨#[110, 101, 103]⟩, born := 0 }
def e33 : MapEntry := { key := .string ⟨#[33]⟩, val := .string ⟨#[110, 111, 116]⟩, born := 1 }
section
variable {B0 : Nat} {w0 : World}
def UnaryC (B0 : Nat) (w0 : World) (sb : Nat) (T : List Tok) (f : Nat) : Prop :=
  ∀ i op r, i ≤ T.length → op ≤ 100 → eUnary T f i op = some r → LCalls (KC B0 w0) 80 [ptr sb 0] [srcH sb T i op] (PostP sb T encE r)
/-- Which entries have come up: none of them is the token at hand. -/
def SeenOk (T : List Tok) (i : Nat) (seen : Array Nat) : Prop :=
  seen = #[] ∨ (seen = #[0] ∧ isTok T i [[45]] = false) ∨ (seen = #[1] ∧ isTok T i [[33]] = false) ∨ ((seen = #[0, 1] ∨ seen = #[1, 0]) ∧ isTok T i [[45]] = false ∧ isTok T i [[33]] = false)
theorem over_seen {T : List Tok} {i : Nat} {seen : Array Nat} (h : SeenOk T i seen) (ho : #[e45, e33].filter (fun e => !seen.contains e.born) = #[]) : isTok T i [[45]] = false ∧ isTok T i [[33]] = false := by
  have h1 := Array.filter_eq_empty_iff.1 ho e45 (by simp)
  have h2 := Array.filter_eq_empty_iff.1 ho e33 (by simp)
  rcases h with rfl | ⟨rfl, _⟩ | ⟨rfl, _⟩ | ⟨_, h3, h4⟩
  · simp [e45] at h1
  · simp [e33] at h2
  · simp [e45] at h1
  · exact ⟨h3, h4⟩
theorem step_seen {T : List Tok} {i : Nat} {seen : Array Nat} {e : MapEntry} (h : SeenOk T i seen) (he : e ∈ (#[e45, e33].filter (fun e => !seen.contains e.born)).toList) :
    seen.size < 2 ∧ ((e = e45 ∧ (isTok T i [[45]] = false → SeenOk T i (seen.push 0))) ∨ (e = e33 ∧ (isTok T i [[33]] = false → SeenOk T i (seen.push 1)))) := by
  have he' := Array.mem_filter.1 (Array.mem_toList_iff.1 he)
  have hor : e = e45 ∨ e = e33 := by simpa using he'.1
  have hno := he'.2
  rcases h with rfl | ⟨rfl, h1⟩ | ⟨rfl, h1⟩ | ⟨rfl | rfl, _, _⟩
  · rcases hor with rfl | rfl
    · exact ⟨by decide, .inl ⟨rfl, fun h => .inr (.inl ⟨rfl, h⟩)⟩⟩
    · exact ⟨by decide, .inr ⟨rfl, fun h => .inr (.inr (.inl ⟨rfl, h⟩))⟩⟩
  · rcases hor with rfl | rfl
    · simp [e45] at hno
    · exact ⟨by decide, .inr ⟨rfl, fun h => .inr (.inr (.inr ⟨.inl rfl, h1, h⟩))⟩⟩
  · rcases hor with rfl | rfl
    · exact ⟨by decide, .inl ⟨rfl, fun h => .inr (.inr (.inr ⟨.inr rfl, h, h1⟩))⟩⟩
    · simp [e33] at hno
  · rcases hor with rfl | rfl
    · simp [e45] at hno
    · simp [e33] at hno
  · rcases hor with rfl | rfl
    · simp [e45] at hno
    · simp [e33] at hno
theorem isTok_excl {T : List Tok} {i : Nat} (h : isTok T i [[33]] = true) : isTok T i [[45]] = false := by
  unfold isTok at h ⊢
  split at h
  · rename_i t ht
    simp only [Bool.and_eq_true] at h
    have h2 : t.text = [33] := by simpa using h.2
    rw [h2]
    simp
  · cases h
theorem unary_spec (hG : GW B0 w0) (sb : Nat) (T : List Tok) (hT : TOK T) : ∀ f : Nat, (∀ g, g < f → ExprC B0 w0 sb T g) → UnaryC B0 w0 sb T f := by
  intro f
  induction f with
  | zero => intro _ i op r _ _ hr; rw [eUnary] at hr; cases hr
  | succ f ih =>
    intro hE i op r hi ho hr
    have hl := hT.len
    rw [eUnary] at hr
    refine LCalls.intro Tryd.func80 rfl (n := 36) rfl rfl rfl ?_
    repeat first
      | refine LCode.seq ?_
      | refine LCode.region ?_
    refine LOps.step (S.alloc fun b => ?_) rfl
    repeat first
      | refine LOps.nil ?_
      | refine LCode.seq ?_
      | refine LCode.region ?_
      | refine QThen.normal ?_
    refine LOps.step (S.makeMap fun mb => ?_) rfl
    refine LOps.step (S.insert (k := ⟨#[45]⟩) (v := .string ⟨#[110, 101, 103]⟩) (kt := 9) (el := 9) (by kernel_rfl) (by kernel_rfl) rfl rfl rfl Pick.here (by simp) ?_) rfl
    refine LOps.step (S.insert (k := ⟨#[33]⟩) (v := .string ⟨#[110, 111, 116]⟩) (kt := 9) (el := 9) (by kernel_rfl) (by kernel_rfl) rfl rfl rfl Pick.here (fun e he => ⟨⟨#[45]⟩, by simp at he; rw [he], by decide⟩) ?_) rfl
    refine LOps.pure (Pure.mv (lv := .atom _) rfl) rfl ?_
    refine LOps.step (S.range (kt := 9) (el := 9) (by kernel_rfl) rfl (List.Mem.head _) fun rb => ?_) rfl
    repeat first
      | refine LOps.nil ?_
      | refine LCode.block ?_
      | refine QThen.normal ?_
    refine LCode.loopI (fun k ls H => ∃ seen : Array Nat, k = 2 - seen.size ∧ ls = [(0, ptr sb 0), (2, ptr b 0), (8, ptr rb 0)] ∧ H = [(rb, .obj (.mapIter (some mb) 2 seen 2)), (mb, .obj (.map #[e45, e33] 2)), (b, .cells 39 [str [], int .u32 0, str [], nilSlice]), srcH sb T i op] ∧ SeenOk T i seen)
      ⟨_, _, _, ⟨#[], rfl, rfl, rfl, .inl rfl⟩, ⟨rfl, rfl, rfl, trivial⟩, HSub.refl _⟩ ?_
    rintro k ls H ⟨seen, rfl, rfl, rfl, hS⟩ j hj
    repeat first
      | refine LCode.seq ?_
      | refine LCode.region ?_
    refine LOps.step (S.next (F := [(b, .cells 39 [str [], int .u32 0, str [], nilSlice]), srcH sb T i op]) rfl (List.Perm.refl _) (by decide) (fun hov => ?_) (fun en hen => ?_)) rfl
    · obtain ⟨hn1, hn2⟩ := over_seen hS hov
      rw [if_neg (by rw [hn1]; decide), if_neg (by rw [hn2]; decide)] at hr
      repeat first
        | refine LOps.nil ?_
        | refine LCode.seq ?_
        | refine QThen.normal ?_
        | refine LOps.pure (Pure.extract (c := .atom _) rfl rfl) rfl ?_
      refine LCode.cond rfl (fun hcc => ?_) (fun hcc => ?_)
      · cases hcc
      · repeat first
          | refine LCode.seq ?_
          | refine LCode.region ?_
          | refine LCode.exit ?_
          | refine QThen.normal ?_
          | refine QThen.exit ?_
          | refine QBlock.hit ?_
          | refine LOps.pure (Pure.mv (lv := .atom _) rfl) rfl ?_
        refine LOps.step (S.callP [_] rfl (Pick.there (Pick.there (Pick.there Pick.here))) (prim_spec hG sb T hT f (fun g hg => hE g (by omega)) i op r hi ho hr) (fun v i1 op1 h1 => ?_) (fun l er i1 op1 h1 e' he' => ?_)) rfl
        · repeat first
            | refine LOps.nil ?_
            | refine LCode.ret ?_
            | refine QThen.normal ?_
            | refine LOps.step (S.store (cs' := [_, _, _, _]) rfl (Pick.there (Pick.there (Pick.there Pick.here))) rfl rfl rfl rfl rfl ?_) rfl
          exact retP (v := v) hj (AllRes.cons (ResIs.cellAgg rfl (List.Mem.head _) rfl (LV.Sub.refl _)) AllRes.nil) h1 rfl (HSub.pick (Pick.there Pick.here) (HSub.nil _))
        · repeat first
            | refine QThen.panic ?_
          exact panP (he'.trans hj) h1 (HSub.pick Pick.here (HSub.nil _))
    · obtain ⟨hsz, ⟨rfl, hnext⟩ | ⟨rfl, hnext⟩⟩ := step_seen hS hen
      · repeat first
          | refine LOps.nil ?_
          | refine LCode.seq ?_
          | refine QThen.normal ?_
          | refine LOps.pure (Pure.extract (c := .atom _) rfl rfl) rfl ?_
        refine LCode.cond rfl (fun hcc => ?_) (fun hcc => ?_)
        · repeat first
            | refine LCode.seq ?_
            | refine LCode.region ?_
            | refine LCode.skip ?_
            | refine LCode.block ?_
            | refine QThen.normal ?_
          refine LOps.pure (Pure.entry (en := e45) (stamp := 0) rfl (List.Mem.head _) (List.Mem.tail _ (List.Mem.head _)) rfl (by show (seen.push 0).back? = _; simp) rfl) rfl ?_
          repeat first
            | refine LOps.nil ?_
            | refine LCode.seq ?_
            | refine LCode.region ?_
            | refine QThen.normal ?_
            | refine LOps.pure (Pure.mv (lv := .atom _) rfl) rfl ?_
            | refine LOps.pure (Pure.extract (c := .atom _) rfl rfl) rfl ?_
            | refine LOps.pure (Pure.as (lv := .atom _) rfl) rfl ?_
          refine LOps.step (S.lit [_] rfl (elemsOk.cons rfl rfl elemsOk.nil) rfl rfl rfl ?_) rfl
          refine LOps.step (S.fnH [_, _] rfl (Pick.there (Pick.there (Pick.there Pick.here))) (is_spec sb T i op [[45]] hl (by omega) (by simp)) ?_) rfl
          repeat first
            | refine LOps.nil ?_
            | refine QThen.normal ?_
          refine LCode.cond rfl (fun hc => ?_) (fun hc => ?_)
          · rw [if_pos hc] at hr
            repeat first
              | refine LCode.seq ?_
              | refine LCode.region ?_
              | refine LOps.pure (Pure.mv (lv := .atom _) rfl) rfl ?_
            refine LOps.step (S.callP [_, _] rfl Pick.here (begin_spec sb T i op [45] hl (by omega) (by omega)) (fun v i1 op1 h1 => ?_) (fun l er i1 op1 h1 e' he' => ?_)) rfl
            · rw [h1, obind_ok] at hr
              obtain ⟨rfl, rfl, ho1, hi1⟩ := sBegin_ok h1
              repeat first
                | refine LOps.nil ?_
                | refine LCode.seq ?_
                | refine LCode.region ?_
                | refine QThen.normal ?_
                | refine LOps.pure (Pure.mv (lv := .atom _) rfl) rfl ?_
              obtain ⟨r1, hr1⟩ := obind_is hr
              refine LOps.step (S.callP [_] rfl Pick.here (ih (fun g hg => hE g (by omega)) _ _ r1 (by omega) (by omega) hr1) (fun e2 i2 op2 h2 => ?_) (fun l er i2 op2 h2 e' he' => ?_)) rfl
              · rw [hr1, h2, obind_ok] at hr
                obtain ⟨g1, _, g3, rfl⟩ := (ex_good T f).2.2.1 _ _ _ (hr1.trans (congrArg some h2))
                have g4 := g3 (by omega)
                refine LOps.step (S.lit [_] rfl (elemsOk.cons rfl rfl elemsOk.nil) rfl rfl rfl ?_) rfl
                repeat first
                  | refine LOps.pure (Pure.bld _ (cs := [_, _, _, _]) rfl) rfl ?_
                refine LOps.step (S.alloc fun b2 => ?_) rfl
                repeat first
                  | refine LOps.nil ?_
                  | refine LCode.seq ?_
                  | refine LCode.region ?_
                  | refine LCode.ret ?_
                  | refine QThen.normal ?_
                  | refine QThen.ret ?_
                  | refine QBlock.ret ?_
                  | refine LOps.pure (Pure.mv (lv := .atom _) rfl) rfl ?_
                  | refine LOps.pure (Pure.nilCheckH rfl) rfl ?_
                  | refine LOps.pure (Pure.fieldH rfl) rfl ?_
                  | refine LOps.pure (Pure.loadH (c := .atom _) rfl (List.Mem.tail _ (List.Mem.head _)) rfl) rfl ?_
                  | refine LOps.pure (Pure.sub rfl rfl (by omega)) rfl ?_
                  | refine LOps.pure (Pure.ldHAgg (cs' := [_, _, _, _]) rfl (List.Mem.tail _ (List.Mem.head _)) rfl rfl) rfl ?_
                  | refine LOps.step (S.store (cs' := [_, _, _, _]) rfl Pick.here rfl rfl rfl rfl rfl ?_) rfl
                  | refine LOps.step (S.store (cs' := [_, _, _, _]) rfl (Pick.there (Pick.there (Pick.there (Pick.there Pick.here)))) rfl rfl rfl rfl rfl ?_) rfl
                  | refine LOps.step (S.store (cs' := [_, _, _]) rfl (Pick.there Pick.here) rfl rfl rfl rfl rfl ?_) rfl
                exact retP (v := .mk nNeg 0 [] [e2]) hj (AllRes.cons (ResIs.cellAgg rfl (List.Mem.head _) rfl (LV.Sub.refl _)) AllRes.nil) (by cases hr; rfl) (by rw [encE_mk]; rfl) (by
                  rw [show (((op + 1 : Nat) : Int) - 1) = ((op + 1 - 1 : Nat) : Int) by omega]
                  exact HSub.pick (Pick.there Pick.here) (HSub.nil _))
              · rw [hr1, h2, obind_err] at hr
                repeat first
                  | refine QThen.panic ?_
                  | refine QBlock.panic ?_
                exact panP (he'.trans hj) (by cases hr; rfl) (HSub.pick Pick.here (HSub.nil _))
            · rw [h1, obind_err] at hr
              repeat first
                | refine QThen.panic ?_
                | refine QBlock.panic ?_
              exact panP (he'.trans hj) (by cases hr; rfl) (HSub.pick Pick.here (HSub.nil _))
          · repeat first
              | refine LCode.skip ?_
              | refine QThen.normal ?_
              | refine QBlock.normal ?_
            exact ⟨_, _, _, by have := hsz; simp; omega, ⟨seen.push 0, rfl, rfl, rfl, hnext hc⟩, ⟨rfl, rfl, rfl, trivial⟩, HSub.pick (Pick.there Pick.here) (HSub.pick (Pick.there Pick.here) (HSub.pick (Pick.there Pick.here) (HSub.pick Pick.here (HSub.nil _)))), hj⟩
        · cases hcc
      · repeat first
          | refine LOps.nil ?_
          | refine LCode.seq ?_
          | refine QThen.normal ?_
          | refine LOps.pure (Pure.extract (c := .atom _) rfl rfl) rfl ?_
        refine LCode.cond rfl (fun hcc => ?_) (fun hcc => ?_)
        · repeat first
            | refine LCode.seq ?_
            | refine LCode.region ?_
            | refine LCode.skip ?_
            | refine LCode.block ?_
            | refine QThen.normal ?_
          refine LOps.pure (Pure.entry (en := e33) (stamp := 1) rfl (List.Mem.head _) (List.Mem.tail _ (List.Mem.head _)) rfl (by show (seen.push 1).back? = _; simp) rfl) rfl ?_
          repeat first
            | refine LOps.nil ?_
            | refine LCode.seq ?_
            | refine LCode.region ?_
            | refine QThen.normal ?_
            | refine LOps.pure (Pure.mv (lv := .atom _) rfl) rfl ?_
            | refine LOps.pure (Pure.extract (c := .atom _) rfl rfl) rfl ?_
            | refine LOps.pure (Pure.as (lv := .atom _) rfl) rfl ?_
          refine LOps.step (S.lit [_] rfl (elemsOk.cons rfl rfl elemsOk.nil) rfl rfl rfl ?_) rfl
          refine LOps.step (S.fnH [_, _] rfl (Pick.there (Pick.there (Pick.there Pick.here))) (is_spec sb T i op [[33]] hl (by omega) (by simp)) ?_) rfl
          repeat first
            | refine LOps.nil ?_
            | refine QThen.normal ?_
          refine LCode.cond rfl (fun hc => ?_) (fun hc => ?_)
          · rw [if_neg (by rw [isTok_excl hc]; decide), if_pos hc] at hr
            repeat first
              | refine LCode.seq ?_
              | refine LCode.region ?_
              | refine LOps.pure (Pure.mv (lv := .atom _) rfl) rfl ?_
            refine LOps.step (S.callP [_, _] rfl Pick.here (begin_spec sb T i op [33] hl (by omega) (by omega)) (fun v i1 op1 h1 => ?_) (fun l er i1 op1 h1 e' he' => ?_)) rfl
            · rw [h1, obind_ok] at hr
              obtain ⟨rfl, rfl, ho1, hi1⟩ := sBegin_ok h1
              repeat first
                | refine LOps.nil ?_
                | refine LCode.seq ?_
                | refine LCode.region ?_
                | refine QThen.normal ?_
                | refine LOps.pure (Pure.mv (lv := .atom _) rfl) rfl ?_
              obtain ⟨r1, hr1⟩ := obind_is hr
              refine LOps.step (S.callP [_] rfl Pick.here (ih (fun g hg => hE g (by omega)) _ _ r1 (by omega) (by omega) hr1) (fun e2 i2 op2 h2 => ?_) (fun l er i2 op2 h2 e' he' => ?_)) rfl
              · rw [hr1, h2, obind_ok] at hr
                obtain ⟨g1, _, g3, rfl⟩ := (ex_good T f).2.2.1 _ _ _ (hr1.trans (congrArg some h2))
                have g4 := g3 (by omega)
                refine LOps.step (S.lit [_] rfl (elemsOk.cons rfl rfl elemsOk.nil) rfl rfl rfl ?_) rfl
                repeat first
                  | refine LOps.pure (Pure.bld _ (cs := [_, _, _, _]) rfl) rfl ?_
                refine LOps.step (S.alloc fun b2 => ?_) rfl
                repeat first
                  | refine LOps.nil ?_
                  | refine LCode.seq ?_
                  | refine LCode.region ?_
                  | refine LCode.ret ?_
                  | refine QThen.normal ?_
                  | refine QThen.ret ?_
                  | refine QBlock.ret ?_
                  | refine LOps.pure (Pure.mv (lv := .atom _) rfl) rfl ?_
                  | refine LOps.pure (Pure.nilCheckH rfl) rfl ?_
                  | refine LOps.pure (Pure.fieldH rfl) rfl ?_
                  | refine LOps.pure (Pure.loadH (c := .atom _) rfl (List.Mem.tail _ (List.Mem.head _)) rfl) rfl ?_
                  | refine LOps.pure (Pure.sub rfl rfl (by omega)) rfl ?_
                  | refine LOps.pure (Pure.ldHAgg (cs' := [_, _, _, _]) rfl (List.Mem.tail _ (List.Mem.head _)) rfl rfl) rfl ?_
                  | refine LOps.step (S.store (cs' := [_, _, _, _]) rfl Pick.here rfl rfl rfl rfl rfl ?_) rfl
                  | refine LOps.step (S.store (cs' := [_, _, _, _]) rfl (Pick.there (Pick.there (Pick.there (Pick.there Pick.here)))) rfl rfl rfl rfl rfl ?_) rfl
                  | refine LOps.step (S.store (cs' := [_, _, _]) rfl (Pick.there Pick.here) rfl rfl rfl rfl rfl ?_) rfl
                exact retP (v := .mk nNot 0 [] [e2]) hj (AllRes.cons (ResIs.cellAgg rfl (List.Mem.head _) rfl (LV.Sub.refl _)) AllRes.nil) (by cases hr; rfl) (by rw [encE_mk]; rfl) (by
                  rw [show (((op + 1 : Nat) : Int) - 1) = ((op + 1 - 1 : Nat) : Int) by omega]
                  exact HSub.pick (Pick.there Pick.here) (HSub.nil _))
              · rw [hr1, h2, obind_err] at hr
                repeat first
                  | refine QThen.panic ?_
                  | refine QBlock.panic ?_
                exact panP (he'.trans hj) (by cases hr; rfl) (HSub.pick Pick.here (HSub.nil _))
            · rw [h1, obind_err] at hr
              repeat first
                | refine QThen.panic ?_
                | refine QBlock.panic ?_
              exact panP (he'.trans hj) (by cases hr; rfl) (HSub.pick Pick.here (HSub.nil _))
          · repeat first
              | refine LCode.skip ?_
              | refine QThen.normal ?_
              | refine QBlock.normal ?_
            exact ⟨_, _, _, by have := hsz; simp; omega, ⟨seen.push 1, rfl, rfl, rfl, hnext hc⟩, ⟨rfl, rfl, rfl, trivial⟩, HSub.pick (Pick.there Pick.here) (HSub.pick (Pick.there Pick.here) (HSub.pick (Pick.there Pick.here) (HSub.pick Pick.here (HSub.nil _)))), hj⟩
        · cases hcc
end
end Go.Proofs.YtfodkbchknknjaaDoor
