/- The parser in plain Lean: the lines of its tokens. -/
import Derived.Test.YtfodkbchknknjaaGreatDoorParExt
import Derived.Test.YtfodkbchknknjaaGreatDoorLexJoin
set_option linter.unusedVariables false
set_option linter.unusedSimpArgs false
namespace Go.Stele
/-- The same but for the line of an error. -/
def Sim {A : Type} (T' : List Tok) (r r' : OR A) : Prop := match r, r' with
  | none, none => True
  | some (.ok v i op), some (.ok v' i' op') => v = v' ∧ i = i' ∧ op = op'
  | some (.err _ e), some (.err l' e') => e = e' ∧ ∃ i, l' = failLine T' i
  | _, _ => False
/-- The same tokens but for their lines. -/
structure SameT (T T' : List Tok) : Prop where
  tok : ∀ i xs, isTok T' i xs = isTok T i xs
  text : ∀ i, textAt T' i = textAt T i
  kind : ∀ i, kindAt T' i = kindAt T i
  len : T'.length = T.length
theorem SameT.of {T T' : List Tok} (h : T'.map kt = T.map kt) : SameT T T' := by
  have hlen : T'.length = T.length := by simpa using congrArg List.length h
  have hg : ∀ i : Nat, (T'[i]?).map kt = (T[i]?).map kt := fun i => by
    have := congrArg (fun l => l[i]?) h
    simpa [List.getElem?_map] using this
  have hc : ∀ i : Nat, (T'[i]? = none ∧ T[i]? = none) ∨ ∃ t t', T'[i]? = some t' ∧ T[i]? = some t ∧ t'.kind = t.kind ∧ t'.text = t.text := fun i => by
    have := hg i
    cases h1 : T'[i]? with
    | none =>
      cases h2 : T[i]? with
      | none => exact .inl ⟨rfl, rfl⟩
      | some t => rw [h1, h2] at this; cases this
    | some t' =>
      cases h2 : T[i]? with
      | none => rw [h1, h2] at this; cases this
      | some t =>
        rw [h1, h2] at this
        simp only [Option.map_some, Option.some.injEq, kt, Prod.mk.injEq] at this
        exact .inr ⟨t, t', rfl, rfl, this.1, this.2⟩
  refine ⟨fun i xs => ?_, fun i => ?_, fun i => ?_, hlen⟩
  · unfold isTok
    rcases hc i with ⟨h1, h2⟩ | ⟨t, t', h1, h2, h3, h4⟩
    · rw [h1, h2]
    · rw [h1, h2]
      simp only [h3, h4]
  · unfold textAt
    rcases hc i with ⟨h1, h2⟩ | ⟨t, t', h1, h2, h3, h4⟩
    · rw [h1, h2]
    · rw [h1, h2]
      exact h4
  · unfold kindAt
    rcases hc i with ⟨h1, h2⟩ | ⟨t, t', h1, h2, h3, h4⟩
    · rw [h1, h2]
    · rw [h1, h2]
      exact h3
theorem Sim.ok {A : Type} {T' : List Tok} {v : A} {i op : Nat} : Sim T' (some (.ok v i op)) (some (.ok v i op)) := ⟨rfl, rfl, rfl⟩
theorem Sim.none {A : Type} {T' : List Tok} : Sim (A := A) T' none none := trivial
theorem Sim.syn {A : Type} {T T' : List Tok} {i : Nat} : Sim (A := A) T' (some (synErr T i)) (some (synErr T' i)) := ⟨rfl, i, rfl⟩
theorem Sim.bind {A B : Type} {T' : List Tok} {r r' : OR A} {f f' : A → Nat → Nat → OR B} (h : Sim T' r r') (hf : ∀ v i op, Sim T' (f v i op) (f' v i op)) : Sim T' (obind r f) (obind r' f') := by
  match r, r', h with
  | .none, .none, _ => exact trivial
  | .some (.ok v i op), .some (.ok v' i' op'), ⟨h1, h2, h3⟩ =>
    subst h1 h2 h3
    exact hf v i op
  | .some (.err l e), .some (.err l' e'), h => exact h
theorem Sim.ite {A : Type} {T' : List Tok} {c : Prop} [Decidable c] {a b a' b' : OR A} (h1 : Sim T' a a') (h2 : Sim T' b b') : Sim T' (if c then a else b) (if c then a' else b') := by
  split
  · exact h1
  · exact h2
section
variable {T T' : List Tok} (hS : SameT T T')
include hS
theorem sim_word (k : Int) (i op : Nat) : Sim T' (some (sWord T k i op)) (some (sWord T' k i op)) := by
  have h1 := hS.kind i
  have h2 := hS.text i
  have h3 := hS.len
  unfold sWord
  unfold kindAt at h1
  unfold textAt at h2
  cases ha : T[i]? with
  | none =>
    have : T'[i]? = .none := by
      rw [List.getElem?_eq_none_iff] at ha ⊢
      omega
    rw [this]
    exact Sim.syn
  | some t =>
    have hi := get_lt ha
    have : T'[i]? = some T'[i] := List.getElem?_eq_getElem (by omega)
    rw [this] at h1 h2 ⊢
    rw [ha] at h1 h2
    simp only at h1 h2 ⊢
    rw [h1, h2]
    split
    · exact Sim.ok
    · exact Sim.syn
theorem sim_need (x : List UInt8) (i op : Nat) : Sim T' (some (sNeed T x i op)) (some (sNeed T' x i op)) := by
  unfold sNeed
  rw [hS.tok]
  split
  · exact Sim.ok
  · exact Sim.syn
theorem sim_begin (x : List UInt8) (i op : Nat) : Sim T' (some (sBegin T x i op)) (some (sBegin T' x i op)) := by
  unfold sBegin
  rw [hS.tok]
  split
  · split
    · exact ⟨rfl, i, rfl⟩
    · exact Sim.ok
  · exact Sim.syn
theorem sim_end (x : List UInt8) (i op : Nat) : Sim T' (some (sEnd T x i op)) (some (sEnd T' x i op)) := by
  unfold sEnd sNeed
  rw [hS.tok]
  split
  · exact Sim.ok
  · exact Sim.syn
theorem sim_number (i op : Nat) : Sim T' (some (sNumber T i op)) (some (sNumber T' i op)) := by
  have := sim_word hS 1 i op
  unfold sNumber
  match sWord T 1 i op, sWord T' 1 i op, this with
  | .ok v i op, .ok v' i' op', ⟨h1, h2, h3⟩ =>
    subst h1 h2 h3
    exact Sim.ok
  | .err l e, .err l' e', h => exact h
theorem namesLoop_sim : ∀ (f : Nat) (acc : List (List UInt8)) (i op : Nat), Sim T' (sNamesLoop T f acc i op) (sNamesLoop T' f acc i op)
  | 0, _, _, _ => Sim.none
  | f + 1, acc, i, op => by
    rw [sNamesLoop, sNamesLoop, hS.tok]
    exact Sim.ite (Sim.bind (sim_word hS _ _ _) fun _ _ _ => namesLoop_sim f _ _ _) Sim.ok
theorem names_sim (f i op : Nat) : Sim T' (sNames T f i op) (sNames T' f i op) := Sim.bind (sim_word hS _ _ _) fun _ _ _ => namesLoop_sim hS f _ _ _
theorem ex_sim : ∀ f : Nat, (∀ k i op, Sim T' (eLev T f k i op) (eLev T' f k i op)) ∧ (∀ k e i op, Sim T' (eLoop T f k e i op) (eLoop T' f k e i op)) ∧ (∀ i op, Sim T' (eUnary T f i op) (eUnary T' f i op)) ∧ (∀ i op, Sim T' (ePrim T f i op) (ePrim T' f i op)) ∧
    (∀ i op, Sim T' (eIndex T f i op) (eIndex T' f i op)) ∧ (∀ i op, Sim T' (eArgs T f i op) (eArgs T' f i op)) ∧ (∀ acc i op, Sim T' (eArgsLoop T f acc i op) (eArgsLoop T' f acc i op))
  | 0 => ⟨fun _ _ _ => by rw [eLev, eLev]; exact Sim.none, fun _ _ _ _ => by rw [eLoop, eLoop]; exact Sim.none, fun _ _ => by rw [eUnary, eUnary]; exact Sim.none, fun _ _ => by rw [ePrim, ePrim]; exact Sim.none, fun _ _ => by rw [eIndex, eIndex]; exact Sim.none, fun _ _ => by rw [eArgs, eArgs]; exact Sim.none, fun _ _ _ => by rw [eArgsLoop, eArgsLoop]; exact Sim.none⟩
  | f + 1 => by
    obtain ⟨hL, hO, hU, hP, hI, hA, hB⟩ := ex_sim f
    refine ⟨fun k i op => ?_, fun k e i op => ?_, fun i op => ?_, fun i op => ?_, fun i op => ?_, fun i op => ?_, fun acc i op => ?_⟩
    · rw [eLev, eLev]
      exact Sim.ite (hU _ _) (Sim.bind (hL _ _ _) fun _ _ _ => hO _ _ _ _)
    · rw [eLoop, eLoop, hS.tok, hS.text]
      exact Sim.ite (Sim.bind (hL _ _ _) fun _ _ _ => Sim.ite Sim.ok (hO _ _ _ _)) Sim.ok
    · rw [eUnary, eUnary, hS.tok, hS.tok]
      exact Sim.ite (Sim.bind (sim_begin hS _ _ _) fun _ _ _ => Sim.bind (hU _ _) fun _ _ _ => Sim.ok) (Sim.ite (Sim.bind (sim_begin hS _ _ _) fun _ _ _ => Sim.bind (hU _ _) fun _ _ _ => Sim.ok) (hP _ _))
    · rw [ePrim, ePrim, hS.tok, hS.kind]
      refine Sim.ite (Sim.bind (sim_begin hS _ _ _) fun _ _ _ => Sim.bind (hL _ _ _) fun _ _ _ => Sim.bind (sim_end hS _ _ _) fun _ _ _ => Sim.ok) (Sim.ite (Sim.bind (sim_number hS _ _) fun _ _ _ => Sim.ok) (Sim.bind (sim_word hS _ _ _) fun _ _ _ => ?_))
      rw [hS.tok, hS.tok]
      exact Sim.ite (Sim.bind (hI _ _) fun _ _ _ => Sim.ok) (Sim.ite (Sim.bind (hA _ _) fun _ _ _ => Sim.ok) Sim.ok)
    · rw [eIndex, eIndex]
      exact Sim.bind (sim_begin hS _ _ _) fun _ _ _ => Sim.bind (hL _ _ _) fun _ _ _ => Sim.bind (sim_end hS _ _ _) fun _ _ _ => Sim.ok
    · rw [eArgs, eArgs]
      exact Sim.bind (sim_begin hS _ _ _) fun _ _ _ => Sim.bind (hB _ _ _) fun _ _ _ => Sim.bind (sim_end hS _ _ _) fun _ _ _ => Sim.ok
    · rw [eArgsLoop, eArgsLoop, hS.tok]
      refine Sim.ite Sim.ok (Sim.bind ?_ fun _ _ _ => Sim.bind (hL _ _ _) fun _ _ _ => hB _ _ _)
      split
      · exact Sim.ok
      · exact sim_need hS _ _ _
theorem st_sim : ∀ f : Nat, (∀ i op, Sim T' (sBlock T f i op) (sBlock T' f i op)) ∧ (∀ acc i op, Sim T' (sStmts T f acc i op) (sStmts T' f acc i op)) ∧ (∀ i op, Sim T' (sStmt T f i op) (sStmt T' f i op)) ∧ (∀ i op, Sim T' (sSimple T f i op) (sSimple T' f i op))
  | 0 => ⟨fun _ _ => by rw [sBlock, sBlock]; exact Sim.none, fun _ _ _ => by rw [sStmts, sStmts]; exact Sim.none, fun _ _ => by rw [sStmt, sStmt]; exact Sim.none, fun _ _ => by rw [sSimple, sSimple]; exact Sim.none⟩
  | f + 1 => by
    obtain ⟨hB, hC, hT, hM⟩ := st_sim f
    obtain ⟨hL, _, _, _, hI, hA, _⟩ := ex_sim hS f
    refine ⟨fun i op => ?_, fun acc i op => ?_, fun i op => ?_, fun i op => ?_⟩
    · rw [sBlock, sBlock]
      exact Sim.bind (sim_begin hS _ _ _) fun _ _ _ => Sim.bind (hC _ _ _) fun _ _ _ => Sim.bind (sim_end hS _ _ _) fun _ _ _ => Sim.ok
    · rw [sStmts, sStmts, hS.tok]
      exact Sim.ite Sim.ok (Sim.bind (hT _ _) fun _ _ _ => hC _ _ _)
    · rw [sStmt, sStmt, hS.tok, hS.tok]
      refine Sim.ite (Sim.bind (hL _ _ _) fun _ _ _ => Sim.bind (hB _ _) fun _ _ _ => ?_) (Sim.ite (Sim.bind (hL _ _ _) fun _ _ _ => Sim.bind (hB _ _) fun _ _ _ => Sim.ok) (Sim.bind (hM _ _) fun _ _ _ => Sim.bind (sim_need hS _ _ _) fun _ _ _ => Sim.ok))
      rw [hS.tok]
      exact Sim.ite (Sim.bind (hB _ _) fun _ _ _ => Sim.ok) Sim.ok
    · rw [sSimple, sSimple, hS.tok, hS.tok]
      refine Sim.ite (Sim.bind (hL _ _ _) fun _ _ _ => Sim.ok) (Sim.ite Sim.ok (Sim.bind (sim_word hS _ _ _) fun _ _ _ => ?_))
      rw [hS.tok, hS.tok]
      exact Sim.ite (Sim.bind (hA _ _) fun _ _ _ => Sim.ok) (Sim.ite (Sim.bind (hI _ _) fun _ _ _ => Sim.bind (sim_need hS _ _ _) fun _ _ _ => Sim.bind (hL _ _ _) fun _ _ _ => Sim.ok) (Sim.bind (sim_need hS _ _ _) fun _ _ _ => Sim.bind (hL _ _ _) fun _ _ _ => Sim.ok))
theorem vars_sim : ∀ (f : Nat) (acc : List (List UInt8)) (i op : Nat), Sim T' (sVars T f acc i op) (sVars T' f acc i op)
  | 0, _, _, _ => Sim.none
  | f + 1, acc, i, op => by
    rw [sVars, sVars, hS.tok]
    exact Sim.ite (Sim.bind (names_sim hS f _ _) fun _ _ _ => Sim.bind (sim_need hS _ _ _) fun _ _ _ => vars_sim f _ _ _) Sim.ok
theorem func_sim (f i op : Nat) : Sim T' (sFunc T f i op) (sFunc T' f i op) := by
  unfold sFunc
  refine Sim.bind (sim_word hS _ _ _) fun _ _ _ => Sim.bind (sim_begin hS _ _ _) fun _ _ _ => Sim.bind ?_ fun _ _ _ => Sim.bind (sim_end hS _ _ _) fun _ _ _ => Sim.bind (sim_begin hS _ _ _) fun _ _ _ => Sim.bind (vars_sim hS f _ _ _) fun _ _ _ => Sim.bind ((st_sim hS f).2.1 _ _ _) fun _ _ _ => Sim.bind (sim_end hS _ _ _) fun _ _ _ => Sim.ok
  rw [hS.tok]
  exact Sim.ite Sim.ok (names_sim hS f _ _)
theorem array_sim (i op : Nat) : Sim T' (sArray T i op) (sArray T' i op) := by
  unfold sArray
  exact Sim.bind (sim_word hS _ _ _) fun _ _ _ => Sim.bind (sim_begin hS _ _ _) fun _ _ _ => Sim.bind (sim_number hS _ _) fun _ _ _ => Sim.bind (sim_end hS _ _ _) fun _ _ _ => Sim.bind (sim_need hS _ _ _) fun _ _ _ => Sim.ok
theorem prog_sim : ∀ (f : Nat) (p : Pr) (i op : Nat), Sim T' (sProg T f p i op) (sProg T' f p i op)
  | 0, _, _, _ => Sim.none
  | f + 1, p, i, op => by
    rw [sProg, sProg, hS.tok, hS.tok, hS.tok, hS.len]
    exact Sim.ite Sim.ok (Sim.ite (Sim.bind (vars_sim hS f _ _ _) fun _ _ _ => prog_sim f _ _ _) (Sim.ite (Sim.bind (array_sim hS _ _) fun _ _ _ => prog_sim f _ _ _) (Sim.ite (Sim.bind (func_sim hS f _ _) fun _ _ _ => prog_sim f _ _ _) Sim.syn)))
end
/-- Lines counted from 1 on: an error's line is one of them. -/
theorem fail_reline {T : List Tok} (hne : T ≠ []) (i : Nat) : 0 ≤ failLine (reline T 1) i ∧ failLine (reline T 1) i ≤ (T.length : Int) := by
  have hl := List.length_pos_iff.2 hne
  have hlen := reline_len T 1
  unfold failLine
  have : min i ((reline T 1).length - 1) < (reline T 1).length := by omega
  rw [List.getElem?_eq_getElem this]
  simp only
  rw [reline_line T 1 _ _ (List.getElem?_eq_getElem this)]
  omega
end Go.Stele
