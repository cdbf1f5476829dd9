/- Texts joined: GlRange, ParP7, GlPair, REq, FmtSpec, Fmt1, Fmt2, GlStr, Fmt3, Fmt4. -/
import Derived.RangeFuncFrom
import Derived.RangeFuncLeaves
import Derived.TacticsIn
import Derived.DeepKeys
import Derived.Lib.Join
import Derived.Lib.Builder
import Derived.Lib.AppendStr
import Derived.Test.YtfodkbchknknjaaGreatDoorBRowU2
import Derived.Test.YtfodkbchknknjaaGreatDoorBRowU3
import Derived.Test.YtfodkbchknknjaaGreatDoorBRowU4
set_option linter.unusedVariables false
set_option linter.unusedSimpArgs false
namespace Go.GL
open Go.RowKit
def noDefer : Op → Bool
  | .defer _ => false
  | _ => true
theorem callsIn_round {l n : Nat} {P : Program} {f : FuncId} {args : Array Value} {w : World} {R : Ending → World → Prop} (h : Calls P f args w R) : CallsIn (Fence.wide.inRound l) n P f args w R := (callsIn_wide (n := n)).2 h
theorem rowsIn_round {l n : Nat} {P : Program} {row : String} {args : Array Value} {w : World} {R : Value → World → Prop} (h : Rows P row args w R) : RowsIn (Fence.wide.inRound l) n P row args w R := fun c cs _ =>
  let ⟨v, w', r, s⟩ := h c cs
  ⟨v, w', r, stepsIn_wide.2 s⟩
theorem operIn_round {l n : Nat} {P : Program} {o : Oper} {a : Act} {w : World} {next next' : Act → World → Prop} {Q : Exit → Act → World → Prop} (ho : noDefer o.op = true)
    (hn : ∀ a w, next a w → next' a w) (h : o.wp P a w next Q) : o.wpIn (Fence.wide.inRound l) n P a w next' Q := by
  refine ⟨fun _ _ => trivial, ?_⟩
  have hs : o.semAt (Fence.wide.inRound l).round a.eval = execOp a.eval o := Oper.semAt_eq _ _ _ fun c hc => by rw [hc] at ho; cases ho
  rw [hs]
  unfold Oper.wp at h
  revert h
  generalize (execOp a.eval o).run P w = r
  intro h
  cases r with
  | ok x w' =>
    cases x with
    | value v => exact hn _ _ h
    | skip => exact hn _ _ h
    | defer d => exact hn _ _ h
    | enter f args =>
      refine ⟨fun hd => (by cases hd), callsIn_round (Calls.mono h ?_)⟩
      intro e w'' he
      cases e with
      | returned v => exact hn _ _ he
      | panicked ch => exact he
      | outgrown => exact he
    | row row args =>
      refine ⟨fun hd => (by cases hd), rowsIn_round (Rows.mono h ?_)⟩
      intro v w'' he
      exact hn _ _ he
    | _ => exact h.elim
  | halt x w' =>
    cases x <;> first | exact h | exact h.elim
theorem listIn_round {l n : Nat} {P : Program} {ops : Array Oper} {Q : Exit → Act → World → Prop} (hQ : ¬ LetsOut Q) : ∀ (rest : List Oper) (a : Act) (w : World), (∀ o ∈ rest, noDefer o.op = true) → wpList P ops Q rest a w → wpListIn (Fence.wide.inRound l) n P ops Q rest a w
  | [], _, _, _, h => h
  | o :: rest, a, w, ho, h => by
    unfold wpList at h
    unfold wpListIn
    split at h
    · rename_i hw
      rw [if_pos hw]
      rcases h with h | ⟨_, h⟩
      · exact operIn_round (ho o List.mem_cons_self) (fun a w h => listIn_round hQ rest a w (fun o h => ho o (List.mem_cons_of_mem _ h)) h) h
      · exact absurd h hQ
    · rename_i hw
      rw [if_neg hw]
      exact ⟨fun _ _ => trivial, listIn_round hQ rest _ _ (fun o h => ho o (List.mem_cons_of_mem _ h)) h⟩
/-- A region in a round. -/
theorem regionIn_round {l n id : Nat} {P : Program} {ops : List Oper} {Q : Exit → Act → World → Prop} {a : Act} {w : World} (hQ : ¬ LetsOut Q) (ho : ops.all (fun o => noDefer o.op) = true) (h : wpList P ops.toArray Q ops a w) :
    (Code.region id ops.toArray false).wpIn (Fence.wide.inRound l) n P Q a w := wpIn_region_lit (listIn_round hQ ops a w (by simpa using ho) h)
end Go.GL
/- A small logic over the walk's 'Code.wp': a range over a function whose rounds all go on. -/
namespace Go.GL
open Go.RowKit
/-- An object that is kept turns. -/
theorem turn_obj {C : Ctx} {w : World} {L : Live} {b : Nat} {o o' : Obj} {F : Heap} (hH : RelH C w L ((b, .obj o) :: F)) (ho' : noCells o' = true) :
    Fr (keys ((b, LObj.obj o) :: F)) w L (w.putObj b o') L ((b, .obj o') :: F) ∧ RelH C (w.putObj b o') L ((b, .obj o') :: F) := by
  have h1 : RelH C w L ([(b, .obj o)] ++ F) := hH
  have hlt : b < w.heap.size := (hH.objs _ List.mem_cons_self).2.1
  have h2 : Left C w L [(b, .obj o)] (w.putObj b o') undef (fun _ H' => H' = [(b, .obj o')]) :=
    left_obj (w' := w.putObj b o') h1.left ho' rfl rfl rfl (by simp [World.putObj]) (fun c hc => World.putObj_heap_other hc) (World.putObj_heap_same hlt) (v := undef) (lv := .atom undef) (fun _ => rep_atom) rfl
  obtain ⟨lv, H', L', g1, g2, g3, rfl⟩ := h2
  have hL : L' = L := by
    funext c
    obtain ⟨_, _, hl, _⟩ := h1.left.objs _ List.mem_cons_self
    obtain ⟨_, _, hl', _⟩ := g2.objs _ List.mem_cons_self
    by_cases he : c = b
    · subst he; rw [hl, hl']
    · rcases Nat.lt_or_ge c w.heap.size with hc | hc
      · exact g1.lsame c hc (by simpa using he)
      · rw [h1.wf c hc, g2.wf c (by simpa [World.putObj] using hc)]
  subst hL
  have := h1.frame g1 g2
  exact ⟨this.2, this.1⟩
theorem alloc_obj {C : Ctx} {w : World} {L : Live} {o : Obj} {F : Heap} (hH : RelH C w L F) (ho : noCells o = true) :
    ∃ L', Fr (keys F) w L (w.alloc o) L' ((w.heap.size, .obj o) :: F) ∧ RelH C (w.alloc o) L' ((w.heap.size, .obj o) :: F) := by
  have h1 : RelH C w L ([] ++ F) := hH
  have := fr_push h1.left o 0 [(w.heap.size, .obj o)] (fun p hp => by
    simp only [List.mem_singleton] at hp
    subst hp
    exact ⟨rfl, by simp [Live.upd], heap_push_self, shape_none heap_push_self ho⟩) (by simp)
  have := h1.frame this.1 this.2
  exact ⟨_, this.2, this.1⟩
/-- Code within a round. -/
def LCodeR (C : Ctx) (l n : Nat) (c : Code) (Q : Post) (e : Env) (H : Heap) : Prop :=
  ∀ a w L, RelE n a e w L → RelH C w L H → ∀ m, c.wpIn (Fence.wide.inRound l) m C.P (lift C n w L (keys H) Q) a w
/-- The round goes on. -/
def QOn (k : Env → Heap → Prop) : Post
  | .normal, e, H => k e H
  | _, _, _ => False
section round
variable {C : Ctx} {l n : Nat} {e : Env} {H : Heap} {k : Env → Heap → Prop}
theorem LCodeR.region {id : Nat} {ops : List Oper} (ho : ops.all (fun o => noDefer o.op) = true) (h : LOps C n ops.toArray (QThen k (QOn k)) ops e H) : LCodeR C l n (.region id ops.toArray false) (QOn k) e H := fun a w L hE hH m => by
  refine regionIn_round ?_ ho (wpList_mono ?_ _ _ _ (h a w L hE hH))
  · rintro ⟨a', w', e', H', L', _, _, _, hq⟩
    exact hq
  · rintro ex a' w' hq
    refine lift_mono ?_ hq
    intro x e H h
    cases x <;> exact h
theorem LCodeR.skip (h : k e H) : LCodeR C l n .skip (QOn k) e H := fun a w L hE hH m => wpIn_skip ⟨e, H, L, Fr.refl _ _ _, hH, hE, h⟩
theorem LCodeR.seq {x y : Code} (h : LCodeR C l n x (QOn fun e H => LCodeR C l n y (QOn k) e H) e H) : LCodeR C l n (.seq x y) (QOn k) e H := fun a w L hE hH m => by
  refine wpIn_seq (wpIn_mono (h a w L hE hH m) fun ex a' w' hq => ?_)
  obtain ⟨e', H', L', h1, h2, h3, h4⟩ := hq
  cases ex with
  | normal => exact wpIn_mono (h4 a' w' L' h3 h2 m) fun _ _ _ => lift_trans h1
  | exit id => exact h4.elim
  | goto id => exact h4.elim
  | ret => exact h4.elim
  | panic ch => exact h4.elim
  | outgrown => exact h4.elim
theorem LCodeR.block {id : Nat} {c : Code} (h : LCodeR C l n c (QOn k) e H) : LCodeR C l n (.block id c) (QOn k) e H := fun a w L hE hH m => by
  refine wpIn_block (wpIn_mono (h a w L hE hH m) fun ex a' w' hq => ?_)
  obtain ⟨e', H', L', h1, h2, h3, h4⟩ := hq
  cases ex with
  | normal => exact ⟨e', H', L', h1, h2, h3, h4⟩
  | exit id => exact h4.elim
  | goto id => exact h4.elim
  | ret => exact h4.elim
  | panic ch => exact h4.elim
  | outgrown => exact h4.elim
end round
theorem yieldAt_mono {F : Fence} {m : Nat} {P : Program} {l : Nat} {args : Array Value} {W : World} {R R' : Ending → World → Prop} (h : YieldAt F m P l args W R) (hr : ∀ e w, R e w → R' e w) : YieldAt F m P l args W R' := by
  obtain ⟨fn, tmps, assign, body, hy, hR⟩ := h
  exact ⟨fn, tmps, assign, body, hy, hR.mono hr⟩
/-- A call of yield. -/
def LYield (C : Ctx) (l : Nat) (args : List LV) (H : Heap) (K : Heap → Prop) : Prop :=
  ∀ (vs : List Value) w L, RepL w L args vs → RelH C w L H → ∀ m, YieldAt Fence.wide m C.P l vs.toArray w fun e w' => e = .returned (.bool true) ∧ LeftX C w L H w' K
theorem LYield.frame {C : Ctx} {l : Nat} {args : List LV} {G H F : Heap} {K : Heap → Prop} (p : G.Perm (H ++ F)) (h : LYield C l args H fun H' => K (H' ++ F)) : LYield C l args G K := fun vs w L h1 h2 m => by
  have h3 := h2.perm p
  refine yieldAt_mono (h vs w L h1 h3.left m) ?_
  rintro e w' ⟨he, hx⟩
  obtain ⟨H', L', g1, g2, g3⟩ := LeftX.frame h3 hx
  exact ⟨he, H', L', g1.perm p.symm, g2, g3⟩
theorem LYield.mono {C : Ctx} {l : Nat} {args : List LV} {H : Heap} {K K' : Heap → Prop} (h : LYield C l args H K) (hk : ∀ H, K H → K' H) : LYield C l args H K' := fun vs w L h1 h2 m => yieldAt_mono (h vs w L h1 h2 m) fun _ _ hx => ⟨hx.1, hx.2.mono hk⟩
/-- What an iterator does: it calls yield N times, with the values xs. -/
def LIter (C : Ctx) (gf : FuncId) (caps : List LV) (Hc : Heap) (N : Nat) (xs : Nat → List LV) : Prop :=
  ∀ (l : Nat) (J : Nat → Heap → Prop), (∀ k H, k < N → J k H → LYield C l (xs k) H (J (k + 1))) → ∀ H0, J 0 H0 →
    LCalls C gf (.atom (.func (.yield l) #[] #[]) :: caps) (H0 ++ Hc) (fun r H' => (∃ v, r = .ret v) ∧ ∃ H1, H' = H1 ++ Hc ∧ J N H1)
/-- The slots that the round's parameters fill. -/
def Env.round (j : Env) : List (Nat × LV) → Env
  | [] => j
  | (d, v) :: r => Env.round (j.upd d v) r
theorem RelE.rounds {n : Nat} {w : World} {L : Live} : ∀ (ps : List Nat) (lvs : List LV) (vs : List Value) (tmps : Array Value) (j : Env), RelE n { tmps, defers := [] } j w L → RepL w L lvs vs → ps.length = lvs.length → ps.all (fun p => Nat.blt p n) = true →
    RelE n { tmps := (ps.zip vs).foldl (fun t p => t.setIfInBounds p.1 p.2) tmps, defers := [] } (Env.round j (ps.zip lvs)) w L
  | [], lvs, vs, tmps, j, h, _, _, _ => by simpa [Env.round] using h
  | p :: ps, [], vs, tmps, j, h, _, hl, _ => by simp at hl
  | p :: ps, lv :: lvs, vs, tmps, j, h, hr, hl, hp => by
    simp only [RepL] at hr
    obtain ⟨y, ys, rfl, hy, hr⟩ := hr
    simp only [List.all_cons, Bool.and_eq_true] at hp
    have := RelE.put (dst := some p) h (by simp only [dstOk, dstB]; exact hp.1) hy
    simp only [List.zip_cons_cons, List.foldl_cons, Env.round]
    exact RelE.rounds ps lvs ys _ _ this hr (by simpa using hl) hp.2
/-- A flat reading of an activation. -/
def Act.flat (a : Act) : Env := ⟨fun i => .atom (a.tmps.getD i undef), []⟩
theorem Act.flat_rel {n : Nat} {a : Act} {w : World} {L : Live} (hn : a.tmps.size = n) : RelE n { tmps := a.tmps, defers := [] } (Act.flat a) w L := ⟨hn, rfl, fun _ => rep_atom⟩
section range
variable {C : Ctx} {n : Nat} {e : Env} {H : Heap} {Q : Post}
theorem LCode.rangeFunc {g : Operand} {ps : List Nat} {assign body : Code} {gf : FuncId} [TEnter C.P gf] {caps : Array Value} (hg : e.ev g = .atom (.func (.func gf) #[] caps)) (N : Nat) (xs : Nat → List LV) (H0 Hc : Heap) (hp : H.Perm (H0 ++ Hc))
    (hiter : LIter C gf (caps.toList.map .atom) Hc N xs) (hps : ∀ k, k < N → ps.length = (xs k).length) (hpn : ps.all (fun p => Nat.blt p n) = true)
    (J : Nat → Heap → Prop) (h0 : J 0 H0)
    (round : ∀ k H, k < N → J k H → ∀ j : Env, j.ds = [] → (∀ i v, e.s i = .atom v → j.s i = .atom v) → ∀ (l D : Nat) (o oD : LObj), LCodeR C l n assign (QOn fun e1 H1 => e1.ds = [] ∧ ∃ H1', H1 = (l, o) :: (D, oD) :: H1' ∧ (∀ o' : LObj, LCodeR C l n body (QOn fun _ H2 => ∃ H2', HSub ((l, o') :: (D, oD) :: H2') H2 ∧ J (k + 1) H2') e1 ((l, o') :: (D, oD) :: H1'))) (Env.round j (ps.zip (xs k))) ((l, o) :: (D, oD) :: H))
    (done : ∀ D H', J N H' → Q .normal ⟨e.s, { target := .collected D, args := #[] } :: e.ds⟩ ((D, .obj (.deferred (some []))) :: (H' ++ Hc))) :
    LCode C n (.rangeFunc g ps.toArray assign body) Q e H := fun a w L hE hH => by
  refine wpIn_wide (n := 1) |>.1 (wpIn_rangeFunc fun fn _ => ?_)
  have hgv : a.eval g = .func (.func gf) #[] caps := by
    have := hE.ev g
    rw [hg] at this
    simpa only [Rep] using this
  obtain ⟨rec, hrec⟩ : ∃ rec : LoopState → Option Code → Loop, rec = fun st pe => { state := st, pending := pe, fn, tmps := a.tmps, params := ps.toArray, assign, body, defers := w.heap.size } := ⟨_, rfl⟩
  obtain ⟨L1, f1, r1⟩ := alloc_obj (o := .deferred (some [])) (hH.perm hp) rfl
  obtain ⟨L2, f2, r2⟩ := alloc_obj (o := .loop (rec .ready none)) r1 rfl
  have hsz : (w.alloc (.deferred (some []))).heap.size = w.heap.size + 1 := World.size_alloc ..
  rw [hsz] at f2 r2
  have hrec0 : rec .ready none = { state := .ready, pending := none, fn, tmps := a.tmps, params := ps.toArray, assign, body, defers := w.heap.size } := by rw [hrec]
  refine ⟨w.heap.size + 1, [{ target := .collected w.heap.size, args := #[] }], (w.alloc (.deferred (some []))).alloc (.loop (rec .ready none)), { target := .fn (.func gf) caps, args := #[.func (.yield (w.heap.size + 1)) #[] #[]] }, (w.alloc (.deferred (some []))).alloc (.loop (rec .ready none)), gf,
    #[.func (.yield (w.heap.size + 1)) #[] #[]] ++ caps, (w.alloc (.deferred (some []))).alloc (.loop (rec .ready none)), ?_, ?_, fun _ _ => trivial, ?_, fun _ => Nat.le_refl _, callsIn_wide.2 ?_⟩
  · rw [hrec0]; exact run_enterLoop_outer _ _ _ _ _
  · simp only [resolve, hgv]
    simp [go_sem]
  · simp only [invoke]
    exact run_callFunc _ _
  · obtain ⟨l, hl⟩ : ∃ l, l = w.heap.size + 1 := ⟨_, rfl⟩
    obtain ⟨D, hD⟩ : ∃ D, D = w.heap.size := ⟨_, rfl⟩
    rw [← hl, ← hD] at f2 r2 ⊢
    rw [← hD] at r1 f1
    have hc := hiter l (fun k H => ∃ H1, H = (l, .obj (.loop (rec .ready none))) :: (D, .obj (.deferred (some []))) :: H1 ∧ J k H1) ?_ ((l, .obj (.loop (rec .ready none))) :: (D, .obj (.deferred (some []))) :: H0) ⟨H0, rfl, h0⟩
    · have h1 := hc (.func (.yield l) #[] #[] :: caps.toList) _ L2 (by simp only [RepL, Rep]; exact ⟨_, _, rfl, rfl, repL_atoms _⟩) r2
      have e1 : (Value.func (.yield l) #[] #[] :: caps.toList).toArray = #[.func (.yield l) #[] #[]] ++ caps := by
        apply Array.ext'
        simp
      rw [e1] at h1
      refine Calls.mono h1 ?_
      rintro ex w' hx
      cases ex with
      | returned v =>
        obtain ⟨lv, H', L', g1, g2, g3, _, H1, rfl, H1', rfl, hJ⟩ := hx
        have g2' : RelH C w' L' ((l, .obj (.loop (rec .ready none))) :: ((D, .obj (.deferred (some []))) :: (H1' ++ Hc))) := g2
        obtain ⟨_, _, _, hlo, _⟩ := g2'.objs _ List.mem_cons_self
        have hlo' : w'.heap[l]? = some (.loop (rec .ready none)) := hlo
        have hpe : (rec .ready none).pending = none := by rw [hrec]
        have hend := (run_endLoop (P := C.P) hlo' (by rw [hrec]; simp)).trans (congrArg (fun p => Result.ok p _) hpe)
        have ht := turn_obj (o' := .loop { rec .ready none with state := .exhausted }) g2' rfl
        refine ⟨none, _, hend, ?_⟩
        have hs : HSub ((D, LObj.obj (.deferred (some []))) :: (H1' ++ Hc)) ((l, .obj (.loop { rec .ready none with state := .exhausted })) :: ((D, .obj (.deferred (some []))) :: (H1' ++ Hc))) := HSub.drop (HSub.refl _)
        refine ⟨⟨e.s, { target := .collected D, args := #[] } :: e.ds⟩, (D, .obj (.deferred (some []))) :: (H1' ++ Hc), L', ?_, ht.2.weak hs, ⟨?_, ?_, ?_⟩, done D H1' hJ⟩
        · exact Fr.perm hp.symm ((f1.trans (f2.trans (g1.trans ht.1))).weak hs)
        · exact hE.size
        · show _ :: a.defers = _
          rw [hE.ds]
        · exact fun i => (hE.vals i).mono (f1.ext.trans (f2.ext.trans (g1.ext.trans ht.1.ext))) _ _
      | panicked ch =>
        obtain ⟨H', L', g1, g2, ⟨v, hv⟩, _⟩ := hx
        cases hv
      | outgrown => exact hx.elim
    · rintro k H hk ⟨H1, rfl, hJ⟩ vs w1 Lw hvs hr m
      obtain ⟨_, _, _, hlo, _⟩ := hr.objs _ List.mem_cons_self
      have hlo' : w1.heap[l]? = some (.loop (rec .ready none)) := hlo
      have hlen := hvs.length
      have hpk := hps k hk
      have hy := run_yield (P := C.P) (args := vs.toArray) hlo' (by rw [hrec]; simp; omega)
      rw [hrec] at hy
      refine ⟨fn, _, assign, body, hy, roundIn_of_wpIn trivial ?_⟩
      have htm : RelE n { tmps := a.tmps, defers := [] } (Act.flat a) w1 Lw := Act.flat_rel hE.size
      have htm2 := RelE.rounds ps (xs k) vs a.tmps (Act.flat a) htm hvs hpk hpn
      have e2 : (ps.toArray.zip vs.toArray).foldl (fun tmps (t, a) => tmps.setIfInBounds t a) a.tmps = (ps.zip vs).foldl (fun t p => t.setIfInBounds p.1 p.2) a.tmps := by
        simp
      simp only [e2]
      refine wpIn_mono (round k H1 hk hJ (Act.flat a) rfl ?_ l D _ _ _ w1 Lw htm2 hr m) ?_
      · intro i v hv
        have := hE.vals i
        rw [hv] at this
        simp only [Rep] at this
        simp only [Act.flat, this]
      · rintro ex a1 w2 ⟨e1, H2, L2', q1, q2, q3, q4⟩
        cases ex with
        | normal =>
          obtain ⟨hds, H2', rfl, hb⟩ := q4
          obtain ⟨_, _, _, hlo2, _⟩ := q2.objs _ List.mem_cons_self
          have hlo2' : w2.heap[l]? = some (.loop (rec .ready none)) := hlo2
          have ht := turn_obj (o' := .loop { rec .ready none with state := .busy }) q2 rfl
          refine ⟨_, run_beginRound hlo2' (by rw [hrec]), ?_⟩
          refine wpIn_mono (hb (.obj (.loop { rec .ready none with state := .busy })) a1 _ L2' (q3.mono ht.1.ext) ht.2 m) ?_
          rintro ex a3 w3 ⟨e3, H3, L3, p1, p2, p3, p4⟩
          cases ex with
          | normal =>
            obtain ⟨H3', hs3, hJ3⟩ := p4
            have p2' := p2.weak hs3
            obtain ⟨_, _, _, hlo3, _⟩ := p2'.objs _ List.mem_cons_self
            have hlo3' : w3.heap[l]? = some (.loop { rec .ready none with state := .busy }) := hlo3
            have ht3 := turn_obj (o' := .loop (rec .ready none)) p2' rfl
            have hend := run_endRound (P := C.P) none hlo3'
            have e3 : ({ { rec .ready none with state := .busy } with state := if (none : Option Code).isNone then .ready else .done, pending := none } : Loop) = rec .ready none := by rw [hrec]; rfl
            rw [e3] at hend
            refine ⟨.bool true, _, hend, rfl, ?_⟩
            exact ⟨_, L3, q1.trans (ht.1.trans ((p1.weak hs3).trans ht3.1)), ht3.2, H3', rfl, hJ3⟩
          | exit id => exact p4.elim
          | goto id => exact p4.elim
          | ret => exact p4.elim
          | panic ch => exact p4.elim
          | outgrown => exact p4.elim
        | exit id => exact q4.elim
        | goto id => exact q4.elim
        | ret => exact q4.elim
        | panic ch => exact q4.elim
        | outgrown => exact q4.elim
end range
/-! ### The iterator's own call of yield -/
theorem operIn_wide {n : Nat} {P : Program} {o : Oper} {a : Act} {w : World} {next next' : Act → World → Prop} {Q : Exit → Act → World → Prop}
    (hQ : ¬ LetsOut Q) (hn : ∀ a w, next a w → next' a w) (h : o.wp P a w next Q) : o.wpIn Fence.wide n P a w next' Q := by
  refine ⟨fun _ _ => trivial, ?_⟩
  have hs : o.semAt (Fence.wide).round a.eval = execOp a.eval o := rfl
  rw [hs]
  unfold Oper.wp at h
  revert h
  generalize (execOp a.eval o).run P w = r
  intro h
  cases r with
  | ok x w' =>
    cases x with
    | value v => exact hn _ _ h
    | skip => exact hn _ _ h
    | defer d => exact hn _ _ h
    | enter f args =>
      refine ⟨fun hd => (by cases hd), callsIn_wide.2 (Calls.mono h ?_)⟩
      intro e w'' he
      cases e with
      | returned v => exact hn _ _ he
      | panicked ch => exact he
      | outgrown => exact absurd he hQ
    | row row args =>
      refine ⟨fun hd => (by cases hd), ?_⟩
      exact fun c cs _ =>
        let ⟨v, w', r, s⟩ := (Rows.mono h fun v w'' he => hn _ _ he) c cs
        ⟨v, w', r, stepsIn_wide.2 s⟩
    | _ => exact h.elim
  | halt x w' =>
    cases x <;> first | exact h | exact h.elim
theorem listIn_wide {n : Nat} {P : Program} {ops : Array Oper} {Q : Exit → Act → World → Prop} (hQ : ¬ LetsOut Q) : ∀ (rest : List Oper) (a : Act) (w : World), wpList P ops Q rest a w → wpListIn Fence.wide n P ops Q rest a w
  | [], a, w, h => h
  | o :: rest, a, w, h => by
    unfold wpList at h
    unfold wpListIn
    split at h
    · rename_i hw
      rw [if_pos hw]
      rcases h with h | ⟨_, h⟩
      · exact operIn_wide hQ (fun a w h => listIn_wide hQ rest a w h) h
      · exact absurd h hQ
    · rename_i hw
      rw [if_neg hw]
      exact ⟨fun _ _ => trivial, listIn_wide hQ rest _ _ h⟩
/-- A region that calls yield. -/
def LOpsW (C : Ctx) (n : Nat) (ops : Array Oper) (Q : Post) (rest : List Oper) (e : Env) (H : Heap) : Prop :=
  ∀ a w L, RelE n a e w L → RelH C w L H → wpListIn Fence.wide 1 C.P ops (lift C n w L (keys H) Q) rest a w
section W
variable {C : Ctx} {n : Nat} {ops : Array Oper} {Q : Post} {e : Env} {H : Heap}
theorem not_out {w : World} {L : Live} {K : List Nat} (hQ : ∀ e H, ¬ Q .outgrown e H) : ¬ LetsOut (lift C n w L K Q) := by
  rintro ⟨a', w', e', H', L', _, _, _, hq⟩
  exact hQ _ _ hq
theorem LOpsW.of {rest : List Oper} (hQ : ∀ e H, ¬ Q .outgrown e H) (h : LOps C n ops Q rest e H) : LOpsW C n ops Q rest e H := fun a w L hE hH => listIn_wide (not_out hQ) _ _ _ (h a w L hE hH)
theorem LOpsW.nil (h : Q .normal e H) : LOpsW C n ops Q [] e H := fun _ _ L hE hH => ⟨e, H, L, Fr.refl _ _ _, hH, hE, h⟩
theorem wpListIn_mono {F : Fence} {m : Nat} {P : Program} {Q Q' : Exit → Act → World → Prop} (h : ∀ e a w, Q e a w → Q' e a w) (ho : LetsOut Q → LetsOut Q') : ∀ (l : List Oper) (a : Act) (w : World), wpListIn F m P ops Q l a w → wpListIn F m P ops Q' l a w
  | [], _, _, k => h _ _ _ k
  | o :: l, a, w, k => by
    unfold wpListIn at k ⊢
    split at k
    · rename_i hw
      rw [if_pos hw]
      refine ⟨k.1, ?_⟩
      have k2 := k.2
      generalize (o.semAt F.round a.eval).run P w = r at k2 ⊢
      cases r with
      | ok x w' =>
        cases x with
        | value v => exact wpListIn_mono h ho l _ _ k2
        | skip => exact wpListIn_mono h ho l _ _ k2
        | defer d => exact wpListIn_mono h ho l _ _ k2
        | enter f args =>
          refine ⟨k2.1, k2.2.mono fun e w'' he => ?_⟩
          cases e with
          | returned v => exact wpListIn_mono h ho l _ _ he
          | panicked ch => exact h _ _ _ he
          | outgrown => exact ho he
        | row row args =>
          refine ⟨k2.1, fun c cs hr => ?_⟩
          obtain ⟨v, w2, r2, s2⟩ := k2.2 c cs hr
          exact ⟨v, w2, wpListIn_mono h ho l _ _ r2, s2⟩
        | round l' f tmps avs bd =>
          refine ⟨k2.1, k2.2.mono fun e w'' he => ?_⟩
          cases e with
          | returned v => exact wpListIn_mono h ho l _ _ he
          | panicked ch => exact h _ _ _ he
          | outgrown => exact ho he
        | _ => exact k2.elim
      | halt x w' => cases x <;> first | exact h _ _ _ k2 | exact k2.elim
    · rename_i hw
      rw [if_neg hw]
      exact ⟨k.1, wpListIn_mono h ho l _ _ k.2⟩
theorem lift_out {w w1 : World} {L L1 : Live} {K : List Nat} {H1 : Heap} (f : Fr K w L w1 L1 H1) : LetsOut (lift C n w1 L1 (keys H1) Q) → LetsOut (lift C n w L K Q) := fun ⟨a, w', h⟩ => ⟨a, w', lift_trans f h⟩
theorem LOpsW.pure {dst : Option Nat} {op : Op} {ty : TypeId} {pos : String} {aft : Array Edge} {rest : List Oper} {lv : LV}
    (h : Pure C ⟨dst, op, ty, pos, aft, none⟩ e H lv) (hd : dstOk n dst) (k : LOpsW C n ops Q rest (e.put dst lv) H) : LOpsW C n ops Q (⟨dst, op, ty, pos, aft, none⟩ :: rest) e H := fun a w L hE hH => by
  obtain ⟨v, hv, hr⟩ := h a.eval w L hE.ev hH
  unfold wpListIn
  rw [if_pos (by simp [Region.wanted])]
  refine ⟨fun _ _ => trivial, ?_⟩
  have hs : Oper.semAt (Fence.wide).round a.eval ⟨dst, op, ty, pos, aft, none⟩ = execOp a.eval ⟨dst, op, ty, pos, aft, none⟩ := rfl
  rw [hs, hr w ⟨fun _ _ => rfl, fun _ _ _ => rfl⟩]
  exact k _ w L (hE.put hd hv) hH
theorem LOpsW.yield {dst : Option Nat} {fo : Operand} {l : Nat} {args : List Operand} {ats : Array TypeId} {avs : List LV} {ty : TypeId} {pos : String} {aft : Array Edge} {rest : List Oper} {K : Heap → Prop} (hf : e.ev fo = .atom (.func (.yield l) #[] #[]))
    (has : args.map e.ev = avs) (hy : LYield C l avs H K) (hd : dstOk n dst) (k : ∀ H', K H' → LOpsW C n ops Q rest (e.put dst (bool true)) H') : LOpsW C n ops Q (⟨dst, .call { callee := .value fo, args := args.toArray, argTypes := ats }, ty, pos, aft, none⟩ :: rest) e H := fun a w L hE hH => by
  subst has
  have hv := hE.ev fo
  rw [hf] at hv
  simp only [Rep] at hv
  obtain ⟨fn, tmps, assign, body, h1, h2⟩ := hy (args.map a.eval) w L (repL_ev hE.ev _) hH 0
  unfold wpListIn
  rw [if_pos (by simp [Region.wanted])]
  refine ⟨fun _ _ => trivial, ?_⟩
  have h3 : Oper.semAt (Fence.wide).round a.eval ⟨dst, .call { callee := .value fo, args := args.toArray, argTypes := ats }, ty, pos, aft, none⟩ = (do let d ← Deferred.ofValue (a.eval fo) (args.toArray.map a.eval); invoke d.target d.args) := rfl
  have h4 : (do let d ← Deferred.ofValue (.func (.yield l) #[] #[]) (args.toArray.map a.eval); invoke d.target d.args : Sem Next).run C.P w = .ok (.round l fn tmps assign body) w := by
    simp only [Deferred.ofValue, Sem.run_bind, Sem.run_pure, Result.andThen_ok, invoke]
    rw [← h1]
    simp
  rw [h3, hv, h4]
  refine ⟨fun _ => Nat.le_refl _, h2.mono ?_⟩
  rintro ex w' ⟨rfl, H', L', g1, g2, g3⟩
  exact wpListIn_mono (fun _ _ _ => lift_trans g1) (lift_out g1) _ _ _ (k H' g3 _ w' L' ((hE.mono g1.ext).put hd rep_atom) g2)
theorem LCode.regionW {id : Nat} {l : List Oper} (h : LOpsW C n l.toArray Q l e H) : LCode C n (.region id l.toArray false) Q e H := fun a w L hE hH => wpIn_wide (n := 1) |>.1 (wpIn_region_lit (h a w L hE hH))
end W
/-- Entering a function that ranges over a function: the mark of its rounds is among its deferred calls. -/
def RetPostM (C : Ctx) (n : Nat) (rs : List ResultVar) (R : LRes → Heap → Prop) : Post
  | .normal, e, H | .ret, e, H => ∃ D F, e.ds = [{ target := .collected D, args := #[] }] ∧ H.Perm ((D, .obj (.deferred (some []))) :: F) ∧ ∃ vs H', AllRes C n e F rs vs ∧ HSub H' F ∧ R (.ret (resLV vs)) H'
  | .panic ch, e, H => (e.ds = [] ∧ ∃ H', HSub H' H ∧ R (.panic ch) H') ∨ ∃ D F, e.ds = [{ target := .collected D, args := #[] }] ∧ H.Perm ((D, .obj (.deferred (some []))) :: F) ∧ ∃ H', HSub H' F ∧ R (.panic ch) H'
  | _, _, _ => False
theorem LCalls.introM {C : Ctx} {f : FuncId} {fn : Func} {c : Code} {n : Nat} {args : List LV} {H : Heap} {R : LRes → Heap → Prop} (hf : C.P.funcs[f]? = some fn) (hb : fn.body = some c) (hn : fn.ntmps = n) (h3 : Nat.ble fn.results.size 3 = true)
    (hl : Nat.ble args.length n = true) (h : LCode C n c (RetPostM C n fn.results.toList R) (argsEnv args) H) : LCalls C f args H R := fun vs w L hv hH => by
  subst hn
  have hl' : args.length ≤ fn.ntmps := by simpa using hl
  have h3' : fn.results.size ≤ 3 := by simpa using h3
  have hlen := hv.length
  refine callsIn_wide.1 (callsIn_of_wp_marks (F := Fence.wide) (n := 1) hf hb trivial (wpIn_wide.2 (Go.wp_mono (h _ w L ⟨?_, rfl, fun i => ?_⟩ hH) fun ex a' w' hq => ?_)))
  · simp; omega
  · simp only [argsEnv]
    rw [Array.getD_eq_getD_getElem?]
    rcases Nat.lt_or_ge i args.length with hi | hi
    · rw [List.getElem?_eq_getElem hi]
      obtain ⟨x, hx, hr⟩ := hv.get (List.getElem?_eq_getElem hi)
      have hxi : (vs.toArray ++ Array.replicate (fn.ntmps - vs.toArray.size) undef)[i]? = some x := by
        rw [Array.getElem?_append_left (by simp; omega)]
        simpa using hx
      rw [hxi]
      exact hr
    · rw [List.getElem?_eq_none hi]
      have hxi : ((vs.toArray ++ Array.replicate (fn.ntmps - vs.toArray.size) undef)[i]?).getD undef = undef := by
        rw [Array.getElem?_append_right (by simp; omega)]
        rw [Array.getElem?_replicate]
        split <;> rfl
      rw [hxi]
      simp only [Option.getD_none, Rep]
  · obtain ⟨e', H', L', g1, g2, g3, g4⟩ := hq
    have turn : ∀ {D F}, H'.Perm ((D, LObj.obj (.deferred (some []))) :: F) → (Instr.takeDeferred D).run C.P w' = .ok [] (w'.putObj D (.deferred none)) ∧ Fr (keys H) w L (w'.putObj D (.deferred none)) L' F ∧ RelH C (w'.putObj D (.deferred none)) L' F ∧ Ext w' L' (w'.putObj D (.deferred none)) L' := fun {D F} hp => by
      have g2' := g2.perm hp
      obtain ⟨_, _, _, hlo, _⟩ := g2'.objs _ List.mem_cons_self
      have hlo' : w'.heap[D]? = some (.deferred (some [])) := hlo
      have ht := turn_obj (o' := .deferred none) g2' rfl
      have hs : HSub F ((D, LObj.obj (.deferred none)) :: F) := HSub.drop (HSub.refl _)
      have hkp : Fr (keys H) w L w' L' ((D, LObj.obj (.deferred (some []))) :: F) := g1.weak ⟨[], by simpa using hp⟩
      exact ⟨run_takeDeferred hlo', (hkp.trans ht.1).weak hs, ht.2.weak hs, ht.1.ext⟩
    have ret : RelE fn.ntmps a' e' w' L' → (∃ D F, e'.ds = [{ target := .collected D, args := #[] }] ∧ H'.Perm ((D, .obj (.deferred (some []))) :: F) ∧ ∃ vs H'', AllRes C fn.ntmps e' F fn.results.toList vs ∧ HSub H'' F ∧ R (.ret (resLV vs)) H'') →
        LeavesInM Fence.wide 1 C.P fn a'.tmps (CallPost C w L H (fun v => R (.ret v)) (fun ch => R (.panic ch))) a'.defers .returning w' := fun hE hr => by
      obtain ⟨D, F, h1, hp, vs', H'', h2, h4, h5⟩ := hr
      rw [hE.ds, h1]
      obtain ⟨t1, t2, t3, t4⟩ := turn hp
      refine ⟨by simp, .inl ⟨D, _, rfl, t1, ?_⟩⟩
      obtain ⟨v, r1, r2⟩ := results_of (hE.mono t4) t3 h2 h3'
      exact ⟨v, r1, resLV vs', H'', L', t2.weak h4, t3.weak h4, r2, h5⟩
    cases ex with
    | normal => exact ret g3 g4
    | ret => exact ret g3 g4
    | panic ch =>
      rcases g4 with ⟨h1, H'', h4, h5⟩ | ⟨D, F, h1, hp, H'', h4, h5⟩
      · show LeavesInM _ _ _ _ _ _ a'.defers _ _
        rw [show a'.defers = [] from (show a'.defers = e'.ds from g3).trans h1]
        exact ⟨H'', L', g1.weak h4, g2.weak h4, h5⟩
      · show LeavesInM _ _ _ _ _ _ a'.defers _ _
        rw [show a'.defers = [{ target := .collected D, args := #[] }] from (show a'.defers = e'.ds from g3).trans h1]
        obtain ⟨t1, t2, t3, t4⟩ := turn hp
        exact ⟨by simp, .inl ⟨D, _, rfl, t1, ⟨H'', L', t2.weak h4, t3.weak h4, h5⟩⟩⟩
    | exit id => exact g4.elim
    | goto id => exact g4.elim
    | outgrown => exact g4.elim
end Go.GL
namespace Go.Proofs.YtfodkbchknknjaaGreatDoor
open Go.GL Go.RowKit Go.Stele
set_option maxRecDepth 100000
set_option maxHeartbeats 4000000
attribute [local irreducible] LOps LCode LStep LCalls Go.GL.Pure QThen QBlock RetPost LQ LAny LLate LLateOp
def lvLV (k : Nat) : LV := .list ((lvOps k).map str)
def levelsLV : List LV := [lvLV 0, lvLV 1, lvLV 2, lvLV 3, lvLV 4, lvLV 5]
section
variable {B0 : Nat} {w0 : World}
theorem levels_spec : LCalls (KC B0 w0) 163 [] [] (Ret (.list levelsLV)) := by
  refine LCalls.intro Tryz.func163 rfl (n := 8) rfl rfl rfl ?_
  repeat first
    | refine LOps.nil ?_
    | refine LCode.seq ?_
    | refine LCode.region ?_
    | refine QThen.normal ?_
    | refine LOps.pure (Pure.as (lv := .atom _) rfl) rfl ?_
  refine LOps.step (S.lit (es := [str [124, 124]]) [_] rfl (elemsOk.cons rfl rfl elemsOk.nil) rfl rfl rfl ?_) rfl
  refine LOps.step (S.lit (es := [str [38, 38]]) [_] rfl (elemsOk.cons rfl rfl elemsOk.nil) rfl rfl rfl ?_) rfl
  refine LOps.step (S.lit (es := [str [61, 61], str [33, 61], str [60], str [62], str [60, 61], str [62, 61]]) [_, _, _, _, _, _] rfl (elemsOk.cons rfl rfl (elemsOk.cons rfl rfl (elemsOk.cons rfl rfl (elemsOk.cons rfl rfl (elemsOk.cons rfl rfl (elemsOk.cons rfl rfl elemsOk.nil)))))) rfl rfl rfl ?_) rfl
  refine LOps.step (S.lit (es := [str [94]]) [_] rfl (elemsOk.cons rfl rfl elemsOk.nil) rfl rfl rfl ?_) rfl
  refine LOps.step (S.lit (es := [str [43], str [45]]) [_, _] rfl (elemsOk.cons rfl rfl (elemsOk.cons rfl rfl elemsOk.nil)) rfl rfl rfl ?_) rfl
  refine LOps.step (S.lit (es := [str [42], str [47], str [37]]) [_, _, _] rfl (elemsOk.cons rfl rfl (elemsOk.cons rfl rfl (elemsOk.cons rfl rfl elemsOk.nil))) rfl rfl rfl ?_) rfl
  refine LOps.step (S.lit (es := levelsLV) [_, _, _, _, _, _] rfl (elemsOk.cons rfl rfl (elemsOk.cons rfl rfl (elemsOk.cons rfl rfl (elemsOk.cons rfl rfl (elemsOk.cons rfl rfl (elemsOk.cons rfl rfl elemsOk.nil)))))) rfl rfl rfl ?_) rfl
  repeat first
    | refine LOps.nil ?_
    | refine LCode.ret ?_
    | refine QThen.normal ?_
    | refine LOps.pure (Pure.as (lv := .list _) rfl) rfl ?_
  exact retRet rfl (AllRes.cons (ResIs.tmp (v := .list _) rfl (LV.Sub.refl _)) AllRes.nil) rfl
theorem binary_spec (sb : Nat) (ops : List LV) (once : Bool) (fn : FuncId) (first caps : Array Value) : LCalls (KC B0 w0) 166 [ptr sb 0, .list ops, bool once, .atom (.func (.func fn) first caps)] []
    (fun r H => ∃ bo bs bp bn : Nat, r = .ret (.atom (.func (.func 176) #[] #[.pointer (some ⟨bo, 0, none⟩), .pointer (some ⟨bs, 0, none⟩), .pointer (some ⟨bp, 0, none⟩), .pointer (some ⟨bn, 0, none⟩)])) ∧
      H = [(bo, .cells 148 [.atom (.func (.func fn) first caps)]), (bs, .cells 59 [ptr sb 0]), (bp, .cells 23 [.list ops]), (bn, .cells 4 [bool once])]) := by
  refine LCalls.intro Tryz.func166 rfl (n := 10) rfl rfl rfl ?_
  repeat first
    | refine LCode.seq ?_
    | refine LCode.region ?_
  refine LOps.step (S.box rfl fun bs => ?_) rfl
  refine LOps.step (S.box rfl fun bp => ?_) rfl
  refine LOps.step (S.box rfl fun bn => ?_) rfl
  refine LOps.step (S.box rfl fun bo => ?_) rfl
  repeat first
    | refine LOps.nil ?_
    | refine LCode.seq ?_
    | refine LCode.region ?_
    | refine LCode.ret ?_
    | refine QThen.normal ?_
    | refine LOps.pure (Pure.as (lv := .atom _) rfl) rfl ?_
    | refine LOps.pure (Pure.makeFunc rfl rfl) rfl ?_
  exact RetPost.ret rfl (AllRes.cons (ResIs.tmp (v := .atom _) rfl (LV.Sub.refl _)) AllRes.nil) (HSub.pick Pick.here (HSub.pick (Pick.there (Pick.there Pick.here)) (HSub.pick (Pick.there Pick.here) (HSub.pick Pick.here (HSub.nil _))))) ⟨bo, bs, bp, bn, rfl, rfl⟩
theorem backward_spec (es : List LV) : LCalls (KC B0 w0) 165 [.list es] [] (fun r H => ∃ b : Nat, r = .ret (.atom (.func (.func 175) #[] #[.pointer (some ⟨b, 0, none⟩)])) ∧ H = [(b, .cells 159 [.list es])]) := by
  refine LCalls.intro Tryz.func165 rfl (n := 4) rfl rfl rfl ?_
  repeat first
    | refine LCode.seq ?_
    | refine LCode.region ?_
  refine LOps.step (S.box rfl fun b => ?_) rfl
  repeat first
    | refine LOps.nil ?_
    | refine LCode.seq ?_
    | refine LCode.region ?_
    | refine LCode.ret ?_
    | refine QThen.normal ?_
    | refine LOps.pure (Pure.as (lv := .atom _) rfl) rfl ?_
    | refine LOps.pure (Pure.makeFunc rfl rfl) rfl ?_
  exact RetPost.ret rfl (AllRes.cons (ResIs.tmp (v := .atom _) rfl (LV.Sub.refl _)) AllRes.nil) (HSub.refl _) ⟨b, rfl, rfl⟩
/-- What the iterator hands to yield in the round q: the place and the element, from the last to the first. -/
def backArgs (ls : List (List (List UInt8))) (q : Nat) : List LV := [int .i64 ((ls.length : Int) - 1 - q), .list (((ls[ls.length - 1 - q]?).getD []).map str)]
theorem iter_spec (b : Nat) (ls : List (List (List UInt8))) (hl : ls.length ≤ 100000) : LIter (KC B0 w0) 175 [ptr b 0] [(b, .cells 159 [.list (ls.map fun l => .list (l.map str))])] ls.length (backArgs ls) := by
  intro l J hY H0 h0
  have hml : (ls.map fun l => LV.list (l.map str)).length = ls.length := List.length_map _
  refine LCalls.intro Tryz.func175 rfl (n := 19) rfl rfl rfl ?_
  refine LCode.perm (H' := (b, .cells 159 [.list (ls.map fun l => .list (l.map str))]) :: H0) (List.perm_append_singleton _ _) ?_
  repeat first
    | refine LOps.nil ?_
    | refine LCode.seq ?_
    | refine LCode.region ?_
    | refine LCode.block ?_
    | refine QThen.normal ?_
    | refine LOps.pure (Pure.loadH (c := .list _) rfl (List.Mem.head _) rfl) rfl ?_
    | refine LOps.pure (Pure.llen rfl) rfl ?_
    | refine LOps.pure (Pure.sub rfl rfl (by omega)) rfl ?_
    | refine LOps.pure (Pure.as (lv := .atom _) rfl) rfl ?_
  refine LCode.loopI (fun k lsl H => ∃ (q : Nat) (Hq : Heap), q ≤ ls.length ∧ k = ls.length - q ∧ lsl = [(0, .atom (.func (.yield l) #[] #[])), (1, ptr b 0), (3, int .i64 ((ls.length : Int) - 1 - q))] ∧ H = (b, .cells 159 [.list (ls.map fun l => .list (l.map str))]) :: Hq ∧ J q Hq)
    ⟨_, _, _, ⟨0, H0, Nat.zero_le _, rfl, rfl, rfl, h0⟩, ⟨rfl, rfl, int_eq (by simp), trivial⟩, HSub.refl _⟩ ?_
  rintro k lsl H ⟨q, Hq, hq, rfl, rfl, rfl, hJ⟩ j hj
  repeat first
    | refine LOps.nil ?_
    | refine LCode.seq ?_
    | refine LCode.region ?_
    | refine QThen.normal ?_
    | refine LOps.pure (Pure.mv (lv := .atom _) rfl) rfl ?_
    | refine LOps.pure (Pure.geq rfl rfl) rfl ?_
  refine LCode.cond rfl (fun hc => ?_) (fun hc => ?_)
  · have hlt : q < ls.length := by have := of_decide_eq_true hc; omega
    have hix : ((ls.length : Int) - 1 - q).toNat = ls.length - 1 - q := by omega
    have hlt2 : ls.length - 1 - q < ls.length := by omega
    have hel : (ls.map fun l => LV.list (l.map str))[((ls.length : Int) - 1 - q).toNat]? = some (.list (((ls[ls.length - 1 - q]?).getD []).map str)) := by
      rw [hix, List.getElem?_map, List.getElem?_eq_getElem hlt2]
      rfl
    repeat first
      | refine LCode.seq ?_
      | refine LCode.skip ?_
      | refine LCode.block ?_
      | refine QThen.normal ?_
    refine LCode.regionW ?_
    repeat first
      | refine LOpsW.pure (Pure.loadH (c := .list _) rfl (List.Mem.head _) rfl) rfl ?_
      | refine LOpsW.pure (Pure.mv (lv := .atom _) rfl) rfl ?_
    refine LOpsW.pure (Pure.ixRef (cs := [_]) rfl rfl (by omega) hel rfl rfl) rfl ?_
    repeat first
      | refine LOpsW.pure (Pure.loadRef (c := .list _) rfl rfl) rfl ?_
    refine LOpsW.yield (H := (b, .cells 159 [.list (ls.map fun l => .list (l.map str))]) :: Hq) (args := [_, _]) rfl rfl (LYield.frame (H := Hq) (F := [(b, .cells 159 [.list (ls.map fun l => .list (l.map str))])]) (List.perm_append_singleton _ _).symm (K := fun H' => ∃ H1, H' = H1 ++ [(b, .cells 159 [.list (ls.map fun l => .list (l.map str))])] ∧ J (q + 1) H1) (LYield.mono (hY q Hq hlt hJ) fun H' h => ⟨H', rfl, h⟩)) rfl ?_
    rintro H' ⟨H1, rfl, hJ1⟩
    repeat first
      | refine LOpsW.pure (Pure.not rfl) rfl ?_
    refine LOpsW.nil ?_
    refine QThen.normal ?_
    refine LCode.weak (H' := (b, .cells 159 [.list (ls.map fun l => .list (l.map str))]) :: H1) ⟨[], by rw [List.append_nil]; exact List.perm_append_singleton _ _⟩ ?_
    refine LCode.cond rfl (fun hcc => ?_) (fun hcc => ?_)
    · cases hcc
    · repeat first
        | refine LOps.nil ?_
        | refine LCode.region ?_
        | refine LCode.skip ?_
        | refine QThen.normal ?_
        | refine QBlock.normal ?_
        | refine LOps.pure (Pure.sub rfl rfl (by omega)) rfl ?_
        | refine LOps.pure (Pure.as (lv := .atom _) rfl) rfl ?_
        | refine LOps.pure (Pure.mv (lv := .atom _) rfl) rfl ?_
      exact ⟨_, _, _, by omega, ⟨q + 1, H1, hlt, rfl, rfl, rfl, hJ1⟩, ⟨rfl, rfl, int_eq (by omega), trivial⟩, HSub.refl _, hj⟩
  · have hge : q = ls.length := by have := of_decide_eq_false hc; omega
    subst hge
    repeat first
      | refine LCode.exit ?_
      | refine QThen.exit ?_
      | refine QBlock.hit ?_
    exact RetPost.normal hj AllRes.nil ⟨[], by rw [List.append_nil]; exact (List.perm_append_singleton _ _).symm⟩ ⟨⟨_, rfl⟩, Hq, rfl, hJ⟩
end
end Go.Proofs.YtfodkbchknknjaaGreatDoor
namespace Go.GL
open Go.RowKit
section
variable {C : Ctx} {n : Nat} {Q : Post} {e : Env} {H : Heap} {k : Env → Heap → Prop}
theorem LCode.mid {A : Type} {c : Code} (l : A → List (Nat × LV)) (H1 : A → Heap) (F : A → Prop) (hx : LCode C n c (QThen (fun e' H' => ∃ a, F a ∧ At (l a) (H1 a) e.ds e' H') Q) e H) (hy : ∀ a, F a → ∀ j : Env, j.ds = e.ds → k (Env.slots j (l a)) (H1 a)) : LCode C n c (QThen k Q) e H := by
  refine LCode.conseq hx ?_
  rintro ex e' H' hq
  cases ex with
  | normal =>
    obtain ⟨a, hF, h1, rfl, h3⟩ := hq
    have := hy a hF e' h3
    rw [Env.slots_self h1.mem] at this
    exact this
  | exit id => exact hq
  | goto id => exact hq
  | ret => exact hq
  | panic ch => exact hq
  | outgrown => exact hq
/-- The same, where the heap is met in whatever order, and code follows. -/
theorem LCode.midC {A : Type} {c c2 : Code} {Q2 : Post} (l : A → List (Nat × LV)) (H1 : A → Heap) (F : A → Prop) (hx : LCode C n c (QThen (fun e' H' => ∃ a, F a ∧ AllSlots e' (l a) ∧ HSub (H1 a) H' ∧ e'.ds = e.ds) Q) e H) (hy : ∀ a, F a → ∀ j : Env, j.ds = e.ds → LCode C n c2 Q2 (Env.slots j (l a)) (H1 a)) : LCode C n c (QThen (fun e H => LCode C n c2 Q2 e H) Q) e H := by
  refine LCode.conseq hx ?_
  rintro ex e' H' hq
  cases ex with
  | normal =>
    obtain ⟨a, hF, h1, h2, h3⟩ := hq
    have := hy a hF e' h3
    rw [Env.slots_self h1.mem] at this
    exact LCode.weak h2 this
  | exit id => exact hq
  | goto id => exact hq
  | ret => exact hq
  | panic ch => exact hq
  | outgrown => exact hq
theorem cells_sub {w : World} {L : Live} {b ty : Nat} {cs cs' : List LV} {F : Heap} (hp : Pick (b, .cells ty cs) H F) (hs : SubL cs cs') (hH : RelH C w L H) : RelH C w L ((b, .cells ty cs') :: F) := by
  have h1 := hH.perm hp
  refine ⟨h1.base, h1.lbase, h1.b0, h1.wf, h1.nodup, fun p hp => ?_⟩
  rcases List.mem_cons.1 hp with rfl | hp
  · obtain ⟨r1, r2, r3, xs, r4, r5⟩ := h1.objs _ List.mem_cons_self
    exact ⟨r1, r2, r3, xs, r4, hs.repL r5⟩
  · exact h1.objs p (List.mem_cons_of_mem _ hp)
theorem pick_keys {b ty : Nat} {cs cs' : List LV} {F : Heap} (hp : Pick (b, .cells ty cs) H F) : ∀ x, x ∈ keys ((b, LObj.cells ty cs') :: F) → x ∈ keys H := fun x hx => by
  have : keys ((b, LObj.cells ty cs') :: F) = keys ((b, LObj.cells ty cs) :: F) := rfl
  rw [this] at hx
  exact ((hp.map (·.1)).mem_iff).2 hx
/-- A cell's content is read more weakly. -/
theorem LCode.cellSub {c : Code} {b ty : Nat} {cs cs' : List LV} {F : Heap} (hp : Pick (b, .cells ty cs) H F) (hs : SubL cs cs') (h : LCode C n c Q e ((b, .cells ty cs') :: F)) : LCode C n c Q e H := fun a w L hE hH =>
  Go.wp_mono (h a w L hE (cells_sub hp hs hH)) fun _ _ _ => lift_weak (pick_keys hp)
theorem LOps.cellSub {ops : Array Oper} {rest : List Oper} {b ty : Nat} {cs cs' : List LV} {F : Heap} (hp : Pick (b, .cells ty cs) H F) (hs : SubL cs cs') (h : LOps C n ops Q rest e ((b, .cells ty cs') :: F)) : LOps C n ops Q rest e H := fun a w L hE hH =>
  wpList_mono (fun _ _ _ => lift_weak (pick_keys hp)) _ _ _ (h a w L hE (cells_sub hp hs hH))
theorem LOps.perm {ops : Array Oper} {rest : List Oper} {H' : Heap} (s : H.Perm H') (h : LOps C n ops Q rest e H') : LOps C n ops Q rest e H := LOps.weak ⟨[], by simpa using s⟩ h
end
section
variable {C : Ctx} {e : Env} {H : Heap} {dst : Option Nat} {ty : TypeId} {pos : String} {aft : Array Edge} {g : Option (Nat × Bool)} {x : Operand}
/-- A type assertion with two results that holds. -/
theorem Pure.assertOk {t xT : TypeId} [ht : TConcrete C.P t] {vs : List Value} (hx : e.ev x = .atom (.iface t (.agg vs.toArray))) : Pure C ⟨dst, .typeAssert x xT t true, ty, pos, aft, g⟩ e H (.tuple [.agg (vs.map .atom), bool true]) :=
  .of_any fun ρ w L h => ⟨.tuple #[.agg vs.toArray, .bool true], by
    simp only [Rep]
    exact ⟨[.agg vs.toArray, .bool true], rfl, by simp only [RepL, Rep]; exact ⟨_, _, rfl, ⟨vs, rfl, repL_atoms vs⟩, _, _, rfl, rfl, rfl⟩⟩, fun w' => by
    obtain ⟨d, hd, hm⟩ := ht.out
    have h3 : execOp ρ ⟨dst, .typeAssert x xT t true, ty, pos, aft, g⟩ = (do Pure.pure (.value (← Instr.typeAssert (ρ x) xT t true))) := rfl
    rw [h3, atom_of h hx]
    simp only [Instr.typeAssert, Sem.run_bind, run_underlying' hd, Result.andThen_ok]
    cases d <;> simp_all⟩
end
theorem LLate.three {C : Ctx} {n : Nat} {ops : Array Oper} {Q : Post} {HF : Heap} {fuel : Nat} {listed : Array Bool} {e : Env} {H : Heap} {i j k : Nat} (hr : Region.ready .any ops listed = [i, j, k]) (h1 : LLateOp C n ops Q HF fuel listed e H i) (h2 : LLateOp C n ops Q HF fuel listed e H j) (h3 : LLateOp C n ops Q HF fuel listed e H k) : LLate C n ops Q HF (fuel + 1) listed e H :=
  LLate.all hr (by simp) fun q hq => by
    simp only [List.mem_cons, List.not_mem_nil, or_false] at hq
    rcases hq with rfl | rfl | rfl
    · exact h1
    · exact h2
    · exact h3
theorem LLate.four {C : Ctx} {n : Nat} {ops : Array Oper} {Q : Post} {HF : Heap} {fuel : Nat} {listed : Array Bool} {e : Env} {H : Heap} {i j k l : Nat} (hr : Region.ready .any ops listed = [i, j, k, l]) (h1 : LLateOp C n ops Q HF fuel listed e H i) (h2 : LLateOp C n ops Q HF fuel listed e H j) (h3 : LLateOp C n ops Q HF fuel listed e H k) (h4 : LLateOp C n ops Q HF fuel listed e H l) : LLate C n ops Q HF (fuel + 1) listed e H :=
  LLate.all hr (by simp) fun q hq => by
    simp only [List.mem_cons, List.not_mem_nil, or_false] at hq
    rcases hq with rfl | rfl | rfl | rfl
    · exact h1
    · exact h2
    · exact h3
    · exact h4
theorem not_t {b : Bool} (h : (!b) = true) : b = false := by cases b <;> simp_all
theorem not_f {b : Bool} (h : (!b) = false) : b = true := by cases b <;> simp_all
theorem strs_len (l : List (List UInt8)) : ∀ v ∈ l.map str, v.cells.length = 1 := fun v hv => by
  obtain ⟨x, _, rfl⟩ := List.mem_map.1 hv
  rfl
theorem strs_ok : ∀ l : List (List UInt8), ((l.map str).flatMap LV.cells).all cellOk = true
  | [] => rfl
  | x :: l => by
    rw [List.map_cons, List.flatMap_cons, List.all_append, strs_ok l]
    rfl
end Go.GL
/- A small logic over the walk's 'Code.wp': structs of a string and an int, compared. -/
namespace Go.GL
open Go.RowKit
/-- The type is a struct of a string and an int. -/
class TPair (P : Program) (t : TypeId) : Prop where
  out : ∃ (fs : Array Field) (f0 f1 : Field), P.underlying t = some (.struct fs) ∧ fs.toList = [f0, f1] ∧ f0.offset = 0 ∧ f1.offset = 1 ∧ (f0.name != "_") = true ∧ (f1.name != "_") = true ∧ P.underlying f0.type = some .string ∧ P.underlying f1.type = some (.int .i64) ∧
    P.cellsOf t = 2 ∧ P.cellsOf f0.type = 1 ∧ P.cellsOf f1.type = 1
  key : P.keyTypeAt 2 t = true
  guard : P.eqGuardType P.depth t = false
def chkStrT (P : Program) (t : TypeId) : Bool := match P.underlying t with | some .string => true | _ => false
def chkI64T (P : Program) (t : TypeId) : Bool := match P.underlying t with | some (.int .i64) => true | _ => false
def chkPair (P : Program) (t : Nat) : Bool := match P.underlying t with
  | some (.struct fs) => (match fs.toList with
    | [f0, f1] => Nat.beq f0.offset 0 && Nat.beq f1.offset 1 && (f0.name != "_") && (f1.name != "_") && chkStrT P f0.type && chkI64T P f1.type && Nat.beq (P.cellsOf t) 2 && Nat.beq (P.cellsOf f0.type) 1 && Nat.beq (P.cellsOf f1.type) 1
    | _ => false)
  | _ => false
theorem TPair.of {P : Program} {t : Nat} (h : chkPair P t = true) (hk : P.keyTypeAt 2 t = true) (hg : P.eqGuardType P.depth t = false) : TPair P t := by
  refine ⟨?_, hk, hg⟩
  unfold chkPair at h
  split at h
  · rename_i fs hu
    split at h
    · rename_i f0 f1 hf
      simp only [Bool.and_eq_true] at h
      obtain ⟨⟨⟨⟨⟨⟨⟨⟨h1, h2⟩, h3⟩, h4⟩, h5⟩, h6⟩, h7⟩, h8⟩, h9⟩ := h
      refine ⟨fs, f0, f1, hu, hf, Nat.eq_of_beq_eq_true h1, Nat.eq_of_beq_eq_true h2, h3, h4, ?_, ?_, Nat.eq_of_beq_eq_true h7, Nat.eq_of_beq_eq_true h8, Nat.eq_of_beq_eq_true h9⟩
      · unfold chkStrT at h5
        split at h5
        · assumption
        · cases h5
      · unfold chkI64T at h6
        split at h6
        · assumption
        · cases h6
    · cases h
  · cases h
theorem pair_lits {P : Program} {t : TypeId} [ht : TPair P t] (a : List UInt8) (n : Int) (ha : a.length ≤ 1000000000) (hn : -9223372036854775808 ≤ n ∧ n ≤ 9223372036854775807) :
    P.keyLits 2 t [.string ⟨a.toArray⟩, .int .i64 n] = some [.string a, .int .i64 n] := by
  obtain ⟨fs, f0, f1, hu, hf, h1, h2, h3, h4, h5, h6, h7, h8, h9⟩ := ht.out
  have hall : fs.all (·.name != "_") = true := by
    rw [← Array.all_toList, hf]
    simp only [List.all_cons, List.all_nil, h3, h4, Bool.and_true]
  have hsz : (ByteArray.mk a.toArray).size ≤ maxLen := by
    rw [size_mk]
    unfold maxLen
    omega
  have hwf : (Lit.int .i64 n).wf = true := by
    simp only [Lit.wf, IntKind.min, IntKind.max, IntKind.signed, IntKind.bits]
    simp
    omega
  simp only [Program.keyLits, hu, h7, hall, hf, List.mapM_cons, List.mapM_nil, h1, h2, h8, h9, h5, h6]
  simp [hsz, hwf]
theorem equal_step2 (t : TypeId) (x y : Value) : Op.equal t x y = Op.equalIn (9998 + 2) t x y := rfl
theorem pair_equal {P : Program} {t : TypeId} [ht : TPair P t] {a b : List UInt8} {n m : Int} (ha : a.length ≤ 1000000000) (hb : b.length ≤ 1000000000) (hn : -9223372036854775808 ≤ n ∧ n ≤ 9223372036854775807) (hm : -9223372036854775808 ≤ m ∧ m ≤ 9223372036854775807) (w : World) :
    (Op.equal t (.agg #[.string ⟨a.toArray⟩, .int .i64 n]) (.agg #[.string ⟨b.toArray⟩, .int .i64 m])).run P w = .ok (decide (a = b) && decide (n = m)) w := by
  have hout := ht.out
  obtain ⟨fs, f0, f1, hu, hf, h1, h2, h3, h4, h5, h6, h7, h8, h9⟩ := hout
  have hfm : ∀ x y : Value, (Value.agg #[x, y]).formed P t = true := fun x y => by
    simp only [Value.formed, hu, h7]
    rfl
  obtain ⟨r, hr, hiff⟩ := run_equalIn_deep (P := P) 9998 2 t ht.key w 2 2 (.agg #[.string ⟨a.toArray⟩, .int .i64 n]) (.agg #[.string ⟨b.toArray⟩, .int .i64 m]) _ _ (hfm _ _) (hfm _ _) (pair_lits a n ha hn) (pair_lits b m hb hm)
  rw [equal_step2, hr]
  congr 1
  rw [Bool.eq_iff_iff, hiff]
  simp
theorem binOp_neq_agg (t : TypeId) (xs ys : Array Value) : binOp .neq t (.agg xs) (.agg ys) = (do Pure.pure (.bool (!(← Op.equal t (.agg xs) (.agg ys))))) := rfl
theorem guard_abs {P : Program} (bf : Program → Program → Bool) (rest : Sem Unit) (w : World) (h : bf P P = false) : (do let a ← program; let b ← program; if (!bf a b) = true then Pure.pure () else rest : Sem Unit).run P w = .ok () w := by
  have h0 : (program).run P w = .ok P w := rfl
  simp only [Sem.run_bind, h0, Result.andThen_ok, h, Bool.not_false, if_true, Sem.run_pure]
theorem eqGuard_agg {P : Program} {t : TypeId} (hg : P.eqGuardType P.depth t = false) (x y : Operand) (xs ys : Array Value) (w : World) : (eqGuard .neq t x y (.agg xs) (.agg ys)).run P w = .ok () w := by
  unfold eqGuard
  generalize Op.eqGuardIn Op.maxDepth t (.agg xs) (.agg ys) = q
  exact guard_abs (fun a b => a.eqGuardType b.depth t) _ w hg
theorem exec_neq_agg {P : Program} {t : TypeId} (hg : P.eqGuardType P.depth t = false) {ρ : Operand → Value} {x y : Operand} {dst : Option Nat} {ty yT : TypeId} {pos : String} {aft : Array Edge} {g : Option (Nat × Bool)} {xs ys : Array Value} (hx : ρ x = .agg xs) (hy : ρ y = .agg ys) {r : Bool} {w : World}
    (h : (Op.equal t (.agg xs) (.agg ys)).run P w = .ok r w) : (execOp ρ ⟨dst, .binOp .neq t x y yT, ty, pos, aft, g⟩).run P w = .ok (.value (.bool (!r))) w := by
  have h3 : execOp ρ ⟨dst, .binOp .neq t x y yT, ty, pos, aft, g⟩ = (do Pure.pure (.value (← (do eqGuard .neq t x y (ρ x) (ρ y); binOp .neq t (ρ x) (ρ y))))) := rfl
  rw [h3, hx, hy, binOp_neq_agg]
  simp only [Sem.run_bind, eqGuard_agg hg, Result.andThen_ok, h, Sem.run_pure]
section
variable {C : Ctx} {e : Env} {H : Heap} {dst : Option Nat} {ty : TypeId} {pos : String} {aft : Array Edge} {g : Option (Nat × Bool)} {xT yT : TypeId} {x y : Operand}
theorem Pure.pairNeq [ht : TPair C.P xT] {a b : List UInt8} {n m : Int} (hx : e.ev x = .agg [str a, int .i64 n]) (hy : e.ev y = .agg [str b, int .i64 m]) (ha : a.length ≤ 1000000000) (hb : b.length ≤ 1000000000) (hn : -9223372036854775808 ≤ n ∧ n ≤ 9223372036854775807) (hm : -9223372036854775808 ≤ m ∧ m ≤ 9223372036854775807) :
    Pure C ⟨dst, .binOp .neq xT x y yT, ty, pos, aft, g⟩ e H (bool (!(decide (a = b) && decide (n = m)))) :=
  .of_any fun ρ w L h => ⟨_, rep_atom, fun w' => by
    have h1 := h x
    have h2 := h y
    rw [hx] at h1
    rw [hy] at h2
    simp only [Rep] at h1 h2
    obtain ⟨xs, h1, r1⟩ := h1
    obtain ⟨ys, h2, r2⟩ := h2
    have e1 := RepL.atoms (vs := [.string ⟨a.toArray⟩, .int .i64 n]) r1
    have e2 := RepL.atoms (vs := [.string ⟨b.toArray⟩, .int .i64 m]) r2
    rw [e1] at h1
    rw [e2] at h2
    exact exec_neq_agg ht.guard h1 h2 (pair_equal (P := C.P) (t := xT) ha hb hn hm w')⟩
end
end Go.GL
namespace Go.Proofs.YtfodkbchknknjaaGreatDoor
open Go.GL Go.RowKit Go.Stele
set_option maxRecDepth 100000
set_option maxHeartbeats 4000000
theorem encArgs_eq (e : Ex) : encArgs e = (exArgs e).map encE := by
  obtain ⟨o, n, nm, a⟩ := e
  exact encArgs_map o n nm a
theorem encThen_eq (s : Sm) : encThen s = (smThen s).map encS := by
  obtain ⟨k, n, i, v, t, e⟩ := s
  rw [encThen, encSs_map]
  rfl
theorem encElse_eq (s : Sm) : encElse s = (smElse s).map encS := by
  obtain ⟨k, n, i, v, t, e⟩ := s
  rw [encElse, encSs_map]
  rfl
/-- The trees are not too wide anywhere. -/
theorem ret_any {C : Ctx} {f : FuncId} {args : List LV} {v : Value} (h : LCalls C f args [] (Ret (.atom v))) : LCalls C f args [] (fun r _ => r = .ret (.atom v)) := LCalls.mono h fun _ _ h => h.1
attribute [local irreducible] LOps LCode LStep LCalls Go.GL.Pure QThen QBlock RetPost LQ LAny LLate LLateOp
section
variable {B0 : Nat} {w0 : World}
theorem sameNames_spec (a b : List (List UInt8)) (ha : a.length ≤ 4611686018427387904) : LCalls (KC B0 w0) 39 [.list (a.map str), .list (b.map str)] [] (Ret (bool (eqNames a b))) := by
  have hla : (a.map str).length = a.length := List.length_map _
  have hlb : (b.map str).length = b.length := List.length_map _
  refine LCalls.intro Tryz.func39 rfl (n := 26) rfl rfl rfl ?_
  repeat first
    | refine LOps.nil ?_
    | refine LCode.seq ?_
    | refine LCode.region ?_
    | refine QThen.normal ?_
    | refine LOps.pure (Pure.as (lv := .atom _) rfl) rfl ?_
    | refine LOps.pure (Pure.mv (lv := .list _) rfl) rfl ?_
    | refine LOps.pure (Pure.llen rfl) rfl ?_
    | refine LOps.pure (Pure.neq rfl rfl) rfl ?_
  refine LCode.cond rfl (fun hc => ?_) (fun hc => ?_)
  · have hne : a.length ≠ b.length := by
      have : ¬ ((a.map str).length : Int) = (b.map str).length := by simpa using hc
      omega
    repeat first
      | refine LOps.nil ?_
      | refine LCode.seq ?_
      | refine LCode.region ?_
      | refine LCode.ret ?_
      | refine QThen.normal ?_
      | refine QThen.ret ?_
      | refine LOps.pure (Pure.as (lv := .atom _) rfl) rfl ?_
    exact retRet rfl (AllRes.cons (ResIs.tmp (v := .atom _) rfl (LV.Sub.refl _)) AllRes.nil) (bool_eq (eqList_len a b hne).symm)
  · have hle : a.length = b.length := by
      have : ((a.map str).length : Int) = (b.map str).length := by simpa using hc
      omega
    repeat first
      | refine LOps.nil ?_
      | refine LCode.seq ?_
      | refine LCode.region ?_
      | refine LCode.skip ?_
      | refine LCode.block ?_
      | refine QThen.normal ?_
      | refine LOps.pure (Pure.as (lv := .atom _) rfl) rfl ?_
    refine LCode.loopI (fun k ls H => ∃ i, k = a.length - i ∧ i ≤ a.length ∧ ls = [(0, .list (a.map str)), (1, .list (b.map str)), (5, int .i64 i)] ∧ H = [] ∧ eqNames a b = eqList (fun a b => decide (a = b)) (a.drop i) (b.drop i))
      ⟨_, _, _, ⟨0, rfl, Nat.zero_le _, rfl, rfl, rfl⟩, ⟨rfl, rfl, rfl, trivial⟩, HSub.refl _⟩ ?_
    rintro k ls H ⟨i, rfl, hi, rfl, rfl, hE⟩ j hj
    repeat first
      | refine LOps.nil ?_
      | refine LCode.seq ?_
      | refine LCode.region ?_
      | refine QThen.normal ?_
      | refine LOps.pure (Pure.mv (lv := .list _) rfl) rfl ?_
      | refine LOps.pure (Pure.mv (lv := .atom _) rfl) rfl ?_
      | refine LOps.pure (Pure.llen rfl) rfl ?_
      | refine LOps.pure (Pure.lss rfl rfl) rfl ?_
    refine LCode.cond rfl (fun hc => ?_) (fun hc => ?_)
    · have hlt : i < a.length := by have := of_decide_eq_true hc; omega
      have hlt2 : i < b.length := by omega
      repeat first
        | refine LCode.seq ?_
        | refine LCode.skip ?_
        | refine LCode.block ?_
        | refine QThen.normal ?_
      refine LCode.cut [(0, .list (a.map str)), (1, .list (b.map str)), (5, int .i64 i), (25, bool (!decide (a[i] = b[i])))] ?_ (fun j2 hj2 => ?_)
      · refine LCode.quiet (by kernel_rfl) ?_
        repeat first
          | refine LQ.pure (Pure.mv (lv := .list _) rfl) rfl ?_
          | refine LQ.pure (Pure.mv (lv := .atom _) rfl) rfl ?_
        refine LQ.pure (Pure.ixRef (el' := str a[i]) (cs := [_]) rfl rfl (by omega) (map_get _ _ _ hlt) rfl rfl) rfl ?_
        repeat first
          | refine LQ.pure (Pure.mv (lv := .list _) rfl) rfl ?_
          | refine LQ.pure (Pure.mv (lv := .atom _) rfl) rfl ?_
          | refine LQ.pure (Pure.loadRef (c := .atom _) rfl rfl) rfl ?_
        refine LQ.pure (Pure.ixRef (el' := str b[i]) (cs := [_]) rfl rfl (by omega) (map_get _ _ _ hlt2) rfl rfl) rfl ?_
        repeat first
          | refine LQ.pure (Pure.loadRef (c := .atom _) rfl rfl) rfl ?_
          | refine LQ.pure (Pure.sneq rfl rfl) rfl ?_
          | refine LQ.nil ?_
          | refine QThen.normal ?_
        exact ⟨⟨rfl, rfl, rfl, rfl, trivial⟩, rfl, rfl⟩
      · rw [eqList_drop hlt hlt2] at hE
        refine LCode.cond rfl (fun hd => ?_) (fun hd => ?_)
        · have hd' : decide (a[i] = b[i]) = false := by simpa using hd
          repeat first
            | refine LOps.nil ?_
            | refine LCode.seq ?_
            | refine LCode.region ?_
            | refine LCode.ret ?_
            | refine QThen.normal ?_
            | refine QThen.ret ?_
            | refine QBlock.ret ?_
            | refine LOps.pure (Pure.as (lv := .atom _) rfl) rfl ?_
          exact retRet (hj2.trans hj) (AllRes.cons (ResIs.tmp (v := .atom _) rfl (LV.Sub.refl _)) AllRes.nil) (bool_eq (by rw [hE, hd', Bool.false_and]))
        · have hd' : decide (a[i] = b[i]) = true := by simpa using hd
          rw [hd', Bool.true_and] at hE
          repeat first
            | refine LOps.nil ?_
            | refine LCode.region ?_
            | refine LCode.skip ?_
            | refine QThen.normal ?_
            | refine QBlock.normal ?_
            | refine LOps.pure (Pure.as (lv := .atom _) rfl) rfl ?_
            | refine LOps.pure (Pure.mv (lv := .atom _) rfl) rfl ?_
            | refine LOps.pure (Pure.add rfl rfl (by omega)) rfl ?_
          exact ⟨_, _, _, by omega, ⟨i + 1, rfl, by omega, rfl, rfl, hE⟩, ⟨rfl, rfl, int_eq (by omega), trivial⟩, HSub.refl _, hj2.trans hj⟩
    · have hge : a.length ≤ i := by have := of_decide_eq_false hc; omega
      rw [eqList_end hge (by omega)] at hE
      repeat first
        | refine LOps.nil ?_
        | refine LCode.seq ?_
        | refine LCode.region ?_
        | refine LCode.ret ?_
        | refine LCode.exit ?_
        | refine QThen.normal ?_
        | refine QThen.exit ?_
        | refine QBlock.hit ?_
        | refine LOps.pure (Pure.as (lv := .atom _) rfl) rfl ?_
      exact retRet hj (AllRes.cons (ResIs.tmp (v := .atom _) rfl (LV.Sub.refl _)) AllRes.nil) (bool_eq hE.symm)
theorem sameExprs_spec : ∀ (n : Nat) (a b : List Ex), nExs a ≤ n → n ≤ 4611686018427387904 → LCalls (KC B0 w0) 68 [.list (a.map encE), .list (b.map encE)] [] (Ret (bool (eqExs a b))) := by
  intro n
  induction n using Nat.strongRecOn with
  | _ n ih =>
  intro a b hn hb
  have ha := nExs_len a
  have hla : (a.map encE).length = a.length := List.length_map _
  have hlb : (b.map encE).length = b.length := List.length_map _
  rw [eqExs_list]
  refine LCalls.intro Tryz.func68 rfl (n := 68) rfl rfl rfl ?_
  repeat first
    | refine LOps.nil ?_
    | refine LCode.seq ?_
    | refine LCode.region ?_
    | refine QThen.normal ?_
    | refine LOps.pure (Pure.as (lv := .atom _) rfl) rfl ?_
    | refine LOps.pure (Pure.mv (lv := .list _) rfl) rfl ?_
    | refine LOps.pure (Pure.llen rfl) rfl ?_
    | refine LOps.pure (Pure.neq rfl rfl) rfl ?_
  refine LCode.cond rfl (fun hc => ?_) (fun hc => ?_)
  · have hne : a.length ≠ b.length := by
      have : ¬ ((a.map encE).length : Int) = (b.map encE).length := by simpa using hc
      omega
    repeat first
      | refine LOps.nil ?_
      | refine LCode.seq ?_
      | refine LCode.region ?_
      | refine LCode.ret ?_
      | refine QThen.normal ?_
      | refine QThen.ret ?_
      | refine LOps.pure (Pure.as (lv := .atom _) rfl) rfl ?_
    exact retRet rfl (AllRes.cons (ResIs.tmp (v := .atom _) rfl (LV.Sub.refl _)) AllRes.nil) (bool_eq (eqList_len a b hne).symm)
  · have hle : a.length = b.length := by
      have : ((a.map encE).length : Int) = (b.map encE).length := by simpa using hc
      omega
    repeat first
      | refine LOps.nil ?_
      | refine LCode.seq ?_
      | refine LCode.region ?_
      | refine LCode.skip ?_
      | refine LCode.block ?_
      | refine QThen.normal ?_
      | refine LOps.pure (Pure.as (lv := .atom _) rfl) rfl ?_
    refine LCode.loopI (fun k ls H => ∃ i, k = a.length - i ∧ i ≤ a.length ∧ ls = [(0, .list (a.map encE)), (1, .list (b.map encE)), (5, int .i64 i)] ∧ H = [] ∧ eqList eqEx a b = eqList eqEx (a.drop i) (b.drop i))
      ⟨_, _, _, ⟨0, rfl, Nat.zero_le _, rfl, rfl, rfl⟩, ⟨rfl, rfl, rfl, trivial⟩, HSub.refl _⟩ ?_
    rintro k ls H ⟨i, rfl, hi, rfl, rfl, hE⟩ j hj
    repeat first
      | refine LOps.nil ?_
      | refine LCode.seq ?_
      | refine LCode.region ?_
      | refine QThen.normal ?_
      | refine LOps.pure (Pure.mv (lv := .list _) rfl) rfl ?_
      | refine LOps.pure (Pure.mv (lv := .atom _) rfl) rfl ?_
      | refine LOps.pure (Pure.llen rfl) rfl ?_
      | refine LOps.pure (Pure.lss rfl rfl) rfl ?_
    refine LCode.cond rfl (fun hc => ?_) (fun hc => ?_)
    · have hlt : i < a.length := by have := of_decide_eq_true hc; omega
      have hlt2 : i < b.length := by omega
      have hna : nExs (exArgs a[i]) < n := by
        have h1 := nExs_mem (List.getElem_mem hlt)
        have h2 := nEx_eq a[i]
        omega
      repeat first
        | refine LCode.seq ?_
        | refine LCode.skip ?_
        | refine LCode.block ?_
        | refine QThen.normal ?_
      have hpt := eqEx_parts a[i] b[i]
      refine LCode.cut [(0, .list (a.map encE)), (1, .list (b.map encE)), (5, int .i64 i), (67, bool (!eqEx a[i] b[i]))] ?_ (fun j2 hj2 => ?_)
      · refine LCode.quiet (by kernel_rfl) ?_
        repeat first
          | refine LQ.pure (Pure.mv (lv := .list _) rfl) rfl ?_
          | refine LQ.pure (Pure.mv (lv := .atom _) rfl) rfl ?_
        refine LQ.pure (Pure.ixRef (el' := encE a[i]) (cs := [_, _, _, _]) rfl rfl (by omega) (map_get _ _ _ hlt) rfl rfl) rfl ?_
        repeat first
          | refine LQ.pure (Pure.mv (lv := .list _) rfl) rfl ?_
          | refine LQ.pure (Pure.mv (lv := .atom _) rfl) rfl ?_
          | refine LQ.pure (Pure.field1 rfl rfl) rfl ?_
          | refine LQ.pure (Pure.loadRef (c := .atom _) rfl rfl) rfl ?_
        refine LQ.pure (Pure.ixRef (el' := encE b[i]) (cs := [_, _, _, _]) rfl rfl (by omega) (map_get _ _ _ hlt2) rfl rfl) rfl ?_
        repeat first
          | refine LQ.pure (Pure.mv (lv := .atom _) rfl) rfl ?_
          | refine LQ.pure (Pure.field1 rfl rfl) rfl ?_
          | refine LQ.pure (Pure.loadRef (c := .atom _) rfl rfl) rfl ?_
          | refine LQ.pure (Pure.sneq rfl rfl) rfl ?_
        refine LQ.bcase 28 rfl (fun h1 => ?_) (fun h1 => ?_)
        · repeat first
            | refine LQ.pure (Pure.mv (lv := .atom _) rfl) rfl ?_
            | refine LQ.pure (Pure.pickT (lv := .atom _) rfl rfl) rfl ?_
            | refine LQ.skip rfl rfl rfl rfl ?_
            | refine LQ.nil ?_
            | refine QThen.normal ?_
          exact ⟨⟨rfl, rfl, rfl, bool_eq (by rw [hpt, not_t h1]; rfl), trivial⟩, rfl, rfl⟩
        · have h1' := not_f h1
          rw [h1', Bool.true_and] at hpt
          repeat first
            | refine LQ.pure (Pure.mv (lv := .list _) rfl) rfl ?_
            | refine LQ.pure (Pure.mv (lv := .atom _) rfl) rfl ?_
            | refine LQ.want rfl rfl ?_
          refine LQ.pure (Pure.ixRef (el' := encE a[i]) (cs := [_, _, _, _]) rfl rfl (by omega) (map_get _ _ _ hlt) rfl rfl) rfl ?_
          repeat first
            | refine LQ.pure (Pure.mv (lv := .list _) rfl) rfl ?_
            | refine LQ.pure (Pure.mv (lv := .atom _) rfl) rfl ?_
            | refine LQ.pure (Pure.field1 rfl rfl) rfl ?_
            | refine LQ.pure (Pure.loadRef (c := .atom _) rfl rfl) rfl ?_
            | refine LQ.want rfl rfl ?_
          refine LQ.pure (Pure.ixRef (el' := encE b[i]) (cs := [_, _, _, _]) rfl rfl (by omega) (map_get _ _ _ hlt2) rfl rfl) rfl ?_
          repeat first
            | refine LQ.pure (Pure.mv (lv := .atom _) rfl) rfl ?_
            | refine LQ.pure (Pure.neq rfl rfl) rfl ?_
            | refine LQ.pure (Pure.field1 rfl rfl) rfl ?_
            | refine LQ.pure (Pure.loadRef (c := .atom _) rfl rfl) rfl ?_
            | refine LQ.pure (Pure.pickF (lv := .atom _) rfl rfl) rfl ?_
            | refine LQ.want rfl rfl ?_
          refine LQ.bcase 41 rfl (fun h2 => ?_) (fun h2 => ?_)
          · repeat first
              | refine LQ.pure (Pure.mv (lv := .atom _) rfl) rfl ?_
              | refine LQ.pure (Pure.pickT (lv := .atom _) rfl rfl) rfl ?_
              | refine LQ.skip rfl rfl rfl rfl ?_
              | refine LQ.nil ?_
              | refine QThen.normal ?_
            exact ⟨⟨rfl, rfl, rfl, bool_eq (by rw [hpt, not_t h2]; rfl), trivial⟩, rfl, rfl⟩
          · have h2' := not_f h2
            rw [h2', Bool.true_and] at hpt
            repeat first
              | refine LQ.pure (Pure.mv (lv := .list _) rfl) rfl ?_
              | refine LQ.pure (Pure.mv (lv := .atom _) rfl) rfl ?_
              | refine LQ.want rfl rfl ?_
            refine LQ.pure (Pure.ixRef (el' := encE a[i]) (cs := [_, _, _, _]) rfl rfl (by omega) (map_get _ _ _ hlt) rfl rfl) rfl ?_
            repeat first
              | refine LQ.pure (Pure.mv (lv := .list _) rfl) rfl ?_
              | refine LQ.pure (Pure.mv (lv := .atom _) rfl) rfl ?_
              | refine LQ.pure (Pure.field1 rfl rfl) rfl ?_
              | refine LQ.pure (Pure.loadRef (c := .atom _) rfl rfl) rfl ?_
              | refine LQ.want rfl rfl ?_
            refine LQ.pure (Pure.ixRef (el' := encE b[i]) (cs := [_, _, _, _]) rfl rfl (by omega) (map_get _ _ _ hlt2) rfl rfl) rfl ?_
            repeat first
              | refine LQ.pure (Pure.mv (lv := .atom _) rfl) rfl ?_
              | refine LQ.pure (Pure.field1 rfl rfl) rfl ?_
              | refine LQ.pure (Pure.loadRef (c := .atom _) rfl rfl) rfl ?_
              | refine LQ.pure (Pure.sneq rfl rfl) rfl ?_
              | refine LQ.pure (Pure.pickF (lv := .atom _) rfl rfl) rfl ?_
              | refine LQ.want rfl rfl ?_
            refine LQ.bcase 54 rfl (fun h3 => ?_) (fun h3 => ?_)
            · repeat first
                | refine LQ.pure (Pure.pickT (lv := .atom _) rfl rfl) rfl ?_
                | refine LQ.skip rfl rfl rfl rfl ?_
                | refine LQ.nil ?_
                | refine QThen.normal ?_
              exact ⟨⟨rfl, rfl, rfl, bool_eq (by rw [hpt, not_t h3]; rfl), trivial⟩, rfl, rfl⟩
            · have h3' := not_f h3
              rw [h3', Bool.true_and] at hpt
              repeat first
                | refine LQ.pure (Pure.mv (lv := .list _) rfl) rfl ?_
                | refine LQ.pure (Pure.mv (lv := .atom _) rfl) rfl ?_
                | refine LQ.want rfl rfl ?_
              refine LQ.pure (Pure.ixRef (el' := encE a[i]) (cs := [_, _, _, _]) rfl rfl (by omega) (map_get _ _ _ hlt) rfl rfl) rfl ?_
              repeat first
                | refine LQ.pure (Pure.mv (lv := .list _) rfl) rfl ?_
                | refine LQ.pure (Pure.mv (lv := .atom _) rfl) rfl ?_
                | refine LQ.pure (Pure.field1 rfl rfl) rfl ?_
                | refine LQ.pure (Pure.loadRef (c := .list _) rfl rfl) rfl ?_
                | refine LQ.want rfl rfl ?_
              refine LQ.pure (Pure.ixRef (el' := encE b[i]) (cs := [_, _, _, _]) rfl rfl (by omega) (map_get _ _ _ hlt2) rfl rfl) rfl ?_
              repeat first
                | refine LQ.pure (Pure.field1 rfl rfl) rfl ?_
                | refine LQ.pure (Pure.loadRef (c := .list _) rfl rfl) rfl ?_
                | refine LQ.want rfl rfl ?_
              refine LQ.call (args := [_, _]) (v := .bool (eqExs (exArgs a[i]) (exArgs b[i]))) (ret_any (by
                have := ih _ hna (exArgs a[i]) (exArgs b[i]) (Nat.le_refl _) (by omega)
                rw [← encArgs_eq, ← encArgs_eq] at this
                exact this)) rfl ?_
              repeat first
                | refine LQ.pure (Pure.pickF (lv := .atom _) rfl rfl) rfl ?_
                | refine LQ.pure (Pure.not rfl) rfl ?_
                | refine LQ.want rfl rfl ?_
                | refine LQ.nil ?_
                | refine QThen.normal ?_
              exact ⟨⟨rfl, rfl, rfl, bool_eq (by rw [hpt]), trivial⟩, rfl, rfl⟩
      · rw [eqList_drop hlt hlt2] at hE
        refine LCode.cond rfl (fun hd => ?_) (fun hd => ?_)
        · have hd' : eqEx a[i] b[i] = false := by simpa using hd
          repeat first
            | refine LOps.nil ?_
            | refine LCode.seq ?_
            | refine LCode.region ?_
            | refine LCode.ret ?_
            | refine QThen.normal ?_
            | refine QThen.ret ?_
            | refine QBlock.ret ?_
            | refine LOps.pure (Pure.as (lv := .atom _) rfl) rfl ?_
          exact retRet (hj2.trans hj) (AllRes.cons (ResIs.tmp (v := .atom _) rfl (LV.Sub.refl _)) AllRes.nil) (bool_eq (by rw [hE, hd', Bool.false_and]))
        · have hd' : eqEx a[i] b[i] = true := by simpa using hd
          rw [hd', Bool.true_and] at hE
          repeat first
            | refine LOps.nil ?_
            | refine LCode.region ?_
            | refine LCode.skip ?_
            | refine QThen.normal ?_
            | refine QBlock.normal ?_
            | refine LOps.pure (Pure.as (lv := .atom _) rfl) rfl ?_
            | refine LOps.pure (Pure.mv (lv := .atom _) rfl) rfl ?_
            | refine LOps.pure (Pure.add rfl rfl (by omega)) rfl ?_
          exact ⟨_, _, _, by omega, ⟨i + 1, rfl, by omega, rfl, rfl, hE⟩, ⟨rfl, rfl, int_eq (by omega), trivial⟩, HSub.refl _, hj2.trans hj⟩
    · have hge : a.length ≤ i := by have := of_decide_eq_false hc; omega
      rw [eqList_end hge (by omega)] at hE
      repeat first
        | refine LOps.nil ?_
        | refine LCode.seq ?_
        | refine LCode.region ?_
        | refine LCode.ret ?_
        | refine LCode.exit ?_
        | refine QThen.normal ?_
        | refine QThen.exit ?_
        | refine QBlock.hit ?_
        | refine LOps.pure (Pure.as (lv := .atom _) rfl) rfl ?_
      exact retRet hj (AllRes.cons (ResIs.tmp (v := .atom _) rfl (LV.Sub.refl _)) AllRes.nil) (bool_eq hE.symm)
end
end Go.Proofs.YtfodkbchknknjaaGreatDoor
namespace Go.Stele
def strengthP (op : List UInt8) : Nat :=
  if (lvOps 0).contains op then 0 else if (lvOps 1).contains op then 1 else if (lvOps 2).contains op then 2 else if (lvOps 3).contains op then 3 else if (lvOps 4).contains op then 4 else if (lvOps 5).contains op then 5 else
    if op = nNeg ∨ op = nNot then 6 else 7
/-- An operator and a text. -/
abbrev OpT := List UInt8 × List UInt8
def opnd (x : OpT) (least : Nat) : List UInt8 := if strengthP x.1 < least then [40] ++ x.2 ++ [41] else x.2
def comSp : List UInt8 := [44, 32]
def leftLv (k : Nat) : Nat := if k = 2 then k + 1 else k
def fNode (op : List UInt8) (num : Nat) (name : List UInt8) (xs : List OpT) : List UInt8 :=
  if op = nNum then Go.Lib.decDigits num
  else if op = nVar then name
  else if op = nElem ∧ xs.length = 1 then name ++ [91] ++ (xs.headD ([], [])).2 ++ [93]
  else if op = nCall then name ++ [40] ++ Go.Lib.join (xs.map (·.2)) comSp ++ [41]
  else if op = nNeg ∧ xs.length = 1 then [45] ++ opnd (xs.headD ([], [])) (strengthP op)
  else if op = nNot ∧ xs.length = 1 then [33] ++ opnd (xs.headD ([], [])) (strengthP op)
  else if xs.length = 2 then opnd (xs.headD ([], [])) (leftLv (strengthP op)) ++ [32] ++ op ++ [32] ++ opnd (xs.tail.headD ([], [])) (strengthP op + 1)
  else []
mutual
def fE : Ex → List UInt8
  | .mk op num name args => fNode op num name (fEs args)
def fEs : List Ex → List OpT
  | [] => []
  | e :: r => (exOp e, fE e) :: fEs r
end
theorem fEs_map : ∀ l : List Ex, fEs l = l.map fun e => (exOp e, fE e)
  | [] => by simp [fEs]
  | e :: r => by rw [fEs, fEs_map r]; rfl
theorem fE_mk (op : List UInt8) (num : Nat) (name : List UInt8) (args : List Ex) : fE (.mk op num name args) = fNode op num name (args.map fun e => (exOp e, fE e)) := by rw [fE, fEs_map]
theorem strengthP_le (op : List UInt8) : strengthP op ≤ 7 := by
  unfold strengthP
  repeat (first | omega | split)
def fOne (l : List Ex) : List UInt8 := Go.Lib.join (l.map fE) comSp
def ind2 (ind : List UInt8) : List UInt8 := ind ++ [32, 32]
/-- One statement, given the texts of the two blocks in it. -/
def fLine (ind : List UInt8) (kind : Int) (name : List UInt8) (index value : List Ex) (t e : List UInt8) (noElse : Bool) : List UInt8 :=
  if kind = 1 then name ++ [32, 61, 32] ++ fOne value ++ [59, 10]
  else if kind = 2 then name ++ [91] ++ fOne index ++ [93, 32, 61, 32] ++ fOne value ++ [59, 10]
  else if kind = 6 then fOne value ++ [59, 10]
  else if kind = 5 then [114, 101, 116, 117, 114, 110, 32] ++ fOne value ++ [59, 10]
  else if kind = 7 then [104, 97, 108, 116, 59, 10]
  else if kind = 3 ∨ kind = 4 then
    (if kind = 4 then [119, 104, 105, 108, 101, 32] else [105, 102, 32]) ++ fOne value ++ [32, 123, 10] ++ t ++ (if noElse then [] else ind ++ [125, 32, 101, 108, 115, 101, 32, 123, 10] ++ e) ++ (ind ++ [125, 10])
  else []
mutual
def fS (ind : List UInt8) : Sm → List UInt8
  | .mk kind name index value thn els => ind ++ fLine ind kind name index value (fSs (ind2 ind) thn) (fSs (ind2 ind) els) els.isEmpty
def fSs (ind : List UInt8) : List Sm → List UInt8
  | [] => []
  | s :: r => fS ind s ++ fSs ind r
end
theorem fS_mk (ind : List UInt8) (kind : Int) (name : List UInt8) (index value : List Ex) (thn els : List Sm) : fS ind (.mk kind name index value thn els) = ind ++ fLine ind kind name index value (fSs (ind2 ind) thn) (fSs (ind2 ind) els) els.isEmpty := by rw [fS]
theorem fSs_append (ind : List UInt8) : ∀ a b : List Sm, fSs ind (a ++ b) = fSs ind a ++ fSs ind b
  | [], b => by simp [fSs]
  | s :: a, b => by
    rw [List.cons_append, fSs, fSs, fSs_append ind a b, List.append_assoc]
theorem fSs_take (ind : List UInt8) {l : List Sm} {i : Nat} (h : i < l.length) : fSs ind (l.take (i + 1)) = fSs ind (l.take i) ++ fS ind l[i] := by
  rw [List.take_succ_eq_append_getElem h, fSs_append, fSs, fSs, List.append_nil]
def varsT (l : List (List UInt8)) : List UInt8 := [118, 97, 114, 32] ++ Go.Lib.join l comSp ++ [59, 10]
def fAr (a : Ar) : List UInt8 := [97, 114, 114, 97, 121, 32] ++ a.name ++ [91] ++ Go.Lib.decDigits a.size ++ [93, 59, 10]
def fFn (f : FnD) : List UInt8 :=
  [102, 117, 110, 99, 32] ++ f.name ++ [40] ++ Go.Lib.join f.params comSp ++ [41, 32, 123, 10] ++ (if f.locals = [] then [] else [32, 32] ++ varsT f.locals) ++ fSs [32, 32] f.body ++ [125, 10]
/-- What Format computes. -/
def formatP (p : Pr) : List UInt8 :=
  (if p.vars = [] then [] else varsT p.vars) ++ (p.arrays.map fAr).flatten ++ (p.funcs.map fFn).flatten
end Go.Stele
namespace Go.Proofs.YtfodkbchknknjaaGreatDoor
open Go.GL Go.RowKit Go.Stele
set_option maxRecDepth 100000
set_option maxHeartbeats 4000000
def strUp (op : List UInt8) : Nat → Nat
  | 0 => if op = nNeg ∨ op = nNot then 6 else 7
  | k + 1 => if (lvOps (5 - k)).contains op then 5 - k else strUp op k
theorem strUp_all (op : List UInt8) : strengthP op = strUp op 6 := rfl
theorem levels_get (i : Nat) (h : i < 6) : levelsLV[i]? = some (lvLV i) := by
  match i, h with
  | 0, _ => rfl
  | 1, _ => rfl
  | 2, _ => rfl
  | 3, _ => rfl
  | 4, _ => rfl
  | 5, _ => rfl
theorem lvOps_len (i : Nat) : (lvOps i).length ≤ 6 := by
  match i with
  | 0 => decide
  | 1 => decide
  | 2 => decide
  | 3 => decide
  | 4 => decide
  | 5 => decide
  | n + 6 => exact Nat.zero_le _
theorem cells_rows {w : World} {L : Live} {b : Nat} : ∀ (k off : Nat) (ws : List (List UInt8)), RepRows w L b k off (ws.map str) → ∀ (j : Nat) x, (ws.map fun l => (⟨l.toArray⟩ : ByteArray))[j]? = some x → k = 1 ∧ w.cell? ⟨b, off + j, none⟩ = some (.string x)
  | k, off, [], _, j, x, h => by simp at h
  | k, off, s :: ws, h, 0, x, hx => by
    simp only [List.map_cons, RepRows] at h
    obtain ⟨⟨hk, _, y, hy, hr⟩, _⟩ := h
    simp only [Rep] at hr
    simp at hx
    rw [← hx, Nat.add_zero, hy, hr]
    exact ⟨hk.symm, rfl⟩
  | k, off, s :: ws, h, j + 1, x, hx => by
    simp only [List.map_cons, RepRows] at h
    obtain ⟨⟨hk, _⟩, h2⟩ := h
    have := cells_rows k (off + k) ws h2 j x (by simpa using hx)
    refine ⟨hk.symm, ?_⟩
    rw [← this.2, ← hk, Nat.add_assoc, Nat.add_comm 1 j]
section
variable {B0 : Nat} {w0 : World}
theorem joinS_spec (sep : List UInt8) (ws : List (List UInt8)) (hn : ws.length ≤ 1000000000) (hl : (Go.Lib.join ws sep).length ≤ 1000000000) : LCalls (KC B0 w0) 22 [.list (ws.map str), str sep] [] (Ret (str (Go.Lib.join ws sep))) := fun xs w L hv hH => by
  simp only [RepL] at hv
  obtain ⟨y, ys, rfl, hy, z, zs, rfl, hz, rfl⟩ := hv
  simp only [Rep] at hy hz
  obtain ⟨a, cap, rfl, hcap, hrows⟩ := hy
  subst hz
  rw [List.length_map] at hcap
  have hmap : (ws.map fun l => (⟨l.toArray⟩ : ByteArray)).map (·.data.toList) = ws := by
    rw [List.map_map]
    conv => rhs; rw [← List.map_id ws]
    rfl
  have hc : Calls Tryz.prog 22 #[.slice a ws.length cap, .string ⟨sep.toArray⟩] w fun e w' => e = .returned (.string ⟨(Go.Lib.join ws sep).toArray⟩) ∧ Below w.heap.size w w' := by
    by_cases hne : ws = []
    · subst hne
      exact (Tryz.strings_Join_none a cap ⟨sep.toArray⟩ w).mono fun e w' he => ⟨by rw [he.1]; rfl, by rw [he.2]; exact Below.refl _ _⟩
    · obtain ⟨b, off, k, rfl, hr⟩ := hrows (by simpa using hne)
      have hcells := fun j x hx => (cells_rows k off ws hr j x hx).2
      have hb : b < w.heap.size := by
        obtain ⟨s, r, rfl⟩ := List.exists_cons_of_ne_nil hne
        have := hcells 0 _ rfl
        exact World.block_lt_of_cell? _ _ this
      have := Tryz.strings_Join b off cap (ws.map fun l => (⟨l.toArray⟩ : ByteArray)) ⟨sep.toArray⟩ w hcells hb (by rw [List.length_map]; omega) (by rw [List.length_map]; exact hcap) (by rw [hmap]; show (Go.Lib.join ws sep).length ≤ _; omega)
      rw [List.length_map, hmap] at this
      exact this
  rw [List.length_map]
  refine hc.mono fun e w' he => ?_
  obtain ⟨rfl, hb⟩ := he
  obtain ⟨h1, h2⟩ := fr_below hH hb
  exact ⟨str (Go.Lib.join ws sep), [], L, h1, h2, rep_atom, rfl, rfl⟩
end
attribute [local irreducible] LOps LCode LStep LCalls Go.GL.Pure QThen QBlock RetPost LQ LAny LLate LLateOp
section
variable {B0 : Nat} {w0 : World}
theorem strength_spec (op : List UInt8) : LCalls (KC B0 w0) 141 [str op] [] (Ret (int .i64 (strengthP op))) := by
  refine LCalls.intro Tryz.func141 rfl (n := 30) rfl rfl rfl ?_
  repeat first
    | refine LOps.nil ?_
    | refine LCode.seq ?_
    | refine LCode.region ?_
    | refine QThen.normal ?_
    | refine LOps.pure (Pure.as (lv := .atom _) rfl) rfl ?_
  refine LOps.step (S.fn [] rfl levels_spec ?_) rfl
  repeat first
    | refine LOps.nil ?_
    | refine LCode.seq ?_
    | refine LCode.region ?_
    | refine LCode.block ?_
    | refine QThen.normal ?_
    | refine LOps.pure (Pure.as (lv := .list _) rfl) rfl ?_
    | refine LOps.pure (Pure.mv (lv := .list _) rfl) rfl ?_
    | refine LOps.pure (Pure.mv (lv := .atom _) rfl) rfl ?_
    | refine LOps.pure (Pure.llen rfl) rfl ?_
  refine LCode.loopI (fun k ls H => ∃ i, k = 6 - i ∧ i ≤ 6 ∧ ls = [(0, str op), (3, .list levelsLV), (7, .list levelsLV), (8, int .i64 6), (9, int .i64 i)] ∧ H = [] ∧ strengthP op = strUp op (6 - i))
    ⟨_, _, _, ⟨0, rfl, Nat.zero_le _, rfl, rfl, rfl⟩, ⟨rfl, rfl, rfl, rfl, rfl, trivial⟩, HSub.refl _⟩ ?_
  rintro k ls H ⟨i, rfl, hi, rfl, rfl, hE⟩ j hj
  repeat first
    | refine LOps.nil ?_
    | refine LCode.seq ?_
    | refine LCode.region ?_
    | refine QThen.normal ?_
    | refine LOps.pure (Pure.lss rfl rfl) rfl ?_
  refine LCode.cond rfl (fun hc => ?_) (fun hc => ?_)
  · have hlt : i < 6 := by have := of_decide_eq_true hc; omega
    repeat first
      | refine LCode.seq ?_
      | refine LCode.region ?_
      | refine LCode.skip ?_
      | refine LCode.block ?_
      | refine QThen.normal ?_
      | refine LOps.pure (Pure.mv (lv := .atom _) rfl) rfl ?_
    refine LOps.pure (Pure.ixRef (el' := lvLV i) (cs := [lvLV i]) rfl rfl (by omega) (levels_get i hlt) rfl rfl) rfl ?_
    repeat first
      | refine LOps.nil ?_
      | refine LCode.seq ?_
      | refine LCode.region ?_
      | refine QThen.normal ?_
      | refine LOps.pure (Pure.as (lv := .atom _) rfl) rfl ?_
      | refine LOps.pure (Pure.as (lv := .list _) rfl) rfl ?_
      | refine LOps.pure (Pure.mv (lv := .list _) rfl) rfl ?_
      | refine LOps.pure (Pure.mv (lv := .atom _) rfl) rfl ?_
      | refine LOps.pure (Pure.loadRef (c := .list _) rfl rfl) rfl ?_
    refine LOps.step (S.fn [_, _] rfl (Contains_spec (lvOps i) op (by have := lvOps_len i; omega)) ?_) rfl
    repeat first
      | refine LOps.nil ?_
      | refine QThen.normal ?_
    obtain ⟨k, hk⟩ : ∃ k, 6 - i = k + 1 := ⟨5 - i, by omega⟩
    rw [hk, strUp] at hE
    have hk' : 5 - k = i := by omega
    rw [hk'] at hE
    refine LCode.cond rfl (fun hd => ?_) (fun hd => ?_)
    · rw [if_pos hd] at hE
      repeat first
        | refine LOps.nil ?_
        | refine LCode.seq ?_
        | refine LCode.region ?_
        | refine LCode.ret ?_
        | refine QThen.normal ?_
        | refine QThen.ret ?_
        | refine QBlock.ret ?_
        | refine LOps.pure (Pure.as (lv := .atom _) rfl) rfl ?_
        | refine LOps.pure (Pure.mv (lv := .atom _) rfl) rfl ?_
      exact retRet hj (AllRes.cons (ResIs.tmp (v := .atom _) rfl (LV.Sub.refl _)) AllRes.nil) (int_eq (by omega))
    · rw [if_neg (by rw [hd]; simp)] at hE
      repeat first
        | refine LOps.nil ?_
        | refine LCode.region ?_
        | refine LCode.skip ?_
        | refine QThen.normal ?_
        | refine QBlock.normal ?_
        | refine LOps.pure (Pure.mv (lv := .atom _) rfl) rfl ?_
        | refine LOps.pure (Pure.add rfl rfl (by omega)) rfl ?_
      exact ⟨_, _, _, by omega, ⟨i + 1, rfl, by omega, rfl, rfl, by rw [hE]; congr 1; omega⟩, ⟨rfl, rfl, rfl, rfl, int_eq (by omega), trivial⟩, HSub.refl _, hj⟩
  · have hge : i = 6 := by have := of_decide_eq_false hc; omega
    subst hge
    have hE' : strengthP op = if op = nNeg ∨ op = nNot then 6 else 7 := hE
    have hll : levelsLV.length = 6 := rfl
    repeat first
      | refine LCode.seq ?_
      | refine LCode.region ?_
      | refine LCode.exit ?_
      | refine QThen.normal ?_
      | refine QThen.exit ?_
      | refine QBlock.hit ?_
      | refine LOps.pure (Pure.mv (lv := .atom _) rfl) rfl ?_
      | refine LOps.pure (Pure.seq rfl rfl) rfl ?_
    refine LOps.bcase 21 rfl (fun h1 => ?_) (fun h1 => ?_)
    · repeat first
        | refine LOps.nil ?_
        | refine QThen.normal ?_
        | refine LOps.pure (Pure.pickT (lv := .atom _) rfl rfl) rfl ?_
        | refine LOps.skip rfl rfl rfl rfl ?_
      refine LCode.cond rfl (fun hd => ?_) (fun hd => ?_)
      · repeat first
          | refine LOps.nil ?_
          | refine LCode.seq ?_
          | refine LCode.region ?_
          | refine LCode.ret ?_
          | refine QThen.normal ?_
          | refine QThen.ret ?_
          | refine LOps.pure (Pure.as (lv := .atom _) rfl) rfl ?_
          | refine LOps.pure (Pure.mv (lv := .list _) rfl) rfl ?_
          | refine LOps.pure (Pure.llen rfl) rfl ?_
        exact retRet hj (AllRes.cons (ResIs.tmp (v := .atom _) rfl (LV.Sub.refl _)) AllRes.nil) (int_eq (by rw [if_pos (show op = nNeg ∨ op = nNot from Or.inl (of_decide_eq_true h1))] at hE'; omega))
      · cases hd
    · repeat first
        | refine LOps.nil ?_
        | refine QThen.normal ?_
        | refine LOps.pure (Pure.mv (lv := .atom _) rfl) rfl ?_
        | refine LOps.pure (Pure.seq rfl rfl) rfl ?_
        | refine LOps.pure (Pure.pickF (lv := .atom _) rfl rfl) rfl ?_
        | refine LOps.want rfl rfl ?_
      refine LCode.cond rfl (fun hd => ?_) (fun hd => ?_)
      · repeat first
          | refine LOps.nil ?_
          | refine LCode.seq ?_
          | refine LCode.region ?_
          | refine LCode.ret ?_
          | refine QThen.normal ?_
          | refine QThen.ret ?_
          | refine LOps.pure (Pure.as (lv := .atom _) rfl) rfl ?_
          | refine LOps.pure (Pure.mv (lv := .list _) rfl) rfl ?_
          | refine LOps.pure (Pure.llen rfl) rfl ?_
        exact retRet hj (AllRes.cons (ResIs.tmp (v := .atom _) rfl (LV.Sub.refl _)) AllRes.nil) (int_eq (by rw [if_pos (show op = nNeg ∨ op = nNot from Or.inr (of_decide_eq_true hd))] at hE'; omega))
      · repeat first
          | refine LOps.nil ?_
          | refine LCode.seq ?_
          | refine LCode.region ?_
          | refine LCode.skip ?_
          | refine LCode.ret ?_
          | refine QThen.normal ?_
          | refine LOps.pure (Pure.as (lv := .atom _) rfl) rfl ?_
          | refine LOps.pure (Pure.mv (lv := .list _) rfl) rfl ?_
          | refine LOps.pure (Pure.llen rfl) rfl ?_
          | refine LOps.pure (Pure.add rfl rfl (by omega)) rfl ?_
        exact retRet hj (AllRes.cons (ResIs.tmp (v := .atom _) rfl (LV.Sub.refl _)) AllRes.nil) (int_eq (by rw [if_neg (fun h => h.elim (of_decide_eq_false h1) (of_decide_eq_false hd))] at hE'; omega))
end
end Go.Proofs.YtfodkbchknknjaaGreatDoor
namespace Go.Proofs.YtfodkbchknknjaaGreatDoor
open Go.GL Go.RowKit Go.Stele
set_option maxRecDepth 100000
set_option maxHeartbeats 4000000
attribute [local irreducible] LOps LCode LStep LCalls Go.GL.Pure QThen QBlock RetPost LQ LAny LLate LLateOp
theorem wrap_u64 {n : Int} (h : 0 ≤ n ∧ n ≤ 4294967295) : IntKind.u64.wrap n = n := by
  simp only [IntKind.wrap, IntKind.bits, IntKind.signed, Bool.false_and]
  simp
  omega
theorem opnd_len (x : OpT) (least : Nat) : x.2.length ≤ (opnd x least).length := by
  unfold opnd
  split
  · simp
    omega
  · exact Nat.le_refl _
theorem join_mem (sep : List UInt8) : ∀ {ws : List (List UInt8)} {x : List UInt8}, x ∈ ws → x.length ≤ (Go.Lib.join ws sep).length
  | [a], x, h => by
    obtain rfl := List.mem_singleton.mp h
    simp [Go.Lib.join]
  | a :: b :: r, x, h => by
    have e : Go.Lib.join (a :: b :: r) sep = a ++ sep ++ Go.Lib.join (b :: r) sep := by simp [Go.Lib.join]
    rw [e]
    rcases List.mem_cons.mp h with h | h
    · subst h
      simp only [List.length_append]
      omega
    · have := join_mem sep h
      simp only [List.length_append]
      omega
section
variable {B0 : Nat} {w0 : World}
theorem operand_spec (e : Ex) (least : Nat) (hl : (fE e).length ≤ 1000000000) (he : LCalls (KC B0 w0) 118 [encE e] [] (Ret (str (fE e)))) :
    LCalls (KC B0 w0) 142 [encE e, int .i64 least] [] (Ret (str (opnd (exOp e, fE e) least))) := by
  obtain ⟨op, num, name, args⟩ := e
  simp only [exOp]
  rw [encE_mk] at he ⊢
  refine LCalls.intro Tryz.func142 rfl (n := 17) rfl rfl rfl ?_
  repeat first
    | refine LCode.seq ?_
    | refine LCode.region ?_
  refine LOps.step (S.box (cs := [str op, int .u32 num, str name, .list (args.map encE)]) rfl fun b1 => ?_) rfl
  repeat first
    | refine LOps.nil ?_
    | refine LCode.seq ?_
    | refine LCode.region ?_
    | refine QThen.normal ?_
    | refine LOps.pure (Pure.as (lv := .atom _) rfl) rfl ?_
    | refine LOps.pure (Pure.ldHAgg (cs' := [_, _, _, _]) rfl (List.Mem.head _) rfl rfl) rfl ?_
  refine LOps.step (S.fn [_] rfl he ?_) rfl
  repeat first
    | refine LOps.nil ?_
    | refine LCode.seq ?_
    | refine LCode.region ?_
    | refine QThen.normal ?_
    | refine LOps.pure (Pure.as (lv := .atom _) rfl) rfl ?_
    | refine LOps.pure (Pure.fieldH rfl) rfl ?_
    | refine LOps.pure (Pure.loadH (c := .atom _) rfl (List.Mem.head _) rfl) rfl ?_
  refine LOps.step (S.fn [_] rfl (strength_spec op) ?_) rfl
  repeat first
    | refine LOps.nil ?_
    | refine QThen.normal ?_
    | refine LOps.pure (Pure.mv (lv := .atom _) rfl) rfl ?_
    | refine LOps.pure (Pure.lss rfl rfl) rfl ?_
  refine LCode.cond rfl (fun hd => ?_) (fun hd => ?_)
  · have hd' : strengthP op < least := by have := of_decide_eq_true hd; omega
    repeat first
      | refine LOps.nil ?_
      | refine LCode.seq ?_
      | refine LCode.region ?_
      | refine LCode.ret ?_
      | refine QThen.normal ?_
      | refine QThen.ret ?_
      | refine LOps.pure (Pure.as (lv := .atom _) rfl) rfl ?_
      | refine LOps.pure (Pure.mv (lv := .atom _) rfl) rfl ?_
      | refine LOps.pure (Pure.sadd rfl rfl (by simp only [List.length_append, List.length_cons, List.length_nil]; omega)) rfl ?_
    exact retRet rfl (AllRes.cons (ResIs.tmp (v := .atom _) rfl (LV.Sub.refl _)) AllRes.nil) (str_eq (by simp only [opnd]; rw [if_pos hd']))
  · have hd' : ¬ strengthP op < least := by have := of_decide_eq_false hd; omega
    repeat first
      | refine LOps.nil ?_
      | refine LCode.seq ?_
      | refine LCode.region ?_
      | refine LCode.skip ?_
      | refine LCode.ret ?_
      | refine QThen.normal ?_
      | refine LOps.pure (Pure.as (lv := .atom _) rfl) rfl ?_
      | refine LOps.pure (Pure.mv (lv := .atom _) rfl) rfl ?_
    exact retRet rfl (AllRes.cons (ResIs.tmp (v := .atom _) rfl (LV.Sub.refl _)) AllRes.nil) (str_eq (by simp only [opnd]; rw [if_neg hd']))
theorem list_spec (l : List Ex) (hn : l.length ≤ 1000000000) (hl : (Go.Lib.join (l.map fE) comSp).length ≤ 1000000000) (he : ∀ e ∈ l, LCalls (KC B0 w0) 118 [encE e] [] (Ret (str (fE e)))) :
    LCalls (KC B0 w0) 87 [.list (l.map encE)] [] (Ret (str (Go.Lib.join (l.map fE) comSp))) := by
  have hla : (l.map encE).length = l.length := List.length_map _
  refine LCalls.intro Tryz.func87 rfl (n := 20) rfl rfl rfl ?_
  repeat first
    | refine LOps.nil ?_
    | refine LCode.seq ?_
    | refine LCode.region ?_
    | refine LCode.block ?_
    | refine QThen.normal ?_
    | refine LOps.pure (Pure.as (lv := .atom _) rfl) rfl ?_
    | refine LOps.pure (Pure.mv (lv := .list _) rfl) rfl ?_
    | refine LOps.pure (Pure.mv (lv := .atom _) rfl) rfl ?_
    | refine LOps.pure (Pure.llen rfl) rfl ?_
  refine LCode.loopI (fun k ls H => ∃ (v : LV) (i : Nat), i ≤ l.length ∧ k = l.length - i ∧ ls = [(0, .list (l.map encE)), (3, v), (6, .list (l.map encE)), (7, int .i64 l.length), (8, int .i64 i)] ∧ Acc 1 v (((l.take i).map fE).map str) H [])
    ⟨_, _, _, ⟨nilSlice, 0, Nat.zero_le _, rfl, rfl, by simpa using Acc.nil⟩, ⟨rfl, rfl, rfl, int_eq (by omega), rfl, trivial⟩, HSub.refl _⟩ ?_
  rintro k ls H ⟨v, i, hi, rfl, rfl, hacc⟩ j hj
  repeat first
    | refine LOps.nil ?_
    | refine LCode.seq ?_
    | refine LCode.region ?_
    | refine QThen.normal ?_
    | refine LOps.pure (Pure.lss rfl rfl) rfl ?_
  refine LCode.cond rfl (fun hc => ?_) (fun hc => ?_)
  · have hlt : i < l.length := by have := of_decide_eq_true hc; omega
    repeat first
      | refine LCode.seq ?_
      | refine LCode.region ?_
      | refine LCode.skip ?_
      | refine LCode.block ?_
      | refine QThen.normal ?_
    refine LOps.pure (Pure.ixRef (el' := encE l[i]) (cs := [_, _, _, _]) rfl rfl (by omega) (map_get _ _ _ hlt) rfl rfl) rfl ?_
    repeat first
      | refine LOps.pure (Pure.ldRefAgg (cs' := [_, _, _, _]) rfl rfl rfl) rfl ?_
    refine LOps.step (S.alloc fun b5 => ?_) rfl
    repeat first
      | refine LOps.nil ?_
      | refine LCode.region ?_
      | refine QThen.normal ?_
      | refine LOps.step (S.store (cs' := [_, _, _, _]) rfl Pick.here rfl rfl rfl rfl rfl ?_) rfl
    refine LOps.pure (Pure.mv (lv := v) rfl) rfl ?_
    repeat first
      | refine LOps.pure (Pure.ldHAgg (cs' := [_, _, _, _]) rfl (List.Mem.head _) rfl rfl) rfl ?_
    refine LOps.step (S.fn [_] rfl (he l[i] (List.getElem_mem hlt)) ?_) rfl
    refine LOps.step (S.lit [_] rfl (elemsOk.cons rfl rfl elemsOk.nil) rfl rfl rfl ?_) rfl
    refine LOps.step (S.acc1 rfl hacc rfl (by simp; rfl) rfl (by simp; omega) fun v' H' hacc' => ?_) rfl
    refine LOps.pure (Pure.as (lv := v') rfl) rfl ?_
    repeat first
      | refine LOps.nil ?_
      | refine LCode.region ?_
      | refine QThen.normal ?_
      | refine QBlock.normal ?_
      | refine LOps.pure (Pure.mv (lv := .atom _) rfl) rfl ?_
      | refine LOps.pure (Pure.add rfl rfl (by omega)) rfl ?_
    exact ⟨_, _, _, by omega, ⟨v', i + 1, by omega, rfl, rfl, by
      rw [List.take_succ_eq_append_getElem hlt, List.map_append, List.map_append]
      exact hacc'⟩, ⟨rfl, rfl, rfl, rfl, int_eq (by omega), trivial⟩, HSub.drop (HSub.refl _), hj⟩
  · have hi' : i = l.length := by have := of_decide_eq_false hc; omega
    subst hi'
    rw [List.take_length] at hacc
    refine LCode.sub (d := 3) (v := v) rfl hacc.sub ?_
    refine LCode.weak (HSub.nil _) ?_
    repeat first
      | refine LCode.seq ?_
      | refine LCode.region ?_
      | refine LCode.exit ?_
      | refine QThen.normal ?_
      | refine QThen.exit ?_
      | refine QBlock.hit ?_
      | refine LOps.pure (Pure.mv (lv := .list _) rfl) rfl ?_
    refine LOps.step (S.fn [_, _] rfl (joinS_spec comSp (l.map fE) (by rw [List.length_map]; omega) hl) ?_) rfl
    repeat first
      | refine LOps.nil ?_
      | refine LCode.ret ?_
      | refine QThen.normal ?_
      | refine LOps.pure (Pure.as (lv := .atom _) rfl) rfl ?_
    exact retRet hj (AllRes.cons (ResIs.tmp (v := .atom _) rfl (LV.Sub.refl _)) AllRes.nil) rfl
theorem expr_node (hG : GW B0 w0) (op : List UInt8) (num : Nat) (name : List UInt8) (args : List Ex) (hnum : num < 4294967296) (hn : args.length ≤ 1000000000) (hl : (fE (.mk op num name args)).length ≤ 1000000000)
    (he : ∀ e ∈ args, (fE e).length ≤ 1000000000 → LCalls (KC B0 w0) 118 [encE e] [] (Ret (str (fE e)))) :
    LCalls (KC B0 w0) 118 [encE (.mk op num name args)] [] (Ret (str (fE (.mk op num name args)))) := by
  have hF := fE_mk op num name args
  have hla : (args.map encE).length = args.length := List.length_map _
  rw [fNode, List.length_map, List.map_map] at hF
  rw [encE_mk]
  refine LCalls.intro Tryz.func118 rfl (n := 113) rfl rfl rfl ?_
  repeat first
    | refine LCode.seq ?_
    | refine LCode.region ?_
  refine LOps.step (S.box (cs := [str op, int .u32 num, str name, .list (args.map encE)]) rfl fun b1 => ?_) rfl
  repeat first
    | refine LOps.nil ?_
    | refine LCode.seq ?_
    | refine QThen.normal ?_
    | refine LOps.pure (Pure.as (lv := .atom _) rfl) rfl ?_
  refine LCode.cut [(1, ptr b1 0), (2, str []), (3, int .i64 args.length), (4, int .i64 (strengthP op))] ?_ (fun j hj => ?_)
  · refine LCode.quiet (by kernel_rfl) ?_
    repeat first
      | refine LQ.pure (Pure.fieldH rfl) rfl ?_
      | refine LQ.pure (Pure.loadH (c := .list _) rfl (List.Mem.head _) rfl) rfl ?_
      | refine LQ.pure (Pure.loadH (c := .atom _) rfl (List.Mem.head _) rfl) rfl ?_
      | refine LQ.pure (Pure.llen rfl) rfl ?_
    refine LQ.call (args := [_]) (v := .int .i64 (strengthP op)) (ret_any (strength_spec op)) rfl ?_
    repeat first
      | refine LQ.pure (Pure.as (lv := .atom _) rfl) rfl ?_
      | refine LQ.nil ?_
      | refine QThen.normal ?_
    exact ⟨⟨rfl, rfl, int_eq (by omega), rfl, trivial⟩, rfl, rfl⟩
  repeat first
    | refine LOps.nil ?_
    | refine LCode.seq ?_
    | refine LCode.region ?_
    | refine LCode.block ?_
    | refine QThen.normal ?_
    | refine LOps.pure (Pure.as (lv := .atom _) rfl) rfl ?_
    | refine LOps.pure (Pure.fieldH rfl) rfl ?_
    | refine LOps.pure (Pure.loadH (c := .atom _) rfl (List.Mem.head _) rfl) rfl ?_
    | refine LOps.pure (Pure.seq rfl rfl) rfl ?_
  refine LCode.cond rfl (fun h1 => ?_) (fun h1 => ?_)
  · have e1 : op = nNum := of_decide_eq_true h1
    rw [if_pos e1] at hF
    repeat first
      | refine LCode.seq ?_
      | refine LCode.region ?_
      | refine LOps.pure (Pure.fieldH rfl) rfl ?_
      | refine LOps.pure (Pure.loadH (c := .atom _) rfl (List.Mem.head _) rfl) rfl ?_
      | refine LOps.pure (Pure.cvt rfl) rfl ?_
    refine LOps.step (S.fn [_, _] (show _ = [int .u64 (IntKind.wrap .u64 num), int .i64 10] from rfl) (by rw [wrap_u64 (by omega)]; exact fmtUint_spec hG num (by omega)) ?_) rfl
    repeat first
      | refine LOps.nil ?_
      | refine LCode.ret ?_
      | refine QThen.normal ?_
      | refine QThen.ret ?_
      | refine QBlock.ret ?_
      | refine LOps.pure (Pure.as (lv := .atom _) rfl) rfl ?_
    exact retRet hj (AllRes.cons (ResIs.tmp (v := .atom _) rfl (LV.Sub.refl _)) AllRes.nil) (str_eq hF.symm)
  have e1 : ¬ op = nNum := of_decide_eq_false h1
  rw [if_neg e1] at hF
  repeat first
    | refine LOps.nil ?_
    | refine LCode.seq ?_
    | refine LCode.region ?_
    | refine QThen.normal ?_
    | refine LOps.pure (Pure.as (lv := .atom _) rfl) rfl ?_
    | refine LOps.pure (Pure.fieldH rfl) rfl ?_
    | refine LOps.pure (Pure.loadH (c := .atom _) rfl (List.Mem.head _) rfl) rfl ?_
    | refine LOps.pure (Pure.seq rfl rfl) rfl ?_
  refine LCode.cond rfl (fun h2 => ?_) (fun h2 => ?_)
  · have e2 : op = nVar := of_decide_eq_true h2
    rw [if_pos e2] at hF
    repeat first
      | refine LOps.nil ?_
      | refine LCode.seq ?_
      | refine LCode.region ?_
      | refine LCode.ret ?_
      | refine QThen.normal ?_
      | refine QThen.ret ?_
      | refine QBlock.ret ?_
      | refine LOps.pure (Pure.as (lv := .atom _) rfl) rfl ?_
      | refine LOps.pure (Pure.fieldH rfl) rfl ?_
      | refine LOps.pure (Pure.loadH (c := .atom _) rfl (List.Mem.head _) rfl) rfl ?_
    exact retRet hj (AllRes.cons (ResIs.tmp (v := .atom _) rfl (LV.Sub.refl _)) AllRes.nil) (str_eq hF.symm)
  have e2 : ¬ op = nVar := of_decide_eq_false h2
  rw [if_neg e2] at hF
  repeat first
    | refine LCode.seq ?_
    | refine LCode.region ?_
    | refine LOps.pure (Pure.fieldH rfl) rfl ?_
    | refine LOps.pure (Pure.loadH (c := .atom _) rfl (List.Mem.head _) rfl) rfl ?_
    | refine LOps.pure (Pure.seq rfl rfl) rfl ?_
    | refine LOps.pure (Pure.mv (lv := .atom _) rfl) rfl ?_
  refine LOps.cut [(1, ptr b1 0), (2, str []), (3, int .i64 args.length), (4, int .i64 (strengthP op)), (26, bool (decide (op = nElem ∧ args.length = 1)))] ?_ (fun j3 hj3 => ?_)
  · refine LOps.bcase 30 rfl (fun h => ?_) (fun h => ?_)
    · have h' : op = nElem := of_decide_eq_true h
      repeat first
        | refine LOps.nil ?_
        | refine QThen.normal ?_
        | refine LOps.pure (Pure.as (lv := .atom _) rfl) rfl ?_
        | refine LOps.pure (Pure.mv (lv := .atom _) rfl) rfl ?_
        | refine LOps.pure (Pure.eql rfl rfl) rfl ?_
        | refine LOps.pure (Pure.pickT (lv := .atom _) rfl rfl) rfl ?_
        | refine LOps.want rfl rfl ?_
      exact ⟨⟨rfl, rfl, rfl, rfl, bool_eq (by simp only [h', true_and]; exact decide_eq_decide.mpr (by omega)), trivial⟩, rfl, rfl⟩
    · have h' : ¬ op = nElem := of_decide_eq_false h
      repeat first
        | refine LOps.nil ?_
        | refine QThen.normal ?_
        | refine LOps.pure (Pure.as (lv := .atom _) rfl) rfl ?_
        | refine LOps.pure (Pure.pickF (lv := .atom _) rfl rfl) rfl ?_
        | refine LOps.skip rfl rfl rfl rfl ?_
      exact ⟨⟨rfl, rfl, rfl, rfl, bool_eq (by simp only [h', false_and]; rfl), trivial⟩, rfl, rfl⟩
  refine LCode.cond rfl (fun h3 => ?_) (fun h3 => ?_)
  · obtain ⟨e3, hlen⟩ : op = nElem ∧ args.length = 1 := of_decide_eq_true h3
    obtain ⟨a, rfl⟩ := List.length_eq_one_iff.mp hlen
    rw [if_pos ⟨e3, hlen⟩] at hF
    simp only [List.map_cons, List.headD_cons] at hF
    rw [hF] at hl
    simp only [List.length_append, List.length_cons, List.length_nil] at hl
    repeat first
      | refine LCode.seq ?_
    refine LCode.cut [(2, str (name ++ [91] ++ fE a ++ [93]))] ?_ (fun j4 hj4 => ?_)
    · refine LCode.quiet (by kernel_rfl) ?_
      repeat first
        | refine LQ.pure (Pure.fieldH rfl) rfl ?_
        | refine LQ.pure (Pure.loadH (c := .list _) rfl (List.Mem.head _) rfl) rfl ?_
        | refine LQ.pure (Pure.loadH (c := .atom _) rfl (List.Mem.head _) rfl) rfl ?_
        | refine LQ.pure (Pure.sadd rfl rfl (by simp only [List.length_append, List.length_cons, List.length_nil]; omega)) rfl ?_
      refine LQ.pure (Pure.ixRef (el' := encE a) (cs := [_, _, _, _]) rfl rfl (by omega) rfl rfl rfl) rfl ?_
      repeat first
        | refine LQ.pure (Pure.ldRefAgg (cs' := [_, _, _, _]) rfl rfl rfl) rfl ?_
      refine LQ.call (args := [_]) (v := .string ⟨(fE a).toArray⟩) (ret_any (he a (List.mem_singleton.mpr rfl) (by omega))) rfl ?_
      repeat first
        | refine LQ.pure (Pure.as (lv := .atom _) rfl) rfl ?_
        | refine LQ.pure (Pure.sadd rfl rfl (by simp only [List.length_append, List.length_cons, List.length_nil]; omega)) rfl ?_
        | refine LQ.nil ?_
        | refine QThen.normal ?_
      exact ⟨⟨rfl, trivial⟩, rfl, rfl⟩
    repeat first
      | refine LCode.ret ?_
      | refine QThen.ret ?_
      | refine QBlock.ret ?_
    exact retRet (hj4.trans (hj3.trans hj)) (AllRes.cons (ResIs.tmp (v := .atom _) rfl (LV.Sub.refl _)) AllRes.nil) (str_eq hF.symm)
  have e3 : ¬ (op = nElem ∧ args.length = 1) := of_decide_eq_false h3
  rw [if_neg e3] at hF
  repeat first
    | refine LOps.nil ?_
    | refine LCode.seq ?_
    | refine LCode.region ?_
    | refine QThen.normal ?_
    | refine LOps.pure (Pure.as (lv := .atom _) rfl) rfl ?_
    | refine LOps.pure (Pure.fieldH rfl) rfl ?_
    | refine LOps.pure (Pure.loadH (c := .atom _) rfl (List.Mem.head _) rfl) rfl ?_
    | refine LOps.pure (Pure.seq rfl rfl) rfl ?_
  refine LCode.cond rfl (fun h4 => ?_) (fun h4 => ?_)
  · have e4 : op = nCall := of_decide_eq_true h4
    rw [if_pos e4] at hF
    have hmm : List.map ((fun x => x.snd) ∘ fun e => (exOp e, fE e)) args = args.map fE := rfl
    rw [hmm] at hF
    rw [hF] at hl
    simp only [List.length_append, List.length_cons, List.length_nil] at hl
    repeat first
      | refine LCode.seq ?_
    refine LCode.cut [(2, str (name ++ [40] ++ Go.Lib.join (args.map fE) comSp ++ [41]))] ?_ (fun j4 hj4 => ?_)
    · refine LCode.quiet (by kernel_rfl) ?_
      repeat first
        | refine LQ.pure (Pure.fieldH rfl) rfl ?_
        | refine LQ.pure (Pure.loadH (c := .list _) rfl (List.Mem.head _) rfl) rfl ?_
        | refine LQ.pure (Pure.loadH (c := .atom _) rfl (List.Mem.head _) rfl) rfl ?_
        | refine LQ.pure (Pure.sadd rfl rfl (by simp only [List.length_append, List.length_cons, List.length_nil]; omega)) rfl ?_
      refine LQ.call (args := [_]) (v := .string ⟨(Go.Lib.join (args.map fE) comSp).toArray⟩) (ret_any (list_spec args hn (by omega) fun e he' => he e he' (by have := join_mem comSp (List.mem_map_of_mem (f := fE) he'); omega))) rfl ?_
      repeat first
        | refine LQ.pure (Pure.as (lv := .atom _) rfl) rfl ?_
        | refine LQ.pure (Pure.sadd rfl rfl (by simp only [List.length_append, List.length_cons, List.length_nil]; omega)) rfl ?_
        | refine LQ.nil ?_
        | refine QThen.normal ?_
      exact ⟨⟨rfl, trivial⟩, rfl, rfl⟩
    repeat first
      | refine LCode.ret ?_
      | refine QThen.ret ?_
      | refine QBlock.ret ?_
    exact retRet (hj4.trans (hj3.trans hj)) (AllRes.cons (ResIs.tmp (v := .atom _) rfl (LV.Sub.refl _)) AllRes.nil) (str_eq hF.symm)
  have e4 : ¬ op = nCall := of_decide_eq_false h4
  rw [if_neg e4] at hF
  repeat first
    | refine LCode.seq ?_
    | refine LCode.region ?_
    | refine LOps.pure (Pure.fieldH rfl) rfl ?_
    | refine LOps.pure (Pure.loadH (c := .atom _) rfl (List.Mem.head _) rfl) rfl ?_
    | refine LOps.pure (Pure.seq rfl rfl) rfl ?_
    | refine LOps.pure (Pure.mv (lv := .atom _) rfl) rfl ?_
  refine LOps.cut [(1, ptr b1 0), (2, str []), (3, int .i64 args.length), (4, int .i64 (strengthP op)), (56, bool (decide (op = nNeg ∧ args.length = 1)))] ?_ (fun j5 hj5 => ?_)
  · refine LOps.bcase 60 rfl (fun h => ?_) (fun h => ?_)
    · have h' : op = nNeg := of_decide_eq_true h
      repeat first
        | refine LOps.nil ?_
        | refine QThen.normal ?_
        | refine LOps.pure (Pure.as (lv := .atom _) rfl) rfl ?_
        | refine LOps.pure (Pure.mv (lv := .atom _) rfl) rfl ?_
        | refine LOps.pure (Pure.eql rfl rfl) rfl ?_
        | refine LOps.pure (Pure.pickT (lv := .atom _) rfl rfl) rfl ?_
        | refine LOps.want rfl rfl ?_
      exact ⟨⟨rfl, rfl, rfl, rfl, bool_eq (by simp only [h', true_and]; exact decide_eq_decide.mpr (by omega)), trivial⟩, rfl, rfl⟩
    · have h' : ¬ op = nNeg := of_decide_eq_false h
      repeat first
        | refine LOps.nil ?_
        | refine QThen.normal ?_
        | refine LOps.pure (Pure.as (lv := .atom _) rfl) rfl ?_
        | refine LOps.pure (Pure.pickF (lv := .atom _) rfl rfl) rfl ?_
        | refine LOps.skip rfl rfl rfl rfl ?_
      exact ⟨⟨rfl, rfl, rfl, rfl, bool_eq (by simp only [h', false_and]; rfl), trivial⟩, rfl, rfl⟩
  refine LCode.cond rfl (fun h5 => ?_) (fun h5 => ?_)
  · obtain ⟨e5, hlen⟩ : op = nNeg ∧ args.length = 1 := of_decide_eq_true h5
    obtain ⟨a, rfl⟩ := List.length_eq_one_iff.mp hlen
    rw [if_pos ⟨e5, hlen⟩] at hF
    simp only [List.map_cons, List.headD_cons] at hF
    rw [hF] at hl
    simp only [List.length_append, List.length_cons, List.length_nil] at hl
    have hol := opnd_len (exOp a, fE a) (strengthP op)
    simp only at hol
    repeat first
      | refine LCode.seq ?_
      | refine LCode.region ?_
      | refine LOps.pure (Pure.fieldH rfl) rfl ?_
      | refine LOps.pure (Pure.loadH (c := .list _) rfl (List.Mem.head _) rfl) rfl ?_
    refine LOps.pure (Pure.ixRef (el' := encE a) (cs := [_, _, _, _]) rfl rfl (by omega) rfl rfl rfl) rfl ?_
    repeat first
      | refine LOps.pure (Pure.mv (lv := .atom _) rfl) rfl ?_
      | refine LOps.pure (Pure.ldRefAgg (cs' := [_, _, _, _]) rfl rfl rfl) rfl ?_
    refine LOps.step (S.fn [_, _] rfl (operand_spec a (strengthP op) (by omega) (he a (List.mem_singleton.mpr rfl) (by omega))) ?_) rfl
    repeat first
      | refine LOps.nil ?_
      | refine LCode.ret ?_
      | refine QThen.normal ?_
      | refine QThen.ret ?_
      | refine QBlock.ret ?_
      | refine LOps.pure (Pure.as (lv := .atom _) rfl) rfl ?_
      | refine LOps.pure (Pure.sadd rfl rfl (by simp only [List.length_append, List.length_cons, List.length_nil]; omega)) rfl ?_
    exact retRet (hj5.trans (hj3.trans hj)) (AllRes.cons (ResIs.tmp (v := .atom _) rfl (LV.Sub.refl _)) AllRes.nil) (str_eq hF.symm)
  have e5 : ¬ (op = nNeg ∧ args.length = 1) := of_decide_eq_false h5
  rw [if_neg e5] at hF
  repeat first
    | refine LCode.seq ?_
    | refine LCode.region ?_
    | refine LOps.pure (Pure.fieldH rfl) rfl ?_
    | refine LOps.pure (Pure.loadH (c := .atom _) rfl (List.Mem.head _) rfl) rfl ?_
    | refine LOps.pure (Pure.seq rfl rfl) rfl ?_
    | refine LOps.pure (Pure.mv (lv := .atom _) rfl) rfl ?_
  refine LOps.cut [(1, ptr b1 0), (2, str []), (3, int .i64 args.length), (4, int .i64 (strengthP op)), (71, bool (decide (op = nNot ∧ args.length = 1)))] ?_ (fun j6 hj6 => ?_)
  · refine LOps.bcase 75 rfl (fun h => ?_) (fun h => ?_)
    · have h' : op = nNot := of_decide_eq_true h
      repeat first
        | refine LOps.nil ?_
        | refine QThen.normal ?_
        | refine LOps.pure (Pure.as (lv := .atom _) rfl) rfl ?_
        | refine LOps.pure (Pure.mv (lv := .atom _) rfl) rfl ?_
        | refine LOps.pure (Pure.eql rfl rfl) rfl ?_
        | refine LOps.pure (Pure.pickT (lv := .atom _) rfl rfl) rfl ?_
        | refine LOps.want rfl rfl ?_
      exact ⟨⟨rfl, rfl, rfl, rfl, bool_eq (by simp only [h', true_and]; exact decide_eq_decide.mpr (by omega)), trivial⟩, rfl, rfl⟩
    · have h' : ¬ op = nNot := of_decide_eq_false h
      repeat first
        | refine LOps.nil ?_
        | refine QThen.normal ?_
        | refine LOps.pure (Pure.as (lv := .atom _) rfl) rfl ?_
        | refine LOps.pure (Pure.pickF (lv := .atom _) rfl rfl) rfl ?_
        | refine LOps.skip rfl rfl rfl rfl ?_
      exact ⟨⟨rfl, rfl, rfl, rfl, bool_eq (by simp only [h', false_and]; rfl), trivial⟩, rfl, rfl⟩
  refine LCode.cond rfl (fun h6 => ?_) (fun h6 => ?_)
  · obtain ⟨e6, hlen⟩ : op = nNot ∧ args.length = 1 := of_decide_eq_true h6
    obtain ⟨a, rfl⟩ := List.length_eq_one_iff.mp hlen
    rw [if_pos ⟨e6, hlen⟩] at hF
    simp only [List.map_cons, List.headD_cons] at hF
    rw [hF] at hl
    simp only [List.length_append, List.length_cons, List.length_nil] at hl
    have hol := opnd_len (exOp a, fE a) (strengthP op)
    simp only at hol
    repeat first
      | refine LCode.seq ?_
      | refine LCode.region ?_
      | refine LOps.pure (Pure.fieldH rfl) rfl ?_
      | refine LOps.pure (Pure.loadH (c := .list _) rfl (List.Mem.head _) rfl) rfl ?_
    refine LOps.pure (Pure.ixRef (el' := encE a) (cs := [_, _, _, _]) rfl rfl (by omega) rfl rfl rfl) rfl ?_
    repeat first
      | refine LOps.pure (Pure.mv (lv := .atom _) rfl) rfl ?_
      | refine LOps.pure (Pure.ldRefAgg (cs' := [_, _, _, _]) rfl rfl rfl) rfl ?_
    refine LOps.step (S.fn [_, _] rfl (operand_spec a (strengthP op) (by omega) (he a (List.mem_singleton.mpr rfl) (by omega))) ?_) rfl
    repeat first
      | refine LOps.nil ?_
      | refine LCode.ret ?_
      | refine QThen.normal ?_
      | refine QThen.ret ?_
      | refine QBlock.ret ?_
      | refine LOps.pure (Pure.as (lv := .atom _) rfl) rfl ?_
      | refine LOps.pure (Pure.sadd rfl rfl (by simp only [List.length_append, List.length_cons, List.length_nil]; omega)) rfl ?_
    exact retRet (hj6.trans (hj5.trans (hj3.trans hj))) (AllRes.cons (ResIs.tmp (v := .atom _) rfl (LV.Sub.refl _)) AllRes.nil) (str_eq hF.symm)
  have e6 : ¬ (op = nNot ∧ args.length = 1) := of_decide_eq_false h6
  rw [if_neg e6] at hF
  repeat first
    | refine LOps.nil ?_
    | refine LCode.seq ?_
    | refine LCode.region ?_
    | refine QThen.normal ?_
    | refine LOps.pure (Pure.as (lv := .atom _) rfl) rfl ?_
    | refine LOps.pure (Pure.mv (lv := .atom _) rfl) rfl ?_
    | refine LOps.pure (Pure.eql rfl rfl) rfl ?_
  refine LCode.cond rfl (fun h7 => ?_) (fun h7 => ?_)
  · have e7 : args.length = 2 := by have := of_decide_eq_true h7; omega
    obtain ⟨a, b, rfl⟩ : ∃ a b, args = [a, b] := by
      match args, e7 with
      | [a, b], _ => exact ⟨a, b, rfl⟩
    rw [if_pos e7] at hF
    simp only [List.map_cons, List.headD_cons, List.tail_cons] at hF
    rw [hF] at hl
    simp only [List.length_append, List.length_cons, List.length_nil] at hl
    have hola := opnd_len (exOp a, fE a) (leftLv (strengthP op))
    have holb := opnd_len (exOp b, fE b) (strengthP op + 1)
    have hs7 := strengthP_le op
    simp only at hola holb
    have sa := operand_spec a (leftLv (strengthP op)) (by omega) (he a (by simp) (by omega))
    have sb := operand_spec b (strengthP op + 1) (by omega) (he b (by simp) (by omega))
    repeat first
      | refine LOps.nil ?_
      | refine LCode.seq ?_
      | refine LCode.region ?_
      | refine QThen.normal ?_
      | refine LOps.pure (Pure.as (lv := .atom _) rfl) rfl ?_
      | refine LOps.pure (Pure.mv (lv := .atom _) rfl) rfl ?_
      | refine LOps.pure (Pure.eql rfl rfl) rfl ?_
    refine LCode.cut [(1, ptr b1 0), (2, str []), (4, int .i64 (strengthP op)), (5, int .i64 (leftLv (strengthP op)))] ?_ (fun j7 hj7 => ?_)
    · refine LCode.cond rfl (fun h8 => ?_) (fun h8 => ?_)
      · have h8' : strengthP op = 2 := by have := of_decide_eq_true h8; omega
        repeat first
          | refine LOps.nil ?_
          | refine LCode.region ?_
          | refine QThen.normal ?_
          | refine LOps.pure (Pure.as (lv := .atom _) rfl) rfl ?_
          | refine LOps.pure (Pure.mv (lv := .atom _) rfl) rfl ?_
          | refine LOps.pure (Pure.add rfl rfl (by omega)) rfl ?_
        exact ⟨⟨rfl, rfl, rfl, int_eq (by rw [leftLv, if_pos h8']; omega), trivial⟩, rfl, rfl⟩
      · have h8' : ¬ strengthP op = 2 := by have := of_decide_eq_false h8; omega
        repeat first
          | refine LCode.skip ?_
          | refine QThen.normal ?_
        exact ⟨⟨rfl, rfl, rfl, int_eq (by rw [leftLv, if_neg h8']), trivial⟩, rfl, rfl⟩
    repeat first
      | refine LCode.seq ?_
    refine LCode.cut [(2, str (opnd (exOp a, fE a) (leftLv (strengthP op)) ++ [32] ++ op ++ [32] ++ opnd (exOp b, fE b) (strengthP op + 1)))] ?_ (fun j8 hj8 => ?_)
    · refine LCode.quiet (by kernel_rfl) ?_
      repeat first
        | refine LQ.pure (Pure.fieldH rfl) rfl ?_
        | refine LQ.pure (Pure.loadH (c := .list _) rfl (List.Mem.head _) rfl) rfl ?_
      refine LQ.pure (Pure.ixRef (el' := encE a) (cs := [_, _, _, _]) rfl rfl (by omega) rfl rfl rfl) rfl ?_
      repeat first
        | refine LQ.pure (Pure.mv (lv := .atom _) rfl) rfl ?_
        | refine LQ.pure (Pure.ldRefAgg (cs' := [_, _, _, _]) rfl rfl rfl) rfl ?_
      refine LQ.call (args := [_, _]) (v := .string ⟨(opnd (exOp a, fE a) (leftLv (strengthP op))).toArray⟩) (ret_any sa) rfl ?_
      repeat first
        | refine LQ.pure (Pure.fieldH rfl) rfl ?_
        | refine LQ.pure (Pure.loadH (c := .list _) rfl (List.Mem.head _) rfl) rfl ?_
        | refine LQ.pure (Pure.loadH (c := .atom _) rfl (List.Mem.head _) rfl) rfl ?_
        | refine LQ.pure (Pure.sadd rfl rfl (by simp only [List.length_append, List.length_cons, List.length_nil]; omega)) rfl ?_
      refine LQ.pure (Pure.ixRef (el' := encE b) (cs := [_, _, _, _]) rfl rfl (by omega) rfl rfl rfl) rfl ?_
      repeat first
        | refine LQ.pure (Pure.mv (lv := .atom _) rfl) rfl ?_
        | refine LQ.pure (Pure.ldRefAgg (cs' := [_, _, _, _]) rfl rfl rfl) rfl ?_
        | refine LQ.pure (Pure.add rfl rfl (by omega)) rfl ?_
      refine LQ.call (args := [_, _]) (v := .string ⟨(opnd (exOp b, fE b) (strengthP op + 1)).toArray⟩) (ret_any (by
        have e9 : int .i64 ((strengthP op : Int) + 1) = int .i64 ((strengthP op + 1 : Nat) : Int) := int_eq (by omega)
        rw [← e9] at sb
        exact sb)) rfl ?_
      repeat first
        | refine LQ.pure (Pure.as (lv := .atom _) rfl) rfl ?_
        | refine LQ.pure (Pure.sadd rfl rfl (by simp only [List.length_append, List.length_cons, List.length_nil]; omega)) rfl ?_
        | refine LQ.nil ?_
        | refine QThen.normal ?_
      exact ⟨⟨rfl, trivial⟩, rfl, rfl⟩
    repeat first
      | refine LCode.ret ?_
      | refine QThen.ret ?_
      | refine QBlock.ret ?_
    exact retRet (hj8.trans (hj7.trans (hj6.trans (hj5.trans (hj3.trans hj))))) (AllRes.cons (ResIs.tmp (v := .atom _) rfl (LV.Sub.refl _)) AllRes.nil) (str_eq hF.symm)
  · have e7 : ¬ args.length = 2 := by have := of_decide_eq_false h7; omega
    rw [if_neg e7] at hF
    repeat first
      | refine LOps.nil ?_
      | refine LCode.seq ?_
      | refine LCode.region ?_
      | refine LCode.skip ?_
      | refine LCode.ret ?_
      | refine QThen.normal ?_
      | refine QBlock.normal ?_
      | refine LOps.pure (Pure.as (lv := .atom _) rfl) rfl ?_
    exact retRet (hj6.trans (hj5.trans (hj3.trans hj))) (AllRes.cons (ResIs.tmp (v := .atom _) rfl (LV.Sub.refl _)) AllRes.nil) (str_eq hF.symm)
mutual
def okE : Ex → Prop
  | .mk _ num _ args => num < 4294967296 ∧ args.length ≤ 1000000000 ∧ okEs args
def okEs : List Ex → Prop
  | [] => True
  | e :: r => okE e ∧ okEs r
end
theorem okEs_mem : ∀ {l : List Ex} {e : Ex}, okEs l → e ∈ l → okE e
  | e :: r, x, h, hx => by
    rw [okEs] at h
    rcases List.mem_cons.mp hx with hx | hx
    · exact hx ▸ h.1
    · exact okEs_mem h.2 hx
theorem fexpr_spec (hG : GW B0 w0) : ∀ (n : Nat) (e : Ex), nEx e ≤ n → okE e → (fE e).length ≤ 1000000000 → LCalls (KC B0 w0) 118 [encE e] [] (Ret (str (fE e))) := by
  intro n
  induction n with
  | zero =>
    intro e hn
    obtain ⟨op, num, name, args⟩ := e
    rw [nEx] at hn
    omega
  | succ n ih =>
    intro e hn hk hl
    obtain ⟨op, num, name, args⟩ := e
    rw [nEx] at hn
    rw [okE] at hk
    exact expr_node hG op num name args hk.1 hk.2.1 hl fun e he hle => ih e (by have := nExs_mem he; omega) (okEs_mem hk.2.2 he) hle
end
end Go.Proofs.YtfodkbchknknjaaGreatDoor
namespace Go.GL
open Go.RowKit
section
variable {C : Ctx} {e : Env} {H : Heap} {x y : Operand} {dst : Option Nat} {ty : TypeId} {pos : String} {aft : Array Edge} {g : Option (Nat × Bool)} {K : LV → Heap → Prop} {X : List PanicEntry → Heap → Prop}
def byts (l : List UInt8) : List LV := l.map fun b => int .u8 b.toNat
theorem byts_len (l : List UInt8) : (byts l).length = l.length := List.length_map _
theorem byts_app (l m : List UInt8) : byts (l ++ m) = byts l ++ byts m := List.map_append
theorem byts_size (l : List UInt8) : ∀ v ∈ byts l, v.cells.length = 1 := by
  intro v hv
  obtain ⟨b, _, rfl⟩ := List.mem_map.1 hv
  rfl
theorem byts_flat (l : List UInt8) : (byts l).flatMap LV.cells = byts l := by
  induction l with
  | nil => rfl
  | cons b l ih =>
    have h : byts (b :: l) = int .u8 b.toNat :: byts l := rfl
    rw [h, List.flatMap_cons, ih]
    rfl
def bytV (l : List UInt8) : List Value := l.map fun b => .int .u8 b.toNat
theorem byts_rep {w : World} {L : Live} : ∀ l : List UInt8, RepL w L (byts l) (bytV l)
  | [] => by simp [byts, bytV, RepL]
  | b :: l => by
    show RepL w L (int .u8 b.toNat :: byts l) (.int .u8 b.toNat :: bytV l)
    simp only [RepL]
    exact ⟨_, _, rfl, rep_atom, byts_rep l⟩
theorem bytV_flat (l : List UInt8) : ∀ v ∈ bytV l, (∀ cs, v ≠ Value.agg cs) ∧ (∀ cs, v ≠ Value.tuple cs) := by
  intro v hv
  obtain ⟨b, _, rfl⟩ := List.mem_map.1 hv
  exact And.intro (fun _ h => by cases h) (fun _ h => by cases h)
theorem first_str {P : Program} (l : List UInt8) (w' : World) : (Builtin.firstCells 1 l.length (.string ⟨l.toArray⟩)).run P w' = .ok (bytV l).toArray w' := by
  have := Go.Lib.run_firstCells_string (P := P) w' 1 ⟨l.toArray⟩
  rw [size_mk] at this
  rw [this]
  rfl
theorem S.appS {sT xT el bytes : Nat} [ht : TSlice C.P sT el 1] [hr : TRow C.P el 1 bytes] [hx2 : TStr C.P xT] {v : LV} {l m : List UInt8} {F : Heap}
    (hx : e.ev x = v) (ha : Acc 1 v (byts l) H F) (hy : e.ev y = str m) (hroom : (l.length + m.length) * bytes ≤ 140737488355328)
    (hk : ∀ v' H', Acc 1 v' (byts (l ++ m)) H' F → K v' H') : LStep C ⟨dst, .call { callee := .builtin .append, args := #[x, y], argTypes := #[sT, xT] }, ty, pos, aft, g⟩ e H K X := by
  have h0 : ∀ (cs : Array Bool) (args : Array Value), builtin .append #[sT, xT] ty cs args = (do Pure.pure (.value (← Builtin.append_ #[sT, xT] ty args))) := fun _ _ => rfl
  generalize he : byts l = es at ha
  have hel : es.length = l.length := by rw [← he, byts_len]
  cases ha with
  | nil =>
    have hl : l = [] := List.eq_nil_of_length_eq_zero (by rw [← hel]; rfl)
    subst hl
    by_cases hne : m = []
    · subst hne
      intro ρ w L h hH
      have hr : (Builtin.append_ #[sT, xT] ty #[.slice none 0 0, .string ⟨#[]⟩]).run C.P w = .ok (.slice none 0 0) w := by
        obtain ⟨i, hi, his⟩ := ht.size
        have hf := first_str (P := C.P) [] w
        simp only [List.length_nil] at hf
        simp [Builtin.append_, run_underlying' ht.und, run_underlying' hx2.und, sizeOf, typeInfo, hi, Builtin.lenOf, Builtin.firstCells, show (ByteArray.mk #[]).size = 0 from rfl, show ((ByteArray.mk #[]).extract 0 0).data = #[] from rfl]
      rw [execOp_builtin', h0]
      simp only [List.map_toArray, List.map_cons, List.map_nil, Sem.run_bind, atom_of h hx, atom_of h hy, hr, Result.andThen_ok, Sem.run_pure]
      exact ⟨_, H, L, Fr.refl _ _ _, hH, rep_atom, hk _ _ Acc.nil⟩
    · refine LStep.at0 fun ρ w L h hH => ?_
      have hpos : 0 < m.length := List.length_pos_iff.2 hne
      obtain ⟨cap', rest, r1, r2, r3⟩ := run_append_new (ty := ty) (P := C.P) (w := w) (sT := sT) (xT := xT) (a := none) (len := 0) (cap := 0) (n := m.length) (xv := .string ⟨m.toArray⟩) (old := []) (new := bytV m) (.inl hx2.und) (fun w' => by simp [Builtin.lenOf, size_mk]) (fun w' _ => first_str m w')
        (fun w' _ => by simp [Builtin.firstCells]) (by simpa using hroom) (by omega)
      rw [execOp_builtin', h0]
      simp only [List.map_toArray, List.map_cons, List.map_nil, Sem.run_bind, atom_of h hx, atom_of h hy, r3, Result.andThen_ok, Sem.run_pure, List.nil_append, Nat.zero_add]
      obtain ⟨lv, H', L', g1, g2, g3, g4⟩ := left_newRowC (K := fun lv H' => K lv (H' ++ H)) (t := el) (s := 1) (es := byts m) (xs := bytV m) (cap := cap') (rest := rest) hH.drew (by rw [byts_flat]; exact byts_rep m) (byts_size m) (by rw [byts_len]; omega) (by
        rw [r2, byts_len]
        omega) (fun b => hk _ _ Acc.row)
      rw [byts_len] at g3
      exact ⟨lv, H', L', g1.of_drew, g2, g3, g4⟩
  | row =>
    rename_i b cap
    refine LStep.at1 Pick.here fun ρ w L h hH => ?_
    have hsv := h x
    rw [hx] at hsv
    have hxv : ρ x = .slice (some ⟨b, 0, none⟩) es.length cap := by
      have h' := hsv
      simp only [Rep] at h'
      exact h'.1
    rw [hxv] at hsv
    obtain ⟨v, w', r1, r2⟩ := left_append (ty := ty) (K := fun lv H' => K lv (H' ++ F)) (sT := sT) (xT := xT) (.inl hx2.und) hH hsv (xv := .string ⟨m.toArray⟩) (ms := byts m) (new := bytV m) (fun w' => by rw [byts_len]; simp [Builtin.lenOf, size_mk]) (fun w' _ => by rw [byts_len]; exact first_str m w')
      (by rw [byts_flat]; exact byts_rep m) (byts_size m) (bytV_flat m) (by rw [hel, byts_len]; exact hroom) (fun b' cap' => hk _ _ (by rw [byts_app, he]; exact Acc.row))
    rw [execOp_builtin', h0]
    simp only [List.map_toArray, List.map_cons, List.map_nil, Sem.run_bind, hxv, atom_of h hy, r1, Result.andThen_ok, Sem.run_pure]
    exact r2
theorem S.appS1 {sT xT el bytes : Nat} [ht : TSlice C.P sT el 1] [hr : TRow C.P el 1 bytes] [hx2 : TStr C.P xT] {v : LV} {l m : List UInt8} {H1 F : Heap} {q : Nat × LObj}
    (hx : e.ev x = v) (ha : Acc 1 v (byts l) H1 F) (hy : e.ev y = str m) (hroom : (l.length + m.length) * bytes ≤ 140737488355328)
    (hk : ∀ v' H', Acc 1 v' (byts (l ++ m)) H' F → K v' (q :: H')) : LStep C ⟨dst, .call { callee := .builtin .append, args := #[x, y], argTypes := #[sT, xT] }, ty, pos, aft, g⟩ e (q :: H1) K X := by
  refine LStep.conseq (K := fun lv H' => ∃ H2, H' = H2 ++ [q] ∧ Acc 1 lv (byts (l ++ m)) H2 F) (LStep.frame (List.perm_append_singleton _ _).symm (S.appS hx ha hy hroom fun v' H' h => ⟨H', rfl, h⟩)) ?_
  rintro lv H' ⟨H2, rfl, h⟩
  exact ⟨lv, [q] ++ H2, LV.Sub.refl _, ⟨[], by simp⟩, hk _ _ h⟩
/-! ### A buffer whose cells are all known: it can be frozen -/
theorem repL_atoms_eq {w : World} {L : Live} : ∀ {zs xs : List Value}, RepL w L (zs.map .atom) xs → xs = zs
  | [], _, h => by simpa only [List.map_nil, RepL] using h
  | z :: zs, xs, h => by
    simp only [List.map_cons, RepL] at h
    obtain ⟨y, ys, rfl, h1, h2⟩ := h
    simp only [Rep] at h1
    rw [h1, repL_atoms_eq h2]
/-- A row of bytes that holds l, at the slice v. -/
inductive BRow (el : TypeId) : Value → List UInt8 → Heap → Prop
  | nil : BRow el (.slice none 0 0) [] []
  | row {b : Nat} {l : List UInt8} {xs : List Value} (h0 : l ≠ []) (h1 : l.length ≤ xs.length) (h2 : xs.take l.length = bytV l) : BRow el (.slice (some ⟨b, 0, none⟩) l.length xs.length) l [(b, .cells el (xs.map .atom))]
theorem bytV_len (l : List UInt8) : (bytV l).length = l.length := List.length_map _
theorem bytV_app (l m : List UInt8) : bytV (l ++ m) = bytV l ++ bytV m := List.map_append
theorem left_newB {w : World} {L : Live} (hH : RelH C w L []) {el : TypeId} {l : List UInt8} {xs : List Value} (h0 : l ≠ []) (h1 : l.length ≤ xs.length) (h2 : xs.take l.length = bytV l) (hk : ∀ v' H', BRow el v' l H' → K (.atom v') H') :
    Left C w L [] (World.push w (.cells xs.toArray el)) (.slice (some ⟨w.heap.size, 0, none⟩) l.length xs.length) K := by
  have hx := ext_push hH.wf (.cells xs.toArray el) 0
  have := fr_push hH (.cells xs.toArray el) 0 [(w.heap.size, .cells el (xs.map .atom))] (fun p hp => by
    simp only [List.mem_singleton] at hp
    subst hp
    exact ⟨rfl, by simp [Live.upd], xs, heap_push_self, repL_atoms xs⟩) (by simp)
  exact ⟨.atom _, _, _, this.1, this.2, rep_atom, hk _ _ (BRow.row h0 h1 h2)⟩
theorem LStep.appB {sT xT el bytes : Nat} [ht : TSlice C.P sT el 1] [hr : TRow C.P el 1 bytes] [hx2 : TStr C.P xT] {v : Value} {l m : List UInt8}
    (hx : e.ev x = .atom v) (ha : BRow el v l H) (hy : e.ev y = str m) (hroom : (l.length + m.length) * bytes ≤ 140737488355328)
    (hk : ∀ v' H', BRow el v' (l ++ m) H' → K (.atom v') H') : LStep C ⟨dst, .call { callee := .builtin .append, args := #[x, y], argTypes := #[sT, xT] }, ty, pos, aft, g⟩ e H K X := by
  have h0 : ∀ (cs : Array Bool) (args : Array Value), builtin .append #[sT, xT] ty cs args = (do Pure.pure (.value (← Builtin.append_ #[sT, xT] ty args))) := fun _ _ => rfl
  have hlen : ∀ w' : World, (Builtin.lenOf (.string ⟨m.toArray⟩)).run C.P w' = .ok m.length w' := fun w' => by simp [Builtin.lenOf, size_mk]
  cases ha with
  | nil =>
    by_cases hne : m = []
    · subst hne
      intro ρ w L h hH
      have hr : (Builtin.append_ #[sT, xT] ty #[.slice none 0 0, .string ⟨#[]⟩]).run C.P w = .ok (.slice none 0 0) w := by
        obtain ⟨i, hi, his⟩ := ht.size
        simp [Builtin.append_, run_underlying' ht.und, run_underlying' hx2.und, sizeOf, typeInfo, hi, Builtin.lenOf, Builtin.firstCells, show (ByteArray.mk #[]).size = 0 from rfl, show ((ByteArray.mk #[]).extract 0 0).data = #[] from rfl]
      rw [execOp_builtin', h0]
      simp only [List.map_toArray, List.map_cons, List.map_nil, Sem.run_bind, atom_of h hx, atom_of h hy, hr, Result.andThen_ok, Sem.run_pure]
      exact ⟨_, [], L, Fr.refl _ _ _, hH, rep_atom, hk _ _ BRow.nil⟩
    · intro ρ w L h hH
      have hpos : 0 < m.length := List.length_pos_iff.2 hne
      obtain ⟨cap', rest, r1, r2, r3⟩ := run_append_new (ty := ty) (P := C.P) (w := w) (sT := sT) (xT := xT) (a := none) (len := 0) (cap := 0) (n := m.length) (xv := .string ⟨m.toArray⟩) (old := []) (new := bytV m) (.inl hx2.und) hlen (fun w' _ => first_str m w')
        (fun w' _ => by simp [Builtin.firstCells]) (by simpa using hroom) (by omega)
      rw [execOp_builtin', h0]
      simp only [List.map_toArray, List.map_cons, List.map_nil, Sem.run_bind, atom_of h hx, atom_of h hy, r3, Result.andThen_ok, Sem.run_pure, List.nil_append, Nat.zero_add]
      have hcl : (bytV m ++ rest).length = cap' := by rw [List.length_append, r2, bytV_len]; omega
      obtain ⟨lv, H', L', g1, g2, g3, g4⟩ := left_newB (K := K) (el := el) (l := m) (xs := bytV m ++ rest) hH.drew hne (by rw [hcl]; omega) (by rw [List.take_left' (bytV_len m)]) (fun v' H' h' => hk v' H' h')
      rw [hcl] at g3
      exact ⟨lv, H', L', g1.of_drew, g2, g3, g4⟩
  | row hne h1 h2 =>
    rename_i b xs
    intro ρ w L h hH
    obtain ⟨hb0, hbs, hl, zs, hz1, hz2⟩ := hH.objs _ (List.mem_singleton.2 rfl)
    have hz := repL_atoms_eq hz2
    subst hz
    simp only at hb0 hbs hl hz1
    rw [execOp_builtin', h0]
    simp only [List.map_toArray, List.map_cons, List.map_nil, Sem.run_bind, atom_of h hx, atom_of h hy]
    by_cases hc : l.length + m.length ≤ zs.length
    · have hrun := run_append_in (ty := ty) (P := C.P) (w := w) (sT := sT) (xT := xT) (s := 1) (a := some ⟨b, 0, none⟩) (len := l.length) (cap := zs.length) (n := m.length) (xv := .string ⟨m.toArray⟩) (new := bytV m) (.inl hx2.und) hlen (fun w' _ => first_str m w') hc
      obtain ⟨w', r1, r2, r3, r4, r5, r6, r7⟩ := storeCells_run (P := C.P) (b := b) (off := 0 + l.length * 1) (t := el) (fr := (0, 0)) (bytV m) 0 w zs hz1 (by rw [bytV_len]; omega) (fun j _ _ => by simp) (bytV_flat m)
      rw [hrun]
      simp only [add_mk, r1, Result.andThen_ok, Sem.run_pure]
      have hx' : (zs.take (0 + l.length * 1 + 0) ++ bytV m ++ zs.drop (0 + l.length * 1 + 0 + (bytV m).length)).length = zs.length := by
        simp only [List.length_append, List.length_take, List.length_drop, bytV_len]
        omega
      have hfin := left_write (v := .slice (some ⟨b, 0, none⟩) (l.length + m.length) zs.length) (lv := .atom (.slice (some ⟨b, 0, none⟩) (l.length + m.length) zs.length)) (K := K) (cs' := (zs.take (0 + l.length * 1 + 0) ++ bytV m ++ zs.drop (0 + l.length * 1 + 0 + (bytV m).length)).map .atom) hH r2 r3 r4 r5 r6 r7 (by rw [hx', List.length_map]) (repL_atoms _) rep_atom (by
        have hb : BRow el (.slice (some ⟨b, 0, none⟩) (l ++ m).length (zs.take (0 + l.length * 1 + 0) ++ bytV m ++ zs.drop (0 + l.length * 1 + 0 + (bytV m).length)).length) (l ++ m) _ := BRow.row (b := b) (el := el) (by simp [hne]) (by rw [hx', List.length_append]; exact hc) (by
          have he : 0 + l.length * 1 + 0 = l.length := by omega
          rw [he, h2, ← bytV_app, List.take_left' (bytV_len _)])
        rw [hx', List.length_append] at hb
        exact hk _ _ hb)
      exact hfin
    · have hold : ∀ w' : World, w'.heap = w.heap → (Builtin.firstCells 1 l.length (.slice (some ⟨b, 0, none⟩) l.length zs.length)).run C.P w' = .ok (bytV l).toArray w' := fun w' hw => by
        have := loadCellsFrom_run (P := C.P) (w := w') (b := b) (off := 0) l.length 0 #[] (bytV l) (bytV_len l) (fun j x' hj => by
          have hj' : zs[j]? = some x' := by
            rw [← h2, List.getElem?_take] at hj
            split at hj
            · exact hj
            · cases hj
          simp [World.cell?, hw, hz1, hj'])
        simp only [Builtin.firstCells, loadCells, Nat.mul_one, this]
        simp
      obtain ⟨cap', rest, r1, r2, r3⟩ := run_append_new (ty := ty) (P := C.P) (w := w) (sT := sT) (xT := xT) (a := some ⟨b, 0, none⟩) (len := l.length) (cap := zs.length) (n := m.length) (xv := .string ⟨m.toArray⟩) (old := bytV l) (new := bytV m) (.inl hx2.und) hlen (fun w' _ => first_str m w') hold hroom (by omega)
      rw [r3]
      simp only [Result.andThen_ok, Sem.run_pure]
      have hcl : (bytV l ++ bytV m ++ rest).length = cap' := by rw [List.length_append, List.length_append, r2, bytV_len, bytV_len]; omega
      have hH0 : RelH C w L [] := hH.sub (List.nil_sublist _)
      obtain ⟨lv, H', L', g1, g2, g3, g4⟩ := left_newB (K := K) (el := el) (l := l ++ m) (xs := bytV l ++ bytV m ++ rest) hH0.drew (by simp [hne]) (by rw [hcl, List.length_append]; omega) (by rw [← bytV_app, List.take_left' (bytV_len _)]) (fun v' H' h' => hk v' H' h')
      rw [hcl, List.length_append] at g3
      exact ⟨lv, H', L', g1.of_drew.wide (by simp), g2, g3, g4⟩
theorem S.appB1 {sT xT el bytes : Nat} [ht : TSlice C.P sT el 1] [hr : TRow C.P el 1 bytes] [hx2 : TStr C.P xT] {v : Value} {l m : List UInt8} {H1 : Heap} {q : Nat × LObj}
    (hx : e.ev x = .atom v) (ha : BRow el v l H1) (hy : e.ev y = str m) (hroom : (l.length + m.length) * bytes ≤ 140737488355328)
    (hk : ∀ v' H', BRow el v' (l ++ m) H' → K (.atom v') (q :: H')) : LStep C ⟨dst, .call { callee := .builtin .append, args := #[x, y], argTypes := #[sT, xT] }, ty, pos, aft, g⟩ e (q :: H1) K X := by
  refine LStep.conseq (K := fun lv H' => ∃ v' H2, lv = .atom v' ∧ H' = H2 ++ [q] ∧ BRow el v' (l ++ m) H2) (LStep.frame (List.perm_append_singleton _ _).symm (LStep.appB hx ha hy hroom fun v' H' h => ⟨v', H', rfl, rfl, h⟩)) ?_
  rintro lv H' ⟨v', H2, rfl, rfl, h⟩
  exact ⟨_, [q] ++ H2, LV.Sub.refl _, ⟨[], by simp⟩, hk _ _ h⟩
end
end Go.GL
namespace Go.Proofs.YtfodkbchknknjaaGreatDoor
open Go.GL Go.RowKit Go.Stele
set_option maxRecDepth 100000
set_option maxHeartbeats 4000000
/-- A builder at b that holds l. -/
def BH (b : Nat) (l : List UInt8) (H : Heap) : Prop := ∃ p v Hv, (p = LV.atom (.pointer none) ∨ p = ptr b 0) ∧ BRow 5 v l Hv ∧ H = (b, .cells 87 [p, .atom v]) :: Hv
theorem lays240 : Lays.n240 Tryz.prog Tryz.lays156_ren := { Tryz.lays156 with }
section
variable {B0 : Nat} {w0 : World}
theorem copyCheck_spec (b : Nat) (p v : LV) (hp : p = LV.atom (.pointer none) ∨ p = ptr b 0) : LCalls (KC B0 w0) 83 [ptr b 0] [(b, .cells 87 [p, v])]
    (fun r H' => (∃ x, r = .ret (.atom x)) ∧ H' = [(b, .cells 87 [ptr b 0, v])]) := fun xs w L hv hH => by
  simp only [RepL] at hv
  obtain ⟨y, ys, rfl, hy, rfl⟩ := hv
  simp only [Rep] at hy
  subst hy
  obtain ⟨hb0, hbs, hl, zs, hx1, hx2⟩ := hH.objs _ (List.mem_singleton.2 rfl)
  simp only at hb0 hbs hl hx1 hx2
  have hz := hx2
  simp only [RepL] at hz
  obtain ⟨a, as1, rfl, ha, c, as2, rfl, hc, rfl⟩ := hz
  rcases hp with rfl | rfl
  · simp only [Rep] at ha
    subst ha
    have h0 : w.cell? ⟨b, 0, none⟩ = some (.pointer none) := by simp [World.cell?, hx1]
    have hsh : w.shape? b = some (87, 2) := by simp [World.shape?, hx1]
    have hfz : w.frozen? ⟨b, 0, none⟩ = false := Go.Lib.frozen_of_heap hx1 0
    refine (Any.Builder_copyCheck_fresh (P := Tryz.prog) lays240 Tryz.Builder_Extra_156.toX72 b w h0 hsh hfz).mono fun e w' he => ?_
    obtain ⟨rfl, rfl⟩ := he
    refine left_write (w := w) (w' := w.setCell ⟨b, 0, none⟩ (.pointer (some ⟨b, 0, none⟩))) (xs' := [.pointer (some ⟨b, 0, none⟩), c]) (cs' := [ptr b 0, v]) (lv := .atom (.tuple #[])) hH rfl rfl rfl (by simp [World.setCell]) (fun d hd => by simp [World.setCell, Array.getElem?_modify, Ne.symm hd]) (by rw [setCell_heap (xs := [.pointer none, c]) hx1]; rfl) rfl ?_ rep_atom ⟨⟨_, rfl⟩, rfl⟩
    simp only [RepL] at hx2 ⊢
    exact ⟨_, _, rfl, rep_atom, c, [], rfl, hc, rfl⟩
  · simp only [Rep] at ha
    subst ha
    have h0 : w.cell? ⟨b, 0, none⟩ = some (.pointer (some ⟨b, 0, none⟩)) := by simp [World.cell?, hx1]
    refine (Any.Builder_copyCheck_used (P := Tryz.prog) lays240 Tryz.Builder_Extra_156.toX72 b w h0).mono fun e w' he => ?_
    obtain ⟨rfl, rfl⟩ := he
    exact ⟨.atom (.tuple #[]), _, L, Fr.refl _ _ _, hH, rep_atom, ⟨_, rfl⟩, rfl⟩
attribute [local irreducible] LOps LCode LStep LCalls Go.GL.Pure QThen QBlock RetPost LQ LAny LLate LLateOp
theorem writeString_spec (b : Nat) (l m : List UInt8) (H : Heap) (hB : BH b l H) (hlen : l.length + m.length ≤ 10000000000) : LCalls (KC B0 w0) 49 [ptr b 0, str m] H (fun r H' => (∃ x, r = .ret x) ∧ BH b (l ++ m) H') := by
  obtain ⟨p, v, Hv, hp, hacc, rfl⟩ := hB
  refine LCalls.intro Tryz.func49 rfl (n := 19) rfl rfl rfl ?_
  repeat first
    | refine LOps.nil ?_
    | refine LCode.seq ?_
    | refine LCode.region ?_
    | refine QThen.normal ?_
    | refine LOps.pure (Pure.as (lv := .atom _) rfl) rfl ?_
    | refine LOps.pure (Pure.mv (lv := .atom _) rfl) rfl ?_
  refine LOps.step (S.callH (H1 := [(b, _)]) (F := Hv) [_] rfl (List.Perm.refl _) (copyCheck_spec b p (.atom v) hp) (fun x H' h => ?_) (fun ch H' h => ?_)) rfl
  · obtain ⟨⟨x', hx'⟩, rfl⟩ := h
    cases hx'
    repeat first
      | refine LOps.nil ?_
      | refine LCode.seq ?_
      | refine LCode.region ?_
      | refine QThen.normal ?_
      | refine LOps.pure (Pure.mv (lv := .atom _) rfl) rfl ?_
      | refine LOps.pure (Pure.nilCheckH rfl) rfl ?_
      | refine LOps.pure (Pure.fieldH rfl) rfl ?_
      | refine LOps.pure (Pure.loadH (c := .atom _) rfl (List.Mem.head _) rfl) rfl ?_
    refine LOps.step (S.appB1 (q := (b, .cells 87 [ptr b 0, .atom v])) (l := l) (m := m) rfl hacc rfl (by omega) fun v' H' hacc' => ?_) rfl
    repeat first
      | refine LOps.pure (Pure.nilCheckH rfl) rfl ?_
      | refine LOps.pure (Pure.fieldH rfl) rfl ?_
    have hacc2 := hacc'
    generalize l ++ m = lm at hacc' hacc2 ⊢
    cases hacc' with
    | nil =>
      repeat first
        | refine LOps.nil ?_
        | refine LCode.seq ?_
        | refine LCode.region ?_
        | refine LCode.ret ?_
        | refine QThen.normal ?_
        | refine LOps.pure (Pure.as (lv := .atom _) rfl) rfl ?_
        | refine LOps.pure (Pure.mv (lv := .atom _) rfl) rfl ?_
        | refine LOps.pure (Pure.slen rfl) rfl ?_
        | refine LOps.step (S.store (cs' := [_, _]) rfl Pick.here rfl rfl rfl rfl rfl ?_) rfl
      exact RetPost.ret rfl (AllRes.cons (ResIs.tmp (v := .atom _) rfl (LV.Sub.refl _)) (AllRes.cons (ResIs.tmp (v := .atom _) rfl (LV.Sub.refl _)) AllRes.nil)) (HSub.refl _) ⟨⟨_, rfl⟩, ptr b 0, _, _, .inr rfl, hacc2, rfl⟩
    | row h0 h1 h2 =>
      repeat first
        | refine LOps.nil ?_
        | refine LCode.seq ?_
        | refine LCode.region ?_
        | refine LCode.ret ?_
        | refine QThen.normal ?_
        | refine LOps.pure (Pure.as (lv := .atom _) rfl) rfl ?_
        | refine LOps.pure (Pure.mv (lv := .atom _) rfl) rfl ?_
        | refine LOps.pure (Pure.slen rfl) rfl ?_
        | refine LOps.step (S.store (cs' := [_, _]) rfl Pick.here rfl rfl rfl rfl rfl ?_) rfl
      exact RetPost.ret rfl (AllRes.cons (ResIs.tmp (v := .atom _) rfl (LV.Sub.refl _)) (AllRes.cons (ResIs.tmp (v := .atom _) rfl (LV.Sub.refl _)) AllRes.nil)) (HSub.refl _) ⟨⟨_, rfl⟩, ptr b 0, _, _, .inr rfl, hacc2, rfl⟩
  · obtain ⟨⟨x', hx'⟩, _⟩ := h
    cases hx'
end
end Go.Proofs.YtfodkbchknknjaaGreatDoor
namespace Go.Proofs.YtfodkbchknknjaaGreatDoor
open Go Go.Shelf Go.RowKit
section
variable {P : Program} {ρ : Ren}
set_option maxHeartbeats 4000000 in
set_option maxRecDepth 100000 in
theorem builder_string_row (L : Lays.n169 P ρ) (X : Builder.Extra P ρ) (b g : Nat) (p : Value) (l : List UInt8) (cur : Array Value) (w : World) (hbk : w.heap[b]? = some (.cells #[p, .slice (some ⟨g, 0, none⟩) l.length cur.size] (ρ.t 72) (0, 0)))
    (hg : w.heap[g]? = some (.cells cur (ρ.t 5) (0, 0))) (h0 : l ≠ []) (hn : l.length ≤ cur.size) (hbig : l.length ≤ 9223372036854775807) (hcell : ∀ (j : Nat) (x : UInt8), l[j]? = some x → cur[j]? = some (.int .u8 x.toNat)) :
    Calls P (ρ.f 169) #[.pointer (some ⟨b, 0, none⟩)] w fun e w' => e = .returned (.string ⟨l.toArray⟩) ∧ w' = w.drew.freeze ⟨g, 0, none⟩ l.length := by
  have hl0 : l.length ≠ 0 := by simpa using h0
  have c1 : w.drew.cell? ⟨b, 1, none⟩ = some (.slice (some ⟨g, 0, none⟩) l.length cur.size) := by
    have : w.drew.heap[b]? = some (.cells #[p, .slice (some ⟨g, 0, none⟩) l.length cur.size] (ρ.t 72) (0, 0)) := hbk
    rw [Lib.cell_of_heap this]; rfl
  have hSD : (Builtin.unsafeSliceData_ #[(ρ.t 37)] (ρ.t 127) #[.slice (some ⟨g, 0, none⟩) l.length cur.size]).run P w.drew = .ok (.pointer (some ⟨g, 0, none⟩)) w.drew :=
    Lib.run_unsafeSliceData_row _ _ _ _ _ _ (by omega)
  have hUS : (Builtin.unsafeString_ #[(ρ.t 127), (ρ.t 3)] (ρ.t 9) #[.pointer (some ⟨g, 0, none⟩), .int .i64 l.length]).run P w.drew = .ok (.string ⟨l.toArray⟩) (w.drew.freeze ⟨g, 0, none⟩ l.length) := by
    refine Lib.run_unsafeString_row w.drew (ρ.t 127) (ρ.t 3) (ρ.t 9) (ρ.t 5) L.t127 X.cellsByte g cur.size (by have hg' : w.drew.heap[g]? = some (.cells cur (ρ.t 5) (0, 0)) := hg; simp [World.shape?, hg']) l h0 hn hbig ?_
    intro j x hx
    have hg' : w.drew.heap[g]? = some (.cells cur (ρ.t 5) (0, 0)) := hg
    have := hcell j x hx
    rw [Go.GL.add_mk]
    simp [World.cell?, hg', this]
  have mixed := L.mixed
  have t72 := L.t72; have a72 := L.a72; have z72 := L.z72; have v72 := L.v72; have u72 := run_underlying L.t72
  have t70 := L.t70; have a70 := L.a70; have z70 := L.z70; have v70 := L.v70; have u70 := run_underlying L.t70
  have t37 := L.t37; have a37 := L.a37; have z37 := L.z37; have v37 := L.v37; have u37 := run_underlying L.t37
  have t127 := L.t127; have a127 := L.a127; have z127 := L.z127; have v127 := L.v127; have u127 := run_underlying L.t127
  have t3 := L.t3; have a3 := L.a3; have z3 := L.z3; have v3 := L.v3; have u3 := run_underlying L.t3
  have t9 := L.t9; have a9 := L.a9; have z9 := L.z9; have v9 := L.v9; have u9 := run_underlying L.t9
  have t5 := X.t5; have a5 := X.a5; have z5 := X.z5; have v5 := X.v5; have u5 := run_underlying X.t5
  go_enter L.f169, Body.n169_ntmps ρ
  go_wp2
  go_region_o
  all_goals (go_wp2; go_ret; exact ⟨rfl, rfl⟩)
end
open Go.GL Go.Stele
theorem lays169 : Lays.n169 Tryz.prog Tryz.lays156_ren := { Tryz.lays156 with }
section
variable {B0 : Nat} {w0 : World}
theorem fr_freeze {C : Ctx} {w : World} {L : Live} {H : Heap} (hH : RelH C w L H) {g n : Nat} (hm : g ∈ keys H) (hb : C.B0 ≤ g) : Fr (keys H) w L (w.drew.freeze ⟨g, 0, none⟩ n) L [] ∧ RelH C (w.drew.freeze ⟨g, 0, none⟩ n) L [] := by
  have hbl : ∀ c, c ≠ g → (w.drew.freeze ⟨g, 0, none⟩ n).heap[c]? = w.heap[c]? := fun c hc => by
    unfold World.freeze
    split
    · rfl
    · simp only [Array.getElem?_modify]
      rw [if_neg (Ne.symm hc)]
      rfl
  have hsz : (w.drew.freeze ⟨g, 0, none⟩ n).heap.size = w.heap.size := by
    unfold World.freeze
    split
    · rfl
    · simp
  have hsh : ∀ c, (w.drew.freeze ⟨g, 0, none⟩ n).shape? c = w.shape? c := fun c => by
    by_cases hc : c = g
    · subst hc
      unfold World.freeze
      split
      · rfl
      · simp only [World.shape?, Array.getElem?_modify, if_true]
        show (match Option.map _ w.heap[c]? with | some (Obj.cells c e _) => some (e, c.size) | _ => none) = _
        cases w.heap[c]? with
        | none => rfl
        | some o => cases o <;> rfl
    · exact shape_of_heap (hbl c hc)
  have hce : ∀ c i, (w.drew.freeze ⟨g, 0, none⟩ n).cell? ⟨c, i, none⟩ = w.cell? ⟨c, i, none⟩ := fun c i => by
    by_cases hc : c = g
    · subst hc
      unfold World.freeze
      split
      · rfl
      · simp only [World.cell?, Array.getElem?_modify, if_true]
        show (match Option.map _ w.heap[c]? with | some (Obj.cells c e _) => _ | _ => none) = _
        cases w.heap[c]? with
        | none => rfl
        | some o => cases o <;> rfl
    · exact cell_of_heap (hbl c hc) i
  have hos : (w.drew.freeze ⟨g, 0, none⟩ n).os = w.os ∧ (w.drew.freeze ⟨g, 0, none⟩ n).tape = w.tape ∧ (w.drew.freeze ⟨g, 0, none⟩ n).output = w.output := by
    unfold World.freeze
    split <;> exact ⟨rfl, rfl, rfl⟩
  exact ⟨⟨hos.1, hos.2.1, hos.2.2, ⟨Nat.le_of_eq hsz.symm, fun c _ => hsh c, fun c i _ => hce c i, fun _ => Nat.le_refl _⟩, fun c _ hc => hbl c (fun h => hc (h ▸ hm)), fun _ _ _ => rfl, by simp⟩,
    ⟨hH.base.trans ⟨hos.1, hos.2.1, hos.2.2, Nat.le_of_eq hsz.symm, fun c hc => hbl c (by omega)⟩, hH.lbase, by rw [hsz]; exact hH.b0, fun c hc => hH.wf c (by rw [hsz] at hc; exact hc), List.nodup_nil, by simp⟩⟩
theorem string_spec (b : Nat) (l : List UInt8) (H : Heap) (hB : BH b l H) (hlen : l.length ≤ 10000000000) : LCalls (KC B0 w0) 50 [ptr b 0] H (Ret (str l)) := fun xs w L hv hH => by
  obtain ⟨p, v, Hv, hp, hacc, rfl⟩ := hB
  simp only [RepL] at hv
  obtain ⟨y, ys, rfl, hy, rfl⟩ := hv
  simp only [Rep] at hy
  subst hy
  obtain ⟨hb0, hbs, hl, zs, hx1, hx2⟩ := hH.objs _ (List.mem_cons_self ..)
  simp only at hb0 hbs hl hx1 hx2
  simp only [RepL] at hx2
  obtain ⟨a, as1, rfl, ha, c, as2, rfl, hc, rfl⟩ := hx2
  simp only [Rep] at hc
  subst hc
  cases hacc with
  | nil =>
    refine (Any.Builder_String_nil (P := Tryz.prog) lays169 Tryz.Builder_Extra_156 w.heap.size b a w hx1).mono fun e w' he => ?_
    obtain ⟨rfl, hb⟩ := he
    obtain ⟨h1, h2⟩ := fr_below (hH.sub (List.nil_sublist _)) hb
    exact ⟨str [], [], L, h1.wide (by simp), h2, rep_atom, rfl, rfl⟩
  | row h0 h1 h2 =>
    rename_i g xs
    obtain ⟨hg0, hgs, hgl, ws, hw1, hw2⟩ := hH.objs _ (List.mem_cons_of_mem _ (List.mem_singleton.2 rfl))
    simp only at hg0 hgs hgl hw1
    have := repL_atoms_eq hw2
    subst this
    have hcell : ∀ (j : Nat) (x : UInt8), l[j]? = some x → ws.toArray[j]? = some (Value.int .u8 x.toNat) := fun j x hx => by
      have hj : (bytV l)[j]? = some (Value.int .u8 x.toNat) := by simp [bytV, hx]
      rw [← h2, List.getElem?_take] at hj
      split at hj
      · simpa using hj
      · cases hj
    refine (builder_string_row (P := Tryz.prog) lays169 Tryz.Builder_Extra_156 b g a l ws.toArray w hx1 hw1 h0 (by simpa using h1) (by omega) hcell).mono fun e w' he => ?_
    obtain ⟨rfl, rfl⟩ := he
    obtain ⟨f1, f2⟩ := fr_freeze (n := l.length) hH (g := g) (by simp) hg0
    exact ⟨str l, [], L, f1, f2, rep_atom, rfl, rfl⟩
end
end Go.Proofs.YtfodkbchknknjaaGreatDoor
