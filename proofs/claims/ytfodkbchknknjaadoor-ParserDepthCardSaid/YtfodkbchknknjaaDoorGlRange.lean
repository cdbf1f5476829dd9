/- A small logic over the walk's 'Code.wp': code within a round of a range over a function. -/
import Derived.Test.YtfodkbchknknjaaDoorGlMap
import Derived.RangeFuncFrom
import Derived.RangeFuncLeaves
import Derived.TacticsIn
set_option linter.unusedVariables false
set_option linter.unusedSimpArgs false
namespace Go.GL
open Go.RowKit
def noDefer : Op → Bool
  | .defer _ => false
  | _ => true
theorem callsIn_round {l n : Nat} {P : Program} {f : FuncId} {args : Array Value} {w : World} {R : Ending → World → Prop} (h : Calls P f args w R) : CallsIn (Fence.wide.inRound l) n P f args w R := (callsIn_wide (n := n)).2 h
theorem rowsIn_round {l n : Nat} {P : Program} {row : String} {args : Array Value} {w : World} {R : Value → World → Prop} (h : Rows P row args w R) : RowsIn (Fence.wide.inRound l) n P row args w R := fun c cs _ =>
  let ⟨v, w', r, s⟩ := h c cs
  ⟨v, w', r, stepsIn_wide.2 s⟩
theorem operIn_round {l n : Nat} {P : Program} {o : Oper} {a : Act} {w : World} {next next' : Act → World → Prop} {Q : Exit → Act → World → Prop} (ho : noDefer o.op = true)
    (hn : ∀ a w, next a w → next' a w) (h : o.wp P a w next Q) : o.wpIn (Fence.wide.inRound l) n P a w next' Q := by
  refine ⟨fun _ _ => trivial, ?_⟩
  have hs : o.semAt (Fence.wide.inRound l).round a.eval = execOp a.eval o := Oper.semAt_eq _ _ _ fun c hc => by rw [hc] at ho; cases ho
  rw [hs]
  unfold Oper.wp at h
  revert h
  generalize (execOp a.eval o).run P w = r
  intro h
  cases r with
  | ok x w' =>
    cases x with
    | value v => exact hn _ _ h
    | skip => exact hn _ _ h
    | defer d => exact hn _ _ h
    | enter f args =>
      refine ⟨fun hd => (by cases hd), callsIn_round (Calls.mono h ?_)⟩
      intro e w'' he
      cases e with
      | returned v => exact hn _ _ he
      | panicked ch => exact he
      | outgrown => exact he
    | row row args =>
      refine ⟨fun hd => (by cases hd), rowsIn_round (Rows.mono h ?_)⟩
      intro v w'' he
      exact hn _ _ he
    | _ => exact h.elim
  | halt x w' =>
    cases x <;> first | exact h | exact h.elim
theorem listIn_round {l n : Nat} {P : Program} {ops : Array Oper} {Q : Exit → Act → World → Prop} (hQ : ¬ LetsOut Q) : ∀ (rest : List Oper) (a : Act) (w : World), (∀ o ∈ rest, noDefer o.op = true) → wpList P ops Q rest a w → wpListIn (Fence.wide.inRound l) n P ops Q rest a w
  | [], _, _, _, h => h
  | o :: rest, a, w, ho, h => by
    unfold wpList at h
    unfold wpListIn
    split at h
    · rename_i hw
      rw [if_pos hw]
      rcases h with h | ⟨_, h⟩
      · exact operIn_round (ho o List.mem_cons_self) (fun a w h => listIn_round hQ rest a w (fun o h => ho o (List.mem_cons_of_mem _ h)) h) h
      · exact absurd h hQ
    · rename_i hw
      rw [if_neg hw]
      exact ⟨fun _ _ => trivial, listIn_round hQ rest _ _ (fun o h => ho o (List.mem_cons_of_mem _ h)) h⟩
/-- A region in a round. -/
theorem regionIn_round {l n id : Nat} {P : Program} {ops : List Oper} {Q : Exit → Act → World → Prop} {a : Act} {w : World} (hQ : ¬ LetsOut Q) (ho : ops.all (fun o => noDefer o.op) = true) (h : wpList P ops.toArray Q ops a w) :
    (Code.region id ops.toArray false).wpIn (Fence.wide.inRound l) n P Q a w := wpIn_region_lit (listIn_round hQ ops a w (by simpa using ho) h)
end Go.GL
/- A small logic over the walk's 'Code.wp': a range over a function whose rounds all go on. -/
namespace Go.GL
open Go.RowKit
/-- An object that is kept turns. -/
theorem turn_obj {C : Ctx} {w : World} {L : Live} {b : Nat} {o o' : Obj} {F : Heap} (hH : RelH C w L ((b, .obj o) :: F)) (ho' : noCells o' = true) :
    Fr (keys ((b, LObj.obj o) :: F)) w L (w.putObj b o') L ((b, .obj o') :: F) ∧ RelH C (w.putObj b o') L ((b, .obj o') :: F) := by
  have h1 : RelH C w L ([(b, .obj o)] ++ F) := hH
  have hlt : b < w.heap.size := (hH.objs _ List.mem_cons_self).2.1
  have h2 : Left C w L [(b, .obj o)] (w.putObj b o') undef (fun _ H' => H' = [(b, .obj o')]) :=
    left_obj (w' := w.putObj b o') h1.left ho' rfl rfl rfl (by simp [World.putObj]) (fun c hc => World.putObj_heap_other hc) (World.putObj_heap_same hlt) (v := undef) (lv := .atom undef) (fun _ => rep_atom) rfl
  obtain ⟨lv, H', L', g1, g2, g3, rfl⟩ := h2
  have hL : L' = L := by
    funext c
    obtain ⟨_, _, hl, _⟩ := h1.left.objs _ List.mem_cons_self
    obtain ⟨_, _, hl', _⟩ := g2.objs _ List.mem_cons_self
    by_cases he : c = b
    · subst he; rw [hl, hl']
    · rcases Nat.lt_or_ge c w.heap.size with hc | hc
      · exact g1.lsame c hc (by simpa using he)
      · rw [h1.wf c hc, g2.wf c (by simpa [World.putObj] using hc)]
  subst hL
  have := h1.frame g1 g2
  exact ⟨this.2, this.1⟩
theorem alloc_obj {C : Ctx} {w : World} {L : Live} {o : Obj} {F : Heap} (hH : RelH C w L F) (ho : noCells o = true) :
    ∃ L', Fr (keys F) w L (w.alloc o) L' ((w.heap.size, .obj o) :: F) ∧ RelH C (w.alloc o) L' ((w.heap.size, .obj o) :: F) := by
  have h1 : RelH C w L ([] ++ F) := hH
  have := fr_push h1.left o 0 [(w.heap.size, .obj o)] (fun p hp => by
    simp only [List.mem_singleton] at hp
    subst hp
    exact ⟨rfl, by simp [Live.upd], heap_push_self, shape_none heap_push_self ho⟩) (by simp)
  have := h1.frame this.1 this.2
  exact ⟨_, this.2, this.1⟩
/-- Code within a round. -/
def LCodeR (C : Ctx) (l n : Nat) (c : Code) (Q : Post) (e : Env) (H : Heap) : Prop :=
  ∀ a w L, RelE n a e w L → RelH C w L H → ∀ m, c.wpIn (Fence.wide.inRound l) m C.P (lift C n w L (keys H) Q) a w
/-- The round goes on. -/
def QOn (k : Env → Heap → Prop) : Post
  | .normal, e, H => k e H
  | _, _, _ => False
section round
variable {C : Ctx} {l n : Nat} {e : Env} {H : Heap} {k : Env → Heap → Prop}
theorem LCodeR.region {id : Nat} {ops : List Oper} (ho : ops.all (fun o => noDefer o.op) = true) (h : LOps C n ops.toArray (QThen k (QOn k)) ops e H) : LCodeR C l n (.region id ops.toArray false) (QOn k) e H := fun a w L hE hH m => by
  refine regionIn_round ?_ ho (wpList_mono ?_ _ _ _ (h a w L hE hH))
  · rintro ⟨a', w', e', H', L', _, _, _, hq⟩
    exact hq
  · rintro ex a' w' hq
    refine lift_mono ?_ hq
    intro x e H h
    cases x <;> exact h
theorem LCodeR.skip (h : k e H) : LCodeR C l n .skip (QOn k) e H := fun a w L hE hH m => wpIn_skip ⟨e, H, L, Fr.refl _ _ _, hH, hE, h⟩
theorem LCodeR.seq {x y : Code} (h : LCodeR C l n x (QOn fun e H => LCodeR C l n y (QOn k) e H) e H) : LCodeR C l n (.seq x y) (QOn k) e H := fun a w L hE hH m => by
  refine wpIn_seq (wpIn_mono (h a w L hE hH m) fun ex a' w' hq => ?_)
  obtain ⟨e', H', L', h1, h2, h3, h4⟩ := hq
  cases ex with
  | normal => exact wpIn_mono (h4 a' w' L' h3 h2 m) fun _ _ _ => lift_trans h1
  | exit id => exact h4.elim
  | goto id => exact h4.elim
  | ret => exact h4.elim
  | panic ch => exact h4.elim
  | outgrown => exact h4.elim
theorem LCodeR.block {id : Nat} {c : Code} (h : LCodeR C l n c (QOn k) e H) : LCodeR C l n (.block id c) (QOn k) e H := fun a w L hE hH m => by
  refine wpIn_block (wpIn_mono (h a w L hE hH m) fun ex a' w' hq => ?_)
  obtain ⟨e', H', L', h1, h2, h3, h4⟩ := hq
  cases ex with
  | normal => exact ⟨e', H', L', h1, h2, h3, h4⟩
  | exit id => exact h4.elim
  | goto id => exact h4.elim
  | ret => exact h4.elim
  | panic ch => exact h4.elim
  | outgrown => exact h4.elim
end round
theorem yieldAt_mono {F : Fence} {m : Nat} {P : Program} {l : Nat} {args : Array Value} {W : World} {R R' : Ending → World → Prop} (h : YieldAt F m P l args W R) (hr : ∀ e w, R e w → R' e w) : YieldAt F m P l args W R' := by
  obtain ⟨fn, tmps, assign, body, hy, hR⟩ := h
  exact ⟨fn, tmps, assign, body, hy, hR.mono hr⟩
/-- A call of yield. -/
def LYield (C : Ctx) (l : Nat) (args : List LV) (H : Heap) (K : Heap → Prop) : Prop :=
  ∀ (vs : List Value) w L, RepL w L args vs → RelH C w L H → ∀ m, YieldAt Fence.wide m C.P l vs.toArray w fun e w' => e = .returned (.bool true) ∧ LeftX C w L H w' K
theorem LYield.frame {C : Ctx} {l : Nat} {args : List LV} {G H F : Heap} {K : Heap → Prop} (p : G.Perm (H ++ F)) (h : LYield C l args H fun H' => K (H' ++ F)) : LYield C l args G K := fun vs w L h1 h2 m => by
  have h3 := h2.perm p
  refine yieldAt_mono (h vs w L h1 h3.left m) ?_
  rintro e w' ⟨he, hx⟩
  obtain ⟨H', L', g1, g2, g3⟩ := LeftX.frame h3 hx
  exact ⟨he, H', L', g1.perm p.symm, g2, g3⟩
theorem LYield.mono {C : Ctx} {l : Nat} {args : List LV} {H : Heap} {K K' : Heap → Prop} (h : LYield C l args H K) (hk : ∀ H, K H → K' H) : LYield C l args H K' := fun vs w L h1 h2 m => yieldAt_mono (h vs w L h1 h2 m) fun _ _ hx => ⟨hx.1, hx.2.mono hk⟩
/-- What an iterator does: it calls yield N times, with the values xs. -/
def LIter (C : Ctx) (gf : FuncId) (caps : List LV) (Hc : Heap) (N : Nat) (xs : Nat → List LV) : Prop :=
  ∀ (l : Nat) (J : Nat → Heap → Prop), (∀ k H, k < N → J k H → LYield C l (xs k) H (J (k + 1))) → ∀ H0, J 0 H0 →
    LCalls C gf (.atom (.func (.yield l) #[] #[]) :: caps) (H0 ++ Hc) (fun r H' => (∃ v, r = .ret v) ∧ ∃ H1, H' = H1 ++ Hc ∧ J N H1)
/-- The slots that the round's parameters fill. -/
def Env.round (j : Env) : List (Nat × LV) → Env
  | [] => j
  | (d, v) :: r => Env.round (j.upd d v) r
theorem RelE.rounds {n : Nat} {w : World} {L : Live} : ∀ (ps : List Nat) (lvs : List LV) (vs : List Value) (tmps : Array Value) (j : Env), RelE n { tmps, defers := [] } j w L → RepL w L lvs vs → ps.length = lvs.length → ps.all (fun p => Nat.blt p n) = true →
    RelE n { tmps := (ps.zip vs).foldl (fun t p => t.setIfInBounds p.1 p.2) tmps, defers := [] } (Env.round j (ps.zip lvs)) w L
  | [], lvs, vs, tmps, j, h, _, _, _ => by simpa [Env.round] using h
  | p :: ps, [], vs, tmps, j, h, _, hl, _ => by simp at hl
  | p :: ps, lv :: lvs, vs, tmps, j, h, hr, hl, hp => by
    simp only [RepL] at hr
    obtain ⟨y, ys, rfl, hy, hr⟩ := hr
    simp only [List.all_cons, Bool.and_eq_true] at hp
    have := RelE.put (dst := some p) h (by simp only [dstOk, dstB]; exact hp.1) hy
    simp only [List.zip_cons_cons, List.foldl_cons, Env.round]
    exact RelE.rounds ps lvs ys _ _ this hr (by simpa using hl) hp.2
/-- A flat reading of an activation. -/
def Act.flat (a : Act) : Env := ⟨fun i => .atom (a.tmps.getD i undef), []⟩
theorem Act.flat_rel {n : Nat} {a : Act} {w : World} {L : Live} (hn : a.tmps.size = n) : RelE n { tmps := a.tmps, defers := [] } (Act.flat a) w L := ⟨hn, rfl, fun _ => rep_atom⟩
section range
variable {C : Ctx} {n : Nat} {e : Env} {H : Heap} {Q : Post}
theorem LCode.rangeFunc {g : Operand} {ps : List Nat} {assign body : Code} {gf : FuncId} [TEnter C.P gf] {caps : Array Value} (hg : e.ev g = .atom (.func (.func gf) #[] caps)) (N : Nat) (xs : Nat → List LV) (H0 Hc : Heap) (hp : H.Perm (H0 ++ Hc))
    (hiter : LIter C gf (caps.toList.map .atom) Hc N xs) (hps : ∀ k, k < N → ps.length = (xs k).length) (hpn : ps.all (fun p => Nat.blt p n) = true)
    (J : Nat → Heap → Prop) (h0 : J 0 H0)
    (round : ∀ k H, k < N → J k H → ∀ j : Env, j.ds = [] → (∀ i v, e.s i = .atom v → j.s i = .atom v) → ∀ (l D : Nat) (o oD : LObj), LCodeR C l n assign (QOn fun e1 H1 => e1.ds = [] ∧ ∃ H1', H1 = (l, o) :: (D, oD) :: H1' ∧ (∀ o' : LObj, LCodeR C l n body (QOn fun _ H2 => ∃ H2', HSub ((l, o') :: (D, oD) :: H2') H2 ∧ J (k + 1) H2') e1 ((l, o') :: (D, oD) :: H1'))) (Env.round j (ps.zip (xs k))) ((l, o) :: (D, oD) :: H))
    (done : ∀ D H', J N H' → Q .normal ⟨e.s, { target := .collected D, args := #[] } :: e.ds⟩ ((D, .obj (.deferred (some []))) :: (H' ++ Hc))) :
    LCode C n (.rangeFunc g ps.toArray assign body) Q e H := fun a w L hE hH => by
  refine wpIn_wide (n := 1) |>.1 (wpIn_rangeFunc fun fn _ => ?_)
  have hgv : a.eval g = .func (.func gf) #[] caps := by
    have := hE.ev g
    rw [hg] at this
    simpa only [Rep] using this
  obtain ⟨rec, hrec⟩ : ∃ rec : LoopState → Option Code → Loop, rec = fun st pe => { state := st, pending := pe, fn, tmps := a.tmps, params := ps.toArray, assign, body, defers := w.heap.size } := ⟨_, rfl⟩
  obtain ⟨L1, f1, r1⟩ := alloc_obj (o := .deferred (some [])) (hH.perm hp) rfl
  obtain ⟨L2, f2, r2⟩ := alloc_obj (o := .loop (rec .ready none)) r1 rfl
  have hsz : (w.alloc (.deferred (some []))).heap.size = w.heap.size + 1 := World.size_alloc ..
  rw [hsz] at f2 r2
  have hrec0 : rec .ready none = { state := .ready, pending := none, fn, tmps := a.tmps, params := ps.toArray, assign, body, defers := w.heap.size } := by rw [hrec]
  refine ⟨w.heap.size + 1, [{ target := .collected w.heap.size, args := #[] }], (w.alloc (.deferred (some []))).alloc (.loop (rec .ready none)), { target := .fn (.func gf) caps, args := #[.func (.yield (w.heap.size + 1)) #[] #[]] }, (w.alloc (.deferred (some []))).alloc (.loop (rec .ready none)), gf,
    #[.func (.yield (w.heap.size + 1)) #[] #[]] ++ caps, (w.alloc (.deferred (some []))).alloc (.loop (rec .ready none)), ?_, ?_, fun _ _ => trivial, ?_, fun _ => Nat.le_refl _, callsIn_wide.2 ?_⟩
  · rw [hrec0]; exact run_enterLoop_outer _ _ _ _ _
  · simp only [resolve, hgv]
    simp [go_sem]
  · simp only [invoke]
    exact run_callFunc _ _
  · obtain ⟨l, hl⟩ : ∃ l, l = w.heap.size + 1 := ⟨_, rfl⟩
    obtain ⟨D, hD⟩ : ∃ D, D = w.heap.size := ⟨_, rfl⟩
    rw [← hl, ← hD] at f2 r2 ⊢
    rw [← hD] at r1 f1
    have hc := hiter l (fun k H => ∃ H1, H = (l, .obj (.loop (rec .ready none))) :: (D, .obj (.deferred (some []))) :: H1 ∧ J k H1) ?_ ((l, .obj (.loop (rec .ready none))) :: (D, .obj (.deferred (some []))) :: H0) ⟨H0, rfl, h0⟩
    · have h1 := hc (.func (.yield l) #[] #[] :: caps.toList) _ L2 (by simp only [RepL, Rep]; exact ⟨_, _, rfl, rfl, repL_atoms _⟩) r2
      have e1 : (Value.func (.yield l) #[] #[] :: caps.toList).toArray = #[.func (.yield l) #[] #[]] ++ caps := by
        apply Array.ext'
        simp
      rw [e1] at h1
      refine Calls.mono h1 ?_
      rintro ex w' hx
      cases ex with
      | returned v =>
        obtain ⟨lv, H', L', g1, g2, g3, _, H1, rfl, H1', rfl, hJ⟩ := hx
        have g2' : RelH C w' L' ((l, .obj (.loop (rec .ready none))) :: ((D, .obj (.deferred (some []))) :: (H1' ++ Hc))) := g2
        obtain ⟨_, _, _, hlo, _⟩ := g2'.objs _ List.mem_cons_self
        have hlo' : w'.heap[l]? = some (.loop (rec .ready none)) := hlo
        have hpe : (rec .ready none).pending = none := by rw [hrec]
        have hend := (run_endLoop (P := C.P) hlo' (by rw [hrec]; simp)).trans (congrArg (fun p => Result.ok p _) hpe)
        have ht := turn_obj (o' := .loop { rec .ready none with state := .exhausted }) g2' rfl
        refine ⟨none, _, hend, ?_⟩
        have hs : HSub ((D, LObj.obj (.deferred (some []))) :: (H1' ++ Hc)) ((l, .obj (.loop { rec .ready none with state := .exhausted })) :: ((D, .obj (.deferred (some []))) :: (H1' ++ Hc))) := HSub.drop (HSub.refl _)
        refine ⟨⟨e.s, { target := .collected D, args := #[] } :: e.ds⟩, (D, .obj (.deferred (some []))) :: (H1' ++ Hc), L', ?_, ht.2.weak hs, ⟨?_, ?_, ?_⟩, done D H1' hJ⟩
        · exact Fr.perm hp.symm ((f1.trans (f2.trans (g1.trans ht.1))).weak hs)
        · exact hE.size
        · show _ :: a.defers = _
          rw [hE.ds]
        · exact fun i => (hE.vals i).mono (f1.ext.trans (f2.ext.trans (g1.ext.trans ht.1.ext))) _ _
      | panicked ch =>
        obtain ⟨H', L', g1, g2, ⟨v, hv⟩, _⟩ := hx
        cases hv
      | outgrown => exact hx.elim
    · rintro k H hk ⟨H1, rfl, hJ⟩ vs w1 Lw hvs hr m
      obtain ⟨_, _, _, hlo, _⟩ := hr.objs _ List.mem_cons_self
      have hlo' : w1.heap[l]? = some (.loop (rec .ready none)) := hlo
      have hlen := hvs.length
      have hpk := hps k hk
      have hy := run_yield (P := C.P) (args := vs.toArray) hlo' (by rw [hrec]; simp; omega)
      rw [hrec] at hy
      refine ⟨fn, _, assign, body, hy, roundIn_of_wpIn trivial ?_⟩
      have htm : RelE n { tmps := a.tmps, defers := [] } (Act.flat a) w1 Lw := Act.flat_rel hE.size
      have htm2 := RelE.rounds ps (xs k) vs a.tmps (Act.flat a) htm hvs hpk hpn
      have e2 : (ps.toArray.zip vs.toArray).foldl (fun tmps (t, a) => tmps.setIfInBounds t a) a.tmps = (ps.zip vs).foldl (fun t p => t.setIfInBounds p.1 p.2) a.tmps := by
        simp
      simp only [e2]
      refine wpIn_mono (round k H1 hk hJ (Act.flat a) rfl ?_ l D _ _ _ w1 Lw htm2 hr m) ?_
      · intro i v hv
        have := hE.vals i
        rw [hv] at this
        simp only [Rep] at this
        simp only [Act.flat, this]
      · rintro ex a1 w2 ⟨e1, H2, L2', q1, q2, q3, q4⟩
        cases ex with
        | normal =>
          obtain ⟨hds, H2', rfl, hb⟩ := q4
          obtain ⟨_, _, _, hlo2, _⟩ := q2.objs _ List.mem_cons_self
          have hlo2' : w2.heap[l]? = some (.loop (rec .ready none)) := hlo2
          have ht := turn_obj (o' := .loop { rec .ready none with state := .busy }) q2 rfl
          refine ⟨_, run_beginRound hlo2' (by rw [hrec]), ?_⟩
          refine wpIn_mono (hb (.obj (.loop { rec .ready none with state := .busy })) a1 _ L2' (q3.mono ht.1.ext) ht.2 m) ?_
          rintro ex a3 w3 ⟨e3, H3, L3, p1, p2, p3, p4⟩
          cases ex with
          | normal =>
            obtain ⟨H3', hs3, hJ3⟩ := p4
            have p2' := p2.weak hs3
            obtain ⟨_, _, _, hlo3, _⟩ := p2'.objs _ List.mem_cons_self
            have hlo3' : w3.heap[l]? = some (.loop { rec .ready none with state := .busy }) := hlo3
            have ht3 := turn_obj (o' := .loop (rec .ready none)) p2' rfl
            have hend := run_endRound (P := C.P) none hlo3'
            have e3 : ({ { rec .ready none with state := .busy } with state := if (none : Option Code).isNone then .ready else .done, pending := none } : Loop) = rec .ready none := by rw [hrec]; rfl
            rw [e3] at hend
            refine ⟨.bool true, _, hend, rfl, ?_⟩
            exact ⟨_, L3, q1.trans (ht.1.trans ((p1.weak hs3).trans ht3.1)), ht3.2, H3', rfl, hJ3⟩
          | exit id => exact p4.elim
          | goto id => exact p4.elim
          | ret => exact p4.elim
          | panic ch => exact p4.elim
          | outgrown => exact p4.elim
        | exit id => exact q4.elim
        | goto id => exact q4.elim
        | ret => exact q4.elim
        | panic ch => exact q4.elim
        | outgrown => exact q4.elim
end range
/-! ### The iterator's own call of yield -/
theorem operIn_wide {n : Nat} {P : Program} {o : Oper} {a : Act} {w : World} {next next' : Act → World → Prop} {Q : Exit → Act → World → Prop}
    (hQ : ¬ LetsOut Q) (hn : ∀ a w, next a w → next' a w) (h : o.wp P a w next Q) : o.wpIn Fence.wide n P a w next' Q := by
  refine ⟨fun _ _ => trivial, ?_⟩
  have hs : o.semAt (Fence.wide).round a.eval = execOp a.eval o := rfl
  rw [hs]
  unfold Oper.wp at h
  revert h
  generalize (execOp a.eval o).run P w = r
  intro h
  cases r with
  | ok x w' =>
    cases x with
    | value v => exact hn _ _ h
    | skip => exact hn _ _ h
    | defer d => exact hn _ _ h
    | enter f args =>
      refine ⟨fun hd => (by cases hd), callsIn_wide.2 (Calls.mono h ?_)⟩
      intro e w'' he
      cases e with
      | returned v => exact hn _ _ he
      | panicked ch => exact he
      | outgrown => exact absurd he hQ
    | row row args =>
      refine ⟨fun hd => (by cases hd), ?_⟩
      exact fun c cs _ =>
        let ⟨v, w', r, s⟩ := (Rows.mono h fun v w'' he => hn _ _ he) c cs
        ⟨v, w', r, stepsIn_wide.2 s⟩
    | _ => exact h.elim
  | halt x w' =>
    cases x <;> first | exact h | exact h.elim
theorem listIn_wide {n : Nat} {P : Program} {ops : Array Oper} {Q : Exit → Act → World → Prop} (hQ : ¬ LetsOut Q) : ∀ (rest : List Oper) (a : Act) (w : World), wpList P ops Q rest a w → wpListIn Fence.wide n P ops Q rest a w
  | [], a, w, h => h
  | o :: rest, a, w, h => by
    unfold wpList at h
    unfold wpListIn
    split at h
    · rename_i hw
      rw [if_pos hw]
      rcases h with h | ⟨_, h⟩
      · exact operIn_wide hQ (fun a w h => listIn_wide hQ rest a w h) h
      · exact absurd h hQ
    · rename_i hw
      rw [if_neg hw]
      exact ⟨fun _ _ => trivial, listIn_wide hQ rest _ _ h⟩
/-- A region that calls yield. -/
def LOpsW (C : Ctx) (n : Nat) (ops : Array Oper) (Q : Post) (rest : List Oper) (e : Env) (H : Heap) : Prop :=
  ∀ a w L, RelE n a e w L → RelH C w L H → wpListIn Fence.wide 1 C.P ops (lift C n w L (keys H) Q) rest a w
section W
variable {C : Ctx} {n : Nat} {ops : Array Oper} {Q : Post} {e : Env} {H : Heap}
theorem not_out {w : World} {L : Live} {K : List Nat} (hQ : ∀ e H, ¬ Q .outgrown e H) : ¬ LetsOut (lift C n w L K Q) := by
  rintro ⟨a', w', e', H', L', _, _, _, hq⟩
  exact hQ _ _ hq
theorem LOpsW.of {rest : List Oper} (hQ : ∀ e H, ¬ Q .outgrown e H) (h : LOps C n ops Q rest e H) : LOpsW C n ops Q rest e H := fun a w L hE hH => listIn_wide (not_out hQ) _ _ _ (h a w L hE hH)
theorem LOpsW.nil (h : Q .normal e H) : LOpsW C n ops Q [] e H := fun _ _ L hE hH => ⟨e, H, L, Fr.refl _ _ _, hH, hE, h⟩
theorem wpListIn_mono {F : Fence} {m : Nat} {P : Program} {Q Q' : Exit → Act → World → Prop} (h : ∀ e a w, Q e a w → Q' e a w) (ho : LetsOut Q → LetsOut Q') : ∀ (l : List Oper) (a : Act) (w : World), wpListIn F m P ops Q l a w → wpListIn F m P ops Q' l a w
  | [], _, _, k => h _ _ _ k
  | o :: l, a, w, k => by
    unfold wpListIn at k ⊢
    split at k
    · rename_i hw
      rw [if_pos hw]
      refine ⟨k.1, ?_⟩
      have k2 := k.2
      generalize (o.semAt F.round a.eval).run P w = r at k2 ⊢
      cases r with
      | ok x w' =>
        cases x with
        | value v => exact wpListIn_mono h ho l _ _ k2
        | skip => exact wpListIn_mono h ho l _ _ k2
        | defer d => exact wpListIn_mono h ho l _ _ k2
        | enter f args =>
          refine ⟨k2.1, k2.2.mono fun e w'' he => ?_⟩
          cases e with
          | returned v => exact wpListIn_mono h ho l _ _ he
          | panicked ch => exact h _ _ _ he
          | outgrown => exact ho he
        | row row args =>
          refine ⟨k2.1, fun c cs hr => ?_⟩
          obtain ⟨v, w2, r2, s2⟩ := k2.2 c cs hr
          exact ⟨v, w2, wpListIn_mono h ho l _ _ r2, s2⟩
        | round l' f tmps as bd =>
          refine ⟨k2.1, k2.2.mono fun e w'' he => ?_⟩
          cases e with
          | returned v => exact wpListIn_mono h ho l _ _ he
          | panicked ch => exact h _ _ _ he
          | outgrown => exact ho he
        | _ => exact k2.elim
      | halt x w' => cases x <;> first | exact h _ _ _ k2 | exact k2.elim
    · rename_i hw
      rw [if_neg hw]
      exact ⟨k.1, wpListIn_mono h ho l _ _ k.2⟩
theorem lift_out {w w1 : World} {L L1 : Live} {K : List Nat} {H1 : Heap} (f : Fr K w L w1 L1 H1) : LetsOut (lift C n w1 L1 (keys H1) Q) → LetsOut (lift C n w L K Q) := fun ⟨a, w', h⟩ => ⟨a, w', lift_trans f h⟩
theorem LOpsW.pure {dst : Option Nat} {op : Op} {ty : TypeId} {pos : String} {aft : Array Edge} {rest : List Oper} {lv : LV}
    (h : Pure C ⟨dst, op, ty, pos, aft, none⟩ e H lv) (hd : dstOk n dst) (k : LOpsW C n ops Q rest (e.put dst lv) H) : LOpsW C n ops Q (⟨dst, op, ty, pos, aft, none⟩ :: rest) e H := fun a w L hE hH => by
  obtain ⟨v, hv, hr⟩ := h a.eval w L hE.ev hH
  unfold wpListIn
  rw [if_pos (by simp [Region.wanted])]
  refine ⟨fun _ _ => trivial, ?_⟩
  have hs : Oper.semAt (Fence.wide).round a.eval ⟨dst, op, ty, pos, aft, none⟩ = execOp a.eval ⟨dst, op, ty, pos, aft, none⟩ := rfl
  rw [hs, hr w ⟨fun _ _ => rfl, fun _ _ _ => rfl⟩]
  exact k _ w L (hE.put hd hv) hH
theorem LOpsW.yield {dst : Option Nat} {fo : Operand} {l : Nat} {args : List Operand} {ats : Array TypeId} {as : List LV} {ty : TypeId} {pos : String} {aft : Array Edge} {rest : List Oper} {K : Heap → Prop} (hf : e.ev fo = .atom (.func (.yield l) #[] #[]))
    (has : args.map e.ev = as) (hy : LYield C l as H K) (hd : dstOk n dst) (k : ∀ H', K H' → LOpsW C n ops Q rest (e.put dst (bool true)) H') : LOpsW C n ops Q (⟨dst, .call { callee := .value fo, args := args.toArray, argTypes := ats }, ty, pos, aft, none⟩ :: rest) e H := fun a w L hE hH => by
  subst has
  have hv := hE.ev fo
  rw [hf] at hv
  simp only [Rep] at hv
  obtain ⟨fn, tmps, assign, body, h1, h2⟩ := hy (args.map a.eval) w L (repL_ev hE.ev _) hH 0
  unfold wpListIn
  rw [if_pos (by simp [Region.wanted])]
  refine ⟨fun _ _ => trivial, ?_⟩
  have h3 : Oper.semAt (Fence.wide).round a.eval ⟨dst, .call { callee := .value fo, args := args.toArray, argTypes := ats }, ty, pos, aft, none⟩ = (do let d ← Deferred.ofValue (a.eval fo) (args.toArray.map a.eval); invoke d.target d.args) := rfl
  have h4 : (do let d ← Deferred.ofValue (.func (.yield l) #[] #[]) (args.toArray.map a.eval); invoke d.target d.args : Sem Next).run C.P w = .ok (.round l fn tmps assign body) w := by
    simp only [Deferred.ofValue, Sem.run_bind, Sem.run_pure, Result.andThen_ok, invoke]
    rw [← h1]
    simp
  rw [h3, hv, h4]
  refine ⟨fun _ => Nat.le_refl _, h2.mono ?_⟩
  rintro ex w' ⟨rfl, H', L', g1, g2, g3⟩
  exact wpListIn_mono (fun _ _ _ => lift_trans g1) (lift_out g1) _ _ _ (k H' g3 _ w' L' ((hE.mono g1.ext).put hd rep_atom) g2)
theorem LCode.regionW {id : Nat} {l : List Oper} (h : LOpsW C n l.toArray Q l e H) : LCode C n (.region id l.toArray false) Q e H := fun a w L hE hH => wpIn_wide (n := 1) |>.1 (wpIn_region_lit (h a w L hE hH))
end W
/-- Entering a function that ranges over a function: the mark of its rounds is among its deferred calls. -/
def RetPostM (C : Ctx) (n : Nat) (rs : List ResultVar) (R : LRes → Heap → Prop) : Post
  | .normal, e, H | .ret, e, H => ∃ D F, e.ds = [{ target := .collected D, args := #[] }] ∧ H.Perm ((D, .obj (.deferred (some []))) :: F) ∧ ∃ vs H', AllRes C n e F rs vs ∧ HSub H' F ∧ R (.ret (resLV vs)) H'
  | .panic ch, e, H => (e.ds = [] ∧ ∃ H', HSub H' H ∧ R (.panic ch) H') ∨ ∃ D F, e.ds = [{ target := .collected D, args := #[] }] ∧ H.Perm ((D, .obj (.deferred (some []))) :: F) ∧ ∃ H', HSub H' F ∧ R (.panic ch) H'
  | _, _, _ => False
theorem LCalls.introM {C : Ctx} {f : FuncId} {fn : Func} {c : Code} {n : Nat} {args : List LV} {H : Heap} {R : LRes → Heap → Prop} (hf : C.P.funcs[f]? = some fn) (hb : fn.body = some c) (hn : fn.ntmps = n) (h3 : Nat.ble fn.results.size 3 = true)
    (hl : Nat.ble args.length n = true) (h : LCode C n c (RetPostM C n fn.results.toList R) (argsEnv args) H) : LCalls C f args H R := fun vs w L hv hH => by
  subst hn
  have hl' : args.length ≤ fn.ntmps := by simpa using hl
  have h3' : fn.results.size ≤ 3 := by simpa using h3
  have hlen := hv.length
  refine callsIn_wide.1 (callsIn_of_wp_marks (F := Fence.wide) (n := 1) hf hb trivial (wpIn_wide.2 (Go.wp_mono (h _ w L ⟨?_, rfl, fun i => ?_⟩ hH) fun ex a' w' hq => ?_)))
  · simp; omega
  · simp only [argsEnv]
    rw [Array.getD_eq_getD_getElem?]
    rcases Nat.lt_or_ge i args.length with hi | hi
    · rw [List.getElem?_eq_getElem hi]
      obtain ⟨x, hx, hr⟩ := hv.get (List.getElem?_eq_getElem hi)
      have hxi : (vs.toArray ++ Array.replicate (fn.ntmps - vs.toArray.size) undef)[i]? = some x := by
        rw [Array.getElem?_append_left (by simp; omega)]
        simpa using hx
      rw [hxi]
      exact hr
    · rw [List.getElem?_eq_none hi]
      have hxi : ((vs.toArray ++ Array.replicate (fn.ntmps - vs.toArray.size) undef)[i]?).getD undef = undef := by
        rw [Array.getElem?_append_right (by simp; omega)]
        rw [Array.getElem?_replicate]
        split <;> rfl
      rw [hxi]
      simp only [Option.getD_none, Rep]
  · obtain ⟨e', H', L', g1, g2, g3, g4⟩ := hq
    have turn : ∀ {D F}, H'.Perm ((D, LObj.obj (.deferred (some []))) :: F) → (Instr.takeDeferred D).run C.P w' = .ok [] (w'.putObj D (.deferred none)) ∧ Fr (keys H) w L (w'.putObj D (.deferred none)) L' F ∧ RelH C (w'.putObj D (.deferred none)) L' F ∧ Ext w' L' (w'.putObj D (.deferred none)) L' := fun {D F} hp => by
      have g2' := g2.perm hp
      obtain ⟨_, _, _, hlo, _⟩ := g2'.objs _ List.mem_cons_self
      have hlo' : w'.heap[D]? = some (.deferred (some [])) := hlo
      have ht := turn_obj (o' := .deferred none) g2' rfl
      have hs : HSub F ((D, LObj.obj (.deferred none)) :: F) := HSub.drop (HSub.refl _)
      have hkp : Fr (keys H) w L w' L' ((D, LObj.obj (.deferred (some []))) :: F) := g1.weak ⟨[], by simpa using hp⟩
      exact ⟨run_takeDeferred hlo', (hkp.trans ht.1).weak hs, ht.2.weak hs, ht.1.ext⟩
    have ret : RelE fn.ntmps a' e' w' L' → (∃ D F, e'.ds = [{ target := .collected D, args := #[] }] ∧ H'.Perm ((D, .obj (.deferred (some []))) :: F) ∧ ∃ vs H'', AllRes C fn.ntmps e' F fn.results.toList vs ∧ HSub H'' F ∧ R (.ret (resLV vs)) H'') →
        LeavesInM Fence.wide 1 C.P fn a'.tmps (CallPost C w L H (fun v => R (.ret v)) (fun ch => R (.panic ch))) a'.defers .returning w' := fun hE hr => by
      obtain ⟨D, F, h1, hp, vs', H'', h2, h4, h5⟩ := hr
      rw [hE.ds, h1]
      obtain ⟨t1, t2, t3, t4⟩ := turn hp
      refine ⟨by simp, .inl ⟨D, _, rfl, t1, ?_⟩⟩
      obtain ⟨v, r1, r2⟩ := results_of (hE.mono t4) t3 h2 h3'
      exact ⟨v, r1, resLV vs', H'', L', t2.weak h4, t3.weak h4, r2, h5⟩
    cases ex with
    | normal => exact ret g3 g4
    | ret => exact ret g3 g4
    | panic ch =>
      rcases g4 with ⟨h1, H'', h4, h5⟩ | ⟨D, F, h1, hp, H'', h4, h5⟩
      · show LeavesInM _ _ _ _ _ _ a'.defers _ _
        rw [show a'.defers = [] from (show a'.defers = e'.ds from g3).trans h1]
        exact ⟨H'', L', g1.weak h4, g2.weak h4, h5⟩
      · show LeavesInM _ _ _ _ _ _ a'.defers _ _
        rw [show a'.defers = [{ target := .collected D, args := #[] }] from (show a'.defers = e'.ds from g3).trans h1]
        obtain ⟨t1, t2, t3, t4⟩ := turn hp
        exact ⟨by simp, .inl ⟨D, _, rfl, t1, ⟨H'', L', t2.weak h4, t3.weak h4, h5⟩⟩⟩
    | exit id => exact g4.elim
    | goto id => exact g4.elim
    | outgrown => exact g4.elim
end Go.GL
