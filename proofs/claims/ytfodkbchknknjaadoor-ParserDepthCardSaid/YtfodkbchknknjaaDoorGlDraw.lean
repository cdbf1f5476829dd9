/- A small logic over the walk's 'Code.wp': regions whose order is drawn. -/
import Derived.Test.YtfodkbchknknjaaDoorGlSteps
namespace Go.GL
open Go.RowKit

class TMixed (P : Program) : Prop where
  out : P.follows .mixedOrders = true

/-- Worlds that a quiet call may leave. -/
def QC (C : Ctx) (w : World) (L : Live) (w' : World) : Prop := ∃ L', Fr (keys []) w L w' L' [] ∧ RelH C w' L' []
theorem QC.agree {C : Ctx} {w w' : World} {L : Live} {H : Heap} (h : QC C w L w') (hH : RelH C w L H) : Agree w L H w' :=
  let ⟨_, f, _⟩ := h
  ⟨fun p hp => f.block p.1 (hH.objs p hp).2.1 (by simp), f.ext.live⟩
theorem RelH.empty {C : Ctx} {w : World} {L : Live} {H : Heap} (h : RelH C w L H) : RelH C w L [] := h.sub (List.nil_sublist _)

def LQ (C : Ctx) (n : Nat) (ops : Array Oper) (K : Env → Prop) (rest : List Oper) (e : Env) (H : Heap) : Prop :=
  ∀ a w L, RelE n a e w L → RelH C w L H → wpQuiet C.P ops (QC C w L) (fun a' => ∃ e', RelE n a' e' w L ∧ K e') rest a

section quiet
variable {C : Ctx} {n : Nat} {ops : Array Oper} {K : Env → Prop} {e : Env} {H : Heap} {dst : Option Nat} {op : Op} {ty : TypeId} {pos : String} {aft : Array Edge} {rest : List Oper}
theorem LQ.nil (h : K e) : LQ C n ops K [] e H := fun _ _ _ hE _ => ⟨e, hE, h⟩
theorem wpQuiet_one {P : Program} {C : World → Prop} {Q : Act → Prop} {a : Act} {o : Oper} (hg : Region.wanted o (yielded ops a.tmps) = true) {v : Value} (h : ∀ w', C w' → o.quietAt P a C w' v) (k : wpQuiet P ops C Q rest (a.put o.dst v)) : wpQuiet P ops C Q (o :: rest) a := by
  unfold wpQuiet
  rw [if_pos hg]
  exact ⟨v, h, k⟩
theorem LQ.pure {lv : LV} (h : Pure C ⟨dst, op, ty, pos, aft, none⟩ e H lv) (hd : dstOk n dst) (k : LQ C n ops K rest (e.put dst lv) H) : LQ C n ops K (⟨dst, op, ty, pos, aft, none⟩ :: rest) e H := fun a w L hE hH => by
  obtain ⟨v, hv, hr⟩ := h a.eval w L hE.ev hH
  refine wpQuiet_one (by simp [Region.wanted]) (v := v) (fun w' hw' => ?_) (k _ w L (hE.put hd hv) hH)
  unfold Oper.quietAt
  rw [hr w' (hw'.agree hH)]
  exact ⟨rfl, rfl⟩
theorem LQ.want {j d : Nat} {b : Bool} (hj : (ops[j]?).bind (·.dst) = some d) (hb : e.s d = .atom (.bool b))
    (k : LQ C n ops K (⟨dst, op, ty, pos, aft, none⟩ :: rest) e H) : LQ C n ops K (⟨dst, op, ty, pos, aft, some (j, b)⟩ :: rest) e H := fun a w L hE hH => by
  have := k a w L hE hH
  unfold wpQuiet at this ⊢
  rw [if_pos (by simp [Region.wanted])] at this
  rw [if_pos (by simp [Region.wanted, yielded_env hE hj hb])]
  exact this
theorem LQ.skip {j d : Nat} {b c : Bool} (hj : (ops[j]?).bind (·.dst) = some d) (hb : e.s d = .atom (.bool b)) (hne : b = !c) (hd : dstOk n dst)
    (k : LQ C n ops K rest (e.put dst (.atom undef)) H) : LQ C n ops K (⟨dst, op, ty, pos, aft, some (j, c)⟩ :: rest) e H := fun a w L hE hH => by
  unfold wpQuiet
  rw [if_neg (by subst hne; cases c <;> simp [Region.wanted, yielded_env hE hj hb])]
  exact k _ w L (hE.put hd rep_atom) hH
/-- A call whose result is flat, and that leaves what was there as it was. -/
theorem LQ.callV {fo : Operand} {f : FuncId} [TEnter C.P f] {first caps : Array Value} {args : List Operand} {ats : Array TypeId} {v : Value} (hf : e.ev fo = .atom (.func (.func f) first caps))
    (hc : LCalls C f (first.toList.map .atom ++ args.map e.ev ++ caps.toList.map .atom) [] (fun r _ => r = .ret (.atom v))) (hd : dstOk n dst)
    (k : LQ C n ops K rest (e.put dst (.atom v)) H) : LQ C n ops K (⟨dst, .call { callee := .value fo, args := args.toArray, argTypes := ats }, ty, pos, aft, none⟩ :: rest) e H := fun a w L hE hH => by
  refine wpQuiet_one (by simp [Region.wanted]) (v := v) (fun w' hw' => ?_) (k _ w L (hE.put hd rep_atom) hH)
  obtain ⟨L', f1, f2⟩ := hw'
  have h := fun x => (hE.ev x).mono f1.ext _ _
  have h3 : execOp a.eval ⟨dst, .call { callee := .value fo, args := args.toArray, argTypes := ats }, ty, pos, aft, none⟩ = (do let d ← Deferred.ofValue (a.eval fo) (args.toArray.map a.eval); invoke d.target d.args) := rfl
  unfold Oper.quietAt
  rw [h3, atom_of h hf]
  simp only [Deferred.ofValue, Sem.run_bind, Sem.run_pure, Result.andThen_ok, invoke, run_callFunc]
  refine ⟨rfl, ?_⟩
  have := hc (first.toList ++ args.map a.eval ++ caps.toList) w' L' ((((repL_atoms _).append (repL_ev h _))).append (repL_atoms _)) f2
  simp only [← List.append_toArray, Array.toArray_toList] at this
  simp only [List.map_toArray]
  refine this.mono fun e w2 he => ?_
  cases e with
  | returned u =>
    obtain ⟨lv, H2, L2, g1, g2, g3, g4⟩ := he
    simp only [LRes.ret.injEq] at g4
    subst g4
    simp only [Rep] at g3
    subst g3
    exact ⟨rfl, L2, f1.trans (g1.weak (HSub.nil _)), g2.weak (HSub.nil _)⟩
  | panicked ch =>
    obtain ⟨_, _, _, _, g⟩ := he
    cases g
  | outgrown => exact he.elim
theorem LQ.call {f : FuncId} [TEnter C.P f] {args : List Operand} {ats : Array TypeId} {v : Value}
    (hc : LCalls C f (args.map e.ev) [] (fun r _ => r = .ret (.atom v))) (hd : dstOk n dst)
    (k : LQ C n ops K rest (e.put dst (.atom v)) H) : LQ C n ops K (⟨dst, .call { callee := .value (.func f), args := args.toArray, argTypes := ats }, ty, pos, aft, none⟩ :: rest) e H :=
  LQ.callV (f := f) (first := #[]) (caps := #[]) rfl (by simpa using hc) hd k

theorem LCode.quiet [hm : TMixed C.P] {id : Nat} {l : List Oper} {Q : Post} (hB : Region.lexB .any l.toArray = true) (h : LQ C n l.toArray (fun e' => Q .normal e' H) l e H) : LCode C n (.region id l.toArray true) Q e H := fun a w L hE hH => by
  refine wp_region_quiet (C := QC C w L) hm.out hB ⟨L, ⟨rfl, rfl, rfl, ext_drew w L, fun _ _ _ => rfl, fun _ _ _ => rfl, by simp⟩, hH.empty.drew⟩ ?_
  have hq : ∀ a' w', QC C w L w' → (∃ e', RelE n a' e' w L ∧ Q .normal e' H) → lift C n w L (keys H) Q .normal a' w' := by
    rintro a' w' ⟨L', f1, f2⟩ ⟨e', h1, h2⟩
    have := RelH.frame (H := []) (F := H) (by simpa using hH) f1 f2
    exact ⟨e', H, L', by simpa using this.2, by simpa using this.1, h1.mono f1.ext, h2⟩
  have mono : ∀ (l2 : List Oper) (a : Act), wpQuiet C.P l.toArray (QC C w L) (fun a' => ∃ e', RelE n a' e' w L ∧ Q .normal e' H) l2 a → wpQuiet C.P l.toArray (QC C w L) (fun a' => ∀ w', QC C w L w' → lift C n w L (keys H) Q .normal a' w') l2 a := by
    intro l2
    induction l2 with
    | nil => exact fun a h w' hw' => hq a w' hw' h
    | cons o l2 ih =>
      intro a h
      unfold wpQuiet at h ⊢
      split at h
      · rename_i hw; rw [if_pos hw]; exact Oper.quiet_mono ih h
      · rename_i hw; rw [if_neg hw]; exact ih _ h
  exact mono _ a (by simpa using h a w L hE hH)
end quiet

/-! ### Any order: what only computes or reads HF may be taken first -/
def LAny (C : Ctx) (n : Nat) (ops : Array Oper) (Q : Post) (HF : Heap) (fuel : Nat) (listed : Array Bool) (e : Env) (H : Heap) : Prop :=
  ∀ a w L, RelE n a e w L → RelH C w L H → wpAnyH C.P .any ops (lift C n w L (keys H) Q) (Agree w L HF) fuel listed a w
/-- Behind the first step: HF as it was at the region's beginning. -/
def LLate (C : Ctx) (n : Nat) (ops : Array Oper) (Q : Post) (HF : Heap) (fuel : Nat) (listed : Array Bool) (e : Env) (H : Heap) : Prop :=
  ∀ w0 L0 a w L, (∀ b, L0 b ≤ L b) → Agree w0 L0 HF w → (∀ p ∈ HF, p.1 < w.heap.size) → RelE n a e w L → RelH C w L H → wpAnyH C.P .any ops (lift C n w L (keys H) Q) (Agree w0 L0 HF) fuel listed a w
theorem Agree.refl (w : World) (L : Live) (H : Heap) : Agree w L H w := ⟨fun _ _ => rfl, fun _ _ _ => rfl⟩
theorem HSub.mem {H' H : Heap} (h : HSub H' H) : ∀ p ∈ H', p ∈ H := fun _ hp =>
  let ⟨_, hG⟩ := h
  hG.mem_iff.2 (List.mem_append_left _ hp)
theorem wpAnyH_mono {P : Program} {md : Region.Mode} {ops : Array Oper} {Q Q' : Exit → Act → World → Prop} {S : World → Prop} (h : ∀ e a w, Q e a w → Q' e a w) : ∀ (fuel : Nat) (listed : Array Bool) (a : Act) (w : World),
    wpAnyH P md ops Q S fuel listed a w → wpAnyH P md ops Q' S fuel listed a w
  | 0, _, _, _, k => ⟨k.1, h _ _ _ k.2⟩
  | fuel + 1, listed, a, w, k => by
    refine ⟨fun h0 => h _ _ _ (k.1 h0), fun i hi => ?_⟩
    have ki := k.2 i hi
    unfold wpOp at ki ⊢
    split at ki
    · exact ⟨ki.1, wpAnyH_mono h fuel _ _ _ ki.2⟩
    · split at ki
      · rename_i hw
        rw [if_pos hw]
        rcases ki with ki | ⟨k1, a0, w0, k2⟩
        · refine .inl ?_
          unfold Oper.wp at ki ⊢
          generalize (execOp _ _).run P w = r at ki ⊢
          cases r with
          | ok x w' =>
            cases x <;> simp only [Oper.upon] at ki ⊢ <;> first
              | exact ⟨ki.1, wpAnyH_mono h fuel _ _ _ ki.2⟩
              | (refine Calls.mono ki fun e w'' he => ?_; cases e with
                  | returned v => exact ⟨he.1, wpAnyH_mono h fuel _ _ _ he.2⟩
                  | panicked ch => exact h _ _ _ he
                  | outgrown => obtain ⟨a0, w0, he⟩ := he; exact ⟨a0, w0, h _ _ _ he⟩)
              | exact Rows.mono ki fun _ _ he => ⟨he.1, wpAnyH_mono h fuel _ _ _ he.2⟩
          | halt x w' => cases x <;> simp only [Oper.upon] at ki ⊢ <;> exact h _ _ _ ki
        · exact .inr ⟨k1, a0, w0, h _ _ _ k2⟩
      · rename_i hw
        rw [if_neg hw]
        exact ⟨ki.1, wpAnyH_mono h fuel _ _ _ ki.2⟩

section any
variable {C : Ctx} {n : Nat} {ops : Array Oper} {Q : Post} {HF : Heap} {fuel : Nat} {listed : Array Bool} {e : Env} {H : Heap}
theorem lift_put {w : World} {L : Live} {K : List Nat} (dst : Option Nat) (v : Value) : ∀ c a w', lift C n w L K Q (.panic c) (a.put dst v) w' → lift C n w L K Q (.panic c) a w' := by
  rintro c a w' ⟨e', H', L', h1, h2, h3, h4⟩
  refine ⟨e', H', L', h1, h2, ?_, h4⟩
  cases dst <;> exact h3
theorem wp_take {i : Nat} {dst : Option Nat} {op : Op} {ty : TypeId} {pos : String} {aft : Array Edge} {g : Option (Nat × Bool)} {lv : LV} {a : Act} {w : World} {L : Live} (hE : RelE n a e w L) (hH : RelH C w L H) (hHF : HSub HF H)
    (hi : ops[i]? = some ⟨dst, op, ty, pos, aft, g⟩) (hs : Region.noSelect ops = true) (hf : Region.free .any ops listed i = true) (hr : (Region.ready .any ops listed).contains i = true) (hd : dstOk n dst)
    (hp : Pure C ⟨dst, op, ty, pos, aft, g⟩ e HF lv) (hw : Region.wanted ⟨dst, op, ty, pos, aft, g⟩ (yielded ops a.tmps) = true)
    (k : LAny C n ops Q HF fuel (listed.setIfInBounds i true) (e.put dst lv) H) : wpAnyH C.P .any ops (lift C n w L (keys H) Q) (Agree w L HF) (fuel + 1) listed a w := by
  obtain ⟨v, hv, hrun⟩ := hp a.eval w L hE.ev (hH.weak hHF)
  exact wpAnyH_take hi hs hf hr (lift_put _ _) (.inl ⟨hw, hrun⟩) (Agree.refl _ _ _) (k _ w L (hE.put hd hv) hH)
theorem LAny.take {i : Nat} {dst : Option Nat} {op : Op} {ty : TypeId} {pos : String} {aft : Array Edge} {lv : LV} (hHF : HSub HF H)
    (hi : ops[i]? = some ⟨dst, op, ty, pos, aft, none⟩) (hs : Region.noSelect ops = true) (hf : Region.free .any ops listed i = true) (hr : (Region.ready .any ops listed).contains i = true) (hd : dstOk n dst)
    (hp : Pure C ⟨dst, op, ty, pos, aft, none⟩ e HF lv) (k : LAny C n ops Q HF fuel (listed.setIfInBounds i true) (e.put dst lv) H) : LAny C n ops Q HF (fuel + 1) listed e H := fun _ _ _ hE hH =>
  wp_take hE hH hHF hi hs hf hr hd hp (by simp [Region.wanted]) k
theorem LAny.takeWant {i j d : Nat} {b : Bool} {dst : Option Nat} {op : Op} {ty : TypeId} {pos : String} {aft : Array Edge} {lv : LV} (hHF : HSub HF H)
    (hi : ops[i]? = some ⟨dst, op, ty, pos, aft, some (j, b)⟩) (hj : (ops[j]?).bind (·.dst) = some d) (hb : e.s d = .atom (.bool b)) (hs : Region.noSelect ops = true) (hf : Region.free .any ops listed i = true) (hr : (Region.ready .any ops listed).contains i = true) (hd : dstOk n dst)
    (hp : Pure C ⟨dst, op, ty, pos, aft, some (j, b)⟩ e HF lv) (k : LAny C n ops Q HF fuel (listed.setIfInBounds i true) (e.put dst lv) H) : LAny C n ops Q HF (fuel + 1) listed e H := fun _ _ _ hE hH =>
  wp_take hE hH hHF hi hs hf hr hd hp (by simp [Region.wanted, yielded_env hE hj hb]) k
theorem LAny.takeSkip {i j d : Nat} {b c : Bool} {dst : Option Nat} {op : Op} {ty : TypeId} {pos : String} {aft : Array Edge}
    (hi : ops[i]? = some ⟨dst, op, ty, pos, aft, some (j, c)⟩) (hj : (ops[j]?).bind (·.dst) = some d) (hb : e.s d = .atom (.bool b)) (hne : b = !c) (hs : Region.noSelect ops = true) (hf : Region.free .any ops listed i = true) (hr : (Region.ready .any ops listed).contains i = true) (hd : dstOk n dst)
    (k : LAny C n ops Q HF fuel (listed.setIfInBounds i true) (e.put dst (.atom undef)) H) : LAny C n ops Q HF (fuel + 1) listed e H := fun a w L hE hH =>
  wpAnyH_take hi hs hf hr (lift_put _ _) (.inr ⟨by subst hne; cases c <;> simp [Region.wanted, yielded_env hE hj hb], rfl⟩) (Agree.refl _ _ _) (k _ w L (hE.put hd rep_atom) hH)
theorem LAny.late (h : LLate C n ops Q HF fuel listed e H) (hHF : HSub HF H) : LAny C n ops Q HF fuel listed e H := fun a w L hE hH =>
  h w L a w L (fun _ => Nat.le_refl _) (Agree.refl _ _ _) (fun p hp => (hH.objs p (hHF.mem p hp)).2.1) hE hH
theorem LLate.done (hr : Region.ready .any ops listed = []) (h : Q .normal e H) : LLate C n ops Q HF fuel listed e H := fun _ _ _ _ L _ _ _ hE hH =>
  wpAnyH_done hr ⟨e, H, L, Fr.refl _ _ _, hH, hE, h⟩ fuel
/-- The one operation that may come up. -/
theorem LLate.step {i : Nat} {dst : Option Nat} {op : Op} {ty : TypeId} {pos : String} {aft : Array Edge} {H1 F : Heap} (hr : Region.ready .any ops listed = [i]) (hi : ops[i]? = some ⟨dst, op, ty, pos, aft, none⟩) (hd : dstOk n dst)
    (p : H.Perm (H1 ++ F)) (hHF : HSub HF F)
    (h : LStep C ⟨dst, op, ty, pos, aft, none⟩ e H1 (fun lv H' => LLate C n ops Q HF fuel (listed.setIfInBounds i true) (e.put dst lv) (H' ++ F)) (fun ch H' => ∀ e', e'.ds = e.ds → Q (.panic ch) e' (H' ++ F))) :
    LLate C n ops Q HF (fuel + 1) listed e H := fun w0 L0 a w L hL hA hsz hE hH => by
  refine wpAnyH_all hr (by simp) fun j hj => ?_
  simp only [List.mem_singleton] at hj
  subst hj
  have hH' := hH.perm p
  have hn : (keys H1 ++ keys F).Nodup := by simpa [keys] using hH'.nodup
  have hdis : ∀ q ∈ HF, q.1 ∉ keys H1 := fun q hq hm => (List.nodup_append.1 hn).2.2 _ hm _ (List.mem_map_of_mem (hHF.mem q hq)) rfl
  unfold wpOp
  rw [hi]
  simp only
  rw [if_pos (by simp [Region.wanted])]
  refine .inl (step_wp (H := H1) h hd hE hH'.left (fun lv H' L' w' a' h1 h2 h3 h4 => ?_) (fun ch H' L' w' h1 h2 h3 => ?_))
  · have hfr := hH'.frame h1 h2
    have hag : Agree w0 L0 HF w' := ⟨fun q hq => (h1.block q.1 (hsz q hq) (hdis q hq)).trans (hA.1 q hq), fun b i hi => (h1.ext.live b i (Nat.lt_of_lt_of_le hi (hL b))).trans (hA.2 b i hi)⟩
    exact ⟨hag, wpAnyH_mono (fun _ _ _ => lift_trans (hfr.2.perm p.symm)) _ _ _ _ (h4 w0 L0 a' w' L' (fun b => Nat.le_trans (hL b) (h1.ext.mono b)) hag (fun q hq => Nat.lt_of_lt_of_le (hsz q hq) h1.ext.size) h3 hfr.1)⟩
  · have hfr := hH'.frame h1 h2
    exact ⟨e, H' ++ F, L', hfr.2.perm p.symm, hfr.1, hE.ds, h3 e rfl⟩
theorem LCode.draw [hm : TMixed C.P] {id : Nat} {l : List Oper} {m : Nat} (hl : m = l.length) (HF : Heap) (h : LAny C n l.toArray Q HF m (Array.replicate m false) e H) : LCode C n (.region id l.toArray true) Q e H := fun a w L hE hH => by
  subst hl
  have := h a w.drew L (hE.mono (ext_drew w L)) hH.drew
  refine wp_region_held (S := Agree w.drew L HF) hm.out ?_
  refine wpAnyH_mono (fun x a' w' hq => ?_) _ _ _ _ (by simpa using this)
  obtain ⟨e', H', L', h1, h2, h3, h4⟩ := hq
  exact ⟨e', H', L', h1.of_drew, h2, h3, h4⟩
end any
end Go.GL
