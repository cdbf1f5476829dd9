/- Texts joined: GlDraw, GlRules, Types, GlCall, LexSpec2, Lex1, Shelf, Lex2, FmtUint, Lex3, Lex4, GlDraw2. -/
import Derived.Test.YtfodkbchknknjaaGreatDoorProg
import Derived.Lib.ParseIntB
import Derived.Lib.ItoaNum
import Derived.Shelf.Strings.Builder1
import Derived.Shelf.Strings.Builder2
import Derived.Shelf.Strings.OnBuilder
import Derived.Shelf.Strings.BuilderF
import Derived.Shelf.Strings.BuilderK
import Derived.Shelf.Utf8.RuneCount
import Derived.Shelf.Strings.Builder2Cap
import Derived.Shelf.Strconv.Itoa0
import Derived.Shelf.Strconv.Itoa1
import Derived.Shelf.LaysM
import Derived.Shelf.Strconv.Itoa2
import Derived.Shelf.Strconv.Itoa3
import Derived.Shelf.Strconv.Clone
import Derived.Shelf.Strconv.SyntaxError
import Derived.Shelf.LaysC
import Derived.Shelf.Strconv.ToError
import Derived.Shelf.Strconv.Lower
import Derived.Shelf.Strconv.ParseUint10
import Derived.Shelf.Strconv.ParseUint10Empty
import Derived.Shelf.Strconv.ParseUint10Any
import Derived.Shelf.Strconv.RangeError
import Derived.Shelf.Strconv.ToErrorRange
import Derived.Shelf.Strconv.ParseUintEmpty
import Derived.Shelf.Strconv.ParseUint10b64
import Derived.Shelf.Strconv.ParseUint10b32
import Derived.Shelf.Strconv.ParseUint10b16
import Derived.Shelf.Strconv.ParseUint10b8
import Derived.Shelf.Strconv.ParseUint10At
import Derived.Ground.MpProg
import Derived.Shelf.Pu.ParseUintPublic10
import Derived.Shelf.Pu.ErrVarParseUint
import Derived.Shelf.Strings.Search1
import Derived.Shelf.Strings.Search2
import Derived.Shelf.Strings.Search3
import Derived.Shelf.Strings.Count
import Derived.Shelf.Strings.Shaped
import Derived.Shelf.Strings.Prefix
import Derived.Shelf.Strings.Split
import Derived.Shelf.Strings.RuneCount
import Derived.Shelf.Bits.Mul64
import Derived.Shelf.Strings.Repeat
import Derived.Shelf.Strings.BuilderCap
import Derived.Shelf.Slices.Turned
import Derived.Shelf.Slices.Equal
import Derived.Shelf.Slices.Empties2
import Derived.Lib.Walk
import Derived.Lib.ItoaMem
import Derived.Lib.AppendIntMem
import Derived.WalkKit
import Derived.BigCall
import Derived.BigGuard
import Derived.Below
import Derived.WalkSmall
import Derived.Laws.IdiomStrings
import Derived.Test.YtfodkbchknknjaaGreatDoorBRowF0
set_option linter.unusedVariables false
set_option linter.unusedSimpArgs false
namespace Go.GL
open Go.RowKit
class TMixed (P : Program) : Prop where
 out : P.follows .mixedOrders = true
/-- Worlds that a quiet call may leave. -/
def QC (C : Ctx) (w : World) (L : Live) (w' : World) : Prop := ∃ L', Fr (keys []) w L w' L' [] ∧ RelH C w' L' []
theorem QC.agree {C : Ctx} {w w' : World} {L : Live} {H : Heap} (h : QC C w L w') (hH : RelH C w L H) : Agree w L H w' :=
 let ⟨_, f, _⟩ := h
 ⟨fun p hp => f.block p.1 (hH.objs p hp).2.1 (by simp), f.ext.live⟩
theorem RelH.empty {C : Ctx} {w : World} {L : Live} {H : Heap} (h : RelH C w L H) : RelH C w L [] := h.sub (List.nil_sublist _)
def LQ (C : Ctx) (n : Nat) (ops : Array Oper) (K : Env → Prop) (rest : List Oper) (e : Env) (H : Heap) : Prop :=
 ∀ a w L, RelE n a e w L → RelH C w L H → wpQuiet C.P ops (QC C w L) (fun a' => ∃ e', RelE n a' e' w L ∧ K e') rest a
section quiet
variable {C : Ctx} {n : Nat} {ops : Array Oper} {K : Env → Prop} {e : Env} {H : Heap} {dst : Option Nat} {op : Op} {ty : TypeId} {pos : String} {aft : Array Edge} {rest : List Oper}
theorem LQ.nil (h : K e) : LQ C n ops K [] e H := fun _ _ _ hE _ => ⟨e, hE, h⟩
theorem wpQuiet_one {P : Program} {C : World → Prop} {Q : Act → Prop} {a : Act} {o : Oper} (hg : Region.wanted o (yielded ops a.tmps) = true) {v : Value} (h : ∀ w', C w' → o.quietAt P a C w' v) (k : wpQuiet P ops C Q rest (a.put o.dst v)) : wpQuiet P ops C Q (o :: rest) a := by
 unfold wpQuiet
 rw [if_pos hg]
 exact ⟨v, h, k⟩
theorem LQ.pure {lv : LV} (h : Pure C ⟨dst, op, ty, pos, aft, none⟩ e H lv) (hd : dstOk n dst) (k : LQ C n ops K rest (e.put dst lv) H) : LQ C n ops K (⟨dst, op, ty, pos, aft, none⟩ :: rest) e H := fun a w L hE hH => by
 obtain ⟨v, hv, hr⟩ := h a.eval w L hE.ev hH
 refine wpQuiet_one (by simp [Region.wanted]) (v := v) (fun w' hw' => ?_) (k _ w L (hE.put hd hv) hH)
 unfold Oper.quietAt
 rw [hr w' (hw'.agree hH)]
 exact ⟨rfl, rfl⟩
theorem LQ.want {j d : Nat} {b : Bool} (hj : (ops[j]?).bind (·.dst) = some d) (hb : e.s d = .atom (.bool b))
  (k : LQ C n ops K (⟨dst, op, ty, pos, aft, none⟩ :: rest) e H) : LQ C n ops K (⟨dst, op, ty, pos, aft, some (j, b)⟩ :: rest) e H := fun a w L hE hH => by
 have := k a w L hE hH
 unfold wpQuiet at this ⊢
 rw [if_pos (by simp [Region.wanted])] at this
 rw [if_pos (by simp [Region.wanted, yielded_env hE hj hb])]
 exact this
theorem LQ.skip {j d : Nat} {b c : Bool} (hj : (ops[j]?).bind (·.dst) = some d) (hb : e.s d = .atom (.bool b)) (hne : b = !c) (hd : dstOk n dst)
  (k : LQ C n ops K rest (e.put dst (.atom undef)) H) : LQ C n ops K (⟨dst, op, ty, pos, aft, some (j, c)⟩ :: rest) e H := fun a w L hE hH => by
 unfold wpQuiet
 rw [if_neg (by subst hne; cases c <;> simp [Region.wanted, yielded_env hE hj hb])]
 exact k _ w L (hE.put hd rep_atom) hH
/-- A call whose result is flat, and that leaves what was there as it was. -/
theorem LQ.callV {fo : Operand} {f : FuncId} [TEnter C.P f] {first caps : Array Value} {args : List Operand} {ats : Array TypeId} {v : Value} (hf : e.ev fo = .atom (.func (.func f) first caps))
  (hc : LCalls C f (first.toList.map .atom ++ args.map e.ev ++ caps.toList.map .atom) [] (fun r _ => r = .ret (.atom v))) (hd : dstOk n dst)
  (k : LQ C n ops K rest (e.put dst (.atom v)) H) : LQ C n ops K (⟨dst, .call { callee := .value fo, args := args.toArray, argTypes := ats }, ty, pos, aft, none⟩ :: rest) e H := fun a w L hE hH => by
 refine wpQuiet_one (by simp [Region.wanted]) (v := v) (fun w' hw' => ?_) (k _ w L (hE.put hd rep_atom) hH)
 obtain ⟨L', f1, f2⟩ := hw'
 have h := fun x => (hE.ev x).mono f1.ext _ _
 have h3 : execOp a.eval ⟨dst, .call { callee := .value fo, args := args.toArray, argTypes := ats }, ty, pos, aft, none⟩ = (do let d ← Deferred.ofValue (a.eval fo) (args.toArray.map a.eval); invoke d.target d.args) := rfl
 unfold Oper.quietAt
 rw [h3, atom_of h hf]
 simp only [Deferred.ofValue, Sem.run_bind, Sem.run_pure, Result.andThen_ok, invoke, run_callFunc]
 refine ⟨rfl, ?_⟩
 have := hc (first.toList ++ args.map a.eval ++ caps.toList) w' L' ((((repL_atoms _).append (repL_ev h _))).append (repL_atoms _)) f2
 simp only [← List.append_toArray, Array.toArray_toList] at this
 simp only [List.map_toArray]
 refine this.mono fun e w2 he => ?_
 cases e with
 | returned u =>
  obtain ⟨lv, H2, L2, g1, g2, g3, g4⟩ := he
  simp only [LRes.ret.injEq] at g4
  subst g4
  simp only [Rep] at g3
  subst g3
  exact ⟨rfl, L2, f1.trans (g1.weak (HSub.nil _)), g2.weak (HSub.nil _)⟩
 | panicked ch =>
  obtain ⟨_, _, _, _, g⟩ := he
  cases g
 | outgrown => exact he.elim
theorem LQ.call {f : FuncId} [TEnter C.P f] {args : List Operand} {ats : Array TypeId} {v : Value}
  (hc : LCalls C f (args.map e.ev) [] (fun r _ => r = .ret (.atom v))) (hd : dstOk n dst)
  (k : LQ C n ops K rest (e.put dst (.atom v)) H) : LQ C n ops K (⟨dst, .call { callee := .value (.func f), args := args.toArray, argTypes := ats }, ty, pos, aft, none⟩ :: rest) e H :=
 LQ.callV (f := f) (first := #[]) (caps := #[]) rfl (by simpa using hc) hd k
theorem LCode.quiet [hm : TMixed C.P] {id : Nat} {l : List Oper} {Q : Post} (hB : Region.lexB .any l.toArray = true) (h : LQ C n l.toArray (fun e' => Q .normal e' H) l e H) : LCode C n (.region id l.toArray true) Q e H := fun a w L hE hH => by
 refine wp_region_quiet (C := QC C w L) hm.out hB ⟨L, ⟨rfl, rfl, rfl, ext_drew w L, fun _ _ _ => rfl, fun _ _ _ => rfl, by simp⟩, hH.empty.drew⟩ ?_
 have hq : ∀ a' w', QC C w L w' → (∃ e', RelE n a' e' w L ∧ Q .normal e' H) → lift C n w L (keys H) Q .normal a' w' := by
  rintro a' w' ⟨L', f1, f2⟩ ⟨e', h1, h2⟩
  have := RelH.frame (H := []) (F := H) (by simpa using hH) f1 f2
  exact ⟨e', H, L', by simpa using this.2, by simpa using this.1, h1.mono f1.ext, h2⟩
 have mono : ∀ (l2 : List Oper) (a : Act), wpQuiet C.P l.toArray (QC C w L) (fun a' => ∃ e', RelE n a' e' w L ∧ Q .normal e' H) l2 a → wpQuiet C.P l.toArray (QC C w L) (fun a' => ∀ w', QC C w L w' → lift C n w L (keys H) Q .normal a' w') l2 a := by
  intro l2
  induction l2 with
  | nil => exact fun a h w' hw' => hq a w' hw' h
  | cons o l2 ih =>
   intro a h
   unfold wpQuiet at h ⊢
   split at h
   ·rename_i hw; rw [if_pos hw]; exact Oper.quiet_mono ih h
   ·rename_i hw; rw [if_neg hw]; exact ih _ h
 exact mono _ a (by simpa using h a w L hE hH)
end quiet
/-! ### Any order: what only computes or reads HF may be taken first -/
def LAny (C : Ctx) (n : Nat) (ops : Array Oper) (Q : Post) (HF : Heap) (fuel : Nat) (listed : Array Bool) (e : Env) (H : Heap) : Prop :=
 ∀ a w L, RelE n a e w L → RelH C w L H → wpAnyH C.P .any ops (lift C n w L (keys H) Q) (Agree w L HF) fuel listed a w
/-- Behind the first step: HF as it was at the region's beginning. -/
def LLate (C : Ctx) (n : Nat) (ops : Array Oper) (Q : Post) (HF : Heap) (fuel : Nat) (listed : Array Bool) (e : Env) (H : Heap) : Prop :=
 ∀ w0 L0 a w L, (∀ b, L0 b ≤ L b) → Agree w0 L0 HF w → (∀ p ∈ HF, p.1 < w.heap.size) → RelE n a e w L → RelH C w L H → wpAnyH C.P .any ops (lift C n w L (keys H) Q) (Agree w0 L0 HF) fuel listed a w
theorem Agree.refl (w : World) (L : Live) (H : Heap) : Agree w L H w := ⟨fun _ _ => rfl, fun _ _ _ => rfl⟩
theorem HSub.mem {H' H : Heap} (h : HSub H' H) : ∀ p ∈ H', p ∈ H := fun _ hp =>
 let ⟨_, hG⟩ := h
 hG.mem_iff.2 (List.mem_append_left _ hp)
theorem wpAnyH_mono {P : Program} {md : Region.Mode} {ops : Array Oper} {Q Q' : Exit → Act → World → Prop} {S : World → Prop} (h : ∀ e a w, Q e a w → Q' e a w) : ∀ (fuel : Nat) (listed : Array Bool) (a : Act) (w : World),
  wpAnyH P md ops Q S fuel listed a w → wpAnyH P md ops Q' S fuel listed a w
 | 0, _, _, _, k => ⟨k.1, h _ _ _ k.2⟩
 | fuel + 1, listed, a, w, k => by
  refine ⟨fun h0 => h _ _ _ (k.1 h0), fun i hi => ?_⟩
  have ki := k.2 i hi
  unfold wpOp at ki ⊢
  split at ki
  ·exact ⟨ki.1, wpAnyH_mono h fuel _ _ _ ki.2⟩
  ·split at ki
   ·rename_i hw
    rw [if_pos hw]
    rcases ki with ki | ⟨k1, a0, w0, k2⟩
    ·refine .inl ?_
     unfold Oper.wp at ki ⊢
     generalize (execOp _ _).run P w = r at ki ⊢
     cases r with
     | ok x w' =>
      cases x <;> simp only [Oper.upon] at ki ⊢ <;> first
       | exact ⟨ki.1, wpAnyH_mono h fuel _ _ _ ki.2⟩
       | (refine Calls.mono ki fun e w'' he => ?_; cases e with
         | returned v => exact ⟨he.1, wpAnyH_mono h fuel _ _ _ he.2⟩
         | panicked ch => exact h _ _ _ he
         | outgrown => obtain ⟨a0, w0, he⟩ := he; exact ⟨a0, w0, h _ _ _ he⟩)
       | exact Rows.mono ki fun _ _ he => ⟨he.1, wpAnyH_mono h fuel _ _ _ he.2⟩
     | halt x w' => cases x <;> simp only [Oper.upon] at ki ⊢ <;> exact h _ _ _ ki
    ·exact .inr ⟨k1, a0, w0, h _ _ _ k2⟩
   ·rename_i hw
    rw [if_neg hw]
    exact ⟨ki.1, wpAnyH_mono h fuel _ _ _ ki.2⟩
section any
variable {C : Ctx} {n : Nat} {ops : Array Oper} {Q : Post} {HF : Heap} {fuel : Nat} {listed : Array Bool} {e : Env} {H : Heap}
theorem lift_put {w : World} {L : Live} {K : List Nat} (dst : Option Nat) (v : Value) : ∀ c a w', lift C n w L K Q (.panic c) (a.put dst v) w' → lift C n w L K Q (.panic c) a w' := by
 rintro c a w' ⟨e', H', L', h1, h2, h3, h4⟩
 refine ⟨e', H', L', h1, h2, ?_, h4⟩
 cases dst <;> exact h3
theorem wp_take {i : Nat} {dst : Option Nat} {op : Op} {ty : TypeId} {pos : String} {aft : Array Edge} {g : Option (Nat × Bool)} {lv : LV} {a : Act} {w : World} {L : Live} (hE : RelE n a e w L) (hH : RelH C w L H) (hHF : HSub HF H)
  (hi : ops[i]? = some ⟨dst, op, ty, pos, aft, g⟩) (hs : Region.noSelect ops = true) (hf : Region.free .any ops listed i = true) (hr : (Region.ready .any ops listed).contains i = true) (hd : dstOk n dst)
  (hp : Pure C ⟨dst, op, ty, pos, aft, g⟩ e HF lv) (hw : Region.wanted ⟨dst, op, ty, pos, aft, g⟩ (yielded ops a.tmps) = true)
  (k : LAny C n ops Q HF fuel (listed.setIfInBounds i true) (e.put dst lv) H) : wpAnyH C.P .any ops (lift C n w L (keys H) Q) (Agree w L HF) (fuel + 1) listed a w := by
 obtain ⟨v, hv, hrun⟩ := hp a.eval w L hE.ev (hH.weak hHF)
 exact wpAnyH_take hi hs hf hr (lift_put _ _) (.inl ⟨hw, hrun⟩) (Agree.refl _ _ _) (k _ w L (hE.put hd hv) hH)
theorem LAny.take {i : Nat} {dst : Option Nat} {op : Op} {ty : TypeId} {pos : String} {aft : Array Edge} {lv : LV} (hHF : HSub HF H)
  (hi : ops[i]? = some ⟨dst, op, ty, pos, aft, none⟩) (hs : Region.noSelect ops = true) (hf : Region.free .any ops listed i = true) (hr : (Region.ready .any ops listed).contains i = true) (hd : dstOk n dst)
  (hp : Pure C ⟨dst, op, ty, pos, aft, none⟩ e HF lv) (k : LAny C n ops Q HF fuel (listed.setIfInBounds i true) (e.put dst lv) H) : LAny C n ops Q HF (fuel + 1) listed e H := fun _ _ _ hE hH =>
 wp_take hE hH hHF hi hs hf hr hd hp (by simp [Region.wanted]) k
theorem LAny.takeWant {i j d : Nat} {b : Bool} {dst : Option Nat} {op : Op} {ty : TypeId} {pos : String} {aft : Array Edge} {lv : LV} (hHF : HSub HF H)
  (hi : ops[i]? = some ⟨dst, op, ty, pos, aft, some (j, b)⟩) (hj : (ops[j]?).bind (·.dst) = some d) (hb : e.s d = .atom (.bool b)) (hs : Region.noSelect ops = true) (hf : Region.free .any ops listed i = true) (hr : (Region.ready .any ops listed).contains i = true) (hd : dstOk n dst)
  (hp : Pure C ⟨dst, op, ty, pos, aft, some (j, b)⟩ e HF lv) (k : LAny C n ops Q HF fuel (listed.setIfInBounds i true) (e.put dst lv) H) : LAny C n ops Q HF (fuel + 1) listed e H := fun _ _ _ hE hH =>
 wp_take hE hH hHF hi hs hf hr hd hp (by simp [Region.wanted, yielded_env hE hj hb]) k
theorem LAny.takeSkip {i j d : Nat} {b c : Bool} {dst : Option Nat} {op : Op} {ty : TypeId} {pos : String} {aft : Array Edge}
  (hi : ops[i]? = some ⟨dst, op, ty, pos, aft, some (j, c)⟩) (hj : (ops[j]?).bind (·.dst) = some d) (hb : e.s d = .atom (.bool b)) (hne : b = !c) (hs : Region.noSelect ops = true) (hf : Region.free .any ops listed i = true) (hr : (Region.ready .any ops listed).contains i = true) (hd : dstOk n dst)
  (k : LAny C n ops Q HF fuel (listed.setIfInBounds i true) (e.put dst (.atom undef)) H) : LAny C n ops Q HF (fuel + 1) listed e H := fun a w L hE hH =>
 wpAnyH_take hi hs hf hr (lift_put _ _) (.inr ⟨by subst hne; cases c <;> simp [Region.wanted, yielded_env hE hj hb], rfl⟩) (Agree.refl _ _ _) (k _ w L (hE.put hd rep_atom) hH)
theorem LAny.late (h : LLate C n ops Q HF fuel listed e H) (hHF : HSub HF H) : LAny C n ops Q HF fuel listed e H := fun a w L hE hH =>
 h w L a w L (fun _ => Nat.le_refl _) (Agree.refl _ _ _) (fun p hp => (hH.objs p (hHF.mem p hp)).2.1) hE hH
theorem LLate.done (hr : Region.ready .any ops listed = []) (h : Q .normal e H) : LLate C n ops Q HF fuel listed e H := fun _ _ _ _ L _ _ _ hE hH =>
 wpAnyH_done hr ⟨e, H, L, Fr.refl _ _ _, hH, hE, h⟩ fuel
theorem LCode.draw [hm : TMixed C.P] {id : Nat} {l : List Oper} {m : Nat} (hl : m = l.length) (HF : Heap) (h : LAny C n l.toArray Q HF m (Array.replicate m false) e H) : LCode C n (.region id l.toArray true) Q e H := fun a w L hE hH => by
 subst hl
 have := h a w.drew L (hE.mono (ext_drew w L)) hH.drew
 refine wp_region_held (S := Agree w.drew L HF) hm.out ?_
 refine wpAnyH_mono (fun x a' w' hq => ?_) _ _ _ _ (by simpa using this)
 obtain ⟨e', H', L', h1, h2, h3, h4⟩ := hq
 exact ⟨e', H', L', h1.of_drew, h2, h3, h4⟩
end any
end Go.GL
namespace Go.GL
open Go.RowKit
section pure
variable {C : Ctx} {e : Env} {H : Heap} {dst : Option Nat} {ty : TypeId} {pos : String} {aft : Array Edge} {g : Option (Nat × Bool)} {x y c a b : Operand} {xT : TypeId} {k : IntKind} {lv : LV}
theorem Pure.mv (hx : e.ev x = lv) : Pure C ⟨dst, .move x, ty, pos, aft, g⟩ e H lv := hx ▸ Pure.move
theorem Pure.as (hx : e.ev x = lv) : Pure C ⟨dst, .assign x, ty, pos, aft, g⟩ e H lv := hx ▸ Pure.assign
theorem Pure.pickT (hc : e.ev c = bool true) (ha : e.ev a = lv) : Pure C ⟨dst, .pick c a b, ty, pos, aft, g⟩ e H lv := by
 have := Pure.pick (C := C) (H := H) (dst := dst) (ty := ty) (pos := pos) (aft := aft) (g := g) (a := a) (b := b) hc
 simp only [if_true] at this
 exact ha ▸ this
theorem Pure.pickF (hc : e.ev c = bool false) (hb : e.ev b = lv) : Pure C ⟨dst, .pick c a b, ty, pos, aft, g⟩ e H lv := by
 have := Pure.pick (C := C) (H := H) (dst := dst) (ty := ty) (pos := pos) (aft := aft) (g := g) (a := a) (b := b) hc
 simp only [Bool.false_eq_true, if_false] at this
 exact hb ▸ this
theorem Pure.ldRefAgg {t n : Nat} [TAgg C.P t n] {cs cs' : List LV} (hx : e.ev x = .ref cs) (hn : Nat.ble n cs.length = true) (hc : cs.take n = cs') : Pure C ⟨dst, .load t x, ty, pos, aft, g⟩ e H (.agg cs') := by
 subst hc; exact Pure.loadRefAgg hx (by simpa using hn)
theorem Pure.ldHAgg {t n : Nat} [TAgg C.P t n] {b off ty' : Nat} {cs cs' : List LV} (hx : e.ev x = ptr b off) (hm : (b, LObj.cells ty' cs) ∈ H) (hn : Nat.ble (off + n) cs.length = true) (hc : (cs.drop off).take n = cs') :
  Pure C ⟨dst, .load t x, ty, pos, aft, g⟩ e H (.agg cs') := by
 subst hc; exact Pure.loadHAgg hx hm (by simpa using hn)
/-- An index of a list that is known whole. -/
theorem Pure.ixRef {t el s : Nat} [ht : TSlice C.P t el s] {es : List LV} {n : Int} {el' : LV} {cs : List LV} (hx : elems (e.ev x) = some es) (hy : e.ev y = int k n) (h0 : 0 ≤ n) (hn : es[n.toNat]? = some el') (hc : el'.cells = cs) (hs : cs.length = s) :
  Pure C ⟨dst, .indexAddr t x y, ty, pos, aft, g⟩ e H (.ref cs) := by
 subst hc; exact Pure.indexAddr hx hy h0 hn hs
theorem Pure.field1 {s f n : Nat} [TField C.P s f n] {cs cs' : List LV} (hx : e.ev x = .ref cs) (hc : cs.drop n = cs') : Pure C ⟨dst, .fieldAddr s x f, ty, pos, aft, g⟩ e H (.ref cs') := by
 subst hc; exact Pure.fieldRef hx
theorem Pure.bld {t : TypeId} {pl : List (Nat × Nat)} {zs : List Value} [hs : TStruct C.P t pl] [hz : TZero C.P t zs] (parts : List (Nat × Operand)) {cs : List LV}
  (h : fillL pl (zs.map .atom) (parts.map fun p => (p.1, e.ev p.2)) = some cs) : Pure C ⟨dst, .build t parts.toArray, ty, pos, aft, g⟩ e H (.agg cs) := Pure.build h
end pure
section steps
variable {C : Ctx} {e : Env} {H H' : Heap} {dst : Option Nat} {op : Op} {ty : TypeId} {pos : String} {aft : Array Edge} {g : Option (Nat × Bool)} {x y : Operand} {K K' : LV → Heap → Prop} {X : List PanicEntry → Heap → Prop}
theorem LStep.conseq {o : Oper} (h : LStep C o e H K X) (hk : ∀ lv H', K lv H' → ∃ lv' H'', lv.Sub lv' ∧ HSub H'' H' ∧ K' lv' H'') : LStep C o e H K' X := fun ρ w L h1 h2 => by
 have := h ρ w L h1 h2
 have lf : ∀ {w' v}, Left C w L H w' v K → Left C w L H w' v K' := fun h => by
  obtain ⟨lv, H', L', r1, r2, r3, r4⟩ := h
  obtain ⟨lv', H'', s1, s2, s3⟩ := hk _ _ r4
  exact ⟨lv', H'', L', r1.weak s2, r2.weak s2, s1 _ _ _ r3, s3⟩
 unfold StepOut at this ⊢
 split at this
 ·exact lf this
 ·exact lf this
 ·refine ⟨this.1, this.2.mono fun e w' he => ?_⟩
  cases e with
  | returned v => exact lf he
  | panicked ch => exact he
  | outgrown => exact he
 ·exact this
 ·exact this.elim
/-- One entry, at its place in the heap. -/
theorem LStep.at1 {o : Oper} {p : Nat × LObj} {F : Heap} (hp : Pick p H F) (h : LStep C o e [p] (fun lv H' => K lv (H' ++ F)) (fun ch H' => X ch (H' ++ F))) : LStep C o e H K X := LStep.frame (H := [p]) hp h
theorem LStep.at0 {o : Oper} (h : LStep C o e [] (fun lv H' => K lv (H' ++ H)) (fun ch H' => X ch (H' ++ H))) : LStep C o e H K X := LStep.frame (H := []) (List.Perm.refl _) h
theorem S.alloc {t : TypeId} {zs : List Value} [hz : TZero C.P t zs] (hk : ∀ b, K (ptr b 0) ((b, .cells t (zs.map .atom)) :: H)) : LStep C ⟨dst, .alloc t, ty, pos, aft, g⟩ e H K X := LStep.at0 (LStep.alloc hk)
theorem S.box {t : TypeId} {cs : List LV} (hx : (e.ev x).cells? = some cs) (hk : ∀ b, K (ptr b 0) ((b, .cells t cs) :: H)) : LStep C ⟨dst, .box t x, ty, pos, aft, g⟩ e H K X := LStep.at0 (LStep.box hx hk)
/-- A literal slice that nobody appends to. -/
theorem S.lit {t el s : Nat} {zs : List Value} [ht : TSlice C.P t el s] [hz : TZero C.P el zs] (xs : List Operand) {es : List LV} (hes : xs.map e.ev = es) (hok : elemsOk s es) {len : Nat} {parts : List (Nat × Operand)} (hp : parts = (List.range xs.length).zip xs) (hlen : len = xs.length)
  (hsz : Nat.ble (len * s) 16777216 = true) (hk : K (.list es) H) : LStep C ⟨dst, .buildSlice t len parts.toArray, ty, pos, aft, g⟩ e H K X := by
 subst hes
 refine LStep.at0 (LStep.conseq (K := fun lv H' => ∃ b, lv = .app b len s (xs.map e.ev)) (LStep.buildSlice hok (by subst hlen; simpa using hsz) hp hlen fun b => ⟨b, rfl⟩) ?_)
 rintro lv H' ⟨b, rfl⟩
 exact ⟨_, [], LV.Sub.app _ _ _ _, HSub.nil _, hk⟩
/-- A literal slice that may be appended to. -/
theorem S.litA {t el s : Nat} {zs : List Value} [ht : TSlice C.P t el s] [hz : TZero C.P el zs] (xs : List Operand) {es : List LV} (hes : xs.map e.ev = es) (hok : elemsOk s es) {len : Nat} {parts : List (Nat × Operand)} (hp : parts = (List.range xs.length).zip xs) (hlen : len = xs.length)
  (hsz : Nat.ble (len * s) 16777216 = true) (hk : ∀ b, K (.app b len s es) ((b, .row (len * s)) :: H)) : LStep C ⟨dst, .buildSlice t len parts.toArray, ty, pos, aft, g⟩ e H K X := by
 subst hes
 exact LStep.at0 (LStep.buildSlice hok (by subst hlen; simpa using hsz) hp hlen fun b => hk b)
theorem S.store {t n : Nat} [ht : TSize C.P t n] {b off ty' : Nat} {cs vs cs' : List LV} {F : Heap} (hx : e.ev x = ptr b off) (hp : Pick (b, .cells ty' cs) H F) (hy : (e.ev y).cells? = some vs) (hn : vs.length = n) (hl : Nat.ble (off + n) cs.length = true) (hok : vs.all cellOk = true)
  (hc : setL cs off vs = cs') (hk : K (.atom undef) ((b, .cells ty' cs') :: F)) : LStep C ⟨dst, .store t x y, ty, pos, aft, g⟩ e H K X := by
 subst hc
 exact LStep.at1 hp (LStep.store hx hy hn (by simpa using hl) hok hk)
theorem S.appNil {sT xT el s bytes : Nat} [ht : TSlice C.P sT el s] [hr : TRow C.P el s bytes] {e2 s2 : Nat} [hx2 : TSlice C.P xT e2 s2] {ms : List LV}
  (hx : e.ev x = nilSlice) (hy : elems (e.ev y) = some ms) (hne : ms ≠ []) (hs : ∀ v ∈ ms, v.cells.length = s) (hroom : ms.length * bytes ≤ 140737488355328)
  (hk : ∀ b cap, K (.app b cap s ms) ((b, .row (ms.length * s)) :: H)) : LStep C ⟨dst, .call { callee := .builtin .append, args := #[x, y], argTypes := #[sT, xT] }, ty, pos, aft, g⟩ e H K X :=
 LStep.at0 (LStep.appendNil rfl ⟨e2, hx2.und⟩ hx hy hne hs hroom fun b cap => hk b cap)
theorem S.app {sT xT el s bytes : Nat} [ht : TSlice C.P sT el s] [hr : TRow C.P el s bytes] {e2 s2 : Nat} [hx2 : TSlice C.P xT e2 s2] {b cap n : Nat} {es ms : List LV} {F : Heap}
  (hx : e.ev x = .app b cap s es) (hp : Pick (b, .row n) H F) (hn : n = es.length * s) (hy : elems (e.ev y) = some ms) (hs : ∀ v ∈ ms, v.cells.length = s) (hok : (ms.flatMap LV.cells).all cellOk = true) (hroom : (es.length + ms.length) * bytes ≤ 140737488355328)
  (hk : ∀ b' cap', K (.app b' cap' s (es ++ ms)) ((b', .row ((es ++ ms).length * s)) :: F)) : LStep C ⟨dst, .call { callee := .builtin .append, args := #[x, y], argTypes := #[sT, xT] }, ty, pos, aft, g⟩ e H K X :=
 LStep.at1 hp (LStep.appendApp rfl ⟨e2, hx2.und⟩ hx hn hy hs hok hroom fun b' cap' => hk b' cap')
theorem S.appNilNil {sT xT el s : Nat} [ht : TSlice C.P sT el s] {e2 s2 : Nat} [hx2 : TSlice C.P xT e2 s2] (hx : e.ev x = nilSlice) (hy : elems (e.ev y) = some []) (hk : K nilSlice H) :
  LStep C ⟨dst, .call { callee := .builtin .append, args := #[x, y], argTypes := #[sT, xT] }, ty, pos, aft, g⟩ e H K X := LStep.appendNilNil rfl ⟨e2, hx2.und⟩ hx hy hk
/-- A list under construction: nil as long as it is empty, then one that may be appended to. -/
inductive Acc (s : Nat) : LV → List LV → Heap → Heap → Prop
 | nil {F : Heap} : Acc s nilSlice [] F F
 | row {b cap : Nat} {es : List LV} {F : Heap} : Acc s (.app b cap s es) es ((b, .row (es.length * s)) :: F) F
theorem Acc.sub {s : Nat} {lv : LV} {es : List LV} {H F : Heap} (h : Acc s lv es H F) : lv.Sub (.list es) := by
 cases h with
 | nil => exact LV.Sub.nil
 | row => exact LV.Sub.app _ _ _ _
theorem Acc.elems {s : Nat} {lv : LV} {es : List LV} {H F : Heap} (h : Acc s lv es H F) : GL.elems lv = some es := by
 cases h <;> rfl
/-- append onto such a list. The heap: its own entry ahead of F, F's part G anywhere. -/
theorem S.acc {sT xT el s bytes : Nat} [ht : TSlice C.P sT el s] [hr : TRow C.P el s bytes] {e2 s2 : Nat} [hx2 : TSlice C.P xT e2 s2] {v : LV} {es ms : List LV} {F : Heap}
  (hx : e.ev x = v) (ha : Acc s v es H F) (hy : GL.elems (e.ev y) = some ms) (hs : ∀ v ∈ ms, v.cells.length = s) (hok : (ms.flatMap LV.cells).all cellOk = true) (hroom : (es.length + ms.length) * bytes ≤ 140737488355328)
  (hk : ∀ v' H', Acc s v' (es ++ ms) H' F → K v' H') : LStep C ⟨dst, .call { callee := .builtin .append, args := #[x, y], argTypes := #[sT, xT] }, ty, pos, aft, g⟩ e H K X := by
 cases ha with
 | nil =>
  by_cases hne : ms = []
  ·subst hne
   exact S.appNilNil hx hy (hk _ _ (by simpa using Acc.nil))
  ·refine S.appNil hx hy hne hs (by simpa using hroom) fun b cap => hk _ _ ?_
   exact Acc.row
 | row => exact S.app hx Pick.here rfl hy hs hok hroom fun b' cap' => hk _ _ Acc.row
theorem S.call0 {f : FuncId} [TEnter C.P f] (args : List Operand) {ats : Array TypeId} {avs : List LV} {R : LRes → Heap → Prop} (has : args.map e.ev = avs)
  (hc : LCalls C f avs [] R) (hk : ∀ v H', R (.ret v) H' → K v (H' ++ H)) (hx : ∀ ch H', R (.panic ch) H' → X ch (H' ++ H)) :
  LStep C ⟨dst, .call { callee := .value (.func f), args := args.toArray, argTypes := ats }, ty, pos, aft, g⟩ e H K X := by
 subst has
 exact LStep.at0 (LStep.call hc hk hx)
theorem S.call1 {f : FuncId} [TEnter C.P f] (args : List Operand) {ats : Array TypeId} {avs : List LV} {R : LRes → Heap → Prop} {p : Nat × LObj} {F : Heap} (has : args.map e.ev = avs) (hp : Pick p H F)
  (hc : LCalls C f avs [p] R) (hk : ∀ v H', R (.ret v) H' → K v (H' ++ F)) (hx : ∀ ch H', R (.panic ch) H' → X ch (H' ++ F)) :
  LStep C ⟨dst, .call { callee := .value (.func f), args := args.toArray, argTypes := ats }, ty, pos, aft, g⟩ e H K X := by
 subst has
 exact LStep.at1 hp (LStep.call hc hk hx)
theorem S.callH {f : FuncId} [TEnter C.P f] (args : List Operand) {ats : Array TypeId} {avs : List LV} {R : LRes → Heap → Prop} {H1 F : Heap} (has : args.map e.ev = avs) (hp : H.Perm (H1 ++ F))
  (hc : LCalls C f avs H1 R) (hk : ∀ v H', R (.ret v) H' → K v (H' ++ F)) (hx : ∀ ch H', R (.panic ch) H' → X ch (H' ++ F)) :
  LStep C ⟨dst, .call { callee := .value (.func f), args := args.toArray, argTypes := ats }, ty, pos, aft, g⟩ e H K X := by
 subst has
 exact LStep.frame hp (LStep.call hc hk hx)
/-- A call through a function value. -/
theorem S.callV {fo : Operand} {f : FuncId} [TEnter C.P f] {first caps : Array Value} (args : List Operand) {ats : Array TypeId} {avs : List LV} {R : LRes → Heap → Prop} {H1 F : Heap} (hf : e.ev fo = .atom (.func (.func f) first caps))
  (has : first.toList.map .atom ++ args.map e.ev ++ caps.toList.map .atom = avs) (hp : H.Perm (H1 ++ F)) (hc : LCalls C f avs H1 R) (hk : ∀ v H', R (.ret v) H' → K v (H' ++ F)) (hx : ∀ ch H', R (.panic ch) H' → X ch (H' ++ F)) :
  LStep C ⟨dst, .call { callee := .value fo, args := args.toArray, argTypes := ats }, ty, pos, aft, g⟩ e H K X := by
 subst has
 exact LStep.frame hp (LStep.callV hf hc hk hx)
end steps
section ret
variable {C : Ctx} {n : Nat} {e : Env} {H H' : Heap} {R : LRes → Heap → Prop}
theorem AllRes.nil : AllRes C n e H [] [] := trivial
theorem AllRes.cons {r : ResultVar} {rs : List ResultVar} {v : LV} {vs : List LV} (h : ResIs C n e H r v) (k : AllRes C n e H rs vs) : AllRes C n e H (r :: rs) (v :: vs) := ⟨h, k⟩
theorem RetPost.ret {rs : List ResultVar} {vs : List LV} (hd : e.ds = []) (h : AllRes C n e H rs vs) (hH : HSub H' H) (hR : R (.ret (resLV vs)) H') : RetPost C n rs R .ret e H := ⟨hd, vs, H', h, hH, hR⟩
theorem RetPost.normal {rs : List ResultVar} {vs : List LV} (hd : e.ds = []) (h : AllRes C n e H rs vs) (hH : HSub H' H) (hR : R (.ret (resLV vs)) H') : RetPost C n rs R .normal e H := ⟨hd, vs, H', h, hH, hR⟩
theorem RetPost.panic {rs : List ResultVar} {ch : List PanicEntry} (hd : e.ds = []) (hH : HSub H' H) (hR : R (.panic ch) H') : RetPost C n rs R (.panic ch) e H := ⟨hd, H', hH, hR⟩
theorem ResIs.cellAgg {a t k : Nat} [TAgg C.P t k] {b off ty' : Nat} {cs : List LV} {lv : LV} (hx : e.s a = ptr b off) (hm : (b, LObj.cells ty' cs) ∈ H) (hn : Nat.ble (off + k) cs.length = true) (hs : (LV.agg ((cs.drop off).take k)).Sub lv) : ResIs C n e H (.cell a t) lv := fun ac w L hE hH => by
 obtain ⟨xs, h1, h2⟩ := hH.cells hm
 have hl := h2.length
 have hn' : off + k ≤ cs.length := by simpa using hn
 have hv := hE.vals a
 rw [hx] at hv
 simp only [Rep] at hv
 refine ⟨.agg ((xs.drop off).take k).toArray, ?_, hs _ _ _ (by simp only [Rep]; exact ⟨_, rfl, (h2.drop off).take k⟩)⟩
 have hlen : ((xs.drop off).take k).length = k := by simp; omega
 simp only [readRes, hv, asAddr, Sem.run_bind, Sem.run_pure, Result.andThen_ok]
 exact loadVar_agg (t := t) (w := w) (b := b) (off := off) hlen (fun j y hy => by
  rw [List.getElem?_take] at hy
  split at hy
  ·simpa [World.cell?, h1, List.getElem?_drop] using hy
  ·cases hy)
theorem ResIs.cellOne {a t : Nat} [TOne C.P t] {b off ty' : Nat} {c lv : LV} {cs : List LV} (hx : e.s a = ptr b off) (hm : (b, LObj.cells ty' cs) ∈ H) (hc : cs[off]? = some c) (hs : c.Sub lv) : ResIs C n e H (.cell a t) lv := fun ac w L hE hH => by
 obtain ⟨xs, h1, h2⟩ := hH.cells hm
 obtain ⟨v, h3, h4⟩ := h2.get hc
 have hv := hE.vals a
 rw [hx] at hv
 simp only [Rep] at hv
 refine ⟨v, ?_, hs _ _ _ h4⟩
 have hc' : w.cell? ⟨b, off, none⟩ = some v := by simp [World.cell?, h1, h3]
 simp only [readRes, hv, asAddr, Sem.run_bind, Sem.run_pure, Result.andThen_ok]
 exact loadVar_one hc'
end ret
end Go.GL
namespace Go.Proofs.YtfodkbchknknjaaGreatDoor
open Go.GL
set_option maxRecDepth 100000
instance : TMixed Tryz.prog := ⟨by kernel_rfl⟩
instance : TSize Tryz.prog 3 1 := .of (by kernel_rfl)
instance : TOne Tryz.prog 3 := .of (by kernel_rfl)
instance : TKind Tryz.prog 3 .i64 := .of (by kernel_rfl)
instance : TZero Tryz.prog 3 [.int .i64 0] := .of (v := .int .i64 0) (n := 1) (by kernel_rfl) rfl rfl
instance : TOne Tryz.prog 4 := .of (by kernel_rfl)
instance : TKind Tryz.prog 5 .u8 := .of (by kernel_rfl)
instance : TZero Tryz.prog 5 [.int .u8 0] := .of (v := .int .u8 0) (n := 1) (by kernel_rfl) rfl rfl
instance : TRow Tryz.prog 5 1 1 := .of (by kernel_rfl)
instance : TSize Tryz.prog 9 1 := .of (by kernel_rfl)
instance : TOne Tryz.prog 9 := .of (by kernel_rfl)
instance : TStr Tryz.prog 9 := .of (by kernel_rfl)
instance : TZero Tryz.prog 9 [.string ⟨#[]⟩] := .of (v := .string ⟨#[]⟩) (n := 1) (by kernel_rfl) rfl rfl
instance : TRow Tryz.prog 9 1 16 := .of (by kernel_rfl)
instance : TSize Tryz.prog 23 1 := .of (by kernel_rfl)
instance : TOne Tryz.prog 23 := .of (by kernel_rfl)
instance : TSlice Tryz.prog 23 9 1 := .of (by kernel_rfl)
instance : TZero Tryz.prog 23 [.slice none 0 0] := .of (v := .slice none 0 0) (n := 1) (by kernel_rfl) rfl rfl
instance : TSize Tryz.prog 24 1 := .of (by kernel_rfl)
instance : TOne Tryz.prog 24 := .of (by kernel_rfl)
instance : TSlice Tryz.prog 24 70 2 := .of (by kernel_rfl)
instance : TSize Tryz.prog 25 1 := .of (by kernel_rfl)
instance : TOne Tryz.prog 25 := .of (by kernel_rfl)
instance : TSlice Tryz.prog 25 53 4 := .of (by kernel_rfl)
instance : TSize Tryz.prog 27 3 := .of (by kernel_rfl)
instance : TAgg Tryz.prog 27 3 := .of (by kernel_rfl)
instance : TField Tryz.prog 27 0 0 := .of (by kernel_rfl)
instance : TField Tryz.prog 27 1 1 := .of (by kernel_rfl)
instance : TField Tryz.prog 27 2 2 := .of (by kernel_rfl)
instance : TStruct Tryz.prog 27 [(0, 1), (1, 1), (2, 1)] := .of (by kernel_rfl)
instance : TZero Tryz.prog 27 [.slice none 0 0, .slice none 0 0, .slice none 0 0] := .of (v := .agg #[.slice none 0 0, .slice none 0 0, .slice none 0 0]) (n := 3) (by kernel_rfl) rfl rfl
instance : TSize Tryz.prog 28 1 := .of (by kernel_rfl)
instance : TOne Tryz.prog 28 := .of (by kernel_rfl)
instance : TZero Tryz.prog 28 [.int .i64 0] := .of (v := .int .i64 0) (n := 1) (by kernel_rfl) rfl rfl
instance : TOne Tryz.prog 35 := .of (by kernel_rfl)
instance : TKind Tryz.prog 35 .u32 := .of (by kernel_rfl)
instance : TSize Tryz.prog 36 1 := .of (by kernel_rfl)
instance : TOne Tryz.prog 36 := .of (by kernel_rfl)
instance : TSlice Tryz.prog 36 38 4 := .of (by kernel_rfl)
instance : TSize Tryz.prog 38 4 := .of (by kernel_rfl)
instance : TAgg Tryz.prog 38 4 := .of (by kernel_rfl)
instance : TField Tryz.prog 38 0 0 := .of (by kernel_rfl)
instance : TField Tryz.prog 38 1 1 := .of (by kernel_rfl)
instance : TField Tryz.prog 38 2 2 := .of (by kernel_rfl)
instance : TField Tryz.prog 38 3 3 := .of (by kernel_rfl)
instance : TStruct Tryz.prog 38 [(0, 1), (1, 1), (2, 1), (3, 1)] := .of (by kernel_rfl)
instance : TZero Tryz.prog 38 [.string ⟨#[]⟩, .int .u32 0, .string ⟨#[]⟩, .slice none 0 0] := .of (v := .agg #[.string ⟨#[]⟩, .int .u32 0, .string ⟨#[]⟩, .slice none 0 0]) (n := 4) (by kernel_rfl) rfl rfl
instance : TRow Tryz.prog 38 4 64 := .of (by kernel_rfl)
instance : TOne Tryz.prog 44 := .of (by kernel_rfl)
instance : TSlice Tryz.prog 44 48 3 := .of (by kernel_rfl)
instance : TSize Tryz.prog 48 3 := .of (by kernel_rfl)
instance : TAgg Tryz.prog 48 3 := .of (by kernel_rfl)
instance : TField Tryz.prog 48 0 0 := .of (by kernel_rfl)
instance : TField Tryz.prog 48 1 1 := .of (by kernel_rfl)
instance : TField Tryz.prog 48 2 2 := .of (by kernel_rfl)
instance : TStruct Tryz.prog 48 [(0, 1), (1, 1), (2, 1)] := .of (by kernel_rfl)
instance : TZero Tryz.prog 48 [.int .i64 0, .string ⟨#[]⟩, .int .i64 0] := .of (v := .agg #[.int .i64 0, .string ⟨#[]⟩, .int .i64 0]) (n := 3) (by kernel_rfl) rfl rfl
instance : TRow Tryz.prog 48 3 32 := .of (by kernel_rfl)
instance : TSize Tryz.prog 51 1 := .of (by kernel_rfl)
instance : TOne Tryz.prog 51 := .of (by kernel_rfl)
instance : TSlice Tryz.prog 51 80 6 := .of (by kernel_rfl)
instance : TSize Tryz.prog 53 4 := .of (by kernel_rfl)
instance : TAgg Tryz.prog 53 4 := .of (by kernel_rfl)
instance : TField Tryz.prog 53 0 0 := .of (by kernel_rfl)
instance : TField Tryz.prog 53 1 1 := .of (by kernel_rfl)
instance : TField Tryz.prog 53 2 2 := .of (by kernel_rfl)
instance : TField Tryz.prog 53 3 3 := .of (by kernel_rfl)
instance : TStruct Tryz.prog 53 [(0, 1), (1, 1), (2, 1), (3, 1)] := .of (by kernel_rfl)
instance : TZero Tryz.prog 53 [.string ⟨#[]⟩, .slice none 0 0, .slice none 0 0, .slice none 0 0] := .of (v := .agg #[.string ⟨#[]⟩, .slice none 0 0, .slice none 0 0, .slice none 0 0]) (n := 4) (by kernel_rfl) rfl rfl
instance : TRow Tryz.prog 53 4 88 := .of (by kernel_rfl)
instance : TSize Tryz.prog 57 2 := .of (by kernel_rfl)
instance : TConcrete Tryz.prog 57 := .of (by kernel_rfl)
instance : TField Tryz.prog 57 0 0 := .of (by kernel_rfl)
instance : TField Tryz.prog 57 1 1 := .of (by kernel_rfl)
instance : TStruct Tryz.prog 57 [(0, 1), (1, 1)] := .of (by kernel_rfl)
instance : TZero Tryz.prog 57 [.int .i64 0, .int .i64 0] := .of (v := .agg #[.int .i64 0, .int .i64 0]) (n := 2) (by kernel_rfl) rfl rfl
instance : TOne Tryz.prog 59 := .of (by kernel_rfl)
instance : TField Tryz.prog 61 0 0 := .of (by kernel_rfl)
instance : TField Tryz.prog 61 1 1 := .of (by kernel_rfl)
instance : TField Tryz.prog 61 2 2 := .of (by kernel_rfl)
instance : TStruct Tryz.prog 61 [(0, 1), (1, 1), (2, 1)] := .of (by kernel_rfl)
instance : TZero Tryz.prog 61 [.slice none 0 0, .int .i64 0, .int .i64 0] := .of (v := .agg #[.slice none 0 0, .int .i64 0, .int .i64 0]) (n := 3) (by kernel_rfl) rfl rfl
instance : TField Tryz.prog 65 0 0 := .of (by kernel_rfl)
instance : TField Tryz.prog 65 1 1 := .of (by kernel_rfl)
instance : TField Tryz.prog 65 2 2 := .of (by kernel_rfl)
instance : TField Tryz.prog 65 3 3 := .of (by kernel_rfl)
instance : TField Tryz.prog 65 4 4 := .of (by kernel_rfl)
instance : TStruct Tryz.prog 65 [(0, 1), (1, 1), (2, 1), (3, 1), (4, 1)] := .of (by kernel_rfl)
instance : TZero Tryz.prog 65 [.slice none 0 0, .int .i64 0, .int .i64 0, .int .i64 0, .int .i64 0] := .of (v := .agg #[.slice none 0 0, .int .i64 0, .int .i64 0, .int .i64 0, .int .i64 0]) (n := 5) (by kernel_rfl) rfl rfl
instance : TSize Tryz.prog 70 2 := .of (by kernel_rfl)
instance : TAgg Tryz.prog 70 2 := .of (by kernel_rfl)
instance : TField Tryz.prog 70 0 0 := .of (by kernel_rfl)
instance : TField Tryz.prog 70 1 1 := .of (by kernel_rfl)
instance : TStruct Tryz.prog 70 [(0, 1), (1, 1)] := .of (by kernel_rfl)
instance : TZero Tryz.prog 70 [.string ⟨#[]⟩, .int .i64 0] := .of (v := .agg #[.string ⟨#[]⟩, .int .i64 0]) (n := 2) (by kernel_rfl) rfl rfl
instance : TRow Tryz.prog 70 2 24 := .of (by kernel_rfl)
instance : TSize Tryz.prog 80 6 := .of (by kernel_rfl)
instance : TAgg Tryz.prog 80 6 := .of (by kernel_rfl)
instance : TField Tryz.prog 80 0 0 := .of (by kernel_rfl)
instance : TField Tryz.prog 80 1 1 := .of (by kernel_rfl)
instance : TField Tryz.prog 80 2 2 := .of (by kernel_rfl)
instance : TField Tryz.prog 80 3 3 := .of (by kernel_rfl)
instance : TField Tryz.prog 80 4 4 := .of (by kernel_rfl)
instance : TField Tryz.prog 80 5 5 := .of (by kernel_rfl)
instance : TStruct Tryz.prog 80 [(0, 1), (1, 1), (2, 1), (3, 1), (4, 1), (5, 1)] := .of (by kernel_rfl)
instance : TZero Tryz.prog 80 [.int .i64 0, .string ⟨#[]⟩, .slice none 0 0, .slice none 0 0, .slice none 0 0, .slice none 0 0] := .of (v := .agg #[.int .i64 0, .string ⟨#[]⟩, .slice none 0 0, .slice none 0 0, .slice none 0 0, .slice none 0 0]) (n := 6) (by kernel_rfl) rfl rfl
instance : TRow Tryz.prog 80 6 120 := .of (by kernel_rfl)
instance : TSize Tryz.prog 85 1 := .of (by kernel_rfl)
instance : TOne Tryz.prog 85 := .of (by kernel_rfl)
instance : TSlice Tryz.prog 85 5 1 := .of (by kernel_rfl)
instance : TField Tryz.prog 87 1 1 := .of (by kernel_rfl)
instance : TZero Tryz.prog 87 [.pointer none, .slice none 0 0] := .of (v := .agg #[.pointer none, .slice none 0 0]) (n := 2) (by kernel_rfl) rfl rfl
instance : TSize Tryz.prog 105 5 := .of (by kernel_rfl)
instance : TAgg Tryz.prog 105 5 := .of (by kernel_rfl)
instance : TField Tryz.prog 105 0 0 := .of (by kernel_rfl)
instance : TField Tryz.prog 105 1 3 := .of (by kernel_rfl)
instance : TField Tryz.prog 105 2 4 := .of (by kernel_rfl)
instance : TStruct Tryz.prog 105 [(0, 3), (3, 1), (4, 1)] := .of (by kernel_rfl)
instance : TZero Tryz.prog 105 [.int .i64 0, .string ⟨#[]⟩, .int .i64 0, .int .i64 0, .int .i64 0] := .of (v := .agg #[.int .i64 0, .string ⟨#[]⟩, .int .i64 0, .int .i64 0, .int .i64 0]) (n := 5) (by kernel_rfl) rfl rfl
instance : TKind Tryz.prog 119 .u64 := .of (by kernel_rfl)
instance : TSize Tryz.prog 148 1 := .of (by kernel_rfl)
instance : TOne Tryz.prog 148 := .of (by kernel_rfl)
instance : TZero Tryz.prog 148 [.nilFunc] := .of (v := .nilFunc) (n := 1) (by kernel_rfl) rfl rfl
instance : TOne Tryz.prog 159 := .of (by kernel_rfl)
instance : TSlice Tryz.prog 159 23 1 := .of (by kernel_rfl)
instance : TEnter Tryz.prog 11 := .of (by kernel_rfl)
instance : TEnter Tryz.prog 12 := .of (by kernel_rfl)
instance : TEnter Tryz.prog 13 := .of (by kernel_rfl)
instance : TEnter Tryz.prog 14 := .of (by kernel_rfl)
instance : TEnter Tryz.prog 15 := .of (by kernel_rfl)
instance : TEnter Tryz.prog 17 := .of (by kernel_rfl)
instance : TEnter Tryz.prog 18 := .of (by kernel_rfl)
instance : TEnter Tryz.prog 19 := .of (by kernel_rfl)
instance : TEnter Tryz.prog 20 := .of (by kernel_rfl)
instance : TEnter Tryz.prog 21 := .of (by kernel_rfl)
instance : TEnter Tryz.prog 22 := .of (by kernel_rfl)
instance : TEnter Tryz.prog 23 := .of (by kernel_rfl)
instance : TEnter Tryz.prog 26 := .of (by kernel_rfl)
instance : TEnter Tryz.prog 27 := .of (by kernel_rfl)
instance : TEnter Tryz.prog 28 := .of (by kernel_rfl)
instance : TEnter Tryz.prog 29 := .of (by kernel_rfl)
instance : TEnter Tryz.prog 30 := .of (by kernel_rfl)
instance : TEnter Tryz.prog 31 := .of (by kernel_rfl)
instance : TEnter Tryz.prog 32 := .of (by kernel_rfl)
instance : TEnter Tryz.prog 33 := .of (by kernel_rfl)
instance : TEnter Tryz.prog 34 := .of (by kernel_rfl)
instance : TEnter Tryz.prog 35 := .of (by kernel_rfl)
instance : TEnter Tryz.prog 36 := .of (by kernel_rfl)
instance : TEnter Tryz.prog 37 := .of (by kernel_rfl)
instance : TEnter Tryz.prog 38 := .of (by kernel_rfl)
instance : TEnter Tryz.prog 39 := .of (by kernel_rfl)
instance : TEnter Tryz.prog 40 := .of (by kernel_rfl)
instance : TEnter Tryz.prog 41 := .of (by kernel_rfl)
instance : TEnter Tryz.prog 42 := .of (by kernel_rfl)
instance : TEnter Tryz.prog 43 := .of (by kernel_rfl)
instance : TEnter Tryz.prog 44 := .of (by kernel_rfl)
instance : TEnter Tryz.prog 45 := .of (by kernel_rfl)
instance : TEnter Tryz.prog 46 := .of (by kernel_rfl)
instance : TEnter Tryz.prog 47 := .of (by kernel_rfl)
instance : TEnter Tryz.prog 49 := .of (by kernel_rfl)
instance : TEnter Tryz.prog 50 := .of (by kernel_rfl)
instance : TEnter Tryz.prog 51 := .of (by kernel_rfl)
instance : TEnter Tryz.prog 52 := .of (by kernel_rfl)
instance : TEnter Tryz.prog 54 := .of (by kernel_rfl)
instance : TEnter Tryz.prog 56 := .of (by kernel_rfl)
instance : TEnter Tryz.prog 57 := .of (by kernel_rfl)
instance : TEnter Tryz.prog 58 := .of (by kernel_rfl)
instance : TEnter Tryz.prog 59 := .of (by kernel_rfl)
instance : TEnter Tryz.prog 60 := .of (by kernel_rfl)
instance : TEnter Tryz.prog 61 := .of (by kernel_rfl)
instance : TEnter Tryz.prog 62 := .of (by kernel_rfl)
instance : TEnter Tryz.prog 63 := .of (by kernel_rfl)
instance : TEnter Tryz.prog 64 := .of (by kernel_rfl)
instance : TEnter Tryz.prog 65 := .of (by kernel_rfl)
instance : TEnter Tryz.prog 66 := .of (by kernel_rfl)
instance : TEnter Tryz.prog 67 := .of (by kernel_rfl)
instance : TEnter Tryz.prog 68 := .of (by kernel_rfl)
instance : TEnter Tryz.prog 69 := .of (by kernel_rfl)
instance : TEnter Tryz.prog 70 := .of (by kernel_rfl)
instance : TEnter Tryz.prog 71 := .of (by kernel_rfl)
instance : TEnter Tryz.prog 72 := .of (by kernel_rfl)
instance : TEnter Tryz.prog 73 := .of (by kernel_rfl)
instance : TEnter Tryz.prog 74 := .of (by kernel_rfl)
instance : TEnter Tryz.prog 75 := .of (by kernel_rfl)
instance : TEnter Tryz.prog 76 := .of (by kernel_rfl)
instance : TEnter Tryz.prog 77 := .of (by kernel_rfl)
instance : TEnter Tryz.prog 78 := .of (by kernel_rfl)
instance : TEnter Tryz.prog 79 := .of (by kernel_rfl)
instance : TEnter Tryz.prog 83 := .of (by kernel_rfl)
instance : TEnter Tryz.prog 86 := .of (by kernel_rfl)
instance : TEnter Tryz.prog 87 := .of (by kernel_rfl)
instance : TEnter Tryz.prog 91 := .of (by kernel_rfl)
instance : TEnter Tryz.prog 92 := .of (by kernel_rfl)
instance : TEnter Tryz.prog 93 := .of (by kernel_rfl)
instance : TEnter Tryz.prog 94 := .of (by kernel_rfl)
instance : TEnter Tryz.prog 95 := .of (by kernel_rfl)
instance : TEnter Tryz.prog 96 := .of (by kernel_rfl)
instance : TEnter Tryz.prog 97 := .of (by kernel_rfl)
instance : TEnter Tryz.prog 98 := .of (by kernel_rfl)
instance : TEnter Tryz.prog 99 := .of (by kernel_rfl)
instance : TEnter Tryz.prog 100 := .of (by kernel_rfl)
instance : TEnter Tryz.prog 101 := .of (by kernel_rfl)
instance : TEnter Tryz.prog 102 := .of (by kernel_rfl)
instance : TEnter Tryz.prog 103 := .of (by kernel_rfl)
instance : TEnter Tryz.prog 104 := .of (by kernel_rfl)
instance : TEnter Tryz.prog 105 := .of (by kernel_rfl)
instance : TEnter Tryz.prog 106 := .of (by kernel_rfl)
instance : TEnter Tryz.prog 107 := .of (by kernel_rfl)
instance : TEnter Tryz.prog 108 := .of (by kernel_rfl)
instance : TEnter Tryz.prog 109 := .of (by kernel_rfl)
instance : TEnter Tryz.prog 110 := .of (by kernel_rfl)
instance : TEnter Tryz.prog 111 := .of (by kernel_rfl)
instance : TEnter Tryz.prog 112 := .of (by kernel_rfl)
instance : TEnter Tryz.prog 113 := .of (by kernel_rfl)
instance : TEnter Tryz.prog 118 := .of (by kernel_rfl)
instance : TEnter Tryz.prog 119 := .of (by kernel_rfl)
instance : TEnter Tryz.prog 120 := .of (by kernel_rfl)
instance : TEnter Tryz.prog 121 := .of (by kernel_rfl)
instance : TEnter Tryz.prog 122 := .of (by kernel_rfl)
instance : TEnter Tryz.prog 123 := .of (by kernel_rfl)
instance : TEnter Tryz.prog 124 := .of (by kernel_rfl)
instance : TEnter Tryz.prog 125 := .of (by kernel_rfl)
instance : TEnter Tryz.prog 126 := .of (by kernel_rfl)
instance : TEnter Tryz.prog 127 := .of (by kernel_rfl)
instance : TEnter Tryz.prog 128 := .of (by kernel_rfl)
instance : TEnter Tryz.prog 129 := .of (by kernel_rfl)
instance : TEnter Tryz.prog 132 := .of (by kernel_rfl)
instance : TEnter Tryz.prog 141 := .of (by kernel_rfl)
instance : TEnter Tryz.prog 142 := .of (by kernel_rfl)
instance : TEnter Tryz.prog 143 := .of (by kernel_rfl)
instance : TEnter Tryz.prog 144 := .of (by kernel_rfl)
instance : TEnter Tryz.prog 145 := .of (by kernel_rfl)
instance : TEnter Tryz.prog 146 := .of (by kernel_rfl)
instance : TEnter Tryz.prog 147 := .of (by kernel_rfl)
instance : TEnter Tryz.prog 148 := .of (by kernel_rfl)
instance : TEnter Tryz.prog 149 := .of (by kernel_rfl)
instance : TEnter Tryz.prog 163 := .of (by kernel_rfl)
instance : TEnter Tryz.prog 164 := .of (by kernel_rfl)
instance : TEnter Tryz.prog 165 := .of (by kernel_rfl)
instance : TEnter Tryz.prog 166 := .of (by kernel_rfl)
instance : TEnter Tryz.prog 167 := .of (by kernel_rfl)
instance : TEnter Tryz.prog 168 := .of (by kernel_rfl)
instance : TEnter Tryz.prog 169 := .of (by kernel_rfl)
instance : TEnter Tryz.prog 174 := .of (by kernel_rfl)
instance : TEnter Tryz.prog 175 := .of (by kernel_rfl)
instance : TEnter Tryz.prog 176 := .of (by kernel_rfl)
end Go.Proofs.YtfodkbchknknjaaGreatDoor
namespace Go.GL
open Go.RowKit
/-- The call hands back this value, and no block. -/
@[reducible] def Ret (v : LV) : LRes → Heap → Prop := fun r H => r = .ret v ∧ H = []
/-- The call hands back a value of this kind, and no block. -/
@[reducible] def RetIf (p : LV → Prop) : LRes → Heap → Prop := fun r H => ∃ v, r = .ret v ∧ p v ∧ H = []
section
variable {C : Ctx} {e : Env} {H : Heap} {dst : Option Nat} {ty : TypeId} {pos : String} {aft : Array Edge} {g : Option (Nat × Bool)} {K : LV → Heap → Prop} {X : List PanicEntry → Heap → Prop}
theorem S.fn {f : FuncId} [TEnter C.P f] (args : List Operand) {ats : Array TypeId} {avs : List LV} {lv : LV} (has : args.map e.ev = avs) (hc : LCalls C f avs [] (Ret lv)) (hk : K lv H) :
  LStep C ⟨dst, .call { callee := .value (.func f), args := args.toArray, argTypes := ats }, ty, pos, aft, g⟩ e H K X :=
 S.call0 args has hc (by rintro v H' ⟨h, rfl⟩; cases h; exact hk) (by rintro ch H' ⟨h, _⟩; cases h)
theorem S.fnIf {f : FuncId} [TEnter C.P f] (args : List Operand) {ats : Array TypeId} {avs : List LV} {p : LV → Prop} (has : args.map e.ev = avs) (hc : LCalls C f avs [] (RetIf p)) (hk : ∀ lv, p lv → K lv H) :
  LStep C ⟨dst, .call { callee := .value (.func f), args := args.toArray, argTypes := ats }, ty, pos, aft, g⟩ e H K X :=
 S.call0 args has hc (by rintro v H' ⟨u, h, hp, rfl⟩; cases h; exact hk _ hp) (by rintro ch H' ⟨u, h, _⟩; cases h)
theorem S.fnV {fo : Operand} {f : FuncId} [TEnter C.P f] {first caps : Array Value} (args : List Operand) {ats : Array TypeId} {avs : List LV} {lv : LV} (hf : e.ev fo = .atom (.func (.func f) first caps))
  (has : first.toList.map .atom ++ args.map e.ev ++ caps.toList.map .atom = avs) (hc : LCalls C f avs [] (Ret lv)) (hk : K lv H) :
  LStep C ⟨dst, .call { callee := .value fo, args := args.toArray, argTypes := ats }, ty, pos, aft, g⟩ e H K X :=
 S.callV (H1 := []) (F := H) args hf has (List.Perm.refl _) hc (by rintro v H' ⟨h, rfl⟩; cases h; exact hk) (by rintro ch H' ⟨h, _⟩; cases h)
theorem retRet {n : Nat} {rs : List ResultVar} {vs : List LV} {lv : LV} (hd : e.ds = []) (h : AllRes C n e H rs vs) (hv : resLV vs = lv) : RetPost C n rs (Ret lv) .ret e H :=
 RetPost.ret hd h (HSub.nil _) ⟨by rw [hv], rfl⟩
theorem retRetIf {n : Nat} {rs : List ResultVar} {vs : List LV} {p : LV → Prop} (hd : e.ds = []) (h : AllRes C n e H rs vs) (hv : p (resLV vs)) : RetPost C n rs (RetIf p) .ret e H :=
 RetPost.ret hd h (HSub.nil _) ⟨_, rfl, hv, rfl⟩
end
/-- What a world becomes that only grew. -/
theorem fr_below {C : Ctx} {w w' : World} {L : Live} (hH : RelH C w L []) (h : Below w.heap.size w w') : Fr (keys []) w L w' L [] ∧ RelH C w' L [] := by
 refine ⟨⟨h.os, h.tape, h.output, ⟨h.size, fun b hb => shape_of_heap (h.block b hb), fun b i hi => ?_, fun _ => Nat.le_refl _⟩, fun b hb _ => h.block b hb, fun _ _ _ => rfl, by simp⟩,
  ⟨hH.base.trans (h.mono hH.b0), hH.lbase, Nat.le_trans hH.b0 h.size, fun b hb => hH.wf b (Nat.le_trans h.size hb), List.nodup_nil, by simp⟩⟩
 have hb : b < w.heap.size := by
  rcases Nat.lt_or_ge b w.heap.size with h1 | h1
  ·exact h1
  ·have := hH.wf b h1; omega
 exact cell_of_heap (h.block b hb) i
/-- A call of flat values, whose law is known elsewhere: it hands back a flat value, and nothing old turns. -/
theorem LCalls.of_below {C : Ctx} {f : FuncId} {vs : List Value} {p : Value → Prop}
  (h : ∀ w, Below C.B0 C.w0 w → Calls C.P f vs.toArray w (fun e w' => ∃ v, e = .returned v ∧ p v ∧ Below w.heap.size w w')) : LCalls C f (vs.map .atom) [] (fun r H => ∃ v, r = .ret (.atom v) ∧ p v ∧ H = []) := fun xs w L hv hH => by
 have hx : xs = vs := by
  clear h hH
  induction vs generalizing xs with
  | nil => simpa [RepL] using hv
  | cons v vs ih =>
   simp only [List.map_cons, RepL, Rep] at hv
   obtain ⟨y, ys, rfl, rfl, hv⟩ := hv
   rw [ih _ hv]
 subst hx
 refine (h w hH.base).mono fun e w' he => ?_
 obtain ⟨v, rfl, hp, hb⟩ := he
 obtain ⟨h1, h2⟩ := fr_below hH hb
 exact ⟨.atom v, [], L, h1, h2, rep_atom, v, rfl, hp, rfl⟩
/-- The same, for a tuple of flat values. -/
theorem LCalls.of_belowT {C : Ctx} {f : FuncId} {vs : List Value} {p : List Value → Prop}
  (h : ∀ w, Below C.B0 C.w0 w → Calls C.P f vs.toArray w (fun e w' => ∃ us : List Value, e = .returned (.tuple us.toArray) ∧ p us ∧ Below w.heap.size w w')) : LCalls C f (vs.map .atom) [] (RetIf fun lv => ∃ us, p us ∧ lv = .tuple (us.map .atom)) := fun xs w L hv hH => by
 have hx : xs = vs := by
  clear h hH
  induction vs generalizing xs with
  | nil => simpa [RepL] using hv
  | cons v vs ih =>
   simp only [List.map_cons, RepL, Rep] at hv
   obtain ⟨y, ys, rfl, rfl, hv⟩ := hv
   rw [ih _ hv]
 subst hx
 refine (h w hH.base).mono fun e w' he => ?_
 obtain ⟨us, rfl, hp, hb⟩ := he
 obtain ⟨h1, h2⟩ := fr_below hH hb
 exact ⟨.tuple (us.map .atom), [], L, h1, h2, by simp only [Rep]; exact ⟨us, rfl, repL_atoms _⟩, _, rfl, ⟨us, hp, rfl⟩, rfl⟩
theorem LCalls.ret_of {C : Ctx} {f : FuncId} {vs : List Value} {u : Value}
  (h : ∀ w, Below C.B0 C.w0 w → Calls C.P f vs.toArray w (fun e w' => e = .returned u ∧ Below w.heap.size w w')) : LCalls C f (vs.map .atom) [] (Ret (.atom u)) :=
 LCalls.mono (LCalls.of_below (p := fun v => v = u) fun w hw => (h w hw).mono fun e w' he => ⟨u, he.1, rfl, he.2⟩) fun r H' ⟨v, h1, h2, h3⟩ => ⟨by rw [h1, h2], h3⟩
/-- The slots hold these. -/
def AllSlots (e : Env) : List (Nat × LV) → Prop
 | [] => True
 | (d, v) :: r => e.s d = v ∧ AllSlots e r
theorem AllSlots.mem {e : Env} : ∀ {l : List (Nat × LV)}, AllSlots e l → ∀ p ∈ l, e.s p.1 = p.2
 | [], _, p, hp => by cases hp
 | (d, v) :: r, h, p, hp => by
  rcases List.mem_cons.1 hp with rfl | hp
  ·exact h.1
  ·exact AllSlots.mem h.2 p hp
/-- The loop goes on. -/
def Again (I : Nat → List (Nat × LV) → Heap → Prop) (k : Nat) (ds : List Deferred) (e' : Env) (H' : Heap) : Prop :=
 ∃ m l' H'', m < k ∧ I m l' H'' ∧ AllSlots e' l' ∧ HSub H'' H' ∧ e'.ds = ds
/-- A loop, by what its slots hold. -/
theorem LCode.loopI {C : Ctx} {n : Nat} {c : Code} {Q : Post} {e : Env} {H : Heap} (I : Nat → List (Nat × LV) → Heap → Prop) (h0 : ∃ k l H0, I k l H0 ∧ AllSlots e l ∧ HSub H0 H)
  (round : ∀ k l H, I k l H → ∀ j : Env, j.ds = e.ds → LCode C n c (QThen (Again I k e.ds) Q) (Env.slots j l) H) : LCode C n (.loop c) Q e H := by
 obtain ⟨k, l, H0, h0, h1, h2⟩ := h0
 refine LCode.weak h2 (LCode.loop (fun k e' H' => ∃ l H0, I k l H0 ∧ AllSlots e' l ∧ HSub H0 H' ∧ e'.ds = e.ds) k ⟨l, H0, h0, h1, HSub.refl _, rfl⟩ ?_)
 rintro k e' H' ⟨l, H0, g0, g1, g2, g3⟩
 have := round k l H0 g0 e' g3
 rw [Env.slots_self g1.mem] at this
 refine LCode.weak g2 (LCode.conseq this ?_)
 rintro ex e2 H2 hq
 cases ex with
 | normal =>
  obtain ⟨m, l', H3, r1, r2, r3, r4, r5⟩ := hq
  exact ⟨m, r1, l', H3, r2, r3, r4, r5⟩
 | exit id => exact hq
 | goto id => exact hq
 | ret => exact hq
 | panic ch => exact hq
 | outgrown => exact hq
theorem bool_eq {a b : Bool} (h : a = b) : bool a = bool b := by rw [h]
/-- A place that more than one way comes to: what is known there. -/
def At (l : List (Nat × LV)) (H1 : Heap) (ds : List Deferred) (e' : Env) (H' : Heap) : Prop := AllSlots e' l ∧ H' = H1 ∧ e'.ds = ds
theorem LOps.cutTo {C : Ctx} {n : Nat} {ops : Array Oper} {rest : List Oper} {Q : Post} {e : Env} {H : Heap} {k : Env → Heap → Prop} (l : List (Nat × LV)) (H1 : Heap)
  (hx : LOps C n ops (QThen (At l H1 e.ds) Q) rest e H) (hy : ∀ j : Env, j.ds = e.ds → k (Env.slots j l) H1) : LOps C n ops (QThen k Q) rest e H := by
 refine LOps.conseq hx ?_
 rintro ex e' H' hq
 cases ex with
 | normal =>
  obtain ⟨h1, rfl, h3⟩ := hq
  have := hy e' h3
  rw [Env.slots_self h1.mem] at this
  exact this
 | exit id => exact hq
 | goto id => exact hq
 | ret => exact hq
 | panic ch => exact hq
 | outgrown => exact hq
theorem LCode.cutTo {C : Ctx} {n : Nat} {c : Code} {Q : Post} {e : Env} {H : Heap} {k : Env → Heap → Prop} (l : List (Nat × LV)) (H1 : Heap)
  (hx : LCode C n c (QThen (At l H1 e.ds) Q) e H) (hy : ∀ j : Env, j.ds = e.ds → k (Env.slots j l) H1) : LCode C n c (QThen k Q) e H := by
 refine LCode.conseq hx ?_
 rintro ex e' H' hq
 cases ex with
 | normal =>
  obtain ⟨h1, rfl, h3⟩ := hq
  have := hy e' h3
  rw [Env.slots_self h1.mem] at this
  exact this
 | exit id => exact hq
 | goto id => exact hq
 | ret => exact hq
 | panic ch => exact hq
 | outgrown => exact hq
theorem LOps.cut {C : Ctx} {n : Nat} {ops : Array Oper} {rest : List Oper} {Q : Post} {e : Env} {H : Heap} {k : Env → Heap → Prop} (l : List (Nat × LV))
  (hx : LOps C n ops (QThen (At l H e.ds) Q) rest e H) (hy : ∀ j : Env, j.ds = e.ds → k (Env.slots j l) H) : LOps C n ops (QThen k Q) rest e H := LOps.cutTo l H hx hy
theorem LCode.cut {C : Ctx} {n : Nat} {c : Code} {Q : Post} {e : Env} {H : Heap} {k : Env → Heap → Prop} (l : List (Nat × LV))
  (hx : LCode C n c (QThen (At l H e.ds) Q) e H) (hy : ∀ j : Env, j.ds = e.ds → k (Env.slots j l) H) : LCode C n c (QThen k Q) e H := LCode.cutTo l H hx hy
theorem yielded_undef {ops : Array Oper} {n : Nat} {a : Act} {e : Env} {w : World} {L : Live} (hE : RelE n a e w L) {j d : Nat} (hj : (ops[j]?).bind (·.dst) = some d) (hb : e.s d = .atom undef) : yielded ops a.tmps j = none := by
 have h := hE.vals d
 rw [hb] at h
 simp only [Rep] at h
 unfold yielded
 rw [hj]
 simp only [Option.bind_some]
 rw [Array.getD_eq_getD_getElem?] at h
 cases hx : a.tmps[d]? with
 | none => rfl
 | some x => rw [hx] at h; simp only [Option.getD_some] at h; subst h; rfl
/-- An operation whose guard was itself passed over. -/
theorem LOps.skipU {C : Ctx} {n : Nat} {ops : Array Oper} {Q : Post} {e : Env} {H : Heap} {dst : Option Nat} {op : Op} {ty : TypeId} {pos : String} {aft : Array Edge} {rest : List Oper} {j d : Nat} {c : Bool}
  (hj : (ops[j]?).bind (·.dst) = some d) (hb : e.s d = .atom undef) (hd : dstOk n dst)
  (k : LOps C n ops Q rest (e.put dst (.atom undef)) H) : LOps C n ops Q (⟨dst, op, ty, pos, aft, some (j, c)⟩ :: rest) e H := fun a w L hE hH => by
 unfold wpList
 rw [if_neg (by simp [Region.wanted, yielded_undef hE hj hb])]
 exact k _ w L (hE.put hd (by simp only [Rep])) hH
theorem LQ.skipU {C : Ctx} {n : Nat} {ops : Array Oper} {K : Env → Prop} {e : Env} {H : Heap} {dst : Option Nat} {op : Op} {ty : TypeId} {pos : String} {aft : Array Edge} {rest : List Oper} {j d : Nat} {c : Bool} (hj : (ops[j]?).bind (·.dst) = some d) (hb : e.s d = .atom undef) (hd : dstOk n dst)
  (k : LQ C n ops K rest (e.put dst (.atom undef)) H) : LQ C n ops K (⟨dst, op, ty, pos, aft, some (j, c)⟩ :: rest) e H := fun a w L hE hH => by
 unfold wpQuiet
 rw [if_neg (by simp [Region.wanted, yielded_undef hE hj hb])]
 exact k _ w L (hE.put hd rep_atom) hH
theorem int_eq {k : IntKind} {a b : Int} (h : a = b) : int k a = int k b := by rw [h]
end Go.GL
namespace Go.Stele
@[reducible] def cv (c : UInt8) : Int := (c.toNat : Int)
def isDigit (c : UInt8) : Bool := decide (48 ≤ cv c) && decide (cv c ≤ 57)
def isLetter (c : UInt8) : Bool := decide (97 ≤ cv c) && decide (cv c ≤ 122)
def isInner (c : UInt8) : Bool := isLetter c || isDigit c || decide (cv c = 95)
def notNl (c : UInt8) : Bool := !decide (cv c = 10)
def isWhite (c : UInt8) : Bool := decide (cv c = 32) || decide (cv c = 9) || decide (cv c = 10)
structure Tok where
 kind : Int
 text : List UInt8
 line : Int
 deriving DecidableEq, Inhabited
end Go.Stele
namespace Go.Stele
theorem takeWhile_step {p : UInt8 → Bool} {s : List UInt8} {m : Nat} (hm : m < s.length) (h : s.takeWhile p = s.take m ++ (s.drop m).takeWhile p) :
  (p s[m] = true → s.takeWhile p = s.take (m + 1) ++ (s.drop (m + 1)).takeWhile p) ∧ (p s[m] = false → s.takeWhile p = s.take m) := by
 have h1 : s.drop m = s[m] :: s.drop (m + 1) := List.drop_eq_getElem_cons hm
 constructor
 ·intro hp
  rw [h, h1, List.takeWhile_cons_of_pos hp, List.take_succ_eq_append_getElem hm]
  simp only [List.append_assoc, List.singleton_append]
 ·intro hp
  rw [h, h1, List.takeWhile_cons_of_neg (by simp [hp])]
  simp
theorem takeWhile_end {p : UInt8 → Bool} {s : List UInt8} {m : Nat} (hm : s.length ≤ m) (h : s.takeWhile p = s.take m ++ (s.drop m).takeWhile p) : s.takeWhile p = s.take m := by
 rw [h, List.drop_eq_nil_of_le hm]
 simp
def skipLen (s : List UInt8) : Nat := if [47, 47].isPrefixOf s then (s.takeWhile notNl).length else (s.takeWhile isWhite).length
end Go.Stele
/- What the lexer computes, in plain Lean: tokens. -/
namespace Go.Stele
def zeroTok : Tok := ⟨0, [], 0⟩
/-- A token, its length, an error. -/
abbrev TokR := Tok × Nat × Int
def tokErr (e : Int) : TokR := (zeroTok, 0, e)
def wordNext (s : List UInt8) (n : Nat) : Bool := match s[n]? with
 | some c => isLetter c || decide (cv c = 95)
 | none => false
def lexNumber (s : List UInt8) : TokR :=
 if wordNext s (s.takeWhile isDigit).length then tokErr 3 else
  match Go.Lib.parseUintB 32 (s.takeWhile isDigit) with
  | .ok u => (⟨1, Go.Lib.decDigits u, 0⟩, (s.takeWhile isDigit).length, 0)
  | _ => tokErr 2
def lexLiteral : List UInt8 → TokR
 | _ :: b :: c :: _ => if (!decide (cv c = 39)) || decide (cv b < 32) || decide (126 < cv b) || decide (cv b = 39) || decide (cv b = 92) then tokErr 3 else (⟨1, Go.Lib.decDigits b.toNat, 0⟩, 3, 0)
 | _ => tokErr 3
def keywords : List (List UInt8) := [[97, 114, 114, 97, 121], [101, 108, 115, 101], [102, 117, 110, 99], [104, 97, 108, 116], [105, 102], [114, 101, 116, 117, 114, 110], [118, 97, 114], [119, 104, 105, 108, 101]]
def signs : List (List UInt8) := [[38, 38], [124, 124], [61, 61], [33, 61], [60, 61], [62, 61], [60], [62], [94], [43], [45], [42], [47], [37], [33], [61], [40], [41], [123], [125], [91], [93], [44], [59]]
def lexName (s : List UInt8) : TokR :=
 if 24 < (s.takeWhile isInner).length then tokErr 7 else (⟨if keywords.contains (s.takeWhile isInner) then 3 else 2, s.takeWhile isInner, 0⟩, (s.takeWhile isInner).length, 0)
def lexSign (s : List UInt8) : TokR := match signs.find? (fun x => x.isPrefixOf s) with
 | some x => (⟨4, x, 0⟩, x.length, 0)
 | none => tokErr 3
def lexToken (s : List UInt8) : TokR := match s with
 | [] => tokErr 3
 | c :: _ => if isDigit c then lexNumber s else if isLetter c then lexName s else if decide (cv c = 39) then lexLiteral s else lexSign s
/-- The tokens of s, whose first line has this number; or the line and the error. -/
def lexP : Nat → List UInt8 → Int → Except (Int × Int) (List Tok)
 | 0, _, _ => .ok []
 | fuel + 1, s, line =>
  if s = [] then .ok [] else
  if skipLen s = 0 then
   if (lexToken s).2.2 ≠ 0 then .error (line, (lexToken s).2.2)
   else (lexP fuel (s.drop (lexToken s).2.1) (line + ((s.take (lexToken s).2.1).count 10 : Nat))).map ({ (lexToken s).1 with line := line } :: ·)
  else lexP fuel (s.drop (skipLen s)) (line + ((s.take (skipLen s)).count 10 : Nat))
end Go.Stele
namespace Go.Stele
theorem takeWhile_le (p : UInt8 → Bool) (s : List UInt8) : (s.takeWhile p).length ≤ s.length := (List.takeWhile_prefix p).length_le
theorem lexToken_size (s : List UInt8) (h : (lexToken s).2.2 = 0) : 0 < (lexToken s).2.1 ∧ (lexToken s).2.1 ≤ s.length := by
 match s with
 | [] => simp [lexToken, tokErr] at h
 | c :: r =>
  simp only [lexToken] at h ⊢
  split at h <;> rename_i hc
  ·rw [if_pos hc]
   unfold lexNumber at h ⊢
   split at h
   ·simp [tokErr] at h
   ·rename_i hw
    rw [if_neg hw]
    split at h
    ·rename_i u hu
     refine ⟨?_, takeWhile_le _ _⟩
     rw [List.takeWhile_cons_of_pos hc]
     simp
    ·simp [tokErr] at h
  ·rw [if_neg hc]
   split at h <;> rename_i hl
   ·rw [if_pos hl]
    unfold lexName at h ⊢
    split at h
    ·simp [tokErr] at h
    ·rename_i hw
     rw [if_neg hw]
     refine ⟨?_, takeWhile_le _ _⟩
     rw [List.takeWhile_cons_of_pos (by simp [isInner, hl])]
     simp
   ·rw [if_neg hl]
    split at h <;> rename_i hq
    ·rw [if_pos hq]
     unfold lexLiteral at h ⊢
     split at h
     ·split at h
      ·simp [tokErr] at h
      ·rename_i hx
       rename_i heq
       rw [if_neg hx, heq]
       simp
     ·simp [tokErr] at h
    ·rw [if_neg hq]
     unfold lexSign at h ⊢
     split at h
     ·rename_i x hx
      have h1 := List.find?_some hx
      have h2 := List.mem_of_find?_eq_some hx
      refine ⟨?_, (List.isPrefixOf_iff_prefix.1 h1).length_le⟩
      have : ∀ x ∈ signs, 0 < x.length := by decide
      exact this x h2
     ·simp [tokErr] at h
theorem skipLen_le (s : List UInt8) : skipLen s ≤ s.length := by
 unfold skipLen
 split <;> exact takeWhile_le _ _
end Go.Stele
namespace Go.Proofs.YtfodkbchknknjaaGreatDoor
open Go.GL Go.RowKit Go.Stele
set_option maxRecDepth 100000
set_option maxHeartbeats 4000000
noncomputable abbrev KC (B0 : Nat) (w0 : World) : Ctx := ⟨Tryz.prog, B0, w0⟩
attribute [local irreducible] LOps LCode LStep LCalls Go.GL.Pure QThen QBlock RetPost
section
variable {B0 : Nat} {w0 : World}
theorem digit_spec (c : UInt8) : LCalls (KC B0 w0) 74 [int .u8 c.toNat] [] (Ret (bool (isDigit c))) := by
 refine LCalls.intro Tryz.func74 rfl (n := 9) rfl rfl rfl ?_
 repeat first | refine LOps.nil ?_ | refine LCode.seq ?_ | refine LCode.region ?_ | refine QThen.normal ?_ | refine LOps.pure (Pure.as (lv := .atom _) rfl) rfl ?_ | refine LOps.pure (Pure.mv (lv := .atom _) rfl) rfl ?_ | refine LOps.pure (Pure.geq rfl rfl) rfl ?_
 refine LOps.bcase 5 rfl (fun ht => ?_) (fun ht => ?_)
 ·repeat first | refine LOps.nil ?_ | refine LCode.ret ?_ | refine QThen.normal ?_ | refine LOps.pure (Pure.as (lv := .atom _) rfl) rfl ?_ | refine LOps.pure (Pure.mv (lv := .atom _) rfl) rfl ?_ | refine LOps.pure (Pure.leq rfl rfl) rfl ?_ | refine LOps.pure (Pure.pickT (lv := .atom _) rfl rfl) rfl ?_ | refine LOps.want rfl rfl ?_
  exact retRet rfl (AllRes.cons (ResIs.tmp (v := .atom _) rfl (LV.Sub.refl _)) AllRes.nil) (by simp [resLV, isDigit, ht])
 ·repeat first | refine LOps.nil ?_ | refine LCode.ret ?_ | refine QThen.normal ?_ | refine LOps.pure (Pure.as (lv := .atom _) rfl) rfl ?_ | refine LOps.pure (Pure.pickF (lv := .atom _) rfl rfl) rfl ?_ | refine LOps.skip rfl rfl rfl rfl ?_
  exact retRet rfl (AllRes.cons (ResIs.tmp (v := .atom _) rfl (LV.Sub.refl _)) AllRes.nil) (by simp [resLV, isDigit, ht])
theorem letter_spec (c : UInt8) : LCalls (KC B0 w0) 76 [int .u8 c.toNat] [] (Ret (bool (isLetter c))) := by
 refine LCalls.intro Tryz.func76 rfl (n := 9) rfl rfl rfl ?_
 repeat first | refine LOps.nil ?_ | refine LCode.seq ?_ | refine LCode.region ?_ | refine QThen.normal ?_ | refine LOps.pure (Pure.as (lv := .atom _) rfl) rfl ?_ | refine LOps.pure (Pure.mv (lv := .atom _) rfl) rfl ?_ | refine LOps.pure (Pure.geq rfl rfl) rfl ?_
 refine LOps.bcase 5 rfl (fun ht => ?_) (fun ht => ?_)
 ·repeat first | refine LOps.nil ?_ | refine LCode.ret ?_ | refine QThen.normal ?_ | refine LOps.pure (Pure.as (lv := .atom _) rfl) rfl ?_ | refine LOps.pure (Pure.mv (lv := .atom _) rfl) rfl ?_ | refine LOps.pure (Pure.leq rfl rfl) rfl ?_ | refine LOps.pure (Pure.pickT (lv := .atom _) rfl rfl) rfl ?_ | refine LOps.want rfl rfl ?_
  exact retRet rfl (AllRes.cons (ResIs.tmp (v := .atom _) rfl (LV.Sub.refl _)) AllRes.nil) (by simp [resLV, isLetter, ht])
 ·repeat first | refine LOps.nil ?_ | refine LCode.ret ?_ | refine QThen.normal ?_ | refine LOps.pure (Pure.as (lv := .atom _) rfl) rfl ?_ | refine LOps.pure (Pure.pickF (lv := .atom _) rfl rfl) rfl ?_ | refine LOps.skip rfl rfl rfl rfl ?_
  exact retRet rfl (AllRes.cons (ResIs.tmp (v := .atom _) rfl (LV.Sub.refl _)) AllRes.nil) (by simp [resLV, isLetter, ht])
theorem notNl_spec (c : UInt8) : LCalls (KC B0 w0) 72 [int .u8 c.toNat] [] (Ret (bool (notNl c))) := by
 refine LCalls.intro Tryz.func72 rfl (n := 5) rfl rfl rfl ?_
 repeat first | refine LOps.nil ?_ | refine LCode.seq ?_ | refine LCode.region ?_ | refine LCode.ret ?_ | refine QThen.normal ?_ | refine LOps.pure (Pure.as (lv := .atom _) rfl) rfl ?_ | refine LOps.pure (Pure.mv (lv := .atom _) rfl) rfl ?_ | refine LOps.pure (Pure.neq rfl rfl) rfl ?_
 exact retRet rfl (AllRes.cons (ResIs.tmp (v := .atom _) rfl (LV.Sub.refl _)) AllRes.nil) rfl
theorem inner_spec (c : UInt8) : LCalls (KC B0 w0) 112 [int .u8 c.toNat] [] (Ret (bool (isInner c))) := by
 refine LCalls.intro Tryz.func112 rfl (n := 13) rfl rfl rfl ?_
 repeat first | refine LOps.nil ?_ | refine LCode.seq ?_ | refine LCode.region ?_ | refine QThen.normal ?_ | refine LOps.pure (Pure.as (lv := .atom _) rfl) rfl ?_ | refine LOps.pure (Pure.mv (lv := .atom _) rfl) rfl ?_
 refine LOps.step (S.fn [_] rfl (letter_spec c) ?_) rfl
 repeat first | refine LOps.pure (Pure.mv (lv := .atom _) rfl) rfl ?_
 refine LOps.bcase 5 rfl (fun ht => ?_) (fun ht => ?_)
 ·repeat first | refine LOps.nil ?_ | refine LCode.ret ?_ | refine QThen.normal ?_ | refine LOps.pure (Pure.as (lv := .atom _) rfl) rfl ?_ | refine LOps.pure (Pure.mv (lv := .atom _) rfl) rfl ?_ | refine LOps.pure (Pure.pickT (lv := .atom _) rfl rfl) rfl ?_ | refine LOps.skip rfl rfl rfl rfl ?_
  exact retRet rfl (AllRes.cons (ResIs.tmp (v := .atom _) rfl (LV.Sub.refl _)) AllRes.nil) (by simp [resLV, isInner, ht])
 ·repeat first | refine LOps.pure (Pure.mv (lv := .atom _) rfl) rfl ?_ | refine LOps.want rfl rfl ?_
  refine LOps.step (S.fn [_] rfl (digit_spec c) ?_) rfl
  repeat first | refine LOps.pure (Pure.mv (lv := .atom _) rfl) rfl ?_ | refine LOps.pure (Pure.pickF (lv := .atom _) rfl rfl) rfl ?_
  refine LOps.bcase 9 rfl (fun hd => ?_) (fun hd => ?_)
  ·repeat first | refine LOps.nil ?_ | refine LCode.ret ?_ | refine QThen.normal ?_ | refine LOps.pure (Pure.as (lv := .atom _) rfl) rfl ?_ | refine LOps.pure (Pure.pickT (lv := .atom _) rfl rfl) rfl ?_ | refine LOps.skip rfl rfl rfl rfl ?_
   exact retRet rfl (AllRes.cons (ResIs.tmp (v := .atom _) rfl (LV.Sub.refl _)) AllRes.nil) (by simp [resLV, isInner, ht, hd])
  ·repeat first | refine LOps.nil ?_ | refine LCode.ret ?_ | refine QThen.normal ?_ | refine LOps.pure (Pure.as (lv := .atom _) rfl) rfl ?_ | refine LOps.pure (Pure.mv (lv := .atom _) rfl) rfl ?_ | refine LOps.pure (Pure.pickF (lv := .atom _) rfl rfl) rfl ?_ | refine LOps.pure (Pure.eql rfl rfl) rfl ?_ | refine LOps.want rfl rfl ?_
   exact retRet rfl (AllRes.cons (ResIs.tmp (v := .atom _) rfl (LV.Sub.refl _)) AllRes.nil) (by simp [resLV, isInner, ht, hd])
theorem white_spec (c : UInt8) : LCalls (KC B0 w0) 73 [int .u8 c.toNat] [] (Ret (bool (isWhite c))) := by
 refine LCalls.intro Tryz.func73 rfl (n := 13) rfl rfl rfl ?_
 repeat first | refine LOps.nil ?_ | refine LCode.seq ?_ | refine LCode.region ?_ | refine QThen.normal ?_ | refine LOps.pure (Pure.as (lv := .atom _) rfl) rfl ?_ | refine LOps.pure (Pure.mv (lv := .atom _) rfl) rfl ?_ | refine LOps.pure (Pure.eql rfl rfl) rfl ?_
 refine LOps.bcase 5 rfl (fun ht => ?_) (fun ht => ?_)
 ·repeat first | refine LOps.nil ?_ | refine LCode.ret ?_ | refine QThen.normal ?_ | refine LOps.pure (Pure.as (lv := .atom _) rfl) rfl ?_ | refine LOps.pure (Pure.mv (lv := .atom _) rfl) rfl ?_ | refine LOps.pure (Pure.pickT (lv := .atom _) rfl rfl) rfl ?_ | refine LOps.skip rfl rfl rfl rfl ?_
  exact retRet rfl (AllRes.cons (ResIs.tmp (v := .atom _) rfl (LV.Sub.refl _)) AllRes.nil) (by simp [resLV, isWhite, ht])
 ·repeat first | refine LOps.pure (Pure.mv (lv := .atom _) rfl) rfl ?_ | refine LOps.pure (Pure.eql rfl rfl) rfl ?_ | refine LOps.pure (Pure.pickF (lv := .atom _) rfl rfl) rfl ?_ | refine LOps.want rfl rfl ?_
  refine LOps.bcase 9 rfl (fun hd => ?_) (fun hd => ?_)
  ·repeat first | refine LOps.nil ?_ | refine LCode.ret ?_ | refine QThen.normal ?_ | refine LOps.pure (Pure.as (lv := .atom _) rfl) rfl ?_ | refine LOps.pure (Pure.pickT (lv := .atom _) rfl rfl) rfl ?_ | refine LOps.skip rfl rfl rfl rfl ?_
   exact retRet rfl (AllRes.cons (ResIs.tmp (v := .atom _) rfl (LV.Sub.refl _)) AllRes.nil) (by simp [resLV, isWhite, ht, hd])
  ·repeat first | refine LOps.nil ?_ | refine LCode.ret ?_ | refine QThen.normal ?_ | refine LOps.pure (Pure.as (lv := .atom _) rfl) rfl ?_ | refine LOps.pure (Pure.mv (lv := .atom _) rfl) rfl ?_ | refine LOps.pure (Pure.eql rfl rfl) rfl ?_ | refine LOps.pure (Pure.pickF (lv := .atom _) rfl rfl) rfl ?_ | refine LOps.want rfl rfl ?_
   exact retRet rfl (AllRes.cons (ResIs.tmp (v := .atom _) rfl (LV.Sub.refl _)) AllRes.nil) (by simp [resLV, isWhite, ht, hd])
end
end Go.Proofs.YtfodkbchknknjaaGreatDoor
namespace Go.Proofs
def Tryz.lays156_ren : Go.Shelf.Ren := ⟨fun | 156 => 22 | 165 => 48 | 166 => 49 | 169 => 50 | 240 => 83 | 241 => 84 | 276 => 115 | 277 => 116 | n => n, fun | 31 => 23 | 9 => 9 | 3 => 3 | 4 => 4 | 0 => 0 | 20 => 20 | 72 => 87 | 76 => 91 | 70 => 84 | 37 => 85 | 75 => 90 | 127 => 115 | 164 => 131 | 5 => 5 | 80 => 68 | n => n, fun | n => n⟩
theorem Tryz.lays156 : Go.Proofs.Lays.n156 Tryz.prog Tryz.lays156_ren := {
 mixed := by kernel_rfl
 f156 := Tryz.func22.trans (congrArg some (by kernel_rfl))
 f165 := Tryz.func48.trans (congrArg some (by kernel_rfl))
 f166 := Tryz.func49.trans (congrArg some (by kernel_rfl))
 f169 := Tryz.func50.trans (congrArg some (by kernel_rfl))
 f240 := Tryz.func83.trans (congrArg some (by kernel_rfl))
 f241 := Tryz.func84.trans (congrArg some (by kernel_rfl))
 f276 := Tryz.func115.trans (congrArg some (by kernel_rfl))
 f277 := Tryz.func116.trans (congrArg some (by kernel_rfl))
 t0 := Tryz.underlying0
 a0 := Tryz.isAgg0
 z0 := Tryz.sizeOf0
 v0 := Tryz.zeroValue0
 t3 := Tryz.underlying3
 a3 := Tryz.isAgg3
 z3 := Tryz.sizeOf3
 v3 := Tryz.zeroValue3
 t4 := Tryz.underlying4
 a4 := Tryz.isAgg4
 z4 := Tryz.sizeOf4
 v4 := Tryz.zeroValue4
 t9 := Tryz.underlying9
 a9 := Tryz.isAgg9
 z9 := Tryz.sizeOf9
 v9 := Tryz.zeroValue9
 t20 := Tryz.underlying20
 a20 := Tryz.isAgg20
 z20 := Tryz.sizeOf20
 v20 := Tryz.zeroValue20
 t31 := Tryz.underlying23
 a31 := Tryz.isAgg23
 z31 := Tryz.sizeOf23
 v31 := Tryz.zeroValue23
 t37 := Tryz.underlying85
 a37 := Tryz.isAgg85
 z37 := Tryz.sizeOf85
 v37 := Tryz.zeroValue85
 t70 := Tryz.underlying84
 a70 := Tryz.isAgg84
 z70 := Tryz.sizeOf84
 v70 := Tryz.zeroValue84
 t72 := Tryz.underlying87
 a72 := Tryz.isAgg87
 z72 := Tryz.sizeOf87
 v72 := Tryz.zeroValue87
 t75 := Tryz.underlying90
 a75 := Tryz.isAgg90
 z75 := Tryz.sizeOf90
 v75 := Tryz.zeroValue90
 t76 := Tryz.underlying91
 a76 := Tryz.isAgg91
 z76 := Tryz.sizeOf91
 v76 := Tryz.zeroValue91
 t127 := Tryz.underlying115
 a127 := Tryz.isAgg115
 z127 := Tryz.sizeOf115
 v127 := Tryz.zeroValue115
 t164 := Tryz.underlying131
 a164 := Tryz.isAgg131
 z164 := Tryz.sizeOf131
 v164 := Tryz.zeroValue131 }
theorem Tryz.Builder_Extra_156 : Builder.Extra Tryz.prog Tryz.lays156_ren := {
 sizeBuilder := by kernel_rfl
 liesBuilder := by kernel_rfl
 t5 := Tryz.underlying5
 a5 := Tryz.isAgg5
 z5 := Tryz.sizeOf5
 v5 := Tryz.zeroValue5
 infoByte := by kernel_rfl
 cellsByte := by kernel_rfl
 sizeByte := by kernel_rfl
 neB5 := by decide }
open Go.RowKit in
theorem Tryz.strings_Join_none (a : Option Addr) (c : Nat) (sep : ByteArray) (w : World) :
  Calls Tryz.prog 22 #[.slice a 0 c, .string sep] w fun e w' => e = .returned (.string ⟨#[]⟩) ∧ w' = w := Any.strings_Join_none Tryz.lays156 Tryz.Builder_Extra_156 a c sep w
open Go.RowKit in
theorem Tryz.strings_Join (bk o c : Nat) (xs : List ByteArray) (sep : ByteArray) (w : World) (hcells : ∀ (j : Nat) x, xs[j]? = some x → w.cell? ⟨bk, o + j, none⟩ = some (.string x)) (hbk : bk < w.heap.size) (hN : xs.length ≤ 140737488355328) (hcap : xs.length ≤ c) (hlen : (Lib.join (xs.map (·.data.toList)) sep.data.toList).length ≤ 140737488355328) :
  Calls Tryz.prog 22 #[.slice (some ⟨bk, o, none⟩) xs.length c, .string sep] w fun e w' => e = .returned (.string ⟨(Lib.join (xs.map (·.data.toList)) sep.data.toList).toArray⟩) ∧ Below w.heap.size w w' := Any.strings_Join Tryz.lays156 Tryz.Builder_Extra_156 bk o c xs sep w hcells hbk hN hcap hlen
def Tryz.lays283_ren : Go.Shelf.Ren := ⟨fun | 283 => 137 | n => n, fun | 3 => 3 | 9 => 9 | 4 => 4 | n => n, fun | n => n⟩
theorem Tryz.lays283 : Go.Proofs.Lays.n283 Tryz.prog Tryz.lays283_ren := {
 mixed := by kernel_rfl
 f283 := Tryz.func137.trans (congrArg some (by kernel_rfl))
 t3 := Tryz.underlying3
 a3 := Tryz.isAgg3
 z3 := Tryz.sizeOf3
 v3 := Tryz.zeroValue3
 t4 := Tryz.underlying4
 a4 := Tryz.isAgg4
 z4 := Tryz.sizeOf4
 v4 := Tryz.zeroValue4
 t9 := Tryz.underlying9
 a9 := Tryz.isAgg9
 z9 := Tryz.sizeOf9
 v9 := Tryz.zeroValue9 }
open Go.Lib in
theorem Tryz.internal_strconv_small (i : Nat) (h : i < 100) (w : World) :
  Calls Tryz.prog 137 #[.int .i64 i] w fun e w' => e = .returned (.string ⟨(Lib.decDigits i).toArray⟩) ∧ w' = w := Any.internal_strconv_small Tryz.lays283 i h w
def Tryz.laysM284_ren : Go.Shelf.Ren := ⟨fun | 284 => 138 | 129 => 159 | 317 => 158 | 318 => 160 | n => n, fun | 53 => 119 | 3 => 3 | 212 => 156 | 0 => 0 | 4 => 4 | 46 => 95 | 5 => 5 | 9 => 9 | n => n, fun | 17 => 1 | n => n⟩
theorem Tryz.laysM284 : Go.Proofs.LaysM.n284 Tryz.prog Tryz.laysM284_ren := {
 mixed := by kernel_rfl
 f129 := Tryz.func159.trans (congrArg some (by kernel_rfl))
 f284 := Tryz.func138.trans (congrArg some (by kernel_rfl))
 f317 := Tryz.func158.trans (congrArg some (by kernel_rfl))
 f318 := Tryz.func160.trans (congrArg some (by kernel_rfl))
 t0 := Tryz.underlying0
 a0 := Tryz.isAgg0
 z0 := Tryz.sizeOf0
 v0 := Tryz.zeroValue0
 t3 := Tryz.underlying3
 a3 := Tryz.isAgg3
 z3 := Tryz.sizeOf3
 v3 := Tryz.zeroValue3
 t4 := Tryz.underlying4
 a4 := Tryz.isAgg4
 z4 := Tryz.sizeOf4
 v4 := Tryz.zeroValue4
 t5 := Tryz.underlying5
 a5 := Tryz.isAgg5
 z5 := Tryz.sizeOf5
 v5 := Tryz.zeroValue5
 t9 := Tryz.underlying9
 a9 := Tryz.isAgg9
 z9 := Tryz.sizeOf9
 v9 := Tryz.zeroValue9
 t46 := Tryz.underlying95
 a46 := Tryz.isAgg95
 z46 := Tryz.sizeOf95
 v46 := Tryz.zeroValue95
 t53 := Tryz.underlying119
 a53 := Tryz.isAgg119
 z53 := Tryz.sizeOf119
 v53 := Tryz.zeroValue119
 t212 := Tryz.underlying156
 a212 := Tryz.isAgg156
 z212 := Tryz.sizeOf156
 v212 := Tryz.zeroValue156
 g17 := by kernel_rfl
 i0 := by kernel_rfl
 i3 := by kernel_rfl
 i4 := by kernel_rfl
 i5 := by kernel_rfl
 i9 := by kernel_rfl
 i46 := by kernel_rfl
 i53 := by kernel_rfl
 i212 := by kernel_rfl
 m17 := by kernel_rfl }
open Go.Lib in
theorem Tryz.internal_strconv_numDigits (u : Nat) (h1 : 1 ≤ u) (h2 : u < 18446744073709551616) (w : World) (htab : Lib.TabIs Tryz.prog w "internal/strconv.uint64pow10" .u64 Lib.pow10Tab) :
  Calls Tryz.prog 138 #[.int .u64 u] w fun e w' => e = .returned (.int .i64 (Lib.nDigits u)) ∧ w' = w := Any.internal_strconv_numDigits Tryz.laysM284 u h1 h2 w htab
def Tryz.lays285_ren : Go.Shelf.Ren := ⟨fun | 285 => 139 | n => n, fun | 37 => 85 | 53 => 119 | 3 => 3 | 4 => 4 | 51 => 35 | 9 => 9 | 5 => 5 | 0 => 0 | n => n, fun | n => n⟩
theorem Tryz.lays285 : Go.Proofs.Lays.n285 Tryz.prog Tryz.lays285_ren := {
 mixed := by kernel_rfl
 f285 := Tryz.func139.trans (congrArg some (by kernel_rfl))
 t0 := Tryz.underlying0
 a0 := Tryz.isAgg0
 z0 := Tryz.sizeOf0
 v0 := Tryz.zeroValue0
 t3 := Tryz.underlying3
 a3 := Tryz.isAgg3
 z3 := Tryz.sizeOf3
 v3 := Tryz.zeroValue3
 t4 := Tryz.underlying4
 a4 := Tryz.isAgg4
 z4 := Tryz.sizeOf4
 v4 := Tryz.zeroValue4
 t5 := Tryz.underlying5
 a5 := Tryz.isAgg5
 z5 := Tryz.sizeOf5
 v5 := Tryz.zeroValue5
 t9 := Tryz.underlying9
 a9 := Tryz.isAgg9
 z9 := Tryz.sizeOf9
 v9 := Tryz.zeroValue9
 t37 := Tryz.underlying85
 a37 := Tryz.isAgg85
 z37 := Tryz.sizeOf85
 v37 := Tryz.zeroValue85
 t51 := Tryz.underlying35
 a51 := Tryz.isAgg35
 z51 := Tryz.sizeOf35
 v51 := Tryz.zeroValue35
 t53 := Tryz.underlying119
 a53 := Tryz.isAgg119
 z53 := Tryz.sizeOf119
 v53 := Tryz.zeroValue119 }
open Go.RowKit Go.Sort Go.Lib in
theorem Tryz.internal_strconv_formatBase10 (blk off cap : Nat) (u : Nat) (d : Array UInt8) (w : World) (hH : Holds (fun (b : UInt8) => Value.int .u8 (b.toNat : Int)) w blk off d) (hu : u < 10 ^ d.size) (hu64 : u < 18446744073709551616) (hsz : d.size < 4611686018427387904) :
  Calls Tryz.prog 139 #[.slice (some ⟨blk, off, none⟩) d.size cap, .int .u64 u] w fun e w' =>
   e = .returned (.tuple #[]) ∧ ∃ (n v' : Nat) (dk : Array UInt8), w' = (putRow (fun (b : UInt8) => Value.int .u8 (b.toNat : Int)) w blk off dk).drewN n ∧ FmtInv d.size u 0 v' dk := Any.internal_strconv_formatBase10 Tryz.lays285 blk off cap u d w hH hu hu64 hsz
def Tryz.laysM171_ren : Go.Shelf.Ren := ⟨fun | 171 => 51 | 243 => 85 | 246 => 117 | 283 => 137 | 284 => 138 | 285 => 139 | 286 => 140 | 129 => 159 | 317 => 158 | 318 => 160 | 319 => 161 | 320 => 162 | 337 => 172 | 338 => 173 | n => n, fun | 3 => 3 | 9 => 9 | 2 => 2 | 4 => 4 | 171 => 142 | 0 => 0 | 53 => 119 | 37 => 85 | 5 => 5 | 173 => 145 | 212 => 156 | 51 => 35 | 20 => 20 | 213 => 157 | 46 => 95 | 232 => 174 | 233 => 175 | n => n, fun | 17 => 1 | 18 => 4 | 19 => 5 | n => n⟩
theorem Tryz.laysM171 : Go.Proofs.LaysM.n171 Tryz.prog Tryz.laysM171_ren := {
 mixed := by kernel_rfl
 f129 := Tryz.func159.trans (congrArg some (by kernel_rfl))
 f171 := Tryz.func51.trans (congrArg some (by kernel_rfl))
 f243 := Tryz.func85.trans (congrArg some (by kernel_rfl))
 f246 := Tryz.func117.trans (congrArg some (by kernel_rfl))
 f283 := Tryz.func137.trans (congrArg some (by kernel_rfl))
 f284 := Tryz.func138.trans (congrArg some (by kernel_rfl))
 f285 := Tryz.func139.trans (congrArg some (by kernel_rfl))
 f286 := Tryz.func140.trans (congrArg some (by kernel_rfl))
 f317 := Tryz.func158.trans (congrArg some (by kernel_rfl))
 f318 := Tryz.func160.trans (congrArg some (by kernel_rfl))
 f319 := Tryz.func161.trans (congrArg some (by kernel_rfl))
 f320 := Tryz.func162.trans (congrArg some (by kernel_rfl))
 f337 := Tryz.func172.trans (congrArg some (by kernel_rfl))
 f338 := Tryz.func173.trans (congrArg some (by kernel_rfl))
 t0 := Tryz.underlying0
 a0 := Tryz.isAgg0
 z0 := Tryz.sizeOf0
 v0 := Tryz.zeroValue0
 t2 := Tryz.underlying2
 a2 := Tryz.isAgg2
 z2 := Tryz.sizeOf2
 v2 := Tryz.zeroValue2
 t3 := Tryz.underlying3
 a3 := Tryz.isAgg3
 z3 := Tryz.sizeOf3
 v3 := Tryz.zeroValue3
 t4 := Tryz.underlying4
 a4 := Tryz.isAgg4
 z4 := Tryz.sizeOf4
 v4 := Tryz.zeroValue4
 t5 := Tryz.underlying5
 a5 := Tryz.isAgg5
 z5 := Tryz.sizeOf5
 v5 := Tryz.zeroValue5
 t9 := Tryz.underlying9
 a9 := Tryz.isAgg9
 z9 := Tryz.sizeOf9
 v9 := Tryz.zeroValue9
 t20 := Tryz.underlying20
 a20 := Tryz.isAgg20
 z20 := Tryz.sizeOf20
 v20 := Tryz.zeroValue20
 t37 := Tryz.underlying85
 a37 := Tryz.isAgg85
 z37 := Tryz.sizeOf85
 v37 := Tryz.zeroValue85
 t46 := Tryz.underlying95
 a46 := Tryz.isAgg95
 z46 := Tryz.sizeOf95
 v46 := Tryz.zeroValue95
 t51 := Tryz.underlying35
 a51 := Tryz.isAgg35
 z51 := Tryz.sizeOf35
 v51 := Tryz.zeroValue35
 t53 := Tryz.underlying119
 a53 := Tryz.isAgg119
 z53 := Tryz.sizeOf119
 v53 := Tryz.zeroValue119
 t171 := Tryz.underlying142
 a171 := Tryz.isAgg142
 z171 := Tryz.sizeOf142
 v171 := Tryz.zeroValue142
 t173 := Tryz.underlying145
 a173 := Tryz.isAgg145
 z173 := Tryz.sizeOf145
 v173 := Tryz.zeroValue145
 t212 := Tryz.underlying156
 a212 := Tryz.isAgg156
 z212 := Tryz.sizeOf156
 v212 := Tryz.zeroValue156
 t213 := Tryz.underlying157
 a213 := Tryz.isAgg157
 z213 := Tryz.sizeOf157
 t232 := Tryz.underlying174
 a232 := Tryz.isAgg174
 z232 := Tryz.sizeOf174
 v232 := Tryz.zeroValue174
 t233 := Tryz.underlying175
 a233 := Tryz.isAgg175
 z233 := Tryz.sizeOf175
 v233 := Tryz.zeroValue175
 g17 := by kernel_rfl
 g18 := by kernel_rfl
 g19 := by kernel_rfl
 i0 := by kernel_rfl
 i2 := by kernel_rfl
 i3 := by kernel_rfl
 i4 := by kernel_rfl
 i5 := by kernel_rfl
 i9 := by kernel_rfl
 i20 := by kernel_rfl
 i37 := by kernel_rfl
 i46 := by kernel_rfl
 i51 := by kernel_rfl
 i53 := by kernel_rfl
 i171 := by kernel_rfl
 i173 := by kernel_rfl
 i212 := by kernel_rfl
 i232 := by kernel_rfl
 i233 := by kernel_rfl
 m17 := by kernel_rfl
 m18 := by kernel_rfl
 m19 := by kernel_rfl }
open Go.RowKit Go.Sort Go.Lib in
theorem Tryz.strconv_Itoa (n : Int) (h0 : -9223372036854775808 ≤ n) (h1 : n ≤ 9223372036854775807) (w : World) (htab : Lib.TabIs Tryz.prog w "internal/strconv.uint64pow10" .u64 Lib.pow10Tab) :
  Calls Tryz.prog 51 #[.int .i64 n] w fun e w' => e = .returned (.string ⟨(Lib.itoa n).toArray⟩) ∧ ∃ k os, w' = grow (w.drewN k) os := Any.strconv_Itoa Tryz.laysM171 n h0 h1 w htab
def Tryz.laysPu14_ren : Go.Shelf.Ren := ⟨fun | 14 => 110 | 16 => 130 | 17 => 131 | 19 => 150 | 20 => 151 | 21 => 152 | 22 => 153 | 23 => 154 | 24 => 155 | 25 => 170 | 27 => 51 | 26 => 171 | 28 => 85 | 29 => 117 | 30 => 137 | 31 => 138 | 32 => 139 | 33 => 140 | 35 => 159 | 34 => 158 | 36 => 160 | 37 => 161 | 38 => 162 | 39 => 172 | 40 => 173 | n => n, fun | 9 => 9 | 3 => 3 | 22 => 119 | 24 => 90 | 25 => 128 | 4 => 4 | 34 => 149 | 5 => 5 | 36 => 95 | 37 => 85 | 0 => 0 | 39 => 151 | 21 => 21 | 44 => 166 | 47 => 115 | 50 => 173 | 48 => 171 | 2 => 2 | 52 => 142 | 55 => 145 | 59 => 156 | 60 => 35 | 20 => 20 | 61 => 157 | 65 => 174 | 66 => 175 | 67 => 68 | n => n, fun | 0 => 2 | 1 => 3 | 2 => 1 | 3 => 4 | 4 => 5 | n => n⟩
theorem Tryz.laysPu14 : Go.Proofs.LaysPu.n14 Tryz.prog Tryz.laysPu14_ren := {
 mixed := by kernel_rfl
 f14 := Tryz.func110.trans (congrArg some (by kernel_rfl))
 f16 := Tryz.func130.trans (congrArg some (by kernel_rfl))
 f17 := Tryz.func131.trans (congrArg some (by kernel_rfl))
 f19 := Tryz.func150.trans (congrArg some (by kernel_rfl))
 f20 := Tryz.func151.trans (congrArg some (by kernel_rfl))
 f21 := Tryz.func152.trans (congrArg some (by kernel_rfl))
 f22 := Tryz.func153.trans (congrArg some (by kernel_rfl))
 f23 := Tryz.func154.trans (congrArg some (by kernel_rfl))
 f24 := Tryz.func155.trans (congrArg some (by kernel_rfl))
 f25 := Tryz.func170.trans (congrArg some (by kernel_rfl))
 f26 := Tryz.func171.trans (congrArg some (by kernel_rfl))
 f27 := Tryz.func51.trans (congrArg some (by kernel_rfl))
 f28 := Tryz.func85.trans (congrArg some (by kernel_rfl))
 f29 := Tryz.func117.trans (congrArg some (by kernel_rfl))
 f30 := Tryz.func137.trans (congrArg some (by kernel_rfl))
 f31 := Tryz.func138.trans (congrArg some (by kernel_rfl))
 f32 := Tryz.func139.trans (congrArg some (by kernel_rfl))
 f33 := Tryz.func140.trans (congrArg some (by kernel_rfl))
 f34 := Tryz.func158.trans (congrArg some (by kernel_rfl))
 f35 := Tryz.func159.trans (congrArg some (by kernel_rfl))
 f36 := Tryz.func160.trans (congrArg some (by kernel_rfl))
 f37 := Tryz.func161.trans (congrArg some (by kernel_rfl))
 f38 := Tryz.func162.trans (congrArg some (by kernel_rfl))
 f39 := Tryz.func172.trans (congrArg some (by kernel_rfl))
 f40 := Tryz.func173.trans (congrArg some (by kernel_rfl))
 t0 := Tryz.underlying0
 a0 := Tryz.isAgg0
 z0 := Tryz.sizeOf0
 v0 := Tryz.zeroValue0
 i0 := by kernel_rfl
 t2 := Tryz.underlying2
 a2 := Tryz.isAgg2
 z2 := Tryz.sizeOf2
 v2 := Tryz.zeroValue2
 i2 := by kernel_rfl
 t3 := Tryz.underlying3
 a3 := Tryz.isAgg3
 z3 := Tryz.sizeOf3
 v3 := Tryz.zeroValue3
 i3 := by kernel_rfl
 t4 := Tryz.underlying4
 a4 := Tryz.isAgg4
 z4 := Tryz.sizeOf4
 v4 := Tryz.zeroValue4
 i4 := by kernel_rfl
 t5 := Tryz.underlying5
 a5 := Tryz.isAgg5
 z5 := Tryz.sizeOf5
 v5 := Tryz.zeroValue5
 i5 := by kernel_rfl
 t9 := Tryz.underlying9
 a9 := Tryz.isAgg9
 z9 := Tryz.sizeOf9
 v9 := Tryz.zeroValue9
 i9 := by kernel_rfl
 t20 := Tryz.underlying20
 a20 := Tryz.isAgg20
 z20 := Tryz.sizeOf20
 v20 := Tryz.zeroValue20
 i20 := by kernel_rfl
 t21 := Tryz.underlying21
 a21 := Tryz.isAgg21
 z21 := Tryz.sizeOf21
 v21 := Tryz.zeroValue21
 i21 := by kernel_rfl
 t22 := Tryz.underlying119
 a22 := Tryz.isAgg119
 z22 := Tryz.sizeOf119
 v22 := Tryz.zeroValue119
 i22 := by kernel_rfl
 t24 := Tryz.underlying90
 a24 := Tryz.isAgg90
 z24 := Tryz.sizeOf90
 v24 := Tryz.zeroValue90
 i24 := by kernel_rfl
 t25 := Tryz.underlying128
 a25 := Tryz.isAgg128
 z25 := Tryz.sizeOf128
 v25 := Tryz.zeroValue128
 i25 := by kernel_rfl
 t34 := Tryz.underlying149
 a34 := Tryz.isAgg149
 z34 := Tryz.sizeOf149
 v34 := Tryz.zeroValue149
 i34 := by kernel_rfl
 c34 := by kernel_rfl
 t36 := Tryz.underlying95
 a36 := Tryz.isAgg95
 z36 := Tryz.sizeOf95
 v36 := Tryz.zeroValue95
 i36 := by kernel_rfl
 t37 := Tryz.underlying85
 a37 := Tryz.isAgg85
 z37 := Tryz.sizeOf85
 v37 := Tryz.zeroValue85
 i37 := by kernel_rfl
 t39 := Tryz.underlying151
 a39 := Tryz.isAgg151
 z39 := Tryz.sizeOf151
 v39 := Tryz.zeroValue151
 i39 := by kernel_rfl
 t44 := Tryz.underlying166
 a44 := Tryz.isAgg166
 z44 := Tryz.sizeOf166
 v44 := Tryz.zeroValue166
 i44 := by kernel_rfl
 t47 := Tryz.underlying115
 a47 := Tryz.isAgg115
 z47 := Tryz.sizeOf115
 v47 := Tryz.zeroValue115
 i47 := by kernel_rfl
 t48 := Tryz.underlying171
 a48 := Tryz.isAgg171
 z48 := Tryz.sizeOf171
 v48 := Tryz.zeroValue171
 i48 := by kernel_rfl
 t50 := Tryz.underlying173
 a50 := Tryz.isAgg173
 z50 := Tryz.sizeOf173
 v50 := Tryz.zeroValue173
 i50 := by kernel_rfl
 t52 := Tryz.underlying142
 a52 := Tryz.isAgg142
 z52 := Tryz.sizeOf142
 v52 := Tryz.zeroValue142
 i52 := by kernel_rfl
 t55 := Tryz.underlying145
 a55 := Tryz.isAgg145
 z55 := Tryz.sizeOf145
 v55 := Tryz.zeroValue145
 i55 := by kernel_rfl
 t59 := Tryz.underlying156
 a59 := Tryz.isAgg156
 z59 := Tryz.sizeOf156
 v59 := Tryz.zeroValue156
 i59 := by kernel_rfl
 t60 := Tryz.underlying35
 a60 := Tryz.isAgg35
 z60 := Tryz.sizeOf35
 v60 := Tryz.zeroValue35
 i60 := by kernel_rfl
 t61 := Tryz.underlying157
 a61 := Tryz.isAgg157
 z61 := Tryz.sizeOf157
 t65 := Tryz.underlying174
 a65 := Tryz.isAgg174
 z65 := Tryz.sizeOf174
 v65 := Tryz.zeroValue174
 i65 := by kernel_rfl
 t66 := Tryz.underlying175
 a66 := Tryz.isAgg175
 z66 := Tryz.sizeOf175
 v66 := Tryz.zeroValue175
 i66 := by kernel_rfl
 t67 := Tryz.underlying68
 a67 := Tryz.isAgg68
 z67 := Tryz.sizeOf68
 v67 := Tryz.zeroValue68
 i67 := by kernel_rfl
 g0 := by kernel_rfl
 m0 := by kernel_rfl
 g1 := by kernel_rfl
 m1 := by kernel_rfl
 g2 := by kernel_rfl
 m2 := by kernel_rfl
 g3 := by kernel_rfl
 m3 := by kernel_rfl
 g4 := by kernel_rfl
 m4 := by kernel_rfl }
open Go.RowKit in
theorem Tryz.strconv_ParseUint_10_at32_ok (s : ByteArray) (hmax : s.size ≤ 9223372036854775806) (u : Nat) (h : Lib.parseUintB 32 s.data.toList = .ok u) (w : World) :
  Calls Tryz.prog 110 #[.string s, .int .i64 10, .int .i64 32] w fun e w' => e = .returned (.tuple #[.int .u64 u, .nilIface]) ∧ (w' = w ∨ w' = Lib.bytesWorld w 5 s) := Any.strconv_ParseUint_10_at32_ok Tryz.laysPu14 s hmax u h w
open Go.RowKit in
theorem Tryz.strconv_ParseUint_10_at32_range_var (s : ByteArray) (hlim : s.size ≤ 281474976710656) (h : Lib.parseUintB 32 s.data.toList = .range) (tp : TypeId) (p : Value) (w : World) (hvar : w.var? Tryz.prog "strconv.ErrRange" = some #[.iface tp p]) :
  Calls Tryz.prog 110 #[.string s, .int .i64 10, .int .i64 32] w fun e w' => ∃ N, e = .returned (.tuple #[.int .u64 4294967295, .iface 151 (.pointer (some ⟨N, 0, none⟩))]) ∧ w.heap.size ≤ N ∧ w'.heap[N]? = some (.cells #[.string ⟨#[80, 97, 114, 115, 101, 85, 105, 110, 116]⟩, .string s, .iface tp p] 166 (0, 0)) ∧ Below w.heap.size w w' := Any.strconv_ParseUint_10_at32_range_var Tryz.laysPu14 s hlim h tp p w hvar
def Tryz.lays138_ren : Go.Shelf.Ren := ⟨fun | 138 => 47 | 195 => 80 | 218 => 81 | 143 => 82 | 219 => 114 | 217 => 133 | 225 => 134 | 224 => 135 | 267 => 136 | 266 => 156 | 314 => 157 | n => n, fun | 9 => 9 | 3 => 3 | 4 => 4 | 5 => 5 | 0 => 0 | 46 => 95 | 146 => 117 | 51 => 35 | n => n, fun | 1 => 0 | n => n⟩
theorem Tryz.lays138 : Go.Proofs.Lays.n138 Tryz.prog Tryz.lays138_ren := {
 mixed := by kernel_rfl
 f138 := Tryz.func47.trans (congrArg some (by kernel_rfl))
 f143 := Tryz.func82.trans (congrArg some (by kernel_rfl))
 f195 := Tryz.func80.trans (congrArg some (by kernel_rfl))
 f217 := Tryz.func133.trans (congrArg some (by kernel_rfl))
 f218 := Tryz.func81.trans (congrArg some (by kernel_rfl))
 f219 := Tryz.func114.trans (congrArg some (by kernel_rfl))
 f224 := Tryz.func135.trans (congrArg some (by kernel_rfl))
 f225 := Tryz.func134.trans (congrArg some (by kernel_rfl))
 f266 := Tryz.func156.trans (congrArg some (by kernel_rfl))
 f267 := Tryz.func136.trans (congrArg some (by kernel_rfl))
 f314 := Tryz.func157.trans (congrArg some (by kernel_rfl))
 t0 := Tryz.underlying0
 a0 := Tryz.isAgg0
 z0 := Tryz.sizeOf0
 v0 := Tryz.zeroValue0
 t3 := Tryz.underlying3
 a3 := Tryz.isAgg3
 z3 := Tryz.sizeOf3
 v3 := Tryz.zeroValue3
 t4 := Tryz.underlying4
 a4 := Tryz.isAgg4
 z4 := Tryz.sizeOf4
 v4 := Tryz.zeroValue4
 t5 := Tryz.underlying5
 a5 := Tryz.isAgg5
 z5 := Tryz.sizeOf5
 v5 := Tryz.zeroValue5
 t9 := Tryz.underlying9
 a9 := Tryz.isAgg9
 z9 := Tryz.sizeOf9
 v9 := Tryz.zeroValue9
 t46 := Tryz.underlying95
 a46 := Tryz.isAgg95
 z46 := Tryz.sizeOf95
 v46 := Tryz.zeroValue95
 t51 := Tryz.underlying35
 a51 := Tryz.isAgg35
 z51 := Tryz.sizeOf35
 v51 := Tryz.zeroValue35
 t146 := Tryz.underlying117
 a146 := Tryz.isAgg117
 z146 := Tryz.sizeOf117
 v146 := Tryz.zeroValue117
 g1 := by kernel_rfl }
open Go.RowKit Go.Lib in
theorem Tryz.strings_Count_one (s : ByteArray) (c : UInt8) (w : World) :
  Calls Tryz.prog 47 #[.string s, .string ⟨#[c]⟩] w fun e w' => e = .returned (.int .i64 (Lib.countByte s.data.toList c)) ∧ w' = w := Any.strings_Count_one Tryz.lays138 s c w
def Tryz.lays99_ren : Go.Shelf.Ren := ⟨fun | 99 => 54 | 206 => 90 | n => n, fun | 9 => 9 | 4 => 4 | 3 => 3 | n => n, fun | n => n⟩
theorem Tryz.lays99 : Go.Proofs.Lays.n99 Tryz.prog Tryz.lays99_ren := {
 mixed := by kernel_rfl
 f99 := Tryz.func54.trans (congrArg some (by kernel_rfl))
 f206 := Tryz.func90.trans (congrArg some (by kernel_rfl))
 t3 := Tryz.underlying3
 a3 := Tryz.isAgg3
 z3 := Tryz.sizeOf3
 v3 := Tryz.zeroValue3
 t4 := Tryz.underlying4
 a4 := Tryz.isAgg4
 z4 := Tryz.sizeOf4
 v4 := Tryz.zeroValue4
 t9 := Tryz.underlying9
 a9 := Tryz.isAgg9
 z9 := Tryz.sizeOf9
 v9 := Tryz.zeroValue9 }
open Go.RowKit Go.Lib in
theorem Tryz.strings_HasPrefix (s p : ByteArray) (w : World) :
  Calls Tryz.prog 54 #[.string s, .string p] w fun e w' => e = .returned (.bool (Lib.hasPrefix s.data.toList p.data.toList)) ∧ w' = w := Any.strings_HasPrefix Tryz.lays99 s p w
end Go.Proofs
namespace Go.Proofs.YtfodkbchknknjaaGreatDoor
open Go.GL Go.RowKit Go.Stele
set_option maxRecDepth 100000
set_option maxHeartbeats 4000000
attribute [local irreducible] LOps LCode LStep LCalls Go.GL.Pure QThen QBlock RetPost
section
variable {B0 : Nat} {w0 : World}
theorem run_spec {f : FuncId} [TEnter Tryz.prog f] (p : UInt8 → Bool) (hp : ∀ c : UInt8, LCalls (KC B0 w0) f [int .u8 c.toNat] [] (Ret (bool (p c)))) (s : List UInt8) (hs : s.length ≤ 1000000000) :
  LCalls (KC B0 w0) 71 [str s, .atom (.func (.func f) #[] #[])] [] (Ret (str (s.takeWhile p))) := by
 refine LCalls.intro Tryz.func71 rfl (n := 22) rfl rfl rfl ?_
 repeat first | refine LOps.nil ?_ | refine LCode.seq ?_ | refine LCode.region ?_ | refine LCode.block ?_ | refine QThen.normal ?_ | refine LOps.pure (Pure.as (lv := .atom _) rfl) rfl ?_
 refine LCode.loopI (fun k l H => ∃ m : Nat, k = s.length - m ∧ l = [(0, str s), (1, .atom (.func (.func f) #[] #[])), (5, int .i64 m)] ∧ H = [] ∧ m ≤ s.length ∧ s.takeWhile p = s.take m ++ (s.drop m).takeWhile p)
  ⟨_, _, _, ⟨0, rfl, rfl, rfl, by omega, by simp⟩, ⟨rfl, rfl, rfl, trivial⟩, HSub.refl _⟩ ?_
 rintro k l H ⟨m, rfl, rfl, rfl, hm, hI⟩ j hj
 repeat first | refine LCode.seq ?_ | refine LCode.region ?_ | refine LOps.pure (Pure.mv (lv := .atom _) rfl) rfl ?_ | refine LOps.pure (Pure.slen rfl) rfl ?_ | refine LOps.pure (Pure.lss rfl rfl) rfl ?_
 refine LOps.bcase 10 rfl (fun ht => ?_) (fun ht => ?_)
 ·have hlt : m < s.length := by simpa using ht
  repeat first | refine LOps.pure (Pure.mv (lv := .atom _) rfl) rfl ?_ | refine LOps.want rfl rfl ?_
  refine LOps.pure (Pure.sindex (c := s[m]) rfl rfl (by omega) (by simp)) rfl ?_
  refine LOps.want rfl rfl ?_
  refine LOps.step (S.fnV [_] rfl rfl (hp s[m]) ?_) rfl
  repeat first | refine LOps.nil ?_ | refine QThen.normal ?_ | refine LOps.pure (Pure.pickT (lv := .atom _) rfl rfl) rfl ?_
  refine LCode.cond rfl (fun hc => ?_) (fun hc => ?_)
  ·repeat first | refine LOps.nil ?_ | refine LCode.region ?_ | refine LCode.skip ?_ | refine LCode.block ?_ | refine QThen.normal ?_ | refine QBlock.normal ?_ | refine LOps.pure (Pure.as (lv := .atom _) rfl) rfl ?_ | refine LOps.pure (Pure.mv (lv := .atom _) rfl) rfl ?_ | refine LOps.pure (Pure.add rfl rfl (by omega)) rfl ?_
   exact ⟨_, _, _, by omega, ⟨m + 1, rfl, rfl, rfl, by omega, (takeWhile_step hlt hI).1 (by simpa using hc)⟩, ⟨rfl, rfl, int_eq (by omega), trivial⟩, HSub.refl _, hj⟩
  ·repeat first | refine LCode.seq ?_ | refine LCode.region ?_ | refine LCode.exit ?_ | refine QThen.normal ?_ | refine QThen.exit ?_ | refine QBlock.hit ?_ | refine LOps.pure (Pure.mv (lv := .atom _) rfl) rfl ?_
   refine LOps.pure (Pure.sslice (i := 0) (j := m) rfl rfl ⟨_, rfl⟩ (by omega) (by omega) (by omega)) rfl ?_
   repeat first | refine LOps.nil ?_ | refine LCode.ret ?_ | refine QThen.normal ?_ | refine LOps.pure (Pure.as (lv := .atom _) rfl) rfl ?_
   exact retRet hj (AllRes.cons (ResIs.tmp (v := .atom _) rfl (LV.Sub.refl _)) AllRes.nil) (by
    rw [(takeWhile_step hlt hI).2 (by simpa using hc)]
    simp [resLV])
 ·have hge : s.length ≤ m := by simpa using ht
  repeat first | refine LOps.nil ?_ | refine QThen.normal ?_ | refine LOps.pure (Pure.pickF (lv := .atom _) rfl rfl) rfl ?_ | refine LOps.skip rfl rfl rfl rfl ?_
  refine LCode.cond rfl (fun hc => ?_) (fun hc => ?_)
  ·cases hc
  ·repeat first | refine LCode.seq ?_ | refine LCode.region ?_ | refine LCode.exit ?_ | refine QThen.normal ?_ | refine QThen.exit ?_ | refine QBlock.hit ?_ | refine LOps.pure (Pure.mv (lv := .atom _) rfl) rfl ?_
   refine LOps.pure (Pure.sslice (i := 0) (j := m) rfl rfl ⟨_, rfl⟩ (by omega) (by omega) (by omega)) rfl ?_
   repeat first | refine LOps.nil ?_ | refine LCode.ret ?_ | refine QThen.normal ?_ | refine LOps.pure (Pure.as (lv := .atom _) rfl) rfl ?_
   exact retRet hj (AllRes.cons (ResIs.tmp (v := .atom _) rfl (LV.Sub.refl _)) AllRes.nil) (by
    rw [takeWhile_end hge hI]
    simp [resLV])
/-- strings.HasPrefix. -/
theorem hasPrefix_spec (s p : List UInt8) : LCalls (KC B0 w0) 54 [str s, str p] [] (Ret (bool (p.isPrefixOf s))) :=
 LCalls.ret_of (vs := [.string ⟨s.toArray⟩, .string ⟨p.toArray⟩]) fun w _ => (Go.Proofs.Tryz.strings_HasPrefix _ _ w).mono fun e w' he => by
  obtain ⟨h1, h2⟩ := he
  subst h2
  exact ⟨by simpa [Go.Lib.hasPrefix] using h1, Below.refl _ _⟩
theorem skip_spec (s : List UInt8) (hs : s.length ≤ 1000000000) : LCalls (KC B0 w0) 45 [str s] [] (Ret (int .i64 (skipLen s))) := by
 refine LCalls.intro Tryz.func45 rfl (n := 11) rfl rfl rfl ?_
 repeat first | refine LOps.nil ?_ | refine LCode.seq ?_ | refine LCode.region ?_ | refine QThen.normal ?_ | refine LOps.pure (Pure.as (lv := .atom _) rfl) rfl ?_ | refine LOps.pure (Pure.mv (lv := .atom _) rfl) rfl ?_
 refine LOps.step (S.fn [_, _] rfl (hasPrefix_spec s [47, 47]) ?_) rfl
 repeat first | refine LOps.nil ?_ | refine QThen.normal ?_
 refine LCode.cond rfl (fun hc => ?_) (fun hc => ?_)
 ·repeat first | refine LCode.seq ?_ | refine LCode.region ?_ | refine LOps.pure (Pure.mv (lv := .atom _) rfl) rfl ?_
  refine LOps.step (S.fn [_, _] rfl (run_spec notNl notNl_spec s hs) ?_) rfl
  repeat first | refine LOps.nil ?_ | refine LCode.ret ?_ | refine QThen.normal ?_ | refine QThen.ret ?_ | refine LOps.pure (Pure.as (lv := .atom _) rfl) rfl ?_ | refine LOps.pure (Pure.slen rfl) rfl ?_
  exact retRet rfl (AllRes.cons (ResIs.tmp (v := .atom _) rfl (LV.Sub.refl _)) AllRes.nil) (by simp only [resLV, skipLen, hc, if_true])
 ·repeat first | refine LCode.seq ?_ | refine LCode.region ?_ | refine LCode.skip ?_ | refine QThen.normal ?_ | refine LOps.pure (Pure.mv (lv := .atom _) rfl) rfl ?_
  refine LOps.step (S.fn [_, _] rfl (run_spec isWhite white_spec s hs) ?_) rfl
  repeat first | refine LOps.nil ?_ | refine LCode.ret ?_ | refine QThen.normal ?_ | refine LOps.pure (Pure.as (lv := .atom _) rfl) rfl ?_ | refine LOps.pure (Pure.slen rfl) rfl ?_
  exact retRet rfl (AllRes.cons (ResIs.tmp (v := .atom _) rfl (LV.Sub.refl _)) AllRes.nil) (by simp only [resLV, skipLen, hc, Bool.false_eq_true, if_false])
end
end Go.Proofs.YtfodkbchknknjaaGreatDoor
namespace Go.Proofs.YtfodkbchknknjaaGreatDoor
open Go Go.Shelf Go.RowKit Go.Sort Go.Lib
set_option maxHeartbeats 6400000
set_option maxRecDepth 100000
theorem formatUint_main (u : Nat) (hu64 : u < 18446744073709551616) (w : World) (htab : Lib.TabIs Tryz.prog w "internal/strconv.uint64pow10" .u64 Lib.pow10Tab) :
  Calls Tryz.prog 132 #[.int .u64 u, .int .i64 10] w fun e w' => e = .returned (.string ⟨(Lib.decDigits u).toArray⟩) ∧ Below w.heap.size w w' := by
 have mixed : Tryz.prog.follows .mixedOrders = true := by kernel_rfl
 have t3 := Tryz.underlying3; have a3 := Tryz.isAgg3; have z3 := Tryz.sizeOf3; have v3 := Tryz.zeroValue3
 have t9 := Tryz.underlying9; have a9 := Tryz.isAgg9; have z9 := Tryz.sizeOf9; have v9 := Tryz.zeroValue9
 have t4 := Tryz.underlying4; have a4 := Tryz.isAgg4; have z4 := Tryz.sizeOf4; have v4 := Tryz.zeroValue4
 have t142 := Tryz.underlying142; have a142 := Tryz.isAgg142; have z142 := Tryz.sizeOf142; have v142 := Tryz.zeroValue142
 have t0 := Tryz.underlying0; have a0 := Tryz.isAgg0; have z0 := Tryz.sizeOf0; have v0 := Tryz.zeroValue0
 have t119 := Tryz.underlying119; have a119 := Tryz.isAgg119; have z119 := Tryz.sizeOf119; have v119 := Tryz.zeroValue119
 have t85 := Tryz.underlying85; have a85 := Tryz.isAgg85; have z85 := Tryz.sizeOf85; have v85 := Tryz.zeroValue85
 have t5 := Tryz.underlying5; have a5 := Tryz.isAgg5; have z5 := Tryz.sizeOf5; have v5 := Tryz.zeroValue5
 have e137 : ∀ args w, (callFunc 137 args).run Tryz.prog w = .ok (.enter 137 args) w := enters_of Tryz.func137 (by kernel_rfl) rfl
 have e138 : ∀ args w, (callFunc 138 args).run Tryz.prog w = .ok (.enter 138 args) w := enters_of Tryz.func138 (by kernel_rfl) rfl
 have e139 : ∀ args w, (callFunc 139 args).run Tryz.prog w = .ok (.enter 139 args) w := enters_of Tryz.func139 (by kernel_rfl) rfl
 by_cases hs : u < 100
 ·go_enter Tryz.func132, Tryz.ntmps132
  go_wp2_with (go_at_fn (137); refine (Tryz.internal_strconv_small u hs _).mono ?_; rintro e w' ⟨rfl, rfl⟩)
  go_ret
  exact ⟨rfl, Below.refl _ _⟩
 ·have hu1 : 1 ≤ u := by omega
  have hnd20 : Lib.nDigits u ≤ 20 := by have := Lib.numDigits_eq u hu1 hu64; split at this <;> omega
  have hal : Tryz.prog.arrayLen 142 = 24 := by simp [Program.arrayLen, Tryz.underlying142]
  have hsl : ∀ W, (Instr.sliceAt 142 (.pointer (some ⟨w.heap.size, 0, none⟩)) none (some (.int .i64 (Lib.nDigits u : Int))) none).run Tryz.prog W = .ok (.slice (some ⟨w.heap.size, 0, none⟩) (Lib.nDigits u) 24) W := fun W => by
   rw [run_sliceAt_array_h W 142 ⟨w.heap.size, 0, none⟩ (by simp [Program.arrayLen, Program.elem, Tryz.underlying142]) .i64 (Lib.nDigits u : Int) (by omega) (by rw [hal]; omega)]
   go_simp
  have hH0 := Lib.holds_zero0 w 142 (Lib.nDigits u) (by omega)
  have hfmt := Tryz.internal_strconv_formatBase10 w.heap.size 0 24 u (Array.replicate (Lib.nDigits u) 0) (w.alloc (.cells Lib.zeros24 142)) hH0 (by rw [Array.size_replicate]; exact Lib.lt_pow_nDigits u) hu64 (by rw [Array.size_replicate]; omega)
  rw [Array.size_replicate] at hfmt
  have HH0 := Lib.hid hH0
  clear hH0 hal
  go_enter Tryz.func132, Tryz.ntmps132
  go_wp2_with (first
   | (go_at_fn (138); refine (Tryz.internal_strconv_numDigits u hu1 hu64 _ (Lib.tabIs_alloc htab _)).mono ?_; rintro e w' ⟨rfl, rfl⟩))
  go_at_fn (139)
  refine hfmt.mono ?_
  rintro e w' ⟨rfl, k, v', dk, rfl, hF⟩
  have hcv : (convert 85 9 (.slice (some ⟨w.heap.size, 0, none⟩) (Lib.nDigits u) 24)).run Tryz.prog ((putRow (fun (b : UInt8) => Value.int .u8 (b.toNat : Int)) (w.alloc (.cells Lib.zeros24 142)) w.heap.size 0 dk).drewN k) = .ok (.string ⟨(Lib.decDigits u).toArray⟩) ((putRow (fun (b : UInt8) => Value.int .u8 (b.toNat : Int)) (w.alloc (.cells Lib.zeros24 142)) w.heap.size 0 dk).drewN k) := by
   have h := run_convert_bytes_back (P := Tryz.prog) ((putRow (fun (b : UInt8) => Value.int .u8 (b.toNat : Int)) (w.alloc (.cells Lib.zeros24 142)) w.heap.size 0 dk).drewN k) 85 9 5 ⟨w.heap.size, 0, none⟩ 24 (Lib.decDigits u) Tryz.underlying85 Tryz.underlying5 Tryz.underlying9 (fun j hj => by
    rw [Lib.row_is_numeral hF j hj, Lib.add_plain, World.cell?_drewN]
    exact cell?_putRow (fun (b : UInt8) => Value.int .u8 (b.toNat : Int)) _ w.heap.size 0 _ dk HH0.out (by rw [hF.size, Array.size_replicate]) j (by rw [hF.size]; rw [Lib.decDigits_length] at hj; exact hj))
   rw [Lib.decDigits_length] at h
   exact h
  go_wp2
  go_ret
  refine ⟨rfl, ?_⟩
  obtain ⟨os, eo⟩ := Lib.fin_at w (.cells Lib.zeros24 142) dk k 0
  rw [eo]
  exact Lib.below_grow _ w (Nat.le_refl _) k os
end Go.Proofs.YtfodkbchknknjaaGreatDoor
namespace Go.Proofs.YtfodkbchknknjaaGreatDoor
open Go.GL Go.RowKit Go.Stele
set_option maxRecDepth 100000
set_option maxHeartbeats 4000000
attribute [local irreducible] LOps LCode LStep LCalls Go.GL.Pure QThen QBlock RetPost
/-- What the world before the call holds: the table of powers of ten, the error of the range. -/
structure GW (B0 : Nat) (w0 : World) : Prop where
 pow10 : Go.Lib.TabIs Tryz.prog w0 "internal/strconv.uint64pow10" .u64 Go.Lib.pow10Tab
 errRange : ∃ tp p, w0.var? Tryz.prog "strconv.ErrRange" = some #[.iface tp p]
 big : 6 ≤ B0
section
variable {B0 : Nat} {w0 : World}
theorem GW.tab (h : GW B0 w0) {w : World} (hb : Below B0 w0 w) : Go.Lib.TabIs Tryz.prog w "internal/strconv.uint64pow10" .u64 Go.Lib.pow10Tab := by
 have hg : Tryz.prog.globalNamed "internal/strconv.uint64pow10" = some 1 := by kernel_rfl
 exact var?_below hb hg (Nat.lt_of_lt_of_le (by decide) h.big) h.pow10
theorem GW.err (h : GW B0 w0) {w : World} (hb : Below B0 w0 w) : ∃ tp p, w.var? Tryz.prog "strconv.ErrRange" = some #[.iface tp p] := by
 have hg : Tryz.prog.globalNamed "strconv.ErrRange" = some 3 := by kernel_rfl
 obtain ⟨tp, p, hv⟩ := h.errRange
 exact ⟨tp, p, var?_below hb hg (Nat.lt_of_lt_of_le (by decide) h.big) hv⟩
theorem itoa_spec (hG : GW B0 w0) (u : Nat) (hu : u ≤ 9223372036854775807) : LCalls (KC B0 w0) 51 [int .i64 u] [] (Ret (str (Go.Lib.decDigits u))) :=
 LCalls.ret_of (vs := [.int .i64 u]) fun w hw => (Go.Proofs.Tryz.strconv_Itoa u (by omega) (by omega) w (hG.tab hw)).mono fun e w' he => by
  obtain ⟨h1, k, os, h2⟩ := he
  rw [Go.Lib.itoa_nonneg] at h1
  exact ⟨h1, by rw [h2]; exact Go.Lib.below_grow _ w (Nat.le_refl _) k os⟩
theorem fmtUint_spec (hG : GW B0 w0) (u : Nat) (hu : u < 18446744073709551616) : LCalls (KC B0 w0) 111 [int .u64 u, int .i64 10] [] (Ret (str (Go.Lib.decDigits u))) := by
 refine LCalls.intro Tryz.func111 rfl (n := 8) rfl rfl rfl ?_
 repeat first | refine LOps.nil ?_ | refine LCode.seq ?_ | refine LCode.region ?_ | refine QThen.normal ?_ | refine LOps.pure (Pure.as (lv := .atom _) rfl) rfl ?_ | refine LOps.pure (Pure.mv (lv := .atom _) rfl) rfl ?_
 refine LOps.step (S.fn [_, _] rfl (LCalls.ret_of (vs := [.int .u64 u, .int .i64 10]) fun w hw => formatUint_main u hu w (hG.tab hw)) ?_) rfl
 repeat first | refine LOps.nil ?_ | refine LCode.ret ?_ | refine QThen.normal ?_ | refine LOps.pure (Pure.as (lv := .atom _) rfl) rfl ?_
 exact retRet rfl (AllRes.cons (ResIs.tmp (v := .atom _) rfl (LV.Sub.refl _)) AllRes.nil) rfl
/-- strconv.ParseUint(s, 10, 32) of a row of digits: the number and nil, or an error that is not nil. -/
theorem parseUint_ok (s : List UInt8) (hs : s.length ≤ 1000000000) (u : Nat) (h : Go.Lib.parseUintB 32 s = .ok u) :
  LCalls (KC B0 w0) 110 [str s, int .i64 10, int .i64 32] [] (Ret (.tuple [int .u64 u, .atom .nilIface])) := by
 refine LCalls.mono (LCalls.of_belowT (vs := [.string ⟨s.toArray⟩, .int .i64 10, .int .i64 32]) (p := fun us => us = [.int .u64 u, .nilIface]) fun w hw => ?_) ?_
 ·refine (Go.Proofs.Tryz.strconv_ParseUint_10_at32_ok ⟨s.toArray⟩ ?_ u (by simpa using h) w).mono fun e w' he => ⟨_, he.1, rfl, ?_⟩
  ·show s.toArray.size ≤ _
   simp
   omega
  ·rcases he.2 with h2 | h2
   ·rw [h2]; exact Below.refl _ _
   ·rw [h2]
    exact ⟨rfl, rfl, rfl, by rw [Go.Lib.bytesWorld_size]; omega, fun k hk => Go.Lib.bytesWorld_at_old w 5 _ k hk⟩
 ·rintro r H ⟨v, rfl, ⟨us, rfl, rfl⟩, rfl⟩
  exact ⟨rfl, rfl⟩
theorem parseUint_range (hG : GW B0 w0) (s : List UInt8) (hs : s.length ≤ 1000000000) (h : Go.Lib.parseUintB 32 s = .range) :
  LCalls (KC B0 w0) 110 [str s, int .i64 10, int .i64 32] [] (RetIf fun lv => ∃ v t p, lv = .tuple [int .u64 v, .atom (.iface t p)]) := by
 refine LCalls.mono (LCalls.of_belowT (vs := [.string ⟨s.toArray⟩, .int .i64 10, .int .i64 32]) (p := fun us => ∃ v t p, us = [.int .u64 v, .iface t p]) fun w hw => ?_) ?_
 ·obtain ⟨tp, p, hv⟩ := hG.err hw
  refine (Go.Proofs.Tryz.strconv_ParseUint_10_at32_range_var ⟨s.toArray⟩ ?_ (by simpa using h) tp p w hv).mono fun e w' he => ?_
  ·show s.toArray.size ≤ _
   simp
   omega
  ·obtain ⟨N, h1, _, _, h4⟩ := he
   exact ⟨_, h1, ⟨_, _, _, rfl⟩, h4⟩
 ·rintro r H ⟨v, rfl, ⟨us, ⟨a, t, p, rfl⟩, rfl⟩, rfl⟩
  exact ⟨_, rfl, ⟨a, t, p, rfl⟩, rfl⟩
theorem countNl_spec (s : List UInt8) : LCalls (KC B0 w0) 47 [str s, str [10]] [] (Ret (int .i64 (s.count 10))) :=
 LCalls.ret_of (vs := [.string ⟨s.toArray⟩, .string ⟨#[10]⟩]) fun w _ => (Go.Proofs.Tryz.strings_Count_one _ _ w).mono fun e w' he => by
  obtain ⟨h1, h2⟩ := he
  subst h2
  exact ⟨by simpa [Go.Lib.countByte] using h1, Below.refl _ _⟩
end
end Go.Proofs.YtfodkbchknknjaaGreatDoor
namespace Go.Proofs.YtfodkbchknknjaaGreatDoor
open Go.GL Go.RowKit Go.Stele
set_option maxRecDepth 100000
set_option maxHeartbeats 4000000
attribute [local irreducible] LOps LCode LStep LCalls Go.GL.Pure QThen QBlock RetPost
def encTok (t : Tok) : LV := .agg [int .i64 t.kind, str t.text, int .i64 t.line]
def encTokR (r : TokR) : LV := .tuple [encTok r.1, int .i64 r.2.1, int .i64 r.2.2]
theorem elemsOk_strs (l : List (List UInt8)) : elemsOk 1 (l.map str) := fun v hv => by
 obtain ⟨x, _, rfl⟩ := List.mem_map.1 hv
 exact ⟨rfl, rfl⟩
section
variable {B0 : Nat} {w0 : World}
theorem Keywords_spec : LCalls (KC B0 w0) 113 [] [] (Ret (.list (keywords.map str))) := by
 refine LCalls.intro Tryz.func113 rfl (n := 2) rfl rfl rfl ?_
 repeat first | refine LOps.nil ?_ | refine LCode.seq ?_ | refine LCode.region ?_ | refine QThen.normal ?_ | refine LOps.pure (Pure.as (lv := .atom _) rfl) rfl ?_
 refine LOps.step (S.lit [_, _, _, _, _, _, _, _] rfl (elemsOk_strs keywords) rfl rfl rfl ?_) rfl
 repeat first | refine LOps.nil ?_ | refine LCode.ret ?_ | refine QThen.normal ?_ | refine LOps.pure (Pure.as (lv := .list _) rfl) rfl ?_
 exact retRet rfl (AllRes.cons (ResIs.tmp (v := .list _) rfl (LV.Sub.refl _)) AllRes.nil) rfl
theorem signs_spec : LCalls (KC B0 w0) 79 [] [] (Ret (.list (signs.map str))) := by
 refine LCalls.intro Tryz.func79 rfl (n := 2) rfl rfl rfl ?_
 repeat first | refine LOps.nil ?_ | refine LCode.seq ?_ | refine LCode.region ?_ | refine QThen.normal ?_ | refine LOps.pure (Pure.as (lv := .atom _) rfl) rfl ?_
 refine LOps.step (S.lit [_, _, _, _, _, _, _, _, _, _, _, _, _, _, _, _, _, _, _, _, _, _, _, _] rfl (elemsOk_strs signs) rfl rfl rfl ?_) rfl
 repeat first | refine LOps.nil ?_ | refine LCode.ret ?_ | refine QThen.normal ?_ | refine LOps.pure (Pure.as (lv := .list _) rfl) rfl ?_
 exact retRet rfl (AllRes.cons (ResIs.tmp (v := .list _) rfl (LV.Sub.refl _)) AllRes.nil) rfl
theorem Index_spec (l : List (List UInt8)) (x : List UInt8) (hl : l.length ≤ 1000000000) : LCalls (KC B0 w0) 123 [.list (l.map str), str x] [] (RetIf fun lv => ∃ n : Int, lv = int .i64 n ∧ decide (0 ≤ n) = l.contains x) := by
 refine LCalls.intro Tryz.func123 rfl (n := 19) rfl rfl rfl ?_
 repeat first | refine LOps.nil ?_ | refine LCode.seq ?_ | refine LCode.region ?_ | refine LCode.block ?_ | refine QThen.normal ?_ | refine LOps.pure (Pure.as (lv := .atom _) rfl) rfl ?_ | refine LOps.pure (Pure.mv (lv := .list _) rfl) rfl ?_ | refine LOps.pure (Pure.mv (lv := .atom _) rfl) rfl ?_ | refine LOps.pure (Pure.llen rfl) rfl ?_
 refine LCode.loopI (fun k ls H => ∃ m : Nat, k = l.length - m ∧ ls = [(0, .list (l.map str)), (1, str x), (7, int .i64 (l.map str).length), (8, int .i64 m)] ∧ H = [] ∧ m ≤ l.length ∧ l.contains x = (l.drop m).contains x)
  ⟨_, _, _, ⟨0, rfl, rfl, rfl, by omega, by simp⟩, ⟨rfl, rfl, rfl, rfl, trivial⟩, HSub.refl _⟩ ?_
 rintro k ls H ⟨m, rfl, rfl, rfl, hm, hI⟩ j hj
 repeat first | refine LOps.nil ?_ | refine LCode.seq ?_ | refine LCode.region ?_ | refine QThen.normal ?_ | refine LOps.pure (Pure.lss rfl rfl) rfl ?_
 refine LCode.cond rfl (fun hc => ?_) (fun hc => ?_)
 ·have hlt : m < l.length := by simpa using hc
  repeat first | refine LOps.nil ?_ | refine LCode.seq ?_ | refine LCode.region ?_ | refine LCode.skip ?_ | refine LCode.block ?_ | refine QThen.normal ?_ | refine LOps.pure (Pure.as (lv := .atom _) rfl) rfl ?_ | refine LOps.pure (Pure.mv (lv := .list _) rfl) rfl ?_ | refine LOps.pure (Pure.mv (lv := .atom _) rfl) rfl ?_
  refine LOps.pure (Pure.ixRef (el' := str l[m]) rfl rfl (by omega) (by simp) rfl rfl) rfl ?_
  repeat first | refine LOps.nil ?_ | refine QThen.normal ?_ | refine LOps.pure (Pure.loadRef (c := .atom _) rfl rfl) rfl ?_ | refine LOps.pure (Pure.seq rfl rfl) rfl ?_
  refine LCode.cond rfl (fun he => ?_) (fun he => ?_)
  ·repeat first | refine LOps.nil ?_ | refine LCode.seq ?_ | refine LCode.region ?_ | refine LCode.ret ?_ | refine QThen.normal ?_ | refine QThen.ret ?_ | refine QBlock.ret ?_ | refine LOps.pure (Pure.as (lv := .atom _) rfl) rfl ?_ | refine LOps.pure (Pure.mv (lv := .atom _) rfl) rfl ?_
   have hx : x = l[m] := by simpa using he
   exact retRetIf hj (AllRes.cons (ResIs.tmp (v := .atom _) rfl (LV.Sub.refl _)) AllRes.nil) ⟨m, rfl, by
    rw [hx, decide_eq_true (by omega)]
    simp⟩
  ·repeat first | refine LOps.nil ?_ | refine LCode.region ?_ | refine LCode.skip ?_ | refine QThen.normal ?_ | refine QBlock.normal ?_ | refine LOps.pure (Pure.mv (lv := .atom _) rfl) rfl ?_ | refine LOps.pure (Pure.add rfl rfl (by omega)) rfl ?_
   have hx : ¬ x = l[m] := by simpa using he
   exact ⟨_, _, _, by omega, ⟨m + 1, rfl, rfl, rfl, by omega, by
    rw [hI, List.drop_eq_getElem_cons hlt, List.contains_cons]
    simp [hx]⟩, ⟨rfl, rfl, rfl, int_eq (by omega), trivial⟩, HSub.refl _, hj⟩
 ·have hge : l.length ≤ m := by simpa using hc
  repeat first | refine LOps.nil ?_ | refine LCode.seq ?_ | refine LCode.region ?_ | refine LCode.ret ?_ | refine LCode.exit ?_ | refine QThen.normal ?_ | refine QThen.exit ?_ | refine QBlock.hit ?_ | refine LOps.pure (Pure.as (lv := .atom _) rfl) rfl ?_
  exact retRetIf hj (AllRes.cons (ResIs.tmp (v := .atom _) rfl (LV.Sub.refl _)) AllRes.nil) ⟨-1, rfl, by
   rw [hI, List.drop_eq_nil_of_le hge]
   rfl⟩
theorem Contains_spec (l : List (List UInt8)) (x : List UInt8) (hl : l.length ≤ 1000000000) : LCalls (KC B0 w0) 93 [.list (l.map str), str x] [] (Ret (bool (l.contains x))) := by
 refine LCalls.intro Tryz.func93 rfl (n := 9) rfl rfl rfl ?_
 repeat first | refine LOps.nil ?_ | refine LCode.seq ?_ | refine LCode.region ?_ | refine QThen.normal ?_ | refine LOps.pure (Pure.as (lv := .atom _) rfl) rfl ?_ | refine LOps.pure (Pure.mv (lv := .list _) rfl) rfl ?_ | refine LOps.pure (Pure.mv (lv := .atom _) rfl) rfl ?_
 refine LOps.step (S.fnIf [_, _] rfl (Index_spec l x hl) ?_) rfl
 rintro lv ⟨n, rfl, hn⟩
 repeat first | refine LOps.nil ?_ | refine LCode.ret ?_ | refine QThen.normal ?_ | refine LOps.pure (Pure.as (lv := .atom _) rfl) rfl ?_ | refine LOps.pure (Pure.geq rfl rfl) rfl ?_
 exact retRet rfl (AllRes.cons (ResIs.tmp (v := .atom _) rfl (LV.Sub.refl _)) AllRes.nil) (by rw [← hn]; rfl)
theorem name_spec (s : List UInt8) (hs : s.length ≤ 1000000000) : LCalls (KC B0 w0) 77 [str s] [] (Ret (encTokR (lexName s))) := by
 refine LCalls.intro Tryz.func77 rfl (n := 21) rfl rfl rfl ?_
 repeat first | refine LCode.seq ?_ | refine LCode.region ?_
 refine LOps.step (S.alloc fun b => ?_) rfl
 repeat first | refine LOps.nil ?_ | refine LCode.seq ?_ | refine LCode.region ?_ | refine QThen.normal ?_ | refine LOps.pure (Pure.as (lv := .atom _) rfl) rfl ?_ | refine LOps.pure (Pure.mv (lv := .atom _) rfl) rfl ?_
 refine LOps.step (S.fn [_, _] rfl (run_spec isInner inner_spec s hs) ?_) rfl
 repeat first | refine LOps.nil ?_ | refine LCode.seq ?_ | refine LCode.region ?_ | refine QThen.normal ?_ | refine LOps.pure (Pure.as (lv := .atom _) rfl) rfl ?_ | refine LOps.pure (Pure.mv (lv := .atom _) rfl) rfl ?_ | refine LOps.pure (Pure.slen rfl) rfl ?_ | refine LOps.pure (Pure.gtr rfl rfl) rfl ?_
 refine LCode.cond rfl (fun hc => ?_) (fun hc => ?_)
 ·repeat first | refine LOps.nil ?_ | refine LCode.seq ?_ | refine LCode.region ?_ | refine LCode.ret ?_ | refine QThen.normal ?_ | refine QThen.ret ?_ | refine LOps.pure (Pure.as (lv := .atom _) rfl) rfl ?_ | refine LOps.pure (Pure.bld _ (cs := [_, _, _]) rfl) rfl ?_ | refine LOps.step (S.store (cs' := [_, _, _]) rfl Pick.here rfl rfl rfl rfl rfl ?_) rfl
  exact retRet rfl (AllRes.cons (ResIs.cellAgg rfl (List.Mem.head _) rfl (LV.Sub.refl _)) (AllRes.cons (ResIs.tmp (v := .atom _) rfl (LV.Sub.refl _)) (AllRes.cons (ResIs.tmp (v := .atom _) rfl (LV.Sub.refl _)) AllRes.nil))) (by
   rw [lexName, if_pos (by have := of_decide_eq_true hc; omega)]
   rfl)
 ·repeat first | refine LOps.nil ?_ | refine LCode.seq ?_ | refine LCode.region ?_ | refine LCode.skip ?_ | refine QThen.normal ?_ | refine LOps.pure (Pure.as (lv := .atom _) rfl) rfl ?_
  refine LOps.step (S.fn [] rfl Keywords_spec ?_) rfl
  repeat first | refine LOps.pure (Pure.mv (lv := .atom _) rfl) rfl ?_
  refine LOps.step (S.fn [_, _] rfl (Contains_spec keywords (s.takeWhile isInner) (by decide)) ?_) rfl
  repeat first | refine LOps.nil ?_ | refine QThen.normal ?_
  refine LCode.cond rfl (fun hk => ?_) (fun hk => ?_)
  ·repeat first | refine LOps.nil ?_ | refine LCode.seq ?_ | refine LCode.region ?_ | refine LCode.ret ?_ | refine QThen.normal ?_ | refine LOps.pure (Pure.as (lv := .atom _) rfl) rfl ?_ | refine LOps.pure (Pure.mv (lv := .atom _) rfl) rfl ?_ | refine LOps.pure (Pure.slen rfl) rfl ?_ | refine LOps.pure (Pure.bld _ (cs := [_, _, _]) rfl) rfl ?_ | refine LOps.step (S.store (cs' := [_, _, _]) rfl Pick.here rfl rfl rfl rfl rfl ?_) rfl
   exact retRet rfl (AllRes.cons (ResIs.cellAgg rfl (List.Mem.head _) rfl (LV.Sub.refl _)) (AllRes.cons (ResIs.tmp (v := .atom _) rfl (LV.Sub.refl _)) (AllRes.cons (ResIs.tmp (v := .atom _) rfl (LV.Sub.refl _)) AllRes.nil))) (by
    rw [lexName, if_neg (by have := of_decide_eq_false hc; omega), if_pos hk]
    rfl)
  ·repeat first | refine LOps.nil ?_ | refine LCode.seq ?_ | refine LCode.region ?_ | refine LCode.skip ?_ | refine LCode.ret ?_ | refine QThen.normal ?_ | refine LOps.pure (Pure.as (lv := .atom _) rfl) rfl ?_ | refine LOps.pure (Pure.mv (lv := .atom _) rfl) rfl ?_ | refine LOps.pure (Pure.slen rfl) rfl ?_ | refine LOps.pure (Pure.bld _ (cs := [_, _, _]) rfl) rfl ?_ | refine LOps.step (S.store (cs' := [_, _, _]) rfl Pick.here rfl rfl rfl rfl rfl ?_) rfl
   exact retRet rfl (AllRes.cons (ResIs.cellAgg rfl (List.Mem.head _) rfl (LV.Sub.refl _)) (AllRes.cons (ResIs.tmp (v := .atom _) rfl (LV.Sub.refl _)) (AllRes.cons (ResIs.tmp (v := .atom _) rfl (LV.Sub.refl _)) AllRes.nil))) (by
    rw [lexName, if_neg (by have := of_decide_eq_false hc; omega), if_neg (by rw [hk]; decide)]
    rfl)
end
end Go.Proofs.YtfodkbchknknjaaGreatDoor
namespace Go.GL
open Go.RowKit
class TIface (P : Program) (t : TypeId) : Prop where
 und : ∃ ms, P.underlying t = some (.interface ms)
def chkIface (P : Program) (t : Nat) : Bool := match P.underlying t with | some (.interface _) => true | _ => false
theorem TIface.of {P : Program} {t : Nat} (h : chkIface P t = true) : TIface P t := by
 unfold chkIface at h
 refine ⟨?_⟩
 cases hu : P.underlying t with
 | none => rw [hu] at h; simp at h
 | some d => rw [hu] at h; cases d <;> simp_all
section
variable {C : Ctx} {e : Env} {H : Heap} {dst : Option Nat} {ty : TypeId} {pos : String} {aft : Array Edge} {g : Option (Nat × Bool)} {xT yT : TypeId} {x : Operand}
theorem equal_step (t : TypeId) (x y : Value) : Op.equal t x y = Op.equalIn (9999 + 1) t x y := rfl
theorem run_equal_nil {P : Program} {t : TypeId} [h : TIface P t] (w : World) : (Op.equal t .nilIface .nilIface).run P w = .ok true w := by
 obtain ⟨ms, hu⟩ := h.und
 rw [equal_step, Op.equalIn]
 simp only [Sem.run_bind, run_underlying' hu, Result.andThen_ok, Sem.run_pure]
theorem run_equal_iface {P : Program} {t : TypeId} [h : TIface P t] (u : TypeId) (p : Value) (w : World) : (Op.equal t (.iface u p) .nilIface).run P w = .ok false w := by
 obtain ⟨ms, hu⟩ := h.und
 rw [equal_step, Op.equalIn]
 simp only [Sem.run_bind, run_underlying' hu, Result.andThen_ok, Sem.run_pure]
theorem Pure.nilNeqNil [TIface C.P xT] (hx : e.ev x = .atom .nilIface) : Pure C ⟨dst, .binOp .neq xT x (.const .nilIface) yT, ty, pos, aft, g⟩ e H (bool false) :=
 .of_any fun ρ _ _ h => ⟨_, rep_atom, fun w' => by
  have h1 := atom_of h hx
  have h2 := atom_of h (x := .const .nilIface) rfl
  have he : eqGuard .neq xT x (.const .nilIface) .nilIface .nilIface = Pure.pure () := by simp [eqGuard]
  have hb : binOp .neq xT .nilIface .nilIface = (do Pure.pure (.bool (!(← Op.equal xT .nilIface .nilIface)))) := rfl
  simp only [execOp, h1, h2, he, hb, Sem.run_bind, Sem.run_pure, Result.andThen_ok, run_equal_nil, Bool.not_true]⟩
theorem Pure.ifaceNeqNil [TIface C.P xT] {u : TypeId} {p : Value} (hx : e.ev x = .atom (.iface u p)) : Pure C ⟨dst, .binOp .neq xT x (.const .nilIface) yT, ty, pos, aft, g⟩ e H (bool true) :=
 .of_any fun ρ _ _ h => ⟨_, rep_atom, fun w' => by
  have h1 := atom_of h hx
  have h2 := atom_of h (x := .const .nilIface) rfl
  have he : eqGuard .neq xT x (.const .nilIface) (.iface u p) .nilIface = Pure.pure () := by simp [eqGuard]
  have hb : binOp .neq xT (.iface u p) .nilIface = (do Pure.pure (.bool (!(← Op.equal xT (.iface u p) .nilIface)))) := rfl
  simp only [execOp, h1, h2, he, hb, Sem.run_bind, Sem.run_pure, Result.andThen_ok, run_equal_iface, Bool.not_false]⟩
theorem str_eq {a b : List UInt8} (h : a = b) : str a = str b := by rw [h]
theorem Pure.cvt {k k0 k' : IntKind} {s d : TypeId} {n : Int} [hs : TKind C.P s k0] [hd : TKind C.P d k'] (hx : e.ev x = int k n) : Pure C ⟨dst, .convert s d x, ty, pos, aft, g⟩ e H (int k' (k'.wrap n)) := Pure.convInt ⟨_, hs.und⟩ hx
end
end Go.GL
/- A small logic over the walk's 'Code.wp': drawn regions in which more than one operation may come up; division; bytes to a string. -/
namespace Go.GL
open Go.RowKit
section any
variable {C : Ctx} {n : Nat} {ops : Array Oper} {Q : Post} {HF : Heap} {fuel : Nat} {listed : Array Bool} {e : Env} {H : Heap}
/-- Number i comes up. -/
def LLateOp (C : Ctx) (n : Nat) (ops : Array Oper) (Q : Post) (HF : Heap) (fuel : Nat) (listed : Array Bool) (e : Env) (H : Heap) (i : Nat) : Prop :=
 ∀ w0 L0 a w L, (∀ b, L0 b ≤ L b) → Agree w0 L0 HF w → (∀ p ∈ HF, p.1 < w.heap.size) → RelE n a e w L → RelH C w L H →
  wpOp C.P ops (lift C n w L (keys H) Q) i (fun a' w' => Agree w0 L0 HF w' ∧ wpAnyH C.P .any ops (lift C n w L (keys H) Q) (Agree w0 L0 HF) fuel (listed.setIfInBounds i true) a' w') a w
theorem LLate.all {is : List Nat} (hr : Region.ready .any ops listed = is) (hne : is ≠ []) (h : ∀ i ∈ is, LLateOp C n ops Q HF fuel listed e H i) : LLate C n ops Q HF (fuel + 1) listed e H := fun w0 L0 a w L hL hA hsz hE hH =>
 wpAnyH_all hr hne fun j hj => h j hj w0 L0 a w L hL hA hsz hE hH
theorem LLateOp.step {i : Nat} {dst : Option Nat} {op : Op} {ty : TypeId} {pos : String} {aft : Array Edge} {g : Option (Nat × Bool)} {H1 F : Heap} (hi : ops[i]? = some ⟨dst, op, ty, pos, aft, g⟩) (hg : g = none ∨ ∃ j b d, g = some (j, b) ∧ (ops[j]?).bind (·.dst) = some d ∧ e.s d = .atom (.bool b)) (hd : dstOk n dst)
  (p : H.Perm (H1 ++ F)) (hHF : HSub HF F)
  (h : LStep C ⟨dst, op, ty, pos, aft, g⟩ e H1 (fun lv H' => LLate C n ops Q HF fuel (listed.setIfInBounds i true) (e.put dst lv) (H' ++ F)) (fun ch H' => ∀ e', e'.ds = e.ds → Q (.panic ch) e' (H' ++ F))) :
  LLateOp C n ops Q HF fuel listed e H i := fun w0 L0 a w L hL hA hsz hE hH => by
 have hH' := hH.perm p
 have hn : (keys H1 ++ keys F).Nodup := by simpa [keys] using hH'.nodup
 have hdis : ∀ q ∈ HF, q.1 ∉ keys H1 := fun q hq hm => (List.nodup_append.1 hn).2.2 _ hm _ (List.mem_map_of_mem (hHF.mem q hq)) rfl
 have hw : Region.wanted ⟨dst, op, ty, pos, aft, g⟩ (yielded ops a.tmps) = true := by
  rcases hg with rfl | ⟨j, b, d, rfl, hj, hb⟩
  ·simp [Region.wanted]
  ·simp [Region.wanted, yielded_env hE hj hb]
 unfold wpOp
 rw [hi]
 simp only
 rw [if_pos hw]
 refine .inl (step_wp (H := H1) h hd hE hH'.left (fun lv H' L' w' a' h1 h2 h3 h4 => ?_) (fun ch H' L' w' h1 h2 h3 => ?_))
 ·have hfr := hH'.frame h1 h2
  have hag : Agree w0 L0 HF w' := ⟨fun q hq => (h1.block q.1 (hsz q hq) (hdis q hq)).trans (hA.1 q hq), fun b i hi => (h1.ext.live b i (Nat.lt_of_lt_of_le hi (hL b))).trans (hA.2 b i hi)⟩
  exact ⟨hag, wpAnyH_mono (fun _ _ _ => lift_trans (hfr.2.perm p.symm)) _ _ _ _ (h4 w0 L0 a' w' L' (fun b => Nat.le_trans (hL b) (h1.ext.mono b)) hag (fun q hq => Nat.lt_of_lt_of_le (hsz q hq) h1.ext.size) h3 hfr.1)⟩
 ·have hfr := hH'.frame h1 h2
  exact ⟨e, H' ++ F, L', hfr.2.perm p.symm, hfr.1, hE.ds, h3 e rfl⟩
theorem LLate.one {i : Nat} (hr : Region.ready .any ops listed = [i]) (h : LLateOp C n ops Q HF fuel listed e H i) : LLate C n ops Q HF (fuel + 1) listed e H :=
 LLate.all hr (by simp) fun j hj => by
  obtain rfl := List.mem_singleton.1 hj
  exact h
theorem LLate.two {i j : Nat} (hr : Region.ready .any ops listed = [i, j]) (h : LLateOp C n ops Q HF fuel listed e H i) (h' : LLateOp C n ops Q HF fuel listed e H j) : LLate C n ops Q HF (fuel + 1) listed e H :=
 LLate.all hr (by simp) fun k hk => by
  rcases List.mem_cons.1 hk with rfl | hk
  ·exact h
  ·obtain rfl := List.mem_singleton.1 hk
   exact h'
/-- The same, where nothing is held. -/
theorem LLateOp.whole {i : Nat} {dst : Option Nat} {op : Op} {ty : TypeId} {pos : String} {aft : Array Edge} {g : Option (Nat × Bool)} (hi : ops[i]? = some ⟨dst, op, ty, pos, aft, g⟩) (hg : g = none ∨ ∃ j b d, g = some (j, b) ∧ (ops[j]?).bind (·.dst) = some d ∧ e.s d = .atom (.bool b)) (hd : dstOk n dst)
  (h : LStep C ⟨dst, op, ty, pos, aft, g⟩ e H (fun lv H' => LLate C n ops Q [] fuel (listed.setIfInBounds i true) (e.put dst lv) H') (fun ch H' => ∀ e', e'.ds = e.ds → Q (.panic ch) e' H')) :
  LLateOp C n ops Q [] fuel listed e H i := LLateOp.step (H1 := H) (F := []) hi hg hd (by simp) (HSub.nil _) (by simpa using h)
end any
theorem LQ.bcase {C : Ctx} {n : Nat} {ops : Array Oper} {K : Env → Prop} {e : Env} {H : Heap} {rest : List Oper} (d : Nat) {b : Bool} (hb : e.s d = bool b) (ht : b = true → LQ C n ops K rest (e.upd d (bool true)) H) (hf : b = false → LQ C n ops K rest (e.upd d (bool false)) H) : LQ C n ops K rest e H := by
 cases b
 ·have := hf rfl; rwa [Env.upd_self hb] at this
 ·have := ht rfl; rwa [Env.upd_self hb] at this
section pure
variable {C : Ctx} {e : Env} {H : Heap} {dst : Option Nat} {ty : TypeId} {pos : String} {aft : Array Edge} {g : Option (Nat × Bool)} {xT yT : TypeId} {x y : Operand} {k : IntKind} {a b : Int}
theorem Pure.quo (hx : e.ev x = int .i64 a) (hy : e.ev y = int .i64 b) (hb : 0 < b) (ha : 0 ≤ a) (h : a ≤ 9223372036854775807) : Pure C ⟨dst, .binOp .quo xT x y yT, ty, pos, aft, g⟩ e H (int .i64 (a / b)) :=
 .of_any fun _ _ _ h' => ⟨_, rep_atom, run_int (atom_of h' hx) (atom_of h' hy) (by simp) (by simp) (s := Op.intDiv .quo .i64 a b) (by simp only [binOp, ne_eq, not_true_eq_false, if_false]) (fun w => by
  have h1 : a.tdiv b = a / b := Int.tdiv_eq_ediv_of_nonneg ha
  have h2 : 0 ≤ a / b := Int.ediv_nonneg ha (by omega)
  have h3 : a / b ≤ a := Int.ediv_le_self _ ha
  rw [Op.intDiv, if_neg (by omega)]
  simp only [h1]
  rw [wrap_i64 (by omega)]
  rfl)⟩
theorem Pure.rem (hx : e.ev x = int .i64 a) (hy : e.ev y = int .i64 b) (hb : 0 < b) (ha : 0 ≤ a) : Pure C ⟨dst, .binOp .rem xT x y yT, ty, pos, aft, g⟩ e H (int .i64 (a % b)) :=
 .of_any fun _ _ _ h' => ⟨_, rep_atom, run_int (atom_of h' hx) (atom_of h' hy) (by simp) (by simp) (s := Op.intDiv .rem .i64 a b) (by simp only [binOp, ne_eq, not_true_eq_false, if_false]) (fun w => by
  have h1 : a.tmod b = a % b := Int.tmod_eq_emod_of_nonneg ha
  rw [Op.intDiv, if_neg (by omega)]
  simp only [h1]
  rfl)⟩
theorem Pure.bytesStr {s d el : TypeId} [hs : TSlice C.P s el 1] [he : TKind C.P el .u8] [hd : TStr C.P d] {l : List UInt8} (hx : elems (e.ev x) = some (l.map fun b => int .u8 b.toNat)) (hne : l ≠ []) :
  Pure C ⟨dst, .convert s d x, ty, pos, aft, g⟩ e H (str l) := fun ρ w L h _ => by
 obtain ⟨a, cap, hv, hcap, hr⟩ := (h x).elems hx
 obtain ⟨b, off, k', rfl, hrr⟩ := hr (by simpa using hne)
 refine ⟨_, rep_atom, fun w' ha => ?_⟩
 have h0 : execOp ρ ⟨dst, .convert s d x, ty, pos, aft, g⟩ = (do Pure.pure (.value (← convert s d (ρ x)))) := rfl
 have hlen : (l.map fun b => int .u8 b.toNat).length = l.length := by simp
 have := run_convert_bytes_back (P := C.P) w' s d el ⟨b, off, none⟩ cap l hs.und he.und hd.und (fun j hj => by
  obtain ⟨h1, h2⟩ := hrr.get (i := j) (e := int .u8 l[j].toNat) (by simp [hj])
  simp only [LV.cells, RepC, List.length_singleton] at h1 h2
  obtain ⟨h3, ⟨v, h4, h5⟩, _⟩ := h2
  simp only [Rep] at h5
  subst h5
  subst h1
  rw [Nat.mul_one] at h3 h4
  rw [add_mk]
  rw [ha.2 b _ h3]
  exact h4)
 rw [h0, hv, hlen]
 simp only [Sem.run_bind, this, Result.andThen_ok, Sem.run_pure]
end pure
end Go.GL
namespace Go.GL
open Go.RowKit
theorem LAny.tk (i : Nat) {C : Ctx} {n : Nat} {ops : Array Oper} {Q : Post} {HF : Heap} {fuel : Nat} {listed : Array Bool} {e : Env} {H : Heap} {dst : Option Nat} {op : Op} {ty : TypeId} {pos : String} {aft : Array Edge} {lv : LV}
    (hi : ops[i]? = some ⟨dst, op, ty, pos, aft, none⟩) (hd : dstOk n dst) (hp : Pure C ⟨dst, op, ty, pos, aft, none⟩ e HF lv) (k : LAny C n ops Q HF fuel (listed.setIfInBounds i true) (e.put dst lv) H) (hs : Region.noSelect ops = true := by kernel_rfl) (hf : Region.free .any ops listed i = true := by kernel_rfl) (hr : (Region.ready .any ops listed).contains i = true := by kernel_rfl)
    (hHF : HSub HF H := by first | exact HSub.nil _ | exact HSub.refl _ | exact HSub.drop (HSub.refl _) | exact HSub.pick Pick.here (HSub.nil _) | exact HSub.pick (Pick.there Pick.here) (HSub.nil _) | exact HSub.pick (Pick.there (Pick.there Pick.here)) (HSub.nil _)) : LAny C n ops Q HF (fuel + 1) listed e H := LAny.take hHF hi hs hf hr hd hp k
theorem LAny.tkW (i : Nat) {C : Ctx} {n : Nat} {ops : Array Oper} {Q : Post} {HF : Heap} {fuel : Nat} {listed : Array Bool} {e : Env} {H : Heap} {j d : Nat} {b : Bool} {dst : Option Nat} {op : Op} {ty : TypeId} {pos : String} {aft : Array Edge} {lv : LV}
    (hi : ops[i]? = some ⟨dst, op, ty, pos, aft, some (j, b)⟩) (hj : (ops[j]?).bind (·.dst) = some d) (hb : e.s d = .atom (.bool b)) (hd : dstOk n dst) (hp : Pure C ⟨dst, op, ty, pos, aft, some (j, b)⟩ e HF lv) (k : LAny C n ops Q HF fuel (listed.setIfInBounds i true) (e.put dst lv) H) (hs : Region.noSelect ops = true := by kernel_rfl) (hf : Region.free .any ops listed i = true := by kernel_rfl) (hr : (Region.ready .any ops listed).contains i = true := by kernel_rfl)
    (hHF : HSub HF H := by first | exact HSub.nil _ | exact HSub.refl _ | exact HSub.drop (HSub.refl _) | exact HSub.pick Pick.here (HSub.nil _) | exact HSub.pick (Pick.there Pick.here) (HSub.nil _) | exact HSub.pick (Pick.there (Pick.there Pick.here)) (HSub.nil _)) : LAny C n ops Q HF (fuel + 1) listed e H := LAny.takeWant hHF hi hj hb hs hf hr hd hp k
theorem LLate.o {C : Ctx} {n : Nat} {ops : Array Oper} {Q : Post} {HF : Heap} {fuel : Nat} {listed : Array Bool} {e : Env} {H : Heap} (i : Nat) (h : LLateOp C n ops Q HF fuel listed e H i) (hr : Region.ready .any ops listed = [i] := by kernel_rfl) : LLate C n ops Q HF (fuel + 1) listed e H := LLate.one hr h
end Go.GL
