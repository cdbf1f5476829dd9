/- Texts joined: GlMap, ParP5, ParP6, GlRange, ParP7, GlPair, REq, FmtSpec, Fmt1. -/
import Derived.RangeFuncFrom
import Derived.RangeFuncLeaves
import Derived.TacticsIn
import Derived.DeepKeys
import Derived.Lib.Join
import Derived.Test.YtfodkbchknknjaaGreatDoorBRowF1
import Derived.Test.YtfodkbchknknjaaGreatDoorBRowF2
set_option linter.unusedVariables false
set_option linter.unusedSimpArgs false
namespace Go.GL
open Go.RowKit
def noCells : Obj → Bool
 | .cells _ _ _ => false
 | _ => true
theorem shape_none {w : World} {b : Nat} {o : Obj} (h : w.heap[b]? = some o) (ho : noCells o = true) : w.shape? b = none := by
 simp only [World.shape?, h]
 cases o <;> simp_all [noCells]
section
variable {C : Ctx} {e : Env} {H : Heap} {dst : Option Nat} {ty : TypeId} {pos : String} {aft : Array Edge} {g : Option (Nat × Bool)} {K : LV → Heap → Prop} {X : List PanicEntry → Heap → Prop} {x y : Operand}
theorem left_newObj {w : World} {L : Live} (hH : RelH C w L []) {o : Obj} (ho : noCells o = true) {v : Value} (hk : K (.atom v) [(w.heap.size, .obj o)]) : Left C w L [] (World.push w o) v K := by
 have := fr_push hH o 0 [(w.heap.size, .obj o)] (fun p hp => by
  simp only [List.mem_singleton] at hp
  subst hp
  exact ⟨rfl, by simp [Live.upd], heap_push_self, shape_none heap_push_self ho⟩) (by simp)
 exact ⟨_, _, _, this.1, this.2, rep_atom, hk⟩
/-- The block of an object that is kept turns; draws may have come between. -/
theorem left_obj {w w' : World} {L : Live} {b : Nat} {o o' : Obj} (hH : RelH C w L [(b, .obj o)]) (ho' : noCells o' = true) (h1 : w'.os = w.os) (h2 : w'.tape = w.tape) (h3 : w'.output = w.output)
  (h4 : w'.heap.size = w.heap.size) (h5 : ∀ c, c ≠ b → w'.heap[c]? = w.heap[c]?) (h6 : w'.heap[b]? = some o') {v : Value} {lv : LV} (hv : ∀ L, Rep w' L lv v) (hk : K lv [(b, .obj o')]) : Left C w L [(b, .obj o)] w' v K := by
 obtain ⟨hb0, hbs, hl, hx1, hx2⟩ := hH.objs _ (List.mem_singleton.2 rfl)
 simp only at hb0 hbs hl hx1 hx2
 have hx : Ext w L w' L := by
  refine ⟨by rw [h4]; exact Nat.le_refl _, fun c hc => ?_, fun c i hi => ?_, fun _ => Nat.le_refl _⟩
  ·by_cases he : c = b
   ·subst he
    rw [hx2]
    exact shape_none h6 ho'
   ·exact shape_of_heap (h5 c he)
  ·by_cases he : c = b
   ·subst he; rw [hl] at hi; omega
   ·exact cell_of_heap (h5 c he) i
 refine ⟨lv, [(b, .obj o')], L, ⟨h1, h2, h3, hx, fun c hc hn => h5 c (by simpa using hn), fun _ _ _ => rfl, fun p hp => .inl (by simp only [List.mem_singleton] at hp; subst hp; simp)⟩,
  ⟨?_, hH.lbase, by rw [h4]; exact hH.b0, by rw [h4]; exact hH.wf, by simp, fun p hp => ?_⟩, hv L, hk⟩
 ·exact hH.base.trans ⟨h1, h2, h3, by rw [h4]; exact Nat.le_refl _, fun c hc => h5 c (by omega)⟩
 ·simp only [List.mem_singleton] at hp
  subst hp
  exact ⟨hb0, by rw [h4]; exact hbs, hl, h6, shape_none h6 ho'⟩
theorem S.makeMap {t : TypeId} (hk : ∀ b, K (.atom (.map (some b))) ((b, .obj (.map #[] 0)) :: H)) : LStep C ⟨dst, .makeMap t none, ty, pos, aft, g⟩ e H K X := by
 refine LStep.at0 fun ρ w L _ hH => ?_
 have h3 : execOp ρ ⟨dst, .makeMap t none, ty, pos, aft, g⟩ = (do Pure.pure (.value (← Instr.makeMap t none))) := rfl
 have h4 : (Instr.makeMap t none).run C.P w = .ok (.map (some w.heap.size)) (World.push w (.map #[] 0)) := rfl
 rw [h3, Sem.run_bind, h4]
 exact left_newObj hH rfl (hk _)
def setW (w : World) (b : Nat) (o : Obj) : World := { w with heap := w.heap.setIfInBounds b o }
theorem setW_other {w : World} {b c : Nat} {o : Obj} (h : c ≠ b) : (setW w b o).heap[c]? = w.heap[c]? := by
 simp only [setW, Array.getElem?_setIfInBounds]
 rw [if_neg (Ne.symm h)]
theorem setW_self {w : World} {b : Nat} {o : Obj} (h : b < w.heap.size) : (setW w b o).heap[b]? = some o := by
 simp only [setW, Array.getElem?_setIfInBounds]
 simp [h]
theorem run_setObj {P : Program} {w : World} {b : Nat} {o o' : Obj} (h : w.heap[b]? = some o) (ho : noCells o = true) : (setObj b o').run P w = .ok () (setW w b o') := by
 simp only [setObj, Sem.run, h]
 cases o <;> first | rfl | (simp [noCells] at ho)
theorem findNow_str (k : ByteArray) : ∀ (es : List MapEntry) (i : Nat), (∀ e ∈ es, ∃ s, e.key = .string s ∧ ¬ (k == s) = true) → Instr.findNow .string (.string k) es i = some none
 | [], _, _ => rfl
 | e :: es, i, h => by
  obtain ⟨s, hs, hne⟩ := h e List.mem_cons_self
  have hne' : (k == s) = false := by simpa using hne
  simp only [Instr.findNow, hs, Instr.sameNow, hne']
  exact findNow_str k es (i + 1) (fun e he => h e (List.mem_cons_of_mem _ he))
/-- A new key in a map whose keys are strings. -/
theorem S.insert {t kt el : TypeId} (ht : C.P.underlying t = some (.map kt el)) (hkt : C.P.underlying kt = some .string) {b clock : Nat} {es : Array MapEntry} {F : Heap} {m z : Operand} {k : ByteArray} {v : Value} (hm : e.ev m = .atom (.map (some b))) (hx : e.ev x = .atom (.string k)) (hz : e.ev z = .atom v)
  (hp : Pick (b, .obj (.map es clock)) H F) (hnew : ∀ e ∈ es.toList, ∃ s, e.key = .string s ∧ ¬ (k == s) = true) (hk : K (.atom undef) ((b, .obj (.map (es.push { key := .string k, val := v, born := clock }) (clock + 1))) :: F)) : LStep C ⟨dst, .insert t m x z, ty, pos, aft, g⟩ e H K X := by
 refine LStep.at1 hp fun ρ w L h hH => ?_
 obtain ⟨hb0, hbs, hl, hx1, hx2⟩ := hH.objs _ (List.mem_singleton.2 rfl)
 simp only at hb0 hbs hl hx1 hx2
 have h3 : execOp ρ ⟨dst, .insert t m x z, ty, pos, aft, g⟩ = (do Instr.mapUpdate t (ρ m) (ρ x) (ρ z); Pure.pure .skip) := rfl
 have hf : (Instr.findKey kt (.string k) es.toList).run C.P w = .ok none w := by
  simp only [Instr.findKey, Sem.run_bind, run_underlying' hkt, Result.andThen_ok, findNow_str k es.toList 0 hnew, Sem.run_pure]
 have hc : (Instr.checkKey false 10000 kt (.string k)).run C.P w = .ok () w := by
  have hck : Instr.checkKey false 10000 kt (.string k) = Instr.checkKey false (9999 + 1) kt (.string k) := rfl
  rw [hck, Instr.checkKey]
  simp only [Sem.run_bind, run_underlying' hkt, Result.andThen_ok, Sem.run_pure]
 have hg : (getObj b).run C.P w = .ok (.map es clock) w := by simp only [getObj, Sem.run, hx1]
 rw [h3, atom_of h hm, atom_of h hx, atom_of h hz]
 simp only [Instr.mapUpdate, Sem.run_bind, run_underlying' ht, Result.andThen_ok, hg, hc, hf]
 have hs : (setObj b (.map (es.push { key := .string k, val := v, born := clock }) (clock + 1))).run C.P w = .ok () (setW w b (.map (es.push { key := .string k, val := v, born := clock }) (clock + 1))) := run_setObj hx1 rfl
 rw [hs]
 exact left_obj (w' := setW w b (.map (es.push { key := .string k, val := v, born := clock }) (clock + 1))) hH rfl rfl rfl rfl (by simp [setW]) (fun c hc => setW_other hc) (setW_self hbs) (fun _ => rep_atom) hk
/-- The iterator over a map. -/
theorem S.range {t kt el : TypeId} (ht : C.P.underlying t = some (.map kt el)) {b clock : Nat} {es : Array MapEntry} (hx : e.ev x = .atom (.map (some b))) (hm : (b, .obj (.map es clock)) ∈ H)
  (hk : ∀ r, K (ptr r 0) ((r, .obj (.mapIter (some b) clock #[] clock)) :: H)) : LStep C ⟨dst, .range t x, ty, pos, aft, g⟩ e H K X := by
 obtain ⟨F, hF⟩ : ∃ F, H.Perm ((b, .obj (.map es clock)) :: F) := by
  obtain ⟨l1, l2, rfl⟩ := List.append_of_mem hm
  exact ⟨l1 ++ l2, List.perm_middle⟩
 have main : ∀ X, LStep C ⟨dst, .range t x, ty, pos, aft, g⟩ e [(b, .obj (.map es clock))] (fun lv H' => ∃ r, lv = ptr r 0 ∧ H' = [(r, .obj (.mapIter (some b) clock #[] clock)), (b, .obj (.map es clock))]) X := fun X ρ w L h hH => by
  obtain ⟨hb0, hbs, hl, hx1, hx2⟩ := hH.objs _ (List.mem_singleton.2 rfl)
  simp only at hb0 hbs hl hx1 hx2
  have h3 : execOp ρ ⟨dst, .range t x, ty, pos, aft, g⟩ = (do Pure.pure (.value (← Instr.range t (ρ x)))) := rfl
  have hg : (getObj b).run C.P w = .ok (.map es clock) w := by simp only [getObj, Sem.run, hx1]
  have hn : ∀ o, (newObj o).run C.P w = .ok w.heap.size (World.push w o) := fun _ => rfl
  rw [h3, atom_of h hx]
  simp only [Instr.range, Sem.run_bind, run_underlying' ht, Result.andThen_ok, hg, Sem.run_pure, hn]
  have := Left.frame (F := [(b, .obj (.map es clock))]) (K := fun lv H' => ∃ r, lv = ptr r 0 ∧ H' = [(r, .obj (.mapIter (some b) clock #[] clock)), (b, .obj (.map es clock))]) (v := .pointer (some ⟨w.heap.size, 0, none⟩)) (by simpa using hH) (left_newObj (w := w) (L := L) (hH.sub (List.nil_sublist _)) (o := .mapIter (some b) clock #[] clock) rfl ⟨w.heap.size, rfl, rfl⟩)
  show Left C w L _ _ _ _
  simpa using this
 refine LStep.conseq (LStep.frame (H := [(b, .obj (.map es clock))]) (F := F) hF (K := fun lv H' => ∃ r, lv = ptr r 0 ∧ H' = [(r, .obj (.mapIter (some b) clock #[] clock)), (b, .obj (.map es clock))] ++ F) ?_) ?_
 ·exact LStep.conseq (main _) (fun lv H' ⟨r, h1, h2⟩ => ⟨lv, H', LV.Sub.refl _, HSub.refl _, r, h1, by rw [h2]⟩)
 ·rintro lv H' ⟨r, rfl, rfl⟩
  exact ⟨ptr r 0, _, LV.Sub.refl _, ⟨[], by simpa using hF.symm⟩, hk r⟩
/-- The next entry of a map that has not turned since the range began: whichever is left, or none. -/
theorem S.next {r b since last clock : Nat} {seen : Array Nat} {es : Array MapEntry} {F : Heap} (hx : e.ev x = ptr r 0) (hp : H.Perm ((r, .obj (.mapIter (some b) since seen last)) :: (b, .obj (.map es clock)) :: F))
  (hold : ∀ e ∈ es.toList, e.born < since ∧ e.born < last)
  (hover : es.filter (fun e => !seen.contains e.born) = #[] → K (.tuple [bool false]) ((r, .obj (.mapIter (some b) since seen last)) :: (b, .obj (.map es clock)) :: F))
  (hstep : ∀ e ∈ (es.filter (fun e => !seen.contains e.born)).toList, K (.tuple [bool true, .atom e.key, .atom e.val]) ((r, .obj (.mapIter (some b) since (seen.push e.born) clock)) :: (b, .obj (.map es clock)) :: F)) :
  LStep C ⟨dst, .next x false, ty, pos, aft, g⟩ e H K X := by
 refine LStep.frame (H := [(r, .obj (.mapIter (some b) since seen last)), (b, .obj (.map es clock))]) (F := F) hp fun ρ w L h hH => ?_
 have hr := hH.objs (r, .obj (.mapIter (some b) since seen last)) (List.Mem.head _)
 have hb := hH.objs (b, .obj (.map es clock)) (List.Mem.tail _ (List.Mem.head _))
 obtain ⟨_, hrs, _, hr1, _⟩ := hr
 obtain ⟨_, hbs, _, hb1, _⟩ := hb
 simp only at hrs hr1 hbs hb1
 have h3 : execOp ρ ⟨dst, .next x false, ty, pos, aft, g⟩ = (do Pure.pure (.value (← Instr.next (ρ x) false ty))) := rfl
 have hg1 : (getObj r).run C.P w = .ok (.mapIter (some b) since seen last) w := by simp only [getObj, Sem.run, hr1]
 have hg2 : (getObj b).run C.P w = .ok (.map es clock) w := by simp only [getObj, Sem.run, hb1]
 have htest : (!seen.isEmpty && !es.isEmpty && es.all (fun e => decide (e.born ≥ last))) = false := by
  rw [Bool.eq_false_iff]
  intro hall
  simp only [Bool.and_eq_true] at hall
  obtain ⟨⟨_, h1⟩, h2⟩ := hall
  have hne : 0 < es.size := by
   rcases Nat.eq_zero_or_pos es.size with h0 | h0
   ·have : es = #[] := Array.eq_empty_of_size_eq_zero h0
    subst this
    simp at h1
   ·exact h0
  have h3 := (Array.all_eq_true.1 h2) 0 hne
  have h4 := (hold es[0] (by simp)).2
  simp at h3
  omega
 rw [h3, atom_of h hx]
 simp only [Instr.next, Sem.run_bind, Result.andThen_ok, hg1, hg2, htest, Bool.false_eq_true, if_false]
 generalize hL : es.filter (fun e => !seen.contains e.born) = left at hover hstep ⊢
 have hmem : ∀ x ∈ left.toList, x.born < since := fun x hx => by
  subst hL
  simp at hx
  exact (hold x (by simpa using hx.1)).1
 have e1 : left.filter (fun x => decide (x.born < since)) = left := Array.filter_eq_self.2 (fun x hx => by simpa using hmem x (by simpa using hx))
 have e2 : left.filter (fun x => decide (x.born ≥ since)) = #[] := by
  rw [Array.filter_eq_empty_iff]
  intro x hx
  have := hmem x (by simpa using hx)
  simp
  omega
 simp only [e1, e2, Array.append_empty]
 by_cases h0 : left.size = 0
 ·have : left = #[] := Array.eq_empty_of_size_eq_zero h0
  subst this
  have hch : (choose (.mapNext 1)).run C.P w = .ok 0 w := by simp [choose, Sem.run, Question.forced]
  simp only [Array.isEmpty_empty, if_true, Array.map_empty, Array.append_empty, List.size_toArray, List.length_singleton, hch, Sem.run_bind, Result.andThen_ok, Sem.run_pure]
  exact ⟨.tuple [bool false], _, L, Fr.refl _ _ _, hH, by simp only [Rep]; exact ⟨[.bool false], rfl, by simp only [RepL, Rep]; exact ⟨_, _, rfl, rfl, rfl⟩⟩, hover rfl⟩
 ·have hne : left.isEmpty = false := by simp [Array.isEmpty, h0]
  simp only [hne, Bool.false_eq_true, if_false, Array.empty_append, Array.size_map]
  obtain ⟨j, w1, hj, hw1, hrun⟩ : ∃ (j : Nat) (w1 : World), j < left.size ∧ (w1 = w ∨ w1 = w.drew) ∧ (choose (Question.mapNext left.size)).run C.P w = .ok j w1 := by
   by_cases hf : left.size ≤ 1
   ·exact ⟨0, w, by omega, .inl rfl, by simp [choose, Sem.run, Question.forced, hf]⟩
   ·exact ⟨_, w.drew, Nat.mod_lt _ (by omega), .inr rfl, by
     simp only [choose, Sem.run, Question.forced, decide_eq_true_eq, hf, if_false, Question.cut]
     rfl⟩
  have hr1' : w1.heap[r]? = some (.mapIter (some b) since seen last) := by rcases hw1 with rfl | rfl <;> exact hr1
  have hsz : w1.heap.size = w.heap.size := by rcases hw1 with rfl | rfl <;> rfl
  have hheap : w1.heap = w.heap := by rcases hw1 with rfl | rfl <;> rfl
  simp only [hrun, Array.getElem?_map, Array.getElem?_eq_getElem hj, Option.map_some, Sem.run_bind, Result.andThen_ok, run_setObj hr1' rfl, Sem.run_pure]
  have hl : Left C w L [(r, .obj (.mapIter (some b) since seen last))] (setW w1 r (.mapIter (some b) since (seen.push left[j].born) clock)) (.tuple #[.bool true, left[j].key, left[j].val]) (fun lv H' => K lv (H' ++ [(b, .obj (.map es clock))] ++ F)) :=
   left_obj (lv := .tuple [bool true, .atom left[j].key, .atom left[j].val]) (RelH.left (F := [(b, .obj (.map es clock))]) hH) rfl (by rcases hw1 with rfl | rfl <;> rfl) (by rcases hw1 with rfl | rfl <;> rfl) (by rcases hw1 with rfl | rfl <;> rfl) (by simp [setW, hsz]) (fun c hc => by rw [setW_other hc, hheap]) (setW_self (by omega))
    (fun _ => by simp only [Rep]; exact ⟨[.bool true, left[j].key, left[j].val], rfl, by simp only [RepL, Rep]; exact ⟨_, _, rfl, rfl, _, _, rfl, rfl, _, _, rfl, rfl, rfl⟩⟩) (hstep left[j] (by simp))
  exact Left.frame (F := [(b, .obj (.map es clock))]) (K := fun lv H' => K lv (H' ++ F)) hH hl
/-- What the step handed out, read again. -/
theorem Pure.entry {r b since last clock stamp : Nat} {seen : Array Nat} {es : Array MapEntry} {en : MapEntry} (hx : e.ev x = ptr r 0) (hi : (r, LObj.obj (.mapIter (some b) since seen last)) ∈ H) (hm : (b, LObj.obj (.map es clock)) ∈ H)
  (hl : clock = last) (hb : seen.back? = some stamp) (hf : es.find? (·.born == stamp) = some en) : Pure C ⟨dst, .entry x, ty, pos, aft, g⟩ e H (.tuple [.atom en.key, .atom en.val]) := fun ρ w L h hH => by
 refine ⟨.tuple #[en.key, en.val], by simp only [Rep]; exact ⟨[en.key, en.val], rfl, by simp only [RepL, Rep]; exact ⟨_, _, rfl, rfl, _, _, rfl, rfl, rfl⟩⟩, fun w' ha => ?_⟩
 have h1 : w'.heap[r]? = some (.mapIter (some b) since seen last) := (ha.1 _ hi).trans (hH.objs _ hi).2.2.2.1
 have h2 : w'.heap[b]? = some (.map es clock) := (ha.1 _ hm).trans (hH.objs _ hm).2.2.2.1
 have h3 : execOp ρ ⟨dst, .entry x, ty, pos, aft, g⟩ = (do Pure.pure (.value (← Instr.entry (ρ x)))) := rfl
 have hg1 : (getObj r).run C.P w' = .ok (.mapIter (some b) since seen last) w' := by simp only [getObj, Sem.run, h1]
 have hg2 : (getObj b).run C.P w' = .ok (.map es clock) w' := by simp only [getObj, Sem.run, h2]
 have hne : (clock != last) = false := by rw [hl]; simp
 rw [h3, atom_of h hx]
 simp only [Instr.entry, Sem.run_bind, Result.andThen_ok, hg1, hb, hg2, hne, Bool.false_eq_true, if_false, Sem.run_pure, hf]
/-- A late operation that only computes or reads. -/
theorem LLateOp.pureH {n : Nat} {ops : Array Oper} {Q : Post} {HF : Heap} {fuel : Nat} {listed : Array Bool} {i : Nat} {op : Op} {lv : LV} (hi : ops[i]? = some ⟨dst, op, ty, pos, aft, none⟩) (hd : dstOk n dst)
  (hp : Pure C ⟨dst, op, ty, pos, aft, none⟩ e H lv) (k : LLate C n ops Q HF fuel (listed.setIfInBounds i true) (e.put dst lv) H) : LLateOp C n ops Q HF fuel listed e H i := fun w0 L0 a w L hL hA hsz hE hH => by
 obtain ⟨v, hv, hrun⟩ := hp a.eval w L hE.ev hH
 unfold wpOp
 rw [hi]
 simp only
 rw [if_pos (by simp [Region.wanted])]
 refine .inl ?_
 unfold Oper.wp
 rw [hrun w (Agree.refl _ _ _)]
 exact ⟨hA, k w0 L0 _ w L hL hA hsz (hE.put hd hv) hH⟩
end
end Go.GL
namespace Go.Proofs.YtfodkbchknknjaaGreatDoor
open Go.GL Go.RowKit Go.Stele
set_option maxRecDepth 100000
set_option maxHeartbeats 4000000
attribute [local irreducible] LOps LCode LStep LCalls Go.GL.Pure QThen QBlock RetPost LQ LAny LLate LLateOp
def e45 : MapEntry := { key := .string ⟨#[45]⟩, val := .string ⟨#[110, 101, 103]⟩, born := 0 }
def e33 : MapEntry := { key := .string ⟨#[33]⟩, val := .string ⟨#[110, 111, 116]⟩, born := 1 }
section
variable {B0 : Nat} {w0 : World}
def UnaryC (B0 : Nat) (w0 : World) (sb : Nat) (T : List Tok) (f : Nat) : Prop :=
 ∀ i op r, i ≤ T.length → op ≤ 100 → eUnary T f i op = some r → LCalls (KC B0 w0) 164 [ptr sb 0] [srcH sb T i op] (PostP sb T encE r)
/-- Which entries have come up: none of them is the token at hand. -/
def SeenOk (T : List Tok) (i : Nat) (seen : Array Nat) : Prop :=
 seen = #[] ∨ (seen = #[0] ∧ isTok T i [[45]] = false) ∨ (seen = #[1] ∧ isTok T i [[33]] = false) ∨ ((seen = #[0, 1] ∨ seen = #[1, 0]) ∧ isTok T i [[45]] = false ∧ isTok T i [[33]] = false)
theorem over_seen {T : List Tok} {i : Nat} {seen : Array Nat} (h : SeenOk T i seen) (ho : #[e45, e33].filter (fun e => !seen.contains e.born) = #[]) : isTok T i [[45]] = false ∧ isTok T i [[33]] = false := by
 have h1 := Array.filter_eq_empty_iff.1 ho e45 (by simp)
 have h2 := Array.filter_eq_empty_iff.1 ho e33 (by simp)
 rcases h with rfl | ⟨rfl, _⟩ | ⟨rfl, _⟩ | ⟨_, h3, h4⟩
 ·simp [e45] at h1
 ·simp [e33] at h2
 ·simp [e45] at h1
 ·exact ⟨h3, h4⟩
theorem step_seen {T : List Tok} {i : Nat} {seen : Array Nat} {e : MapEntry} (h : SeenOk T i seen) (he : e ∈ (#[e45, e33].filter (fun e => !seen.contains e.born)).toList) :
  seen.size < 2 ∧ ((e = e45 ∧ (isTok T i [[45]] = false → SeenOk T i (seen.push 0))) ∨ (e = e33 ∧ (isTok T i [[33]] = false → SeenOk T i (seen.push 1)))) := by
 have he' := Array.mem_filter.1 (Array.mem_toList_iff.1 he)
 have hor : e = e45 ∨ e = e33 := by simpa using he'.1
 have hno := he'.2
 rcases h with rfl | ⟨rfl, h1⟩ | ⟨rfl, h1⟩ | ⟨rfl | rfl, _, _⟩
 ·rcases hor with rfl | rfl
  ·exact ⟨by decide, .inl ⟨rfl, fun h => .inr (.inl ⟨rfl, h⟩)⟩⟩
  ·exact ⟨by decide, .inr ⟨rfl, fun h => .inr (.inr (.inl ⟨rfl, h⟩))⟩⟩
 ·rcases hor with rfl | rfl
  ·simp [e45] at hno
  ·exact ⟨by decide, .inr ⟨rfl, fun h => .inr (.inr (.inr ⟨.inl rfl, h1, h⟩))⟩⟩
 ·rcases hor with rfl | rfl
  ·exact ⟨by decide, .inl ⟨rfl, fun h => .inr (.inr (.inr ⟨.inr rfl, h, h1⟩))⟩⟩
  ·simp [e33] at hno
 ·rcases hor with rfl | rfl
  ·simp [e45] at hno
  ·simp [e33] at hno
 ·rcases hor with rfl | rfl
  ·simp [e45] at hno
  ·simp [e33] at hno
theorem isTok_excl {T : List Tok} {i : Nat} (h : isTok T i [[33]] = true) : isTok T i [[45]] = false := by
 unfold isTok at h ⊢
 split at h
 ·rename_i t ht
  simp only [Bool.and_eq_true] at h
  have h2 : t.text = [33] := by simpa using h.2
  rw [h2]
  simp
 ·cases h
theorem unary_spec (hG : GW B0 w0) (sb : Nat) (T : List Tok) (hT : TOK T) : ∀ f : Nat, (∀ g, g < f → ExprC B0 w0 sb T g) → UnaryC B0 w0 sb T f := by
 intro f
 induction f with
 | zero => intro _ i op r _ _ hr; rw [eUnary] at hr; cases hr
 | succ f ih =>
  intro hE i op r hi ho hr
  have hl := hT.len
  rw [eUnary] at hr
  refine LCalls.intro Tryz.func164 rfl (n := 36) rfl rfl rfl ?_
  repeat first | refine LCode.seq ?_ | refine LCode.region ?_
  refine LOps.step (S.alloc fun b => ?_) rfl
  repeat first | refine LOps.nil ?_ | refine LCode.seq ?_ | refine LCode.region ?_ | refine QThen.normal ?_
  refine LOps.step (S.makeMap fun mb => ?_) rfl
  refine LOps.step (S.insert (k := ⟨#[45]⟩) (v := .string ⟨#[110, 101, 103]⟩) (kt := 9) (el := 9) (by kernel_rfl) (by kernel_rfl) rfl rfl rfl Pick.here (by simp) ?_) rfl
  refine LOps.step (S.insert (k := ⟨#[33]⟩) (v := .string ⟨#[110, 111, 116]⟩) (kt := 9) (el := 9) (by kernel_rfl) (by kernel_rfl) rfl rfl rfl Pick.here (fun e he => ⟨⟨#[45]⟩, by simp at he; rw [he], by decide⟩) ?_) rfl
  refine LOps.pure (Pure.mv (lv := .atom _) rfl) rfl ?_
  refine LOps.step (S.range (kt := 9) (el := 9) (by kernel_rfl) rfl (List.Mem.head _) fun rb => ?_) rfl
  repeat first | refine LOps.nil ?_ | refine LCode.block ?_ | refine QThen.normal ?_
  refine LCode.loopI (fun k ls H => ∃ seen : Array Nat, k = 2 - seen.size ∧ ls = [(0, ptr sb 0), (2, ptr b 0), (8, ptr rb 0)] ∧ H = [(rb, .obj (.mapIter (some mb) 2 seen 2)), (mb, .obj (.map #[e45, e33] 2)), (b, .cells 38 [str [], int .u32 0, str [], nilSlice]), srcH sb T i op] ∧ SeenOk T i seen)
   ⟨_, _, _, ⟨#[], rfl, rfl, rfl, .inl rfl⟩, ⟨rfl, rfl, rfl, trivial⟩, HSub.refl _⟩ ?_
  rintro k ls H ⟨seen, rfl, rfl, rfl, hS⟩ j hj
  repeat first | refine LCode.seq ?_ | refine LCode.region ?_
  refine LOps.step (S.next (F := [(b, .cells 38 [str [], int .u32 0, str [], nilSlice]), srcH sb T i op]) rfl (List.Perm.refl _) (by decide) (fun hov => ?_) (fun en hen => ?_)) rfl
  ·obtain ⟨hn1, hn2⟩ := over_seen hS hov
   rw [if_neg (by rw [hn1]; decide), if_neg (by rw [hn2]; decide)] at hr
   repeat first | refine LOps.nil ?_ | refine LCode.seq ?_ | refine QThen.normal ?_ | refine LOps.pure (Pure.extract (c := .atom _) rfl rfl) rfl ?_
   refine LCode.cond rfl (fun hcc => ?_) (fun hcc => ?_)
   ·cases hcc
   ·repeat first | refine LCode.seq ?_ | refine LCode.region ?_ | refine LCode.exit ?_ | refine QThen.normal ?_ | refine QThen.exit ?_ | refine QBlock.hit ?_ | refine LOps.pure (Pure.mv (lv := .atom _) rfl) rfl ?_
    refine LOps.step (S.callP [_] rfl (Pick.there (Pick.there (Pick.there Pick.here))) (prim_spec hG sb T hT f (fun g hg => hE g (by omega)) i op r hi ho hr) (fun v i1 op1 h1 => ?_) (fun l er i1 op1 h1 e' he' => ?_)) rfl
    ·repeat first | refine LOps.nil ?_ | refine LCode.ret ?_ | refine QThen.normal ?_ | refine LOps.step (S.store (cs' := [_, _, _, _]) rfl (Pick.there (Pick.there (Pick.there Pick.here))) rfl rfl rfl rfl rfl ?_) rfl
     exact retP (v := v) hj (AllRes.cons (ResIs.cellAgg rfl (List.Mem.head _) rfl (LV.Sub.refl _)) AllRes.nil) h1 rfl (HSub.pick (Pick.there Pick.here) (HSub.nil _))
    ·repeat first | refine QThen.panic ?_
     exact panP (he'.trans hj) h1 (HSub.pick Pick.here (HSub.nil _))
  ·obtain ⟨hsz, ⟨rfl, hnext⟩ | ⟨rfl, hnext⟩⟩ := step_seen hS hen
   ·repeat first | refine LOps.nil ?_ | refine LCode.seq ?_ | refine QThen.normal ?_ | refine LOps.pure (Pure.extract (c := .atom _) rfl rfl) rfl ?_
    refine LCode.cond rfl (fun hcc => ?_) (fun hcc => ?_)
    ·repeat first | refine LCode.seq ?_ | refine LCode.region ?_ | refine LCode.skip ?_ | refine LCode.block ?_ | refine QThen.normal ?_
     refine LOps.pure (Pure.entry (en := e45) (stamp := 0) rfl (List.Mem.head _) (List.Mem.tail _ (List.Mem.head _)) rfl (by show (seen.push 0).back? = _; simp) rfl) rfl ?_
     repeat first | refine LOps.nil ?_ | refine LCode.seq ?_ | refine LCode.region ?_ | refine QThen.normal ?_ | refine LOps.pure (Pure.mv (lv := .atom _) rfl) rfl ?_ | refine LOps.pure (Pure.extract (c := .atom _) rfl rfl) rfl ?_ | refine LOps.pure (Pure.as (lv := .atom _) rfl) rfl ?_
     refine LOps.step (S.lit [_] rfl (elemsOk.cons rfl rfl elemsOk.nil) rfl rfl rfl ?_) rfl
     refine LOps.step (S.fnH [_, _] rfl (Pick.there (Pick.there (Pick.there Pick.here))) (is_spec sb T i op [[45]] hl (by omega) (by simp)) ?_) rfl
     repeat first | refine LOps.nil ?_ | refine QThen.normal ?_
     refine LCode.cond rfl (fun hc => ?_) (fun hc => ?_)
     ·rw [if_pos hc] at hr
      repeat first | refine LCode.seq ?_ | refine LCode.region ?_ | refine LOps.pure (Pure.mv (lv := .atom _) rfl) rfl ?_
      refine LOps.step (S.callP [_, _] rfl Pick.here (begin_spec sb T i op [45] hl (by omega) (by omega)) (fun v i1 op1 h1 => ?_) (fun l er i1 op1 h1 e' he' => ?_)) rfl
      ·rw [h1, obind_ok] at hr
       obtain ⟨rfl, rfl, ho1, hi1⟩ := sBegin_ok h1
       repeat first | refine LOps.nil ?_ | refine LCode.seq ?_ | refine LCode.region ?_ | refine QThen.normal ?_ | refine LOps.pure (Pure.mv (lv := .atom _) rfl) rfl ?_
       obtain ⟨r1, hr1⟩ := obind_is hr
       refine LOps.step (S.callP [_] rfl Pick.here (ih (fun g hg => hE g (by omega)) _ _ r1 (by omega) (by omega) hr1) (fun e2 i2 op2 h2 => ?_) (fun l er i2 op2 h2 e' he' => ?_)) rfl
       ·rw [hr1, h2, obind_ok] at hr
        obtain ⟨g1, _, g3, rfl⟩ := (ex_good T f).2.2.1 _ _ _ (hr1.trans (congrArg some h2))
        have g4 := g3 (by omega)
        refine LOps.step (S.lit [_] rfl (elemsOk.cons rfl rfl elemsOk.nil) rfl rfl rfl ?_) rfl
        repeat first | refine LOps.pure (Pure.bld _ (cs := [_, _, _, _]) rfl) rfl ?_
        refine LOps.step (S.alloc fun b2 => ?_) rfl
        repeat first | refine LOps.nil ?_ | refine LCode.seq ?_ | refine LCode.region ?_ | refine LCode.ret ?_ | refine QThen.normal ?_ | refine QThen.ret ?_ | refine QBlock.ret ?_ | refine LOps.pure (Pure.mv (lv := .atom _) rfl) rfl ?_ | refine LOps.pure (Pure.nilCheckH rfl) rfl ?_ | refine LOps.pure (Pure.fieldH rfl) rfl ?_ | refine LOps.pure (Pure.loadH (c := .atom _) rfl (List.Mem.tail _ (List.Mem.head _)) rfl) rfl ?_ | refine LOps.pure (Pure.sub rfl rfl (by omega)) rfl ?_ | refine LOps.pure (Pure.ldHAgg (cs' := [_, _, _, _]) rfl (List.Mem.tail _ (List.Mem.head _)) rfl rfl) rfl ?_ | refine LOps.step (S.store (cs' := [_, _, _, _]) rfl Pick.here rfl rfl rfl rfl rfl ?_) rfl | refine LOps.step (S.store (cs' := [_, _, _, _]) rfl (Pick.there (Pick.there (Pick.there (Pick.there Pick.here)))) rfl rfl rfl rfl rfl ?_) rfl | refine LOps.step (S.store (cs' := [_, _, _]) rfl (Pick.there Pick.here) rfl rfl rfl rfl rfl ?_) rfl
        exact retP (v := .mk nNeg 0 [] [e2]) hj (AllRes.cons (ResIs.cellAgg rfl (List.Mem.head _) rfl (LV.Sub.refl _)) AllRes.nil) (by cases hr; rfl) (by rw [encE_mk]; rfl) (by
         rw [show (((op + 1 : Nat) : Int) - 1) = ((op + 1 - 1 : Nat) : Int) by omega]
         exact HSub.pick (Pick.there Pick.here) (HSub.nil _))
       ·rw [hr1, h2, obind_err] at hr
        repeat first | refine QThen.panic ?_ | refine QBlock.panic ?_
        exact panP (he'.trans hj) (by cases hr; rfl) (HSub.pick Pick.here (HSub.nil _))
      ·rw [h1, obind_err] at hr
       repeat first | refine QThen.panic ?_ | refine QBlock.panic ?_
       exact panP (he'.trans hj) (by cases hr; rfl) (HSub.pick Pick.here (HSub.nil _))
     ·repeat first | refine LCode.skip ?_ | refine QThen.normal ?_ | refine QBlock.normal ?_
      exact ⟨_, _, _, by have := hsz; simp; omega, ⟨seen.push 0, rfl, rfl, rfl, hnext hc⟩, ⟨rfl, rfl, rfl, trivial⟩, HSub.pick (Pick.there Pick.here) (HSub.pick (Pick.there Pick.here) (HSub.pick (Pick.there Pick.here) (HSub.pick Pick.here (HSub.nil _)))), hj⟩
    ·cases hcc
   ·repeat first | refine LOps.nil ?_ | refine LCode.seq ?_ | refine QThen.normal ?_ | refine LOps.pure (Pure.extract (c := .atom _) rfl rfl) rfl ?_
    refine LCode.cond rfl (fun hcc => ?_) (fun hcc => ?_)
    ·repeat first | refine LCode.seq ?_ | refine LCode.region ?_ | refine LCode.skip ?_ | refine LCode.block ?_ | refine QThen.normal ?_
     refine LOps.pure (Pure.entry (en := e33) (stamp := 1) rfl (List.Mem.head _) (List.Mem.tail _ (List.Mem.head _)) rfl (by show (seen.push 1).back? = _; simp) rfl) rfl ?_
     repeat first | refine LOps.nil ?_ | refine LCode.seq ?_ | refine LCode.region ?_ | refine QThen.normal ?_ | refine LOps.pure (Pure.mv (lv := .atom _) rfl) rfl ?_ | refine LOps.pure (Pure.extract (c := .atom _) rfl rfl) rfl ?_ | refine LOps.pure (Pure.as (lv := .atom _) rfl) rfl ?_
     refine LOps.step (S.lit [_] rfl (elemsOk.cons rfl rfl elemsOk.nil) rfl rfl rfl ?_) rfl
     refine LOps.step (S.fnH [_, _] rfl (Pick.there (Pick.there (Pick.there Pick.here))) (is_spec sb T i op [[33]] hl (by omega) (by simp)) ?_) rfl
     repeat first | refine LOps.nil ?_ | refine QThen.normal ?_
     refine LCode.cond rfl (fun hc => ?_) (fun hc => ?_)
     ·rw [if_neg (by rw [isTok_excl hc]; decide), if_pos hc] at hr
      repeat first | refine LCode.seq ?_ | refine LCode.region ?_ | refine LOps.pure (Pure.mv (lv := .atom _) rfl) rfl ?_
      refine LOps.step (S.callP [_, _] rfl Pick.here (begin_spec sb T i op [33] hl (by omega) (by omega)) (fun v i1 op1 h1 => ?_) (fun l er i1 op1 h1 e' he' => ?_)) rfl
      ·rw [h1, obind_ok] at hr
       obtain ⟨rfl, rfl, ho1, hi1⟩ := sBegin_ok h1
       repeat first | refine LOps.nil ?_ | refine LCode.seq ?_ | refine LCode.region ?_ | refine QThen.normal ?_ | refine LOps.pure (Pure.mv (lv := .atom _) rfl) rfl ?_
       obtain ⟨r1, hr1⟩ := obind_is hr
       refine LOps.step (S.callP [_] rfl Pick.here (ih (fun g hg => hE g (by omega)) _ _ r1 (by omega) (by omega) hr1) (fun e2 i2 op2 h2 => ?_) (fun l er i2 op2 h2 e' he' => ?_)) rfl
       ·rw [hr1, h2, obind_ok] at hr
        obtain ⟨g1, _, g3, rfl⟩ := (ex_good T f).2.2.1 _ _ _ (hr1.trans (congrArg some h2))
        have g4 := g3 (by omega)
        refine LOps.step (S.lit [_] rfl (elemsOk.cons rfl rfl elemsOk.nil) rfl rfl rfl ?_) rfl
        repeat first | refine LOps.pure (Pure.bld _ (cs := [_, _, _, _]) rfl) rfl ?_
        refine LOps.step (S.alloc fun b2 => ?_) rfl
        repeat first | refine LOps.nil ?_ | refine LCode.seq ?_ | refine LCode.region ?_ | refine LCode.ret ?_ | refine QThen.normal ?_ | refine QThen.ret ?_ | refine QBlock.ret ?_ | refine LOps.pure (Pure.mv (lv := .atom _) rfl) rfl ?_ | refine LOps.pure (Pure.nilCheckH rfl) rfl ?_ | refine LOps.pure (Pure.fieldH rfl) rfl ?_ | refine LOps.pure (Pure.loadH (c := .atom _) rfl (List.Mem.tail _ (List.Mem.head _)) rfl) rfl ?_ | refine LOps.pure (Pure.sub rfl rfl (by omega)) rfl ?_ | refine LOps.pure (Pure.ldHAgg (cs' := [_, _, _, _]) rfl (List.Mem.tail _ (List.Mem.head _)) rfl rfl) rfl ?_ | refine LOps.step (S.store (cs' := [_, _, _, _]) rfl Pick.here rfl rfl rfl rfl rfl ?_) rfl | refine LOps.step (S.store (cs' := [_, _, _, _]) rfl (Pick.there (Pick.there (Pick.there (Pick.there Pick.here)))) rfl rfl rfl rfl rfl ?_) rfl | refine LOps.step (S.store (cs' := [_, _, _]) rfl (Pick.there Pick.here) rfl rfl rfl rfl rfl ?_) rfl
        exact retP (v := .mk nNot 0 [] [e2]) hj (AllRes.cons (ResIs.cellAgg rfl (List.Mem.head _) rfl (LV.Sub.refl _)) AllRes.nil) (by cases hr; rfl) (by rw [encE_mk]; rfl) (by
         rw [show (((op + 1 : Nat) : Int) - 1) = ((op + 1 - 1 : Nat) : Int) by omega]
         exact HSub.pick (Pick.there Pick.here) (HSub.nil _))
       ·rw [hr1, h2, obind_err] at hr
        repeat first | refine QThen.panic ?_ | refine QBlock.panic ?_
        exact panP (he'.trans hj) (by cases hr; rfl) (HSub.pick Pick.here (HSub.nil _))
      ·rw [h1, obind_err] at hr
       repeat first | refine QThen.panic ?_ | refine QBlock.panic ?_
       exact panP (he'.trans hj) (by cases hr; rfl) (HSub.pick Pick.here (HSub.nil _))
     ·repeat first | refine LCode.skip ?_ | refine QThen.normal ?_ | refine QBlock.normal ?_
      exact ⟨_, _, _, by have := hsz; simp; omega, ⟨seen.push 1, rfl, rfl, rfl, hnext hc⟩, ⟨rfl, rfl, rfl, trivial⟩, HSub.pick (Pick.there Pick.here) (HSub.pick (Pick.there Pick.here) (HSub.pick (Pick.there Pick.here) (HSub.pick Pick.here (HSub.nil _)))), hj⟩
    ·cases hcc
end
end Go.Proofs.YtfodkbchknknjaaGreatDoor
namespace Go.Proofs.YtfodkbchknknjaaGreatDoor
open Go.GL Go.RowKit Go.Stele
set_option maxRecDepth 100000
set_option maxHeartbeats 4000000
/-- The function value of a level, and the boxes that it holds. -/
inductive Clo (sb : Nat) : Nat → FuncId → Array Value → Array Value → Heap → Prop
 | un : Clo sb 6 164 #[.pointer (some ⟨sb, 0, none⟩)] #[] []
 | bin {k bo bs bp bn : Nat} {f : FuncId} {first caps : Array Value} {H : Heap} (h : Clo sb (k + 1) f first caps H) : Clo sb k 176 #[] #[.pointer (some ⟨bo, 0, none⟩), .pointer (some ⟨bs, 0, none⟩), .pointer (some ⟨bp, 0, none⟩), .pointer (some ⟨bn, 0, none⟩)]
   ((bo, .cells 148 [.atom (.func (.func f) first caps)]) :: (bs, .cells 59 [ptr sb 0]) :: (bp, .cells 23 [.list ((lvOps k).map str)]) :: (bn, .cells 4 [bool (decide ((k : Int) = 2))]) :: H)
def PostH {A : Type} (sb : Nat) (T : List Tok) (enc : A → LV) (Hc : Heap) (res : Res A) (r : LRes) (H : Heap) : Prop := match res with
 | .ok v i op => r = .ret (enc v) ∧ H = srcH sb T i op :: Hc
 | .err l e => r = .panic (pan l e) ∧ ∃ i op : Nat, H = srcH sb T i op :: Hc
def CloC (B0 : Nat) (w0 : World) (sb : Nat) (T : List Tok) (f : Nat) : Prop :=
 ∀ k fn first caps Hc i op r, Clo sb k fn first caps Hc → i ≤ T.length → op ≤ 100 → eLev T f k i op = some r →
  LCalls (KC B0 w0) fn (first.toList.map .atom ++ caps.toList.map .atom) (srcH sb T i op :: Hc) (PostH sb T encE Hc r)
section steps
variable {C : Ctx} {e : Env} {H : Heap} {dst : Option Nat} {ty : TypeId} {pos : String} {aft : Array Edge} {g : Option (Nat × Bool)} {K : LV → Heap → Prop} {X : List PanicEntry → Heap → Prop}
theorem av_nil (a b : List LV) {e : Env} : a ++ ([] : List Operand).map e.ev ++ b = a ++ b := by simp
theorem S.callClo {A : Type} {enc : A → LV} {res : Res A} {sb i op : Nat} {T : List Tok} {fo : Operand} {f : FuncId} [TEnter C.P f] {first caps : Array Value} {ats : Array TypeId} {Hc F : Heap} (hf : e.ev fo = .atom (.func (.func f) first caps)) (hp : Pick (srcH sb T i op) H (F ++ Hc))
  (hc : LCalls C f (first.toList.map .atom ++ caps.toList.map .atom) (srcH sb T i op :: Hc) (PostH sb T enc Hc res)) (hk : ∀ v i' op', res = .ok v i' op' → K (enc v) (srcH sb T i' op' :: (F ++ Hc))) (hx : ∀ l er i' op', res = .err l er → X (pan l er) (srcH sb T i' op' :: Hc ++ F)) :
  LStep C ⟨dst, .call { callee := .value fo, args := #[], argTypes := ats }, ty, pos, aft, g⟩ e H K X := by
 have hp' : H.Perm ((srcH sb T i op :: Hc) ++ F) := hp.trans (List.Perm.cons _ List.perm_append_comm)
 refine LStep.conseq (K := fun v H' => ∃ u i' op', res = .ok u i' op' ∧ v = enc u ∧ H' = srcH sb T i' op' :: Hc ++ F) (S.callV (H1 := srcH sb T i op :: Hc) (F := F) [] hf (av_nil _ _) hp' hc ?_ ?_) ?_
 ·intro v H' h
  cases hr : res with
  | ok u i' op' => rw [hr] at h; obtain ⟨h1, rfl⟩ := h; cases h1; exact ⟨u, i', op', rfl, rfl, rfl⟩
  | err l er => rw [hr] at h; obtain ⟨h1, _⟩ := h; cases h1
 ·intro ch H' h
  cases hr : res with
  | ok u i' op' => rw [hr] at h; obtain ⟨h1, _⟩ := h; cases h1
  | err l er => rw [hr] at h; obtain ⟨h1, i', op', rfl⟩ := h; cases h1; exact hx _ _ _ _ hr
 ·rintro v H' ⟨u, i', op', h1, rfl, rfl⟩
  exact ⟨_, _, LV.Sub.refl _, ⟨[], by simpa using List.perm_append_comm⟩, hk u i' op' h1⟩
end steps
theorem Clo.enter {sb k : Nat} {f : FuncId} {first caps : Array Value} {H : Heap} (h : Clo sb k f first caps H) : TEnter Tryz.prog f := by
 cases h <;> infer_instance
theorem Clo.le {sb k : Nat} {f : FuncId} {first caps : Array Value} {H : Heap} (h : Clo sb k f first caps H) : k ≤ 6 := by
 induction h with
 | un => exact Nat.le_refl _
 | bin _ ih => omega
attribute [local irreducible] LOps LCode LStep LCalls Go.GL.Pure QThen QBlock RetPost LQ LAny LLate LLateOp
theorem hsub_clo {s : Nat × LObj} {A B Hc : Heap} : HSub (s :: (B ++ Hc)) ((s :: Hc ++ []) ++ (A ++ B)) := by
 refine ⟨A, ?_⟩
 have h1 : (Hc ++ (A ++ B)).Perm ((B ++ Hc) ++ A) := List.perm_append_comm.trans (by rw [List.append_assoc]; exact List.perm_append_comm)
 simpa using List.Perm.cons s h1
theorem hsub_clo2 {s u : Nat × LObj} {A Hc : Heap} : HSub (u :: s :: (A ++ Hc)) (u :: ((s :: ([] ++ Hc)) ++ A)) := by
 refine ⟨[], ?_⟩
 have h1 : (Hc ++ A).Perm (A ++ Hc) := List.perm_append_comm
 simpa using List.Perm.cons u (List.Perm.cons s h1)
theorem HSub.appR {H' l1 l2 : Heap} (h : HSub H' l2) : HSub H' (l1 ++ l2) := by
 obtain ⟨G, hG⟩ := h
 refine ⟨G ++ l1, ?_⟩
 have h1 : (l1 ++ l2).Perm (l2 ++ l1) := List.perm_append_comm
 have h2 : (l2 ++ l1).Perm ((H' ++ G) ++ l1) := hG.append_right l1
 simpa using h1.trans h2
theorem perm_mid {a : Nat × LObj} {l1 l2 : Heap} : ([] ++ (l1 ++ a :: l2)).Perm ([a] ++ (l1 ++ l2)) := by
 exact (List.nil_append _).symm ▸ List.perm_middle
theorem lvOps_le (k : Nat) : (lvOps k).length ≤ 1000 := by
 unfold lvOps
 split <;> simp
theorem textAt_eq {T : List Tok} {i : Nat} (h : i < T.length) : textAt T i = T[i].text := by rw [textAt, List.getElem?_eq_getElem h]
section
variable {B0 : Nat} {w0 : World}
theorem bin_spec (hG : GW B0 w0) (sb : Nat) (T : List Tok) (hT : TOK T) (f : Nat) (hC : ∀ g, g < f → CloC B0 w0 sb T g) (k bo bs bp bn : Nat) (fn : FuncId) (first caps : Array Value) (Hc : Heap) (hclo : Clo sb (k + 1) fn first caps Hc) (i op : Nat) (r : Res Ex)
  (hi : i ≤ T.length) (ho : op ≤ 100) (hr : eLev T f k i op = some r) :
  LCalls (KC B0 w0) 176 [ptr bo 0, ptr bs 0, ptr bp 0, ptr bn 0] (srcH sb T i op :: (bo, .cells 148 [.atom (.func (.func fn) first caps)]) :: (bs, .cells 59 [ptr sb 0]) :: (bp, .cells 23 [.list ((lvOps k).map str)]) :: (bn, .cells 4 [bool (decide ((k : Int) = 2))]) :: Hc)
   (PostH sb T encE ((bo, .cells 148 [.atom (.func (.func fn) first caps)]) :: (bs, .cells 59 [ptr sb 0]) :: (bp, .cells 23 [.list ((lvOps k).map str)]) :: (bn, .cells 4 [bool (decide ((k : Int) = 2))]) :: Hc) r) := by
 have hl := hT.len
 have hk6 := hclo.le
 have hen := hclo.enter
 obtain ⟨f, rfl⟩ : ∃ g, f = g + 1 := by
  cases f with
  | zero => rw [eLev] at hr; cases hr
  | succ g => exact ⟨g, rfl⟩
 rw [eLev, if_neg (by omega)] at hr
 obtain ⟨r1, hr1⟩ := obind_is hr
 refine LCalls.intro Tryz.func176 rfl (n := 38) rfl rfl rfl ?_
 repeat first | refine LCode.seq ?_ | refine LCode.region ?_
 refine LOps.step (S.alloc fun b => ?_) rfl
 repeat first | refine LOps.nil ?_ | refine LCode.seq ?_ | refine LCode.region ?_ | refine QThen.normal ?_ | refine LOps.pure (Pure.loadH (c := .atom _) rfl (List.Mem.tail _ (List.Mem.tail _ (List.Mem.head _))) rfl) rfl ?_
 refine LOps.step (S.callClo (F := [(b, _), (bo, _), (bs, _), (bp, _), (bn, _)]) (Hc := Hc) rfl (Pick.there Pick.here) (hC f (by omega) _ _ _ _ _ _ _ r1 hclo hi ho hr1) (fun v i1 op1 h1 => ?_) (fun l er i1 op1 h1 e' he' => ?_)) rfl
 ·rw [hr1, h1, obind_ok] at hr
  obtain ⟨g1, _, g3, rfl⟩ := (ex_good T f).1 _ _ _ _ (hr1.trans (congrArg some h1))
  have g4 := g3 hi
  refine LOps.step (S.alloc fun b5 => ?_) rfl
  repeat first | refine LOps.nil ?_ | refine LCode.seq ?_ | refine LCode.block ?_ | refine QThen.normal ?_ | refine LOps.step (S.store (cs' := [_, _, _, _]) rfl Pick.here rfl rfl rfl rfl rfl ?_) rfl
  refine LCode.loopI (fun q ls H => ∃ (ex : Ex) (i2 : Nat), q ≤ f ∧ ls = [(0, ptr bo 0), (1, ptr bs 0), (2, ptr bp 0), (3, ptr bn 0), (4, ptr b 0), (5, ptr b5 0)] ∧
    H = (b5, .cells 38 [str (exOp ex), int .u32 (exNum ex), str (exName ex), .list (encArgs ex)]) :: srcH sb T i2 op1 :: (b, .cells 38 [str [], int .u32 0, str [], nilSlice]) :: ([(bo, .cells 148 [.atom (.func (.func fn) first caps)]), (bs, .cells 59 [ptr sb 0]), (bp, .cells 23 [.list ((lvOps k).map str)]), (bn, .cells 4 [bool (decide ((k : Int) = 2))])] ++ Hc) ∧ i2 ≤ T.length ∧ eLoop T q k ex i2 op1 = some r)
   ⟨f, _, _, ⟨v, i1, Nat.le_refl _, rfl, rfl, g4, hr⟩, ⟨rfl, rfl, rfl, rfl, rfl, rfl, trivial⟩, HSub.refl _⟩ ?_
  rintro q ls H ⟨ex, i2, hqf, rfl, rfl, hi2, hI⟩ j hj
  obtain ⟨q, rfl⟩ : ∃ q', q = q' + 1 := by
   cases q with
   | zero => rw [eLoop] at hI; cases hI
   | succ q => exact ⟨q, rfl⟩
  rw [eLoop] at hI
  repeat first | refine LCode.seq ?_ | refine LCode.region ?_ | refine LOps.pure (Pure.loadH (c := .atom _) rfl (List.Mem.tail _ (List.Mem.tail _ (List.Mem.tail _ (List.Mem.tail _ (List.Mem.head _))))) rfl) rfl ?_ | refine LOps.pure (Pure.loadH (c := .list _) rfl (List.Mem.tail _ (List.Mem.tail _ (List.Mem.tail _ (List.Mem.tail _ (List.Mem.tail _ (List.Mem.head _)))))) rfl) rfl ?_
  refine LOps.step (S.fnH [_, _] rfl (Pick.there Pick.here) (is_spec sb T i2 op1 (lvOps k) hl (by omega) (lvOps_le k)) ?_) rfl
  repeat first | refine LOps.nil ?_ | refine QThen.normal ?_
  refine LCode.cond rfl (fun hc => ?_) (fun hc => ?_)
  ·have hlt := isTok_lt hc
   rw [if_pos hc] at hI
   repeat first | refine LCode.seq ?_ | refine LCode.skip ?_ | refine LCode.block ?_ | refine QThen.normal ?_
   refine LCode.cut [(0, ptr bo 0), (1, ptr bs 0), (2, ptr bp 0), (3, ptr bn 0), (4, ptr b 0), (5, ptr b5 0), (6, str (textAt T i2))] ?_ (fun j2 hj2 => ?_)
   ·refine LCode.quiet (by kernel_rfl) ?_
    repeat first | refine LQ.pure (Pure.loadH (c := .atom _) rfl (List.Mem.head _) rfl) rfl ?_ | refine LQ.pure (Pure.loadH (c := .atom _) rfl (List.Mem.tail _ (List.Mem.tail _ (List.Mem.tail _ (List.Mem.tail _ (List.Mem.head _))))) rfl) rfl ?_ | refine LQ.pure (Pure.loadH (c := .list _) rfl (List.Mem.head _) rfl) rfl ?_ | refine LQ.pure (Pure.nilCheckH rfl) rfl ?_ | refine LQ.pure (Pure.fieldH rfl) rfl ?_
    refine LQ.pure (Pure.ixRef (el' := encTok T[i2]) (cs := [_, _, _]) rfl rfl (by omega) (map_get _ _ _ hlt) rfl rfl) rfl ?_
    repeat first | refine LQ.pure (Pure.loadRef (c := .atom _) rfl rfl) rfl ?_ | refine LQ.pure (Pure.field1 rfl rfl) rfl ?_ | refine LQ.pure (Pure.as (lv := .atom _) rfl) rfl ?_ | refine LQ.nil ?_ | refine QThen.normal ?_
    exact ⟨⟨rfl, rfl, rfl, rfl, rfl, rfl, str_eq (textAt_eq hlt).symm, trivial⟩, rfl, rfl⟩
   ·obtain ⟨r2, hr2⟩ := obind_is hI
    repeat first | refine LOps.nil ?_ | refine LCode.seq ?_ | refine LCode.region ?_ | refine QThen.normal ?_ | refine LOps.pure (Pure.loadH (c := .atom _) rfl (List.Mem.head _) rfl) rfl ?_ | refine LOps.pure (Pure.loadH (c := .atom _) rfl (List.Mem.tail _ (List.Mem.tail _ (List.Mem.tail _ (List.Mem.tail _ (List.Mem.head _))))) rfl) rfl ?_ | refine LOps.pure (Pure.nilCheckH rfl) rfl ?_ | refine LOps.pure (Pure.fieldH rfl) rfl ?_ | refine LOps.pure (Pure.add rfl rfl (by omega)) rfl ?_ | refine LOps.step (S.store (cs' := [_, _, _]) rfl Pick.here rfl rfl rfl rfl rfl ?_) rfl
    refine LCode.draw (m := 7) rfl [(bo, .cells 148 [.atom (.func (.func fn) first caps)])] ?_
    have hHF : HSub [(bo, .cells 148 [.atom (.func (.func fn) first caps)])] (srcH sb T (i2 + 1) op1 :: (b5, .cells 38 [str (exOp ex), int .u32 (exNum ex), str (exName ex), .list (encArgs ex)]) :: (b, .cells 38 [str [], int .u32 0, str [], nilSlice]) :: (bo, .cells 148 [.atom (.func (.func fn) first caps)]) :: [(bs, .cells 59 [ptr sb 0]), (bp, .cells 23 [.list ((lvOps k).map str)]), (bn, .cells 4 [bool (decide ((k : Int) = 2))])] ++ Hc) := HSub.pick (Pick.there (Pick.there (Pick.there Pick.here))) (HSub.nil _)
    refine LAny.take (i := 0) hHF rfl (by kernel_rfl) (by kernel_rfl) (by kernel_rfl) rfl (Pure.mv (lv := .atom _) rfl) ?_
    refine LAny.take (i := 2) hHF rfl (by kernel_rfl) (by kernel_rfl) (by kernel_rfl) rfl (Pure.loadH (c := .atom _) rfl (List.Mem.head _) rfl) ?_
    refine LAny.late ?_ hHF
    refine LLate.two (i := 1) (j := 3) (by kernel_rfl) ?_ ?_
    ·have hperm : (srcH sb T (i2 + 1) op1 :: (b5, LObj.cells 38 [str (exOp ex), int .u32 (exNum ex), str (exName ex), .list (encArgs ex)]) :: (b, LObj.cells 38 [str [], int .u32 0, str [], nilSlice]) :: ([(bo, LObj.cells 148 [.atom (.func (.func fn) first caps)]), (bs, LObj.cells 59 [ptr sb 0]), (bp, LObj.cells 23 [.list ((lvOps k).map str)]), (bn, LObj.cells 4 [bool (decide ((k : Int) = 2))])] ++ Hc)).Perm ((srcH sb T (i2 + 1) op1 :: Hc) ++ [(b5, LObj.cells 38 [str (exOp ex), int .u32 (exNum ex), str (exName ex), .list (encArgs ex)]), (b, LObj.cells 38 [str [], int .u32 0, str [], nilSlice]), (bo, LObj.cells 148 [.atom (.func (.func fn) first caps)]), (bs, LObj.cells 59 [ptr sb 0]), (bp, LObj.cells 23 [.list ((lvOps k).map str)]), (bn, LObj.cells 4 [bool (decide ((k : Int) = 2))])]) := List.Perm.cons _ (show ([(b5, LObj.cells 38 [str (exOp ex), int .u32 (exNum ex), str (exName ex), .list (encArgs ex)]), (b, LObj.cells 38 [str [], int .u32 0, str [], nilSlice]), (bo, LObj.cells 148 [.atom (.func (.func fn) first caps)]), (bs, LObj.cells 59 [ptr sb 0]), (bp, LObj.cells 23 [.list ((lvOps k).map str)]), (bn, LObj.cells 4 [bool (decide ((k : Int) = 2))])] ++ Hc).Perm (Hc ++ [(b5, LObj.cells 38 [str (exOp ex), int .u32 (exNum ex), str (exName ex), .list (encArgs ex)]), (b, LObj.cells 38 [str [], int .u32 0, str [], nilSlice]), (bo, LObj.cells 148 [.atom (.func (.func fn) first caps)]), (bs, LObj.cells 59 [ptr sb 0]), (bp, LObj.cells 23 [.list ((lvOps k).map str)]), (bn, LObj.cells 4 [bool (decide ((k : Int) = 2))])]) from List.perm_append_comm)
     refine LLateOp.pureH rfl rfl (Pure.ldHAgg (cs' := [_, _, _, _]) rfl (List.Mem.tail _ (List.Mem.head _)) rfl rfl) ?_
     refine LLate.o 3 (LLateOp.step (H1 := srcH sb T (i2 + 1) op1 :: Hc) (F := [(b5, LObj.cells 38 [str (exOp ex), int .u32 (exNum ex), str (exName ex), .list (encArgs ex)]), (b, LObj.cells 38 [str [], int .u32 0, str [], nilSlice]), (bo, LObj.cells 148 [.atom (.func (.func fn) first caps)]), (bs, LObj.cells 59 [ptr sb 0]), (bp, LObj.cells 23 [.list ((lvOps k).map str)]), (bn, LObj.cells 4 [bool (decide ((k : Int) = 2))])]) rfl (.inl rfl) rfl (hperm) (HSub.pick (Pick.there (Pick.there Pick.here)) (HSub.nil _)) (S.callClo (F := []) (Hc := Hc) rfl Pick.here (hC q (by omega) _ _ _ _ _ _ _ r2 hclo (by omega) ho hr2) (fun e2 i3 op3 h3 => ?_) (fun l er i3 op3 h3 e' he' => ?_)))
     ·rw [hr2, h3, obind_ok] at hI
      obtain ⟨q1, q2, q3, rfl⟩ := (ex_good T q).1 _ _ _ _ (hr2.trans (congrArg some h3))
      have q4 := q3 (by omega)
      refine LLate.o 4 (LLateOp.step (H1 := []) (F := (srcH sb T i3 op3 :: ([] ++ Hc)) ++ [(b5, LObj.cells 38 [str (exOp ex), int .u32 (exNum ex), str (exName ex), .list (encArgs ex)]), (b, LObj.cells 38 [str [], int .u32 0, str [], nilSlice]), (bo, LObj.cells 148 [.atom (.func (.func fn) first caps)]), (bs, LObj.cells 59 [ptr sb 0]), (bp, LObj.cells 23 [.list ((lvOps k).map str)]), (bn, LObj.cells 4 [bool (decide ((k : Int) = 2))])]) rfl (.inl rfl) rfl (List.Perm.refl _) (HSub.appR (HSub.pick (Pick.there (Pick.there Pick.here)) (HSub.nil _))) (S.lit (es := [encE ex, encE e2]) [_, _] rfl (elemsOk.cons rfl rfl (elemsOk.cons rfl rfl elemsOk.nil)) rfl rfl rfl ?_))
      refine LLate.o 5 (LLateOp.pureH rfl rfl (Pure.bld _ (cs := [_, _, _, _]) rfl) ?_)
      refine LLate.o 6 (LLateOp.step (H1 := [(b5, LObj.cells 38 [str (exOp ex), int .u32 (exNum ex), str (exName ex), .list (encArgs ex)])]) (F := (srcH sb T i3 op3 :: ([] ++ Hc)) ++ [(b, LObj.cells 38 [str [], int .u32 0, str [], nilSlice]), (bo, LObj.cells 148 [.atom (.func (.func fn) first caps)]), (bs, LObj.cells 59 [ptr sb 0]), (bp, LObj.cells 23 [.list ((lvOps k).map str)]), (bn, LObj.cells 4 [bool (decide ((k : Int) = 2))])]) rfl (.inl rfl) rfl perm_mid (HSub.appR (HSub.pick (Pick.there Pick.here) (HSub.nil _))) (S.store (cs' := [_, _, _, _]) rfl Pick.here rfl rfl rfl rfl rfl ?_))
      refine LLate.done (by kernel_rfl) ?_
      refine QThen.normal ?_
      refine LCode.weak (H' := (b5, LObj.cells 38 [str (textAt T i2), int .u32 0, str [], .list [encE ex, encE e2]]) :: srcH sb T i3 op3 :: (b, LObj.cells 38 [str [], int .u32 0, str [], nilSlice]) :: ([(bo, LObj.cells 148 [.atom (.func (.func fn) first caps)]), (bs, LObj.cells 59 [ptr sb 0]), (bp, LObj.cells 23 [.list ((lvOps k).map str)]), (bn, LObj.cells 4 [bool (decide ((k : Int) = 2))])] ++ Hc)) (hsub_clo2 (A := [(b, LObj.cells 38 [str [], int .u32 0, str [], nilSlice]), (bo, LObj.cells 148 [.atom (.func (.func fn) first caps)]), (bs, LObj.cells 59 [ptr sb 0]), (bp, LObj.cells 23 [.list ((lvOps k).map str)]), (bn, LObj.cells 4 [bool (decide ((k : Int) = 2))])])) ?_
      repeat first | refine LOps.nil ?_ | refine LCode.seq ?_ | refine LCode.region ?_ | refine QThen.normal ?_ | refine LOps.pure (Pure.loadH (c := .atom _) rfl (List.Mem.tail _ (List.Mem.tail _ (List.Mem.tail _ (List.Mem.tail _ (List.Mem.tail _ (List.Mem.tail _ (List.Mem.head _))))))) rfl) rfl ?_
      refine LCode.cond rfl (fun hk2 => ?_) (fun hk2 => ?_)
      ·have hk : k = 2 := by have := of_decide_eq_true hk2; omega
       rw [if_pos hk] at hI
       repeat first | refine LOps.nil ?_ | refine LCode.seq ?_ | refine LCode.region ?_ | refine LCode.ret ?_ | refine LCode.exit ?_ | refine QThen.normal ?_ | refine QThen.exit ?_ | refine QBlock.hit ?_ | refine QBlock.miss (by decide) ?_ | refine LOps.pure (Pure.ldHAgg (cs' := [_, _, _, _]) rfl (List.Mem.head _) rfl rfl) rfl ?_ | refine LOps.step (S.store (cs' := [_, _, _, _]) rfl (Pick.there (Pick.there Pick.here)) rfl rfl rfl rfl rfl ?_) rfl
       exact RetPost.ret (hj2.trans hj) (AllRes.cons (ResIs.cellAgg rfl (List.Mem.head _) rfl (LV.Sub.refl _)) AllRes.nil) (HSub.drop (HSub.drop (HSub.refl _))) (by cases hI; exact ⟨by rw [encE_mk]; rfl, rfl⟩)
      ·have hk : ¬ k = 2 := by have := of_decide_eq_false hk2; omega
       rw [if_neg hk] at hI
       repeat first | refine LCode.skip ?_ | refine QThen.normal ?_ | refine QBlock.normal ?_
       exact ⟨q, _, _, by omega, ⟨.mk (textAt T i2) 0 [] [ex, e2], i3, by omega, rfl, rfl, q4, hI⟩, ⟨rfl, rfl, rfl, rfl, rfl, rfl, trivial⟩, (by rw [encArgs_map]; exact HSub.refl _), hj2.trans hj⟩
     ·rw [hr2, h3, obind_err] at hI
      repeat first | refine QThen.panic ?_ | refine QBlock.panic ?_
      exact RetPost.panic (he'.trans (hj2.trans hj)) (hsub_clo (A := [(b5, LObj.cells 38 [str (exOp ex), int .u32 (exNum ex), str (exName ex), .list (encArgs ex)]), (b, LObj.cells 38 [str [], int .u32 0, str [], nilSlice])]) (B := [(bo, LObj.cells 148 [.atom (.func (.func fn) first caps)]), (bs, LObj.cells 59 [ptr sb 0]), (bp, LObj.cells 23 [.list ((lvOps k).map str)]), (bn, LObj.cells 4 [bool (decide ((k : Int) = 2))])])) (by cases hI; exact ⟨rfl, i3, op3, rfl⟩)
    ·have hperm : (srcH sb T (i2 + 1) op1 :: (b5, LObj.cells 38 [str (exOp ex), int .u32 (exNum ex), str (exName ex), .list (encArgs ex)]) :: (b, LObj.cells 38 [str [], int .u32 0, str [], nilSlice]) :: ([(bo, LObj.cells 148 [.atom (.func (.func fn) first caps)]), (bs, LObj.cells 59 [ptr sb 0]), (bp, LObj.cells 23 [.list ((lvOps k).map str)]), (bn, LObj.cells 4 [bool (decide ((k : Int) = 2))])] ++ Hc)).Perm ((srcH sb T (i2 + 1) op1 :: Hc) ++ [(b5, LObj.cells 38 [str (exOp ex), int .u32 (exNum ex), str (exName ex), .list (encArgs ex)]), (b, LObj.cells 38 [str [], int .u32 0, str [], nilSlice]), (bo, LObj.cells 148 [.atom (.func (.func fn) first caps)]), (bs, LObj.cells 59 [ptr sb 0]), (bp, LObj.cells 23 [.list ((lvOps k).map str)]), (bn, LObj.cells 4 [bool (decide ((k : Int) = 2))])]) := List.Perm.cons _ (show ([(b5, LObj.cells 38 [str (exOp ex), int .u32 (exNum ex), str (exName ex), .list (encArgs ex)]), (b, LObj.cells 38 [str [], int .u32 0, str [], nilSlice]), (bo, LObj.cells 148 [.atom (.func (.func fn) first caps)]), (bs, LObj.cells 59 [ptr sb 0]), (bp, LObj.cells 23 [.list ((lvOps k).map str)]), (bn, LObj.cells 4 [bool (decide ((k : Int) = 2))])] ++ Hc).Perm (Hc ++ [(b5, LObj.cells 38 [str (exOp ex), int .u32 (exNum ex), str (exName ex), .list (encArgs ex)]), (b, LObj.cells 38 [str [], int .u32 0, str [], nilSlice]), (bo, LObj.cells 148 [.atom (.func (.func fn) first caps)]), (bs, LObj.cells 59 [ptr sb 0]), (bp, LObj.cells 23 [.list ((lvOps k).map str)]), (bn, LObj.cells 4 [bool (decide ((k : Int) = 2))])]) from List.perm_append_comm)
     refine (LLateOp.step (H1 := srcH sb T (i2 + 1) op1 :: Hc) (F := [(b5, LObj.cells 38 [str (exOp ex), int .u32 (exNum ex), str (exName ex), .list (encArgs ex)]), (b, LObj.cells 38 [str [], int .u32 0, str [], nilSlice]), (bo, LObj.cells 148 [.atom (.func (.func fn) first caps)]), (bs, LObj.cells 59 [ptr sb 0]), (bp, LObj.cells 23 [.list ((lvOps k).map str)]), (bn, LObj.cells 4 [bool (decide ((k : Int) = 2))])]) rfl (.inl rfl) rfl (hperm) (HSub.pick (Pick.there (Pick.there Pick.here)) (HSub.nil _)) (S.callClo (F := []) (Hc := Hc) rfl Pick.here (hC q (by omega) _ _ _ _ _ _ _ r2 hclo (by omega) ho hr2) (fun e2 i3 op3 h3 => ?_) (fun l er i3 op3 h3 e' he' => ?_)))
     ·rw [hr2, h3, obind_ok] at hI
      obtain ⟨q1, q2, q3, rfl⟩ := (ex_good T q).1 _ _ _ _ (hr2.trans (congrArg some h3))
      have q4 := q3 (by omega)
      refine LLate.o 1 (LLateOp.pureH rfl rfl (Pure.ldHAgg (cs' := [_, _, _, _]) rfl (List.mem_append_right _ (List.Mem.head _)) rfl rfl) ?_)
      refine LLate.o 4 (LLateOp.step (H1 := []) (F := (srcH sb T i3 op3 :: ([] ++ Hc)) ++ [(b5, LObj.cells 38 [str (exOp ex), int .u32 (exNum ex), str (exName ex), .list (encArgs ex)]), (b, LObj.cells 38 [str [], int .u32 0, str [], nilSlice]), (bo, LObj.cells 148 [.atom (.func (.func fn) first caps)]), (bs, LObj.cells 59 [ptr sb 0]), (bp, LObj.cells 23 [.list ((lvOps k).map str)]), (bn, LObj.cells 4 [bool (decide ((k : Int) = 2))])]) rfl (.inl rfl) rfl (List.Perm.refl _) (HSub.appR (HSub.pick (Pick.there (Pick.there Pick.here)) (HSub.nil _))) (S.lit (es := [encE ex, encE e2]) [_, _] rfl (elemsOk.cons rfl rfl (elemsOk.cons rfl rfl elemsOk.nil)) rfl rfl rfl ?_))
      refine LLate.o 5 (LLateOp.pureH rfl rfl (Pure.bld _ (cs := [_, _, _, _]) rfl) ?_)
      refine LLate.o 6 (LLateOp.step (H1 := [(b5, LObj.cells 38 [str (exOp ex), int .u32 (exNum ex), str (exName ex), .list (encArgs ex)])]) (F := (srcH sb T i3 op3 :: ([] ++ Hc)) ++ [(b, LObj.cells 38 [str [], int .u32 0, str [], nilSlice]), (bo, LObj.cells 148 [.atom (.func (.func fn) first caps)]), (bs, LObj.cells 59 [ptr sb 0]), (bp, LObj.cells 23 [.list ((lvOps k).map str)]), (bn, LObj.cells 4 [bool (decide ((k : Int) = 2))])]) rfl (.inl rfl) rfl perm_mid (HSub.appR (HSub.pick (Pick.there Pick.here) (HSub.nil _))) (S.store (cs' := [_, _, _, _]) rfl Pick.here rfl rfl rfl rfl rfl ?_))
      refine LLate.done (by kernel_rfl) ?_
      refine QThen.normal ?_
      refine LCode.weak (H' := (b5, LObj.cells 38 [str (textAt T i2), int .u32 0, str [], .list [encE ex, encE e2]]) :: srcH sb T i3 op3 :: (b, LObj.cells 38 [str [], int .u32 0, str [], nilSlice]) :: ([(bo, LObj.cells 148 [.atom (.func (.func fn) first caps)]), (bs, LObj.cells 59 [ptr sb 0]), (bp, LObj.cells 23 [.list ((lvOps k).map str)]), (bn, LObj.cells 4 [bool (decide ((k : Int) = 2))])] ++ Hc)) (hsub_clo2 (A := [(b, LObj.cells 38 [str [], int .u32 0, str [], nilSlice]), (bo, LObj.cells 148 [.atom (.func (.func fn) first caps)]), (bs, LObj.cells 59 [ptr sb 0]), (bp, LObj.cells 23 [.list ((lvOps k).map str)]), (bn, LObj.cells 4 [bool (decide ((k : Int) = 2))])])) ?_
      repeat first | refine LOps.nil ?_ | refine LCode.seq ?_ | refine LCode.region ?_ | refine QThen.normal ?_ | refine LOps.pure (Pure.loadH (c := .atom _) rfl (List.Mem.tail _ (List.Mem.tail _ (List.Mem.tail _ (List.Mem.tail _ (List.Mem.tail _ (List.Mem.tail _ (List.Mem.head _))))))) rfl) rfl ?_
      refine LCode.cond rfl (fun hk2 => ?_) (fun hk2 => ?_)
      ·have hk : k = 2 := by have := of_decide_eq_true hk2; omega
       rw [if_pos hk] at hI
       repeat first | refine LOps.nil ?_ | refine LCode.seq ?_ | refine LCode.region ?_ | refine LCode.ret ?_ | refine LCode.exit ?_ | refine QThen.normal ?_ | refine QThen.exit ?_ | refine QBlock.hit ?_ | refine QBlock.miss (by decide) ?_ | refine LOps.pure (Pure.ldHAgg (cs' := [_, _, _, _]) rfl (List.Mem.head _) rfl rfl) rfl ?_ | refine LOps.step (S.store (cs' := [_, _, _, _]) rfl (Pick.there (Pick.there Pick.here)) rfl rfl rfl rfl rfl ?_) rfl
       exact RetPost.ret (hj2.trans hj) (AllRes.cons (ResIs.cellAgg rfl (List.Mem.head _) rfl (LV.Sub.refl _)) AllRes.nil) (HSub.drop (HSub.drop (HSub.refl _))) (by cases hI; exact ⟨by rw [encE_mk]; rfl, rfl⟩)
      ·have hk : ¬ k = 2 := by have := of_decide_eq_false hk2; omega
       rw [if_neg hk] at hI
       repeat first | refine LCode.skip ?_ | refine QThen.normal ?_ | refine QBlock.normal ?_
       exact ⟨q, _, _, by omega, ⟨.mk (textAt T i2) 0 [] [ex, e2], i3, by omega, rfl, rfl, q4, hI⟩, ⟨rfl, rfl, rfl, rfl, rfl, rfl, trivial⟩, (by rw [encArgs_map]; exact HSub.refl _), hj2.trans hj⟩
     ·rw [hr2, h3, obind_err] at hI
      repeat first | refine QThen.panic ?_ | refine QBlock.panic ?_
      exact RetPost.panic (he'.trans (hj2.trans hj)) (hsub_clo (A := [(b5, LObj.cells 38 [str (exOp ex), int .u32 (exNum ex), str (exName ex), .list (encArgs ex)]), (b, LObj.cells 38 [str [], int .u32 0, str [], nilSlice])]) (B := [(bo, LObj.cells 148 [.atom (.func (.func fn) first caps)]), (bs, LObj.cells 59 [ptr sb 0]), (bp, LObj.cells 23 [.list ((lvOps k).map str)]), (bn, LObj.cells 4 [bool (decide ((k : Int) = 2))])])) (by cases hI; exact ⟨rfl, i3, op3, rfl⟩)
  ·have hc' : isTok T i2 (lvOps k) = false := hc
   rw [if_neg (by rw [hc']; decide)] at hI
   repeat first | refine LOps.nil ?_ | refine LCode.seq ?_ | refine LCode.region ?_ | refine LCode.ret ?_ | refine LCode.exit ?_ | refine QThen.normal ?_ | refine QThen.exit ?_ | refine QBlock.hit ?_ | refine LOps.pure (Pure.ldHAgg (cs' := [_, _, _, _]) rfl (List.Mem.tail _ (List.Mem.head _)) rfl rfl) rfl ?_ | refine LOps.step (S.store (cs' := [_, _, _, _]) rfl (Pick.there (Pick.there Pick.here)) rfl rfl rfl rfl rfl ?_) rfl
   exact RetPost.ret hj (AllRes.cons (ResIs.cellAgg rfl (List.Mem.head _) rfl (LV.Sub.refl _)) AllRes.nil) (HSub.drop (HSub.pick Pick.here (HSub.drop (HSub.refl _)))) (by cases hI; exact ⟨rfl, rfl⟩)
 ·rw [hr1, h1, obind_err] at hr
  repeat first | refine QThen.panic ?_
  refine RetPost.panic (he'.trans rfl) (H' := srcH sb T i1 op1 :: (bo, .cells 148 [.atom (.func (.func fn) first caps)]) :: (bs, .cells 59 [ptr sb 0]) :: (bp, .cells 23 [.list ((lvOps k).map str)]) :: (bn, .cells 4 [bool (decide ((k : Int) = 2))]) :: Hc) ?_ (by cases hr; exact ⟨rfl, i1, op1, rfl⟩)
  exact HSub.pick Pick.here ⟨[(b, _)], List.perm_append_comm.trans (by exact List.Perm.refl _ |>.trans (List.perm_append_singleton _ _).symm)⟩
end
end Go.Proofs.YtfodkbchknknjaaGreatDoor
namespace Go.GL
open Go.RowKit
def noDefer : Op → Bool
 | .defer _ => false
 | _ => true
theorem callsIn_round {l n : Nat} {P : Program} {f : FuncId} {args : Array Value} {w : World} {R : Ending → World → Prop} (h : Calls P f args w R) : CallsIn (Fence.wide.inRound l) n P f args w R := (callsIn_wide (n := n)).2 h
theorem rowsIn_round {l n : Nat} {P : Program} {row : String} {args : Array Value} {w : World} {R : Value → World → Prop} (h : Rows P row args w R) : RowsIn (Fence.wide.inRound l) n P row args w R := fun c cs _ =>
 let ⟨v, w', r, s⟩ := h c cs
 ⟨v, w', r, stepsIn_wide.2 s⟩
theorem operIn_round {l n : Nat} {P : Program} {o : Oper} {a : Act} {w : World} {next next' : Act → World → Prop} {Q : Exit → Act → World → Prop} (ho : noDefer o.op = true)
  (hn : ∀ a w, next a w → next' a w) (h : o.wp P a w next Q) : o.wpIn (Fence.wide.inRound l) n P a w next' Q := by
 refine ⟨fun _ _ => trivial, ?_⟩
 have hs : o.semAt (Fence.wide.inRound l).round a.eval = execOp a.eval o := Oper.semAt_eq _ _ _ fun c hc => by rw [hc] at ho; cases ho
 rw [hs]
 unfold Oper.wp at h
 revert h
 generalize (execOp a.eval o).run P w = r
 intro h
 cases r with
 | ok x w' =>
  cases x with
  | value v => exact hn _ _ h
  | skip => exact hn _ _ h
  | defer d => exact hn _ _ h
  | enter f args =>
   refine ⟨fun hd => (by cases hd), callsIn_round (Calls.mono h ?_)⟩
   intro e w'' he
   cases e with
   | returned v => exact hn _ _ he
   | panicked ch => exact he
   | outgrown => exact he
  | row row args =>
   refine ⟨fun hd => (by cases hd), rowsIn_round (Rows.mono h ?_)⟩
   intro v w'' he
   exact hn _ _ he
  | _ => exact h.elim
 | halt x w' =>
  cases x <;> first | exact h | exact h.elim
theorem listIn_round {l n : Nat} {P : Program} {ops : Array Oper} {Q : Exit → Act → World → Prop} (hQ : ¬ LetsOut Q) : ∀ (rest : List Oper) (a : Act) (w : World), (∀ o ∈ rest, noDefer o.op = true) → wpList P ops Q rest a w → wpListIn (Fence.wide.inRound l) n P ops Q rest a w
 | [], _, _, _, h => h
 | o :: rest, a, w, ho, h => by
  unfold wpList at h
  unfold wpListIn
  split at h
  ·rename_i hw
   rw [if_pos hw]
   rcases h with h | ⟨_, h⟩
   ·exact operIn_round (ho o List.mem_cons_self) (fun a w h => listIn_round hQ rest a w (fun o h => ho o (List.mem_cons_of_mem _ h)) h) h
   ·exact absurd h hQ
  ·rename_i hw
   rw [if_neg hw]
   exact ⟨fun _ _ => trivial, listIn_round hQ rest _ _ (fun o h => ho o (List.mem_cons_of_mem _ h)) h⟩
/-- A region in a round. -/
theorem regionIn_round {l n id : Nat} {P : Program} {ops : List Oper} {Q : Exit → Act → World → Prop} {a : Act} {w : World} (hQ : ¬ LetsOut Q) (ho : ops.all (fun o => noDefer o.op) = true) (h : wpList P ops.toArray Q ops a w) :
  (Code.region id ops.toArray false).wpIn (Fence.wide.inRound l) n P Q a w := wpIn_region_lit (listIn_round hQ ops a w (by simpa using ho) h)
end Go.GL
/- A small logic over the walk's 'Code.wp': a range over a function whose rounds all go on. -/
namespace Go.GL
open Go.RowKit
/-- An object that is kept turns. -/
theorem turn_obj {C : Ctx} {w : World} {L : Live} {b : Nat} {o o' : Obj} {F : Heap} (hH : RelH C w L ((b, .obj o) :: F)) (ho' : noCells o' = true) :
  Fr (keys ((b, LObj.obj o) :: F)) w L (w.putObj b o') L ((b, .obj o') :: F) ∧ RelH C (w.putObj b o') L ((b, .obj o') :: F) := by
 have h1 : RelH C w L ([(b, .obj o)] ++ F) := hH
 have hlt : b < w.heap.size := (hH.objs _ List.mem_cons_self).2.1
 have h2 : Left C w L [(b, .obj o)] (w.putObj b o') undef (fun _ H' => H' = [(b, .obj o')]) :=
  left_obj (w' := w.putObj b o') h1.left ho' rfl rfl rfl (by simp [World.putObj]) (fun c hc => World.putObj_heap_other hc) (World.putObj_heap_same hlt) (v := undef) (lv := .atom undef) (fun _ => rep_atom) rfl
 obtain ⟨lv, H', L', g1, g2, g3, rfl⟩ := h2
 have hL : L' = L := by
  funext c
  obtain ⟨_, _, hl, _⟩ := h1.left.objs _ List.mem_cons_self
  obtain ⟨_, _, hl', _⟩ := g2.objs _ List.mem_cons_self
  by_cases he : c = b
  ·subst he; rw [hl, hl']
  ·rcases Nat.lt_or_ge c w.heap.size with hc | hc
   ·exact g1.lsame c hc (by simpa using he)
   ·rw [h1.wf c hc, g2.wf c (by simpa [World.putObj] using hc)]
 subst hL
 have := h1.frame g1 g2
 exact ⟨this.2, this.1⟩
theorem alloc_obj {C : Ctx} {w : World} {L : Live} {o : Obj} {F : Heap} (hH : RelH C w L F) (ho : noCells o = true) :
  ∃ L', Fr (keys F) w L (w.alloc o) L' ((w.heap.size, .obj o) :: F) ∧ RelH C (w.alloc o) L' ((w.heap.size, .obj o) :: F) := by
 have h1 : RelH C w L ([] ++ F) := hH
 have := fr_push h1.left o 0 [(w.heap.size, .obj o)] (fun p hp => by
  simp only [List.mem_singleton] at hp
  subst hp
  exact ⟨rfl, by simp [Live.upd], heap_push_self, shape_none heap_push_self ho⟩) (by simp)
 have := h1.frame this.1 this.2
 exact ⟨_, this.2, this.1⟩
/-- Code within a round. -/
def LCodeR (C : Ctx) (l n : Nat) (c : Code) (Q : Post) (e : Env) (H : Heap) : Prop :=
 ∀ a w L, RelE n a e w L → RelH C w L H → ∀ m, c.wpIn (Fence.wide.inRound l) m C.P (lift C n w L (keys H) Q) a w
/-- The round goes on. -/
def QOn (k : Env → Heap → Prop) : Post
 | .normal, e, H => k e H
 | _, _, _ => False
section round
variable {C : Ctx} {l n : Nat} {e : Env} {H : Heap} {k : Env → Heap → Prop}
theorem LCodeR.region {id : Nat} {ops : List Oper} (ho : ops.all (fun o => noDefer o.op) = true) (h : LOps C n ops.toArray (QThen k (QOn k)) ops e H) : LCodeR C l n (.region id ops.toArray false) (QOn k) e H := fun a w L hE hH m => by
 refine regionIn_round ?_ ho (wpList_mono ?_ _ _ _ (h a w L hE hH))
 ·rintro ⟨a', w', e', H', L', _, _, _, hq⟩
  exact hq
 ·rintro ex a' w' hq
  refine lift_mono ?_ hq
  intro x e H h
  cases x <;> exact h
theorem LCodeR.seq {x y : Code} (h : LCodeR C l n x (QOn fun e H => LCodeR C l n y (QOn k) e H) e H) : LCodeR C l n (.seq x y) (QOn k) e H := fun a w L hE hH m => by
 refine wpIn_seq (wpIn_mono (h a w L hE hH m) fun ex a' w' hq => ?_)
 obtain ⟨e', H', L', h1, h2, h3, h4⟩ := hq
 cases ex with
 | normal => exact wpIn_mono (h4 a' w' L' h3 h2 m) fun _ _ _ => lift_trans h1
 | exit id => exact h4.elim
 | goto id => exact h4.elim
 | ret => exact h4.elim
 | panic ch => exact h4.elim
 | outgrown => exact h4.elim
theorem LCodeR.block {id : Nat} {c : Code} (h : LCodeR C l n c (QOn k) e H) : LCodeR C l n (.block id c) (QOn k) e H := fun a w L hE hH m => by
 refine wpIn_block (wpIn_mono (h a w L hE hH m) fun ex a' w' hq => ?_)
 obtain ⟨e', H', L', h1, h2, h3, h4⟩ := hq
 cases ex with
 | normal => exact ⟨e', H', L', h1, h2, h3, h4⟩
 | exit id => exact h4.elim
 | goto id => exact h4.elim
 | ret => exact h4.elim
 | panic ch => exact h4.elim
 | outgrown => exact h4.elim
end round
theorem yieldAt_mono {F : Fence} {m : Nat} {P : Program} {l : Nat} {args : Array Value} {W : World} {R R' : Ending → World → Prop} (h : YieldAt F m P l args W R) (hr : ∀ e w, R e w → R' e w) : YieldAt F m P l args W R' := by
 obtain ⟨fn, tmps, assign, body, hy, hR⟩ := h
 exact ⟨fn, tmps, assign, body, hy, hR.mono hr⟩
/-- A call of yield. -/
def LYield (C : Ctx) (l : Nat) (args : List LV) (H : Heap) (K : Heap → Prop) : Prop :=
 ∀ (vs : List Value) w L, RepL w L args vs → RelH C w L H → ∀ m, YieldAt Fence.wide m C.P l vs.toArray w fun e w' => e = .returned (.bool true) ∧ LeftX C w L H w' K
theorem LYield.frame {C : Ctx} {l : Nat} {args : List LV} {G H F : Heap} {K : Heap → Prop} (p : G.Perm (H ++ F)) (h : LYield C l args H fun H' => K (H' ++ F)) : LYield C l args G K := fun vs w L h1 h2 m => by
 have h3 := h2.perm p
 refine yieldAt_mono (h vs w L h1 h3.left m) ?_
 rintro e w' ⟨he, hx⟩
 obtain ⟨H', L', g1, g2, g3⟩ := LeftX.frame h3 hx
 exact ⟨he, H', L', g1.perm p.symm, g2, g3⟩
theorem LYield.mono {C : Ctx} {l : Nat} {args : List LV} {H : Heap} {K K' : Heap → Prop} (h : LYield C l args H K) (hk : ∀ H, K H → K' H) : LYield C l args H K' := fun vs w L h1 h2 m => yieldAt_mono (h vs w L h1 h2 m) fun _ _ hx => ⟨hx.1, hx.2.mono hk⟩
/-- What an iterator does: it calls yield N times, with the values xs. -/
def LIter (C : Ctx) (gf : FuncId) (caps : List LV) (Hc : Heap) (N : Nat) (xs : Nat → List LV) : Prop :=
 ∀ (l : Nat) (J : Nat → Heap → Prop), (∀ k H, k < N → J k H → LYield C l (xs k) H (J (k + 1))) → ∀ H0, J 0 H0 →
  LCalls C gf (.atom (.func (.yield l) #[] #[]) :: caps) (H0 ++ Hc) (fun r H' => (∃ v, r = .ret v) ∧ ∃ H1, H' = H1 ++ Hc ∧ J N H1)
/-- The slots that the round's parameters fill. -/
def Env.round (j : Env) : List (Nat × LV) → Env
 | [] => j
 | (d, v) :: r => Env.round (j.upd d v) r
theorem RelE.rounds {n : Nat} {w : World} {L : Live} : ∀ (ps : List Nat) (lvs : List LV) (vs : List Value) (tmps : Array Value) (j : Env), RelE n { tmps, defers := [] } j w L → RepL w L lvs vs → ps.length = lvs.length → ps.all (fun p => Nat.blt p n) = true →
  RelE n { tmps := (ps.zip vs).foldl (fun t p => t.setIfInBounds p.1 p.2) tmps, defers := [] } (Env.round j (ps.zip lvs)) w L
 | [], lvs, vs, tmps, j, h, _, _, _ => by simpa [Env.round] using h
 | p :: ps, [], vs, tmps, j, h, _, hl, _ => by simp at hl
 | p :: ps, lv :: lvs, vs, tmps, j, h, hr, hl, hp => by
  simp only [RepL] at hr
  obtain ⟨y, ys, rfl, hy, hr⟩ := hr
  simp only [List.all_cons, Bool.and_eq_true] at hp
  have := RelE.put (dst := some p) h (by simp only [dstOk, dstB]; exact hp.1) hy
  simp only [List.zip_cons_cons, List.foldl_cons, Env.round]
  exact RelE.rounds ps lvs ys _ _ this hr (by simpa using hl) hp.2
/-- A flat reading of an activation. -/
def Act.flat (a : Act) : Env := ⟨fun i => .atom (a.tmps.getD i undef), []⟩
theorem Act.flat_rel {n : Nat} {a : Act} {w : World} {L : Live} (hn : a.tmps.size = n) : RelE n { tmps := a.tmps, defers := [] } (Act.flat a) w L := ⟨hn, rfl, fun _ => rep_atom⟩
section range
variable {C : Ctx} {n : Nat} {e : Env} {H : Heap} {Q : Post}
theorem LCode.rangeFunc {g : Operand} {ps : List Nat} {assign body : Code} {gf : FuncId} [TEnter C.P gf] {caps : Array Value} (hg : e.ev g = .atom (.func (.func gf) #[] caps)) (N : Nat) (xs : Nat → List LV) (H0 Hc : Heap) (hp : H.Perm (H0 ++ Hc))
  (hiter : LIter C gf (caps.toList.map .atom) Hc N xs) (hps : ∀ k, k < N → ps.length = (xs k).length) (hpn : ps.all (fun p => Nat.blt p n) = true)
  (J : Nat → Heap → Prop) (h0 : J 0 H0)
  (round : ∀ k H, k < N → J k H → ∀ j : Env, j.ds = [] → (∀ i v, e.s i = .atom v → j.s i = .atom v) → ∀ (l D : Nat) (o oD : LObj), LCodeR C l n assign (QOn fun e1 H1 => e1.ds = [] ∧ ∃ H1', H1 = (l, o) :: (D, oD) :: H1' ∧ (∀ o' : LObj, LCodeR C l n body (QOn fun _ H2 => ∃ H2', HSub ((l, o') :: (D, oD) :: H2') H2 ∧ J (k + 1) H2') e1 ((l, o') :: (D, oD) :: H1'))) (Env.round j (ps.zip (xs k))) ((l, o) :: (D, oD) :: H))
  (done : ∀ D H', J N H' → Q .normal ⟨e.s, { target := .collected D, args := #[] } :: e.ds⟩ ((D, .obj (.deferred (some []))) :: (H' ++ Hc))) :
  LCode C n (.rangeFunc g ps.toArray assign body) Q e H := fun a w L hE hH => by
 refine wpIn_wide (n := 1) |>.1 (wpIn_rangeFunc fun fn _ => ?_)
 have hgv : a.eval g = .func (.func gf) #[] caps := by
  have := hE.ev g
  rw [hg] at this
  simpa only [Rep] using this
 obtain ⟨rec, hrec⟩ : ∃ rec : LoopState → Option Code → Loop, rec = fun st pe => { state := st, pending := pe, fn, tmps := a.tmps, params := ps.toArray, assign, body, defers := w.heap.size } := ⟨_, rfl⟩
 obtain ⟨L1, f1, r1⟩ := alloc_obj (o := .deferred (some [])) (hH.perm hp) rfl
 obtain ⟨L2, f2, r2⟩ := alloc_obj (o := .loop (rec .ready none)) r1 rfl
 have hsz : (w.alloc (.deferred (some []))).heap.size = w.heap.size + 1 := World.size_alloc ..
 rw [hsz] at f2 r2
 have hrec0 : rec .ready none = { state := .ready, pending := none, fn, tmps := a.tmps, params := ps.toArray, assign, body, defers := w.heap.size } := by rw [hrec]
 refine ⟨w.heap.size + 1, [{ target := .collected w.heap.size, args := #[] }], (w.alloc (.deferred (some []))).alloc (.loop (rec .ready none)), { target := .fn (.func gf) caps, args := #[.func (.yield (w.heap.size + 1)) #[] #[]] }, (w.alloc (.deferred (some []))).alloc (.loop (rec .ready none)), gf,
  #[.func (.yield (w.heap.size + 1)) #[] #[]] ++ caps, (w.alloc (.deferred (some []))).alloc (.loop (rec .ready none)), ?_, ?_, fun _ _ => trivial, ?_, fun _ => Nat.le_refl _, callsIn_wide.2 ?_⟩
 ·rw [hrec0]; exact run_enterLoop_outer _ _ _ _ _
 ·simp only [resolve, hgv]
  simp [go_sem]
 ·simp only [invoke]
  exact run_callFunc _ _
 ·obtain ⟨l, hl⟩ : ∃ l, l = w.heap.size + 1 := ⟨_, rfl⟩
  obtain ⟨D, hD⟩ : ∃ D, D = w.heap.size := ⟨_, rfl⟩
  rw [← hl, ← hD] at f2 r2 ⊢
  rw [← hD] at r1 f1
  have hc := hiter l (fun k H => ∃ H1, H = (l, .obj (.loop (rec .ready none))) :: (D, .obj (.deferred (some []))) :: H1 ∧ J k H1) ?_ ((l, .obj (.loop (rec .ready none))) :: (D, .obj (.deferred (some []))) :: H0) ⟨H0, rfl, h0⟩
  ·have h1 := hc (.func (.yield l) #[] #[] :: caps.toList) _ L2 (by simp only [RepL, Rep]; exact ⟨_, _, rfl, rfl, repL_atoms _⟩) r2
   have e1 : (Value.func (.yield l) #[] #[] :: caps.toList).toArray = #[.func (.yield l) #[] #[]] ++ caps := by
    apply Array.ext'
    simp
   rw [e1] at h1
   refine Calls.mono h1 ?_
   rintro ex w' hx
   cases ex with
   | returned v =>
    obtain ⟨lv, H', L', g1, g2, g3, _, H1, rfl, H1', rfl, hJ⟩ := hx
    have g2' : RelH C w' L' ((l, .obj (.loop (rec .ready none))) :: ((D, .obj (.deferred (some []))) :: (H1' ++ Hc))) := g2
    obtain ⟨_, _, _, hlo, _⟩ := g2'.objs _ List.mem_cons_self
    have hlo' : w'.heap[l]? = some (.loop (rec .ready none)) := hlo
    have hpe : (rec .ready none).pending = none := by rw [hrec]
    have hend := (run_endLoop (P := C.P) hlo' (by rw [hrec]; simp)).trans (congrArg (fun p => Result.ok p _) hpe)
    have ht := turn_obj (o' := .loop { rec .ready none with state := .exhausted }) g2' rfl
    refine ⟨none, _, hend, ?_⟩
    have hs : HSub ((D, LObj.obj (.deferred (some []))) :: (H1' ++ Hc)) ((l, .obj (.loop { rec .ready none with state := .exhausted })) :: ((D, .obj (.deferred (some []))) :: (H1' ++ Hc))) := HSub.drop (HSub.refl _)
    refine ⟨⟨e.s, { target := .collected D, args := #[] } :: e.ds⟩, (D, .obj (.deferred (some []))) :: (H1' ++ Hc), L', ?_, ht.2.weak hs, ⟨?_, ?_, ?_⟩, done D H1' hJ⟩
    ·exact Fr.perm hp.symm ((f1.trans (f2.trans (g1.trans ht.1))).weak hs)
    ·exact hE.size
    ·show _ :: a.defers = _
     rw [hE.ds]
    ·exact fun i => (hE.vals i).mono (f1.ext.trans (f2.ext.trans (g1.ext.trans ht.1.ext))) _ _
   | panicked ch =>
    obtain ⟨H', L', g1, g2, ⟨v, hv⟩, _⟩ := hx
    cases hv
   | outgrown => exact hx.elim
  ·rintro k H hk ⟨H1, rfl, hJ⟩ vs w1 Lw hvs hr m
   obtain ⟨_, _, _, hlo, _⟩ := hr.objs _ List.mem_cons_self
   have hlo' : w1.heap[l]? = some (.loop (rec .ready none)) := hlo
   have hlen := hvs.length
   have hpk := hps k hk
   have hy := run_yield (P := C.P) (args := vs.toArray) hlo' (by rw [hrec]; simp; omega)
   rw [hrec] at hy
   refine ⟨fn, _, assign, body, hy, roundIn_of_wpIn trivial ?_⟩
   have htm : RelE n { tmps := a.tmps, defers := [] } (Act.flat a) w1 Lw := Act.flat_rel hE.size
   have htm2 := RelE.rounds ps (xs k) vs a.tmps (Act.flat a) htm hvs hpk hpn
   have e2 : (ps.toArray.zip vs.toArray).foldl (fun tmps (t, a) => tmps.setIfInBounds t a) a.tmps = (ps.zip vs).foldl (fun t p => t.setIfInBounds p.1 p.2) a.tmps := by
    simp
   simp only [e2]
   refine wpIn_mono (round k H1 hk hJ (Act.flat a) rfl ?_ l D _ _ _ w1 Lw htm2 hr m) ?_
   ·intro i v hv
    have := hE.vals i
    rw [hv] at this
    simp only [Rep] at this
    simp only [Act.flat, this]
   ·rintro ex a1 w2 ⟨e1, H2, L2', q1, q2, q3, q4⟩
    cases ex with
    | normal =>
     obtain ⟨hds, H2', rfl, hb⟩ := q4
     obtain ⟨_, _, _, hlo2, _⟩ := q2.objs _ List.mem_cons_self
     have hlo2' : w2.heap[l]? = some (.loop (rec .ready none)) := hlo2
     have ht := turn_obj (o' := .loop { rec .ready none with state := .busy }) q2 rfl
     refine ⟨_, run_beginRound hlo2' (by rw [hrec]), ?_⟩
     refine wpIn_mono (hb (.obj (.loop { rec .ready none with state := .busy })) a1 _ L2' (q3.mono ht.1.ext) ht.2 m) ?_
     rintro ex a3 w3 ⟨e3, H3, L3, p1, p2, p3, p4⟩
     cases ex with
     | normal =>
      obtain ⟨H3', hs3, hJ3⟩ := p4
      have p2' := p2.weak hs3
      obtain ⟨_, _, _, hlo3, _⟩ := p2'.objs _ List.mem_cons_self
      have hlo3' : w3.heap[l]? = some (.loop { rec .ready none with state := .busy }) := hlo3
      have ht3 := turn_obj (o' := .loop (rec .ready none)) p2' rfl
      have hend := run_endRound (P := C.P) none hlo3'
      have e3 : ({ { rec .ready none with state := .busy } with state := if (none : Option Code).isNone then .ready else .done, pending := none } : Loop) = rec .ready none := by rw [hrec]; rfl
      rw [e3] at hend
      refine ⟨.bool true, _, hend, rfl, ?_⟩
      exact ⟨_, L3, q1.trans (ht.1.trans ((p1.weak hs3).trans ht3.1)), ht3.2, H3', rfl, hJ3⟩
     | exit id => exact p4.elim
     | goto id => exact p4.elim
     | ret => exact p4.elim
     | panic ch => exact p4.elim
     | outgrown => exact p4.elim
    | exit id => exact q4.elim
    | goto id => exact q4.elim
    | ret => exact q4.elim
    | panic ch => exact q4.elim
    | outgrown => exact q4.elim
end range
/-! ### The iterator's own call of yield -/
/-- A region that calls yield. -/
def LOpsW (C : Ctx) (n : Nat) (ops : Array Oper) (Q : Post) (rest : List Oper) (e : Env) (H : Heap) : Prop :=
 ∀ a w L, RelE n a e w L → RelH C w L H → wpListIn Fence.wide 1 C.P ops (lift C n w L (keys H) Q) rest a w
section W
variable {C : Ctx} {n : Nat} {ops : Array Oper} {Q : Post} {e : Env} {H : Heap}
theorem LOpsW.nil (h : Q .normal e H) : LOpsW C n ops Q [] e H := fun _ _ L hE hH => ⟨e, H, L, Fr.refl _ _ _, hH, hE, h⟩
theorem wpListIn_mono {F : Fence} {m : Nat} {P : Program} {Q Q' : Exit → Act → World → Prop} (h : ∀ e a w, Q e a w → Q' e a w) (ho : LetsOut Q → LetsOut Q') : ∀ (l : List Oper) (a : Act) (w : World), wpListIn F m P ops Q l a w → wpListIn F m P ops Q' l a w
 | [], _, _, k => h _ _ _ k
 | o :: l, a, w, k => by
  unfold wpListIn at k ⊢
  split at k
  ·rename_i hw
   rw [if_pos hw]
   refine ⟨k.1, ?_⟩
   have k2 := k.2
   generalize (o.semAt F.round a.eval).run P w = r at k2 ⊢
   cases r with
   | ok x w' =>
    cases x with
    | value v => exact wpListIn_mono h ho l _ _ k2
    | skip => exact wpListIn_mono h ho l _ _ k2
    | defer d => exact wpListIn_mono h ho l _ _ k2
    | enter f args =>
     refine ⟨k2.1, k2.2.mono fun e w'' he => ?_⟩
     cases e with
     | returned v => exact wpListIn_mono h ho l _ _ he
     | panicked ch => exact h _ _ _ he
     | outgrown => exact ho he
    | row row args =>
     refine ⟨k2.1, fun c cs hr => ?_⟩
     obtain ⟨v, w2, r2, s2⟩ := k2.2 c cs hr
     exact ⟨v, w2, wpListIn_mono h ho l _ _ r2, s2⟩
    | round l' f tmps avs bd =>
     refine ⟨k2.1, k2.2.mono fun e w'' he => ?_⟩
     cases e with
     | returned v => exact wpListIn_mono h ho l _ _ he
     | panicked ch => exact h _ _ _ he
     | outgrown => exact ho he
    | _ => exact k2.elim
   | halt x w' => cases x <;> first | exact h _ _ _ k2 | exact k2.elim
  ·rename_i hw
   rw [if_neg hw]
   exact ⟨k.1, wpListIn_mono h ho l _ _ k.2⟩
theorem lift_out {w w1 : World} {L L1 : Live} {K : List Nat} {H1 : Heap} (f : Fr K w L w1 L1 H1) : LetsOut (lift C n w1 L1 (keys H1) Q) → LetsOut (lift C n w L K Q) := fun ⟨a, w', h⟩ => ⟨a, w', lift_trans f h⟩
theorem LOpsW.pure {dst : Option Nat} {op : Op} {ty : TypeId} {pos : String} {aft : Array Edge} {rest : List Oper} {lv : LV}
  (h : Pure C ⟨dst, op, ty, pos, aft, none⟩ e H lv) (hd : dstOk n dst) (k : LOpsW C n ops Q rest (e.put dst lv) H) : LOpsW C n ops Q (⟨dst, op, ty, pos, aft, none⟩ :: rest) e H := fun a w L hE hH => by
 obtain ⟨v, hv, hr⟩ := h a.eval w L hE.ev hH
 unfold wpListIn
 rw [if_pos (by simp [Region.wanted])]
 refine ⟨fun _ _ => trivial, ?_⟩
 have hs : Oper.semAt (Fence.wide).round a.eval ⟨dst, op, ty, pos, aft, none⟩ = execOp a.eval ⟨dst, op, ty, pos, aft, none⟩ := rfl
 rw [hs, hr w ⟨fun _ _ => rfl, fun _ _ _ => rfl⟩]
 exact k _ w L (hE.put hd hv) hH
theorem LOpsW.yield {dst : Option Nat} {fo : Operand} {l : Nat} {args : List Operand} {ats : Array TypeId} {avs : List LV} {ty : TypeId} {pos : String} {aft : Array Edge} {rest : List Oper} {K : Heap → Prop} (hf : e.ev fo = .atom (.func (.yield l) #[] #[]))
  (has : args.map e.ev = avs) (hy : LYield C l avs H K) (hd : dstOk n dst) (k : ∀ H', K H' → LOpsW C n ops Q rest (e.put dst (bool true)) H') : LOpsW C n ops Q (⟨dst, .call { callee := .value fo, args := args.toArray, argTypes := ats }, ty, pos, aft, none⟩ :: rest) e H := fun a w L hE hH => by
 subst has
 have hv := hE.ev fo
 rw [hf] at hv
 simp only [Rep] at hv
 obtain ⟨fn, tmps, assign, body, h1, h2⟩ := hy (args.map a.eval) w L (repL_ev hE.ev _) hH 0
 unfold wpListIn
 rw [if_pos (by simp [Region.wanted])]
 refine ⟨fun _ _ => trivial, ?_⟩
 have h3 : Oper.semAt (Fence.wide).round a.eval ⟨dst, .call { callee := .value fo, args := args.toArray, argTypes := ats }, ty, pos, aft, none⟩ = (do let d ← Deferred.ofValue (a.eval fo) (args.toArray.map a.eval); invoke d.target d.args) := rfl
 have h4 : (do let d ← Deferred.ofValue (.func (.yield l) #[] #[]) (args.toArray.map a.eval); invoke d.target d.args : Sem Next).run C.P w = .ok (.round l fn tmps assign body) w := by
  simp only [Deferred.ofValue, Sem.run_bind, Sem.run_pure, Result.andThen_ok, invoke]
  rw [← h1]
  simp
 rw [h3, hv, h4]
 refine ⟨fun _ => Nat.le_refl _, h2.mono ?_⟩
 rintro ex w' ⟨rfl, H', L', g1, g2, g3⟩
 exact wpListIn_mono (fun _ _ _ => lift_trans g1) (lift_out g1) _ _ _ (k H' g3 _ w' L' ((hE.mono g1.ext).put hd rep_atom) g2)
theorem LCode.regionW {id : Nat} {l : List Oper} (h : LOpsW C n l.toArray Q l e H) : LCode C n (.region id l.toArray false) Q e H := fun a w L hE hH => wpIn_wide (n := 1) |>.1 (wpIn_region_lit (h a w L hE hH))
end W
/-- Entering a function that ranges over a function: the mark of its rounds is among its deferred calls. -/
def RetPostM (C : Ctx) (n : Nat) (rs : List ResultVar) (R : LRes → Heap → Prop) : Post
 | .normal, e, H | .ret, e, H => ∃ D F, e.ds = [{ target := .collected D, args := #[] }] ∧ H.Perm ((D, .obj (.deferred (some []))) :: F) ∧ ∃ vs H', AllRes C n e F rs vs ∧ HSub H' F ∧ R (.ret (resLV vs)) H'
 | .panic ch, e, H => (e.ds = [] ∧ ∃ H', HSub H' H ∧ R (.panic ch) H') ∨ ∃ D F, e.ds = [{ target := .collected D, args := #[] }] ∧ H.Perm ((D, .obj (.deferred (some []))) :: F) ∧ ∃ H', HSub H' F ∧ R (.panic ch) H'
 | _, _, _ => False
theorem LCalls.introM {C : Ctx} {f : FuncId} {fn : Func} {c : Code} {n : Nat} {args : List LV} {H : Heap} {R : LRes → Heap → Prop} (hf : C.P.funcs[f]? = some fn) (hb : fn.body = some c) (hn : fn.ntmps = n) (h3 : Nat.ble fn.results.size 3 = true)
  (hl : Nat.ble args.length n = true) (h : LCode C n c (RetPostM C n fn.results.toList R) (argsEnv args) H) : LCalls C f args H R := fun vs w L hv hH => by
 subst hn
 have hl' : args.length ≤ fn.ntmps := by simpa using hl
 have h3' : fn.results.size ≤ 3 := by simpa using h3
 have hlen := hv.length
 refine callsIn_wide.1 (callsIn_of_wp_marks (F := Fence.wide) (n := 1) hf hb trivial (wpIn_wide.2 (Go.wp_mono (h _ w L ⟨?_, rfl, fun i => ?_⟩ hH) fun ex a' w' hq => ?_)))
 ·simp; omega
 ·simp only [argsEnv]
  rw [Array.getD_eq_getD_getElem?]
  rcases Nat.lt_or_ge i args.length with hi | hi
  ·rw [List.getElem?_eq_getElem hi]
   obtain ⟨x, hx, hr⟩ := hv.get (List.getElem?_eq_getElem hi)
   have hxi : (vs.toArray ++ Array.replicate (fn.ntmps - vs.toArray.size) undef)[i]? = some x := by
    rw [Array.getElem?_append_left (by simp; omega)]
    simpa using hx
   rw [hxi]
   exact hr
  ·rw [List.getElem?_eq_none hi]
   have hxi : ((vs.toArray ++ Array.replicate (fn.ntmps - vs.toArray.size) undef)[i]?).getD undef = undef := by
    rw [Array.getElem?_append_right (by simp; omega)]
    rw [Array.getElem?_replicate]
    split <;> rfl
   rw [hxi]
   simp only [Option.getD_none, Rep]
 ·obtain ⟨e', H', L', g1, g2, g3, g4⟩ := hq
  have turn : ∀ {D F}, H'.Perm ((D, LObj.obj (.deferred (some []))) :: F) → (Instr.takeDeferred D).run C.P w' = .ok [] (w'.putObj D (.deferred none)) ∧ Fr (keys H) w L (w'.putObj D (.deferred none)) L' F ∧ RelH C (w'.putObj D (.deferred none)) L' F ∧ Ext w' L' (w'.putObj D (.deferred none)) L' := fun {D F} hp => by
   have g2' := g2.perm hp
   obtain ⟨_, _, _, hlo, _⟩ := g2'.objs _ List.mem_cons_self
   have hlo' : w'.heap[D]? = some (.deferred (some [])) := hlo
   have ht := turn_obj (o' := .deferred none) g2' rfl
   have hs : HSub F ((D, LObj.obj (.deferred none)) :: F) := HSub.drop (HSub.refl _)
   have hkp : Fr (keys H) w L w' L' ((D, LObj.obj (.deferred (some []))) :: F) := g1.weak ⟨[], by simpa using hp⟩
   exact ⟨run_takeDeferred hlo', (hkp.trans ht.1).weak hs, ht.2.weak hs, ht.1.ext⟩
  have ret : RelE fn.ntmps a' e' w' L' → (∃ D F, e'.ds = [{ target := .collected D, args := #[] }] ∧ H'.Perm ((D, .obj (.deferred (some []))) :: F) ∧ ∃ vs H'', AllRes C fn.ntmps e' F fn.results.toList vs ∧ HSub H'' F ∧ R (.ret (resLV vs)) H'') →
    LeavesInM Fence.wide 1 C.P fn a'.tmps (CallPost C w L H (fun v => R (.ret v)) (fun ch => R (.panic ch))) a'.defers .returning w' := fun hE hr => by
   obtain ⟨D, F, h1, hp, vs', H'', h2, h4, h5⟩ := hr
   rw [hE.ds, h1]
   obtain ⟨t1, t2, t3, t4⟩ := turn hp
   refine ⟨by simp, .inl ⟨D, _, rfl, t1, ?_⟩⟩
   obtain ⟨v, r1, r2⟩ := results_of (hE.mono t4) t3 h2 h3'
   exact ⟨v, r1, resLV vs', H'', L', t2.weak h4, t3.weak h4, r2, h5⟩
  cases ex with
  | normal => exact ret g3 g4
  | ret => exact ret g3 g4
  | panic ch =>
   rcases g4 with ⟨h1, H'', h4, h5⟩ | ⟨D, F, h1, hp, H'', h4, h5⟩
   ·show LeavesInM _ _ _ _ _ _ a'.defers _ _
    rw [show a'.defers = [] from (show a'.defers = e'.ds from g3).trans h1]
    exact ⟨H'', L', g1.weak h4, g2.weak h4, h5⟩
   ·show LeavesInM _ _ _ _ _ _ a'.defers _ _
    rw [show a'.defers = [{ target := .collected D, args := #[] }] from (show a'.defers = e'.ds from g3).trans h1]
    obtain ⟨t1, t2, t3, t4⟩ := turn hp
    exact ⟨by simp, .inl ⟨D, _, rfl, t1, ⟨H'', L', t2.weak h4, t3.weak h4, h5⟩⟩⟩
  | exit id => exact g4.elim
  | goto id => exact g4.elim
  | outgrown => exact g4.elim
end Go.GL
namespace Go.Proofs.YtfodkbchknknjaaGreatDoor
open Go.GL Go.RowKit Go.Stele
set_option maxRecDepth 100000
set_option maxHeartbeats 4000000
attribute [local irreducible] LOps LCode LStep LCalls Go.GL.Pure QThen QBlock RetPost LQ LAny LLate LLateOp
def lvLV (k : Nat) : LV := .list ((lvOps k).map str)
def levelsLV : List LV := [lvLV 0, lvLV 1, lvLV 2, lvLV 3, lvLV 4, lvLV 5]
section
variable {B0 : Nat} {w0 : World}
theorem levels_spec : LCalls (KC B0 w0) 163 [] [] (Ret (.list levelsLV)) := by
 refine LCalls.intro Tryz.func163 rfl (n := 8) rfl rfl rfl ?_
 repeat first | refine LOps.nil ?_ | refine LCode.seq ?_ | refine LCode.region ?_ | refine QThen.normal ?_ | refine LOps.pure (Pure.as (lv := .atom _) rfl) rfl ?_
 refine LOps.step (S.lit (es := [str [124, 124]]) [_] rfl (elemsOk.cons rfl rfl elemsOk.nil) rfl rfl rfl ?_) rfl
 refine LOps.step (S.lit (es := [str [38, 38]]) [_] rfl (elemsOk.cons rfl rfl elemsOk.nil) rfl rfl rfl ?_) rfl
 refine LOps.step (S.lit (es := [str [61, 61], str [33, 61], str [60], str [62], str [60, 61], str [62, 61]]) [_, _, _, _, _, _] rfl (elemsOk.cons rfl rfl (elemsOk.cons rfl rfl (elemsOk.cons rfl rfl (elemsOk.cons rfl rfl (elemsOk.cons rfl rfl (elemsOk.cons rfl rfl elemsOk.nil)))))) rfl rfl rfl ?_) rfl
 refine LOps.step (S.lit (es := [str [94]]) [_] rfl (elemsOk.cons rfl rfl elemsOk.nil) rfl rfl rfl ?_) rfl
 refine LOps.step (S.lit (es := [str [43], str [45]]) [_, _] rfl (elemsOk.cons rfl rfl (elemsOk.cons rfl rfl elemsOk.nil)) rfl rfl rfl ?_) rfl
 refine LOps.step (S.lit (es := [str [42], str [47], str [37]]) [_, _, _] rfl (elemsOk.cons rfl rfl (elemsOk.cons rfl rfl (elemsOk.cons rfl rfl elemsOk.nil))) rfl rfl rfl ?_) rfl
 refine LOps.step (S.lit (es := levelsLV) [_, _, _, _, _, _] rfl (elemsOk.cons rfl rfl (elemsOk.cons rfl rfl (elemsOk.cons rfl rfl (elemsOk.cons rfl rfl (elemsOk.cons rfl rfl (elemsOk.cons rfl rfl elemsOk.nil)))))) rfl rfl rfl ?_) rfl
 repeat first | refine LOps.nil ?_ | refine LCode.ret ?_ | refine QThen.normal ?_ | refine LOps.pure (Pure.as (lv := .list _) rfl) rfl ?_
 exact retRet rfl (AllRes.cons (ResIs.tmp (v := .list _) rfl (LV.Sub.refl _)) AllRes.nil) rfl
theorem binary_spec (sb : Nat) (ops : List LV) (once : Bool) (fn : FuncId) (first caps : Array Value) : LCalls (KC B0 w0) 166 [ptr sb 0, .list ops, bool once, .atom (.func (.func fn) first caps)] []
  (fun r H => ∃ bo bs bp bn : Nat, r = .ret (.atom (.func (.func 176) #[] #[.pointer (some ⟨bo, 0, none⟩), .pointer (some ⟨bs, 0, none⟩), .pointer (some ⟨bp, 0, none⟩), .pointer (some ⟨bn, 0, none⟩)])) ∧
   H = [(bo, .cells 148 [.atom (.func (.func fn) first caps)]), (bs, .cells 59 [ptr sb 0]), (bp, .cells 23 [.list ops]), (bn, .cells 4 [bool once])]) := by
 refine LCalls.intro Tryz.func166 rfl (n := 10) rfl rfl rfl ?_
 repeat first | refine LCode.seq ?_ | refine LCode.region ?_
 refine LOps.step (S.box rfl fun bs => ?_) rfl
 refine LOps.step (S.box rfl fun bp => ?_) rfl
 refine LOps.step (S.box rfl fun bn => ?_) rfl
 refine LOps.step (S.box rfl fun bo => ?_) rfl
 repeat first | refine LOps.nil ?_ | refine LCode.seq ?_ | refine LCode.region ?_ | refine LCode.ret ?_ | refine QThen.normal ?_ | refine LOps.pure (Pure.as (lv := .atom _) rfl) rfl ?_ | refine LOps.pure (Pure.makeFunc rfl rfl) rfl ?_
 exact RetPost.ret rfl (AllRes.cons (ResIs.tmp (v := .atom _) rfl (LV.Sub.refl _)) AllRes.nil) (HSub.pick Pick.here (HSub.pick (Pick.there (Pick.there Pick.here)) (HSub.pick (Pick.there Pick.here) (HSub.pick Pick.here (HSub.nil _))))) ⟨bo, bs, bp, bn, rfl, rfl⟩
theorem backward_spec (es : List LV) : LCalls (KC B0 w0) 165 [.list es] [] (fun r H => ∃ b : Nat, r = .ret (.atom (.func (.func 175) #[] #[.pointer (some ⟨b, 0, none⟩)])) ∧ H = [(b, .cells 159 [.list es])]) := by
 refine LCalls.intro Tryz.func165 rfl (n := 4) rfl rfl rfl ?_
 repeat first | refine LCode.seq ?_ | refine LCode.region ?_
 refine LOps.step (S.box rfl fun b => ?_) rfl
 repeat first | refine LOps.nil ?_ | refine LCode.seq ?_ | refine LCode.region ?_ | refine LCode.ret ?_ | refine QThen.normal ?_ | refine LOps.pure (Pure.as (lv := .atom _) rfl) rfl ?_ | refine LOps.pure (Pure.makeFunc rfl rfl) rfl ?_
 exact RetPost.ret rfl (AllRes.cons (ResIs.tmp (v := .atom _) rfl (LV.Sub.refl _)) AllRes.nil) (HSub.refl _) ⟨b, rfl, rfl⟩
/-- What the iterator hands to yield in the round q: the place and the element, from the last to the first. -/
def backArgs (ls : List (List (List UInt8))) (q : Nat) : List LV := [int .i64 ((ls.length : Int) - 1 - q), .list (((ls[ls.length - 1 - q]?).getD []).map str)]
theorem iter_spec (b : Nat) (ls : List (List (List UInt8))) (hl : ls.length ≤ 100000) : LIter (KC B0 w0) 175 [ptr b 0] [(b, .cells 159 [.list (ls.map fun l => .list (l.map str))])] ls.length (backArgs ls) := by
 intro l J hY H0 h0
 have hml : (ls.map fun l => LV.list (l.map str)).length = ls.length := List.length_map _
 refine LCalls.intro Tryz.func175 rfl (n := 19) rfl rfl rfl ?_
 refine LCode.perm (H' := (b, .cells 159 [.list (ls.map fun l => .list (l.map str))]) :: H0) (List.perm_append_singleton _ _) ?_
 repeat first | refine LOps.nil ?_ | refine LCode.seq ?_ | refine LCode.region ?_ | refine LCode.block ?_ | refine QThen.normal ?_ | refine LOps.pure (Pure.loadH (c := .list _) rfl (List.Mem.head _) rfl) rfl ?_ | refine LOps.pure (Pure.llen rfl) rfl ?_ | refine LOps.pure (Pure.sub rfl rfl (by omega)) rfl ?_ | refine LOps.pure (Pure.as (lv := .atom _) rfl) rfl ?_
 refine LCode.loopI (fun k lsl H => ∃ (q : Nat) (Hq : Heap), q ≤ ls.length ∧ k = ls.length - q ∧ lsl = [(0, .atom (.func (.yield l) #[] #[])), (1, ptr b 0), (3, int .i64 ((ls.length : Int) - 1 - q))] ∧ H = (b, .cells 159 [.list (ls.map fun l => .list (l.map str))]) :: Hq ∧ J q Hq)
  ⟨_, _, _, ⟨0, H0, Nat.zero_le _, rfl, rfl, rfl, h0⟩, ⟨rfl, rfl, int_eq (by simp), trivial⟩, HSub.refl _⟩ ?_
 rintro k lsl H ⟨q, Hq, hq, rfl, rfl, rfl, hJ⟩ j hj
 repeat first | refine LOps.nil ?_ | refine LCode.seq ?_ | refine LCode.region ?_ | refine QThen.normal ?_ | refine LOps.pure (Pure.mv (lv := .atom _) rfl) rfl ?_ | refine LOps.pure (Pure.geq rfl rfl) rfl ?_
 refine LCode.cond rfl (fun hc => ?_) (fun hc => ?_)
 ·have hlt : q < ls.length := by have := of_decide_eq_true hc; omega
  have hix : ((ls.length : Int) - 1 - q).toNat = ls.length - 1 - q := by omega
  have hlt2 : ls.length - 1 - q < ls.length := by omega
  have hel : (ls.map fun l => LV.list (l.map str))[((ls.length : Int) - 1 - q).toNat]? = some (.list (((ls[ls.length - 1 - q]?).getD []).map str)) := by
   rw [hix, List.getElem?_map, List.getElem?_eq_getElem hlt2]
   rfl
  repeat first | refine LCode.seq ?_ | refine LCode.skip ?_ | refine LCode.block ?_ | refine QThen.normal ?_
  refine LCode.regionW ?_
  repeat first | refine LOpsW.pure (Pure.loadH (c := .list _) rfl (List.Mem.head _) rfl) rfl ?_ | refine LOpsW.pure (Pure.mv (lv := .atom _) rfl) rfl ?_
  refine LOpsW.pure (Pure.ixRef (cs := [_]) rfl rfl (by omega) hel rfl rfl) rfl ?_
  repeat first | refine LOpsW.pure (Pure.loadRef (c := .list _) rfl rfl) rfl ?_
  refine LOpsW.yield (H := (b, .cells 159 [.list (ls.map fun l => .list (l.map str))]) :: Hq) (args := [_, _]) rfl rfl (LYield.frame (H := Hq) (F := [(b, .cells 159 [.list (ls.map fun l => .list (l.map str))])]) (List.perm_append_singleton _ _).symm (K := fun H' => ∃ H1, H' = H1 ++ [(b, .cells 159 [.list (ls.map fun l => .list (l.map str))])] ∧ J (q + 1) H1) (LYield.mono (hY q Hq hlt hJ) fun H' h => ⟨H', rfl, h⟩)) rfl ?_
  rintro H' ⟨H1, rfl, hJ1⟩
  repeat first | refine LOpsW.pure (Pure.not rfl) rfl ?_
  refine LOpsW.nil ?_
  refine QThen.normal ?_
  refine LCode.weak (H' := (b, .cells 159 [.list (ls.map fun l => .list (l.map str))]) :: H1) ⟨[], by rw [List.append_nil]; exact List.perm_append_singleton _ _⟩ ?_
  refine LCode.cond rfl (fun hcc => ?_) (fun hcc => ?_)
  ·cases hcc
  ·repeat first | refine LOps.nil ?_ | refine LCode.region ?_ | refine LCode.skip ?_ | refine QThen.normal ?_ | refine QBlock.normal ?_ | refine LOps.pure (Pure.sub rfl rfl (by omega)) rfl ?_ | refine LOps.pure (Pure.as (lv := .atom _) rfl) rfl ?_ | refine LOps.pure (Pure.mv (lv := .atom _) rfl) rfl ?_
   exact ⟨_, _, _, by omega, ⟨q + 1, H1, hlt, rfl, rfl, rfl, hJ1⟩, ⟨rfl, rfl, int_eq (by omega), trivial⟩, HSub.refl _, hj⟩
 ·have hge : q = ls.length := by have := of_decide_eq_false hc; omega
  subst hge
  repeat first | refine LCode.exit ?_ | refine QThen.exit ?_ | refine QBlock.hit ?_
  exact RetPost.normal hj AllRes.nil ⟨[], by rw [List.append_nil]; exact (List.perm_append_singleton _ _).symm⟩ ⟨⟨_, rfl⟩, Hq, rfl, hJ⟩
end
end Go.Proofs.YtfodkbchknknjaaGreatDoor
namespace Go.GL
open Go.RowKit
section
variable {C : Ctx} {n : Nat} {Q : Post} {e : Env} {H : Heap} {k : Env → Heap → Prop}
theorem LCode.mid {A : Type} {c : Code} (l : A → List (Nat × LV)) (H1 : A → Heap) (F : A → Prop) (hx : LCode C n c (QThen (fun e' H' => ∃ a, F a ∧ At (l a) (H1 a) e.ds e' H') Q) e H) (hy : ∀ a, F a → ∀ j : Env, j.ds = e.ds → k (Env.slots j (l a)) (H1 a)) : LCode C n c (QThen k Q) e H := by
 refine LCode.conseq hx ?_
 rintro ex e' H' hq
 cases ex with
 | normal =>
  obtain ⟨a, hF, h1, rfl, h3⟩ := hq
  have := hy a hF e' h3
  rw [Env.slots_self h1.mem] at this
  exact this
 | exit id => exact hq
 | goto id => exact hq
 | ret => exact hq
 | panic ch => exact hq
 | outgrown => exact hq
/-- The same, where the heap is met in whatever order, and code follows. -/
theorem LCode.midC {A : Type} {c c2 : Code} {Q2 : Post} (l : A → List (Nat × LV)) (H1 : A → Heap) (F : A → Prop) (hx : LCode C n c (QThen (fun e' H' => ∃ a, F a ∧ AllSlots e' (l a) ∧ HSub (H1 a) H' ∧ e'.ds = e.ds) Q) e H) (hy : ∀ a, F a → ∀ j : Env, j.ds = e.ds → LCode C n c2 Q2 (Env.slots j (l a)) (H1 a)) : LCode C n c (QThen (fun e H => LCode C n c2 Q2 e H) Q) e H := by
 refine LCode.conseq hx ?_
 rintro ex e' H' hq
 cases ex with
 | normal =>
  obtain ⟨a, hF, h1, h2, h3⟩ := hq
  have := hy a hF e' h3
  rw [Env.slots_self h1.mem] at this
  exact LCode.weak h2 this
 | exit id => exact hq
 | goto id => exact hq
 | ret => exact hq
 | panic ch => exact hq
 | outgrown => exact hq
theorem cells_sub {w : World} {L : Live} {b ty : Nat} {cs cs' : List LV} {F : Heap} (hp : Pick (b, .cells ty cs) H F) (hs : SubL cs cs') (hH : RelH C w L H) : RelH C w L ((b, .cells ty cs') :: F) := by
 have h1 := hH.perm hp
 refine ⟨h1.base, h1.lbase, h1.b0, h1.wf, h1.nodup, fun p hp => ?_⟩
 rcases List.mem_cons.1 hp with rfl | hp
 ·obtain ⟨r1, r2, r3, xs, r4, r5⟩ := h1.objs _ List.mem_cons_self
  exact ⟨r1, r2, r3, xs, r4, hs.repL r5⟩
 ·exact h1.objs p (List.mem_cons_of_mem _ hp)
theorem pick_keys {b ty : Nat} {cs cs' : List LV} {F : Heap} (hp : Pick (b, .cells ty cs) H F) : ∀ x, x ∈ keys ((b, LObj.cells ty cs') :: F) → x ∈ keys H := fun x hx => by
 have : keys ((b, LObj.cells ty cs') :: F) = keys ((b, LObj.cells ty cs) :: F) := rfl
 rw [this] at hx
 exact ((hp.map (·.1)).mem_iff).2 hx
/-- A cell's content is read more weakly. -/
theorem LCode.cellSub {c : Code} {b ty : Nat} {cs cs' : List LV} {F : Heap} (hp : Pick (b, .cells ty cs) H F) (hs : SubL cs cs') (h : LCode C n c Q e ((b, .cells ty cs') :: F)) : LCode C n c Q e H := fun a w L hE hH =>
 Go.wp_mono (h a w L hE (cells_sub hp hs hH)) fun _ _ _ => lift_weak (pick_keys hp)
theorem LOps.cellSub {ops : Array Oper} {rest : List Oper} {b ty : Nat} {cs cs' : List LV} {F : Heap} (hp : Pick (b, .cells ty cs) H F) (hs : SubL cs cs') (h : LOps C n ops Q rest e ((b, .cells ty cs') :: F)) : LOps C n ops Q rest e H := fun a w L hE hH =>
 wpList_mono (fun _ _ _ => lift_weak (pick_keys hp)) _ _ _ (h a w L hE (cells_sub hp hs hH))
end
section
variable {C : Ctx} {e : Env} {H : Heap} {dst : Option Nat} {ty : TypeId} {pos : String} {aft : Array Edge} {g : Option (Nat × Bool)} {x : Operand}
/-- A type assertion with two results that holds. -/
theorem Pure.assertOk {t xT : TypeId} [ht : TConcrete C.P t] {vs : List Value} (hx : e.ev x = .atom (.iface t (.agg vs.toArray))) : Pure C ⟨dst, .typeAssert x xT t true, ty, pos, aft, g⟩ e H (.tuple [.agg (vs.map .atom), bool true]) :=
 .of_any fun ρ w L h => ⟨.tuple #[.agg vs.toArray, .bool true], by
  simp only [Rep]
  exact ⟨[.agg vs.toArray, .bool true], rfl, by simp only [RepL, Rep]; exact ⟨_, _, rfl, ⟨vs, rfl, repL_atoms vs⟩, _, _, rfl, rfl, rfl⟩⟩, fun w' => by
  obtain ⟨d, hd, hm⟩ := ht.out
  have h3 : execOp ρ ⟨dst, .typeAssert x xT t true, ty, pos, aft, g⟩ = (do Pure.pure (.value (← Instr.typeAssert (ρ x) xT t true))) := rfl
  rw [h3, atom_of h hx]
  simp only [Instr.typeAssert, Sem.run_bind, run_underlying' hd, Result.andThen_ok]
  cases d <;> simp_all⟩
end
theorem LLate.three {C : Ctx} {n : Nat} {ops : Array Oper} {Q : Post} {HF : Heap} {fuel : Nat} {listed : Array Bool} {e : Env} {H : Heap} {i j k : Nat} (hr : Region.ready .any ops listed = [i, j, k]) (h1 : LLateOp C n ops Q HF fuel listed e H i) (h2 : LLateOp C n ops Q HF fuel listed e H j) (h3 : LLateOp C n ops Q HF fuel listed e H k) : LLate C n ops Q HF (fuel + 1) listed e H :=
 LLate.all hr (by simp) fun q hq => by
  simp only [List.mem_cons, List.not_mem_nil, or_false] at hq
  rcases hq with rfl | rfl | rfl
  ·exact h1
  ·exact h2
  ·exact h3
theorem not_t {b : Bool} (h : (!b) = true) : b = false := by cases b <;> simp_all
theorem not_f {b : Bool} (h : (!b) = false) : b = true := by cases b <;> simp_all
theorem strs_len (l : List (List UInt8)) : ∀ v ∈ l.map str, v.cells.length = 1 := fun v hv => by
 obtain ⟨x, _, rfl⟩ := List.mem_map.1 hv
 rfl
theorem strs_ok : ∀ l : List (List UInt8), ((l.map str).flatMap LV.cells).all cellOk = true
 | [] => rfl
 | x :: l => by
  rw [List.map_cons, List.flatMap_cons, List.all_append, strs_ok l]
  rfl
end Go.GL
/- A small logic over the walk's 'Code.wp': structs of a string and an int, compared. -/
namespace Go.GL
open Go.RowKit
/-- The type is a struct of a string and an int. -/
class TPair (P : Program) (t : TypeId) : Prop where
 out : ∃ (fs : Array Field) (f0 f1 : Field), P.underlying t = some (.struct fs) ∧ fs.toList = [f0, f1] ∧ f0.offset = 0 ∧ f1.offset = 1 ∧ (f0.name != "_") = true ∧ (f1.name != "_") = true ∧ P.underlying f0.type = some .string ∧ P.underlying f1.type = some (.int .i64) ∧
  P.cellsOf t = 2 ∧ P.cellsOf f0.type = 1 ∧ P.cellsOf f1.type = 1
 key : P.keyTypeAt 2 t = true
 guard : P.eqGuardType P.depth t = false
def chkStrT (P : Program) (t : TypeId) : Bool := match P.underlying t with | some .string => true | _ => false
def chkI64T (P : Program) (t : TypeId) : Bool := match P.underlying t with | some (.int .i64) => true | _ => false
def chkPair (P : Program) (t : Nat) : Bool := match P.underlying t with
 | some (.struct fs) => (match fs.toList with
  | [f0, f1] => Nat.beq f0.offset 0 && Nat.beq f1.offset 1 && (f0.name != "_") && (f1.name != "_") && chkStrT P f0.type && chkI64T P f1.type && Nat.beq (P.cellsOf t) 2 && Nat.beq (P.cellsOf f0.type) 1 && Nat.beq (P.cellsOf f1.type) 1
  | _ => false)
 | _ => false
theorem TPair.of {P : Program} {t : Nat} (h : chkPair P t = true) (hk : P.keyTypeAt 2 t = true) (hg : P.eqGuardType P.depth t = false) : TPair P t := by
 refine ⟨?_, hk, hg⟩
 unfold chkPair at h
 split at h
 ·rename_i fs hu
  split at h
  ·rename_i f0 f1 hf
   simp only [Bool.and_eq_true] at h
   obtain ⟨⟨⟨⟨⟨⟨⟨⟨h1, h2⟩, h3⟩, h4⟩, h5⟩, h6⟩, h7⟩, h8⟩, h9⟩ := h
   refine ⟨fs, f0, f1, hu, hf, Nat.eq_of_beq_eq_true h1, Nat.eq_of_beq_eq_true h2, h3, h4, ?_, ?_, Nat.eq_of_beq_eq_true h7, Nat.eq_of_beq_eq_true h8, Nat.eq_of_beq_eq_true h9⟩
   ·unfold chkStrT at h5
    split at h5
    ·assumption
    ·cases h5
   ·unfold chkI64T at h6
    split at h6
    ·assumption
    ·cases h6
  ·cases h
 ·cases h
theorem pair_lits {P : Program} {t : TypeId} [ht : TPair P t] (a : List UInt8) (n : Int) (ha : a.length ≤ 1000000000) (hn : -9223372036854775808 ≤ n ∧ n ≤ 9223372036854775807) :
  P.keyLits 2 t [.string ⟨a.toArray⟩, .int .i64 n] = some [.string a, .int .i64 n] := by
 obtain ⟨fs, f0, f1, hu, hf, h1, h2, h3, h4, h5, h6, h7, h8, h9⟩ := ht.out
 have hall : fs.all (·.name != "_") = true := by
  rw [← Array.all_toList, hf]
  simp only [List.all_cons, List.all_nil, h3, h4, Bool.and_true]
 have hsz : (ByteArray.mk a.toArray).size ≤ maxLen := by
  rw [size_mk]
  unfold maxLen
  omega
 have hwf : (Lit.int .i64 n).wf = true := by
  simp only [Lit.wf, IntKind.min, IntKind.max, IntKind.signed, IntKind.bits]
  simp
  omega
 simp only [Program.keyLits, hu, h7, hall, hf, List.mapM_cons, List.mapM_nil, h1, h2, h8, h9, h5, h6]
 simp [hsz, hwf]
theorem equal_step2 (t : TypeId) (x y : Value) : Op.equal t x y = Op.equalIn (9998 + 2) t x y := rfl
theorem pair_equal {P : Program} {t : TypeId} [ht : TPair P t] {a b : List UInt8} {n m : Int} (ha : a.length ≤ 1000000000) (hb : b.length ≤ 1000000000) (hn : -9223372036854775808 ≤ n ∧ n ≤ 9223372036854775807) (hm : -9223372036854775808 ≤ m ∧ m ≤ 9223372036854775807) (w : World) :
  (Op.equal t (.agg #[.string ⟨a.toArray⟩, .int .i64 n]) (.agg #[.string ⟨b.toArray⟩, .int .i64 m])).run P w = .ok (decide (a = b) && decide (n = m)) w := by
 have hout := ht.out
 obtain ⟨fs, f0, f1, hu, hf, h1, h2, h3, h4, h5, h6, h7, h8, h9⟩ := hout
 have hfm : ∀ x y : Value, (Value.agg #[x, y]).formed P t = true := fun x y => by
  simp only [Value.formed, hu, h7]
  rfl
 obtain ⟨r, hr, hiff⟩ := run_equalIn_deep (P := P) 9998 2 t ht.key w 2 2 (.agg #[.string ⟨a.toArray⟩, .int .i64 n]) (.agg #[.string ⟨b.toArray⟩, .int .i64 m]) _ _ (hfm _ _) (hfm _ _) (pair_lits a n ha hn) (pair_lits b m hb hm)
 rw [equal_step2, hr]
 congr 1
 rw [Bool.eq_iff_iff, hiff]
 simp
theorem binOp_neq_agg (t : TypeId) (xs ys : Array Value) : binOp .neq t (.agg xs) (.agg ys) = (do Pure.pure (.bool (!(← Op.equal t (.agg xs) (.agg ys))))) := rfl
theorem guard_abs {P : Program} (bf : Program → Program → Bool) (rest : Sem Unit) (w : World) (h : bf P P = false) : (do let a ← program; let b ← program; if (!bf a b) = true then Pure.pure () else rest : Sem Unit).run P w = .ok () w := by
 have h0 : (program).run P w = .ok P w := rfl
 simp only [Sem.run_bind, h0, Result.andThen_ok, h, Bool.not_false, if_true, Sem.run_pure]
theorem eqGuard_agg {P : Program} {t : TypeId} (hg : P.eqGuardType P.depth t = false) (x y : Operand) (xs ys : Array Value) (w : World) : (eqGuard .neq t x y (.agg xs) (.agg ys)).run P w = .ok () w := by
 unfold eqGuard
 generalize Op.eqGuardIn Op.maxDepth t (.agg xs) (.agg ys) = q
 exact guard_abs (fun a b => a.eqGuardType b.depth t) _ w hg
theorem exec_neq_agg {P : Program} {t : TypeId} (hg : P.eqGuardType P.depth t = false) {ρ : Operand → Value} {x y : Operand} {dst : Option Nat} {ty yT : TypeId} {pos : String} {aft : Array Edge} {g : Option (Nat × Bool)} {xs ys : Array Value} (hx : ρ x = .agg xs) (hy : ρ y = .agg ys) {r : Bool} {w : World}
  (h : (Op.equal t (.agg xs) (.agg ys)).run P w = .ok r w) : (execOp ρ ⟨dst, .binOp .neq t x y yT, ty, pos, aft, g⟩).run P w = .ok (.value (.bool (!r))) w := by
 have h3 : execOp ρ ⟨dst, .binOp .neq t x y yT, ty, pos, aft, g⟩ = (do Pure.pure (.value (← (do eqGuard .neq t x y (ρ x) (ρ y); binOp .neq t (ρ x) (ρ y))))) := rfl
 rw [h3, hx, hy, binOp_neq_agg]
 simp only [Sem.run_bind, eqGuard_agg hg, Result.andThen_ok, h, Sem.run_pure]
section
variable {C : Ctx} {e : Env} {H : Heap} {dst : Option Nat} {ty : TypeId} {pos : String} {aft : Array Edge} {g : Option (Nat × Bool)} {xT yT : TypeId} {x y : Operand}
theorem Pure.pairNeq [ht : TPair C.P xT] {a b : List UInt8} {n m : Int} (hx : e.ev x = .agg [str a, int .i64 n]) (hy : e.ev y = .agg [str b, int .i64 m]) (ha : a.length ≤ 1000000000) (hb : b.length ≤ 1000000000) (hn : -9223372036854775808 ≤ n ∧ n ≤ 9223372036854775807) (hm : -9223372036854775808 ≤ m ∧ m ≤ 9223372036854775807) :
  Pure C ⟨dst, .binOp .neq xT x y yT, ty, pos, aft, g⟩ e H (bool (!(decide (a = b) && decide (n = m)))) :=
 .of_any fun ρ w L h => ⟨_, rep_atom, fun w' => by
  have h1 := h x
  have h2 := h y
  rw [hx] at h1
  rw [hy] at h2
  simp only [Rep] at h1 h2
  obtain ⟨xs, h1, r1⟩ := h1
  obtain ⟨ys, h2, r2⟩ := h2
  have e1 := RepL.atoms (vs := [.string ⟨a.toArray⟩, .int .i64 n]) r1
  have e2 := RepL.atoms (vs := [.string ⟨b.toArray⟩, .int .i64 m]) r2
  rw [e1] at h1
  rw [e2] at h2
  exact exec_neq_agg ht.guard h1 h2 (pair_equal (P := C.P) (t := xT) ha hb hn hm w')⟩
end
end Go.GL
namespace Go.Proofs.YtfodkbchknknjaaGreatDoor
open Go.GL Go.RowKit Go.Stele
set_option maxRecDepth 100000
set_option maxHeartbeats 4000000
theorem encArgs_eq (e : Ex) : encArgs e = (exArgs e).map encE := by
 obtain ⟨o, n, nm, a⟩ := e
 exact encArgs_map o n nm a
theorem encThen_eq (s : Sm) : encThen s = (smThen s).map encS := by
 obtain ⟨k, n, i, v, t, e⟩ := s
 rw [encThen, encSs_map]
 rfl
theorem encElse_eq (s : Sm) : encElse s = (smElse s).map encS := by
 obtain ⟨k, n, i, v, t, e⟩ := s
 rw [encElse, encSs_map]
 rfl
/-- The trees are not too wide anywhere. -/
theorem ret_any {C : Ctx} {f : FuncId} {args : List LV} {v : Value} (h : LCalls C f args [] (Ret (.atom v))) : LCalls C f args [] (fun r _ => r = .ret (.atom v)) := LCalls.mono h fun _ _ h => h.1
attribute [local irreducible] LOps LCode LStep LCalls Go.GL.Pure QThen QBlock RetPost LQ LAny LLate LLateOp
section
variable {B0 : Nat} {w0 : World}
theorem sameNames_spec (a b : List (List UInt8)) (ha : a.length ≤ 4611686018427387904) : LCalls (KC B0 w0) 39 [.list (a.map str), .list (b.map str)] [] (Ret (bool (eqNames a b))) := by
 have hla : (a.map str).length = a.length := List.length_map _
 have hlb : (b.map str).length = b.length := List.length_map _
 refine LCalls.intro Tryz.func39 rfl (n := 26) rfl rfl rfl ?_
 repeat first | refine LOps.nil ?_ | refine LCode.seq ?_ | refine LCode.region ?_ | refine QThen.normal ?_ | refine LOps.pure (Pure.as (lv := .atom _) rfl) rfl ?_ | refine LOps.pure (Pure.mv (lv := .list _) rfl) rfl ?_ | refine LOps.pure (Pure.llen rfl) rfl ?_ | refine LOps.pure (Pure.neq rfl rfl) rfl ?_
 refine LCode.cond rfl (fun hc => ?_) (fun hc => ?_)
 ·have hne : a.length ≠ b.length := by
   have : ¬ ((a.map str).length : Int) = (b.map str).length := by simpa using hc
   omega
  repeat first | refine LOps.nil ?_ | refine LCode.seq ?_ | refine LCode.region ?_ | refine LCode.ret ?_ | refine QThen.normal ?_ | refine QThen.ret ?_ | refine LOps.pure (Pure.as (lv := .atom _) rfl) rfl ?_
  exact retRet rfl (AllRes.cons (ResIs.tmp (v := .atom _) rfl (LV.Sub.refl _)) AllRes.nil) (bool_eq (eqList_len a b hne).symm)
 ·have hle : a.length = b.length := by
   have : ((a.map str).length : Int) = (b.map str).length := by simpa using hc
   omega
  repeat first | refine LOps.nil ?_ | refine LCode.seq ?_ | refine LCode.region ?_ | refine LCode.skip ?_ | refine LCode.block ?_ | refine QThen.normal ?_ | refine LOps.pure (Pure.as (lv := .atom _) rfl) rfl ?_
  refine LCode.loopI (fun k ls H => ∃ i, k = a.length - i ∧ i ≤ a.length ∧ ls = [(0, .list (a.map str)), (1, .list (b.map str)), (5, int .i64 i)] ∧ H = [] ∧ eqNames a b = eqList (fun a b => decide (a = b)) (a.drop i) (b.drop i))
   ⟨_, _, _, ⟨0, rfl, Nat.zero_le _, rfl, rfl, rfl⟩, ⟨rfl, rfl, rfl, trivial⟩, HSub.refl _⟩ ?_
  rintro k ls H ⟨i, rfl, hi, rfl, rfl, hE⟩ j hj
  repeat first | refine LOps.nil ?_ | refine LCode.seq ?_ | refine LCode.region ?_ | refine QThen.normal ?_ | refine LOps.pure (Pure.mv (lv := .list _) rfl) rfl ?_ | refine LOps.pure (Pure.mv (lv := .atom _) rfl) rfl ?_ | refine LOps.pure (Pure.llen rfl) rfl ?_ | refine LOps.pure (Pure.lss rfl rfl) rfl ?_
  refine LCode.cond rfl (fun hc => ?_) (fun hc => ?_)
  ·have hlt : i < a.length := by have := of_decide_eq_true hc; omega
   have hlt2 : i < b.length := by omega
   repeat first | refine LCode.seq ?_ | refine LCode.skip ?_ | refine LCode.block ?_ | refine QThen.normal ?_
   refine LCode.cut [(0, .list (a.map str)), (1, .list (b.map str)), (5, int .i64 i), (25, bool (!decide (a[i] = b[i])))] ?_ (fun j2 hj2 => ?_)
   ·refine LCode.quiet (by kernel_rfl) ?_
    repeat first | refine LQ.pure (Pure.mv (lv := .list _) rfl) rfl ?_ | refine LQ.pure (Pure.mv (lv := .atom _) rfl) rfl ?_
    refine LQ.pure (Pure.ixRef (el' := str a[i]) (cs := [_]) rfl rfl (by omega) (map_get _ _ _ hlt) rfl rfl) rfl ?_
    repeat first | refine LQ.pure (Pure.mv (lv := .list _) rfl) rfl ?_ | refine LQ.pure (Pure.mv (lv := .atom _) rfl) rfl ?_ | refine LQ.pure (Pure.loadRef (c := .atom _) rfl rfl) rfl ?_
    refine LQ.pure (Pure.ixRef (el' := str b[i]) (cs := [_]) rfl rfl (by omega) (map_get _ _ _ hlt2) rfl rfl) rfl ?_
    repeat first | refine LQ.pure (Pure.loadRef (c := .atom _) rfl rfl) rfl ?_ | refine LQ.pure (Pure.sneq rfl rfl) rfl ?_ | refine LQ.nil ?_ | refine QThen.normal ?_
    exact ⟨⟨rfl, rfl, rfl, rfl, trivial⟩, rfl, rfl⟩
   ·rw [eqList_drop hlt hlt2] at hE
    refine LCode.cond rfl (fun hd => ?_) (fun hd => ?_)
    ·have hd' : decide (a[i] = b[i]) = false := by simpa using hd
     repeat first | refine LOps.nil ?_ | refine LCode.seq ?_ | refine LCode.region ?_ | refine LCode.ret ?_ | refine QThen.normal ?_ | refine QThen.ret ?_ | refine QBlock.ret ?_ | refine LOps.pure (Pure.as (lv := .atom _) rfl) rfl ?_
     exact retRet (hj2.trans hj) (AllRes.cons (ResIs.tmp (v := .atom _) rfl (LV.Sub.refl _)) AllRes.nil) (bool_eq (by rw [hE, hd', Bool.false_and]))
    ·have hd' : decide (a[i] = b[i]) = true := by simpa using hd
     rw [hd', Bool.true_and] at hE
     repeat first | refine LOps.nil ?_ | refine LCode.region ?_ | refine LCode.skip ?_ | refine QThen.normal ?_ | refine QBlock.normal ?_ | refine LOps.pure (Pure.as (lv := .atom _) rfl) rfl ?_ | refine LOps.pure (Pure.mv (lv := .atom _) rfl) rfl ?_ | refine LOps.pure (Pure.add rfl rfl (by omega)) rfl ?_
     exact ⟨_, _, _, by omega, ⟨i + 1, rfl, by omega, rfl, rfl, hE⟩, ⟨rfl, rfl, int_eq (by omega), trivial⟩, HSub.refl _, hj2.trans hj⟩
  ·have hge : a.length ≤ i := by have := of_decide_eq_false hc; omega
   rw [eqList_end hge (by omega)] at hE
   repeat first | refine LOps.nil ?_ | refine LCode.seq ?_ | refine LCode.region ?_ | refine LCode.ret ?_ | refine LCode.exit ?_ | refine QThen.normal ?_ | refine QThen.exit ?_ | refine QBlock.hit ?_ | refine LOps.pure (Pure.as (lv := .atom _) rfl) rfl ?_
   exact retRet hj (AllRes.cons (ResIs.tmp (v := .atom _) rfl (LV.Sub.refl _)) AllRes.nil) (bool_eq hE.symm)
theorem sameExprs_spec : ∀ (n : Nat) (a b : List Ex), nExs a ≤ n → n ≤ 4611686018427387904 → LCalls (KC B0 w0) 68 [.list (a.map encE), .list (b.map encE)] [] (Ret (bool (eqExs a b))) := by
 intro n
 induction n using Nat.strongRecOn with
 | _ n ih =>
 intro a b hn hb
 have ha := nExs_len a
 have hla : (a.map encE).length = a.length := List.length_map _
 have hlb : (b.map encE).length = b.length := List.length_map _
 rw [eqExs_list]
 refine LCalls.intro Tryz.func68 rfl (n := 68) rfl rfl rfl ?_
 repeat first | refine LOps.nil ?_ | refine LCode.seq ?_ | refine LCode.region ?_ | refine QThen.normal ?_ | refine LOps.pure (Pure.as (lv := .atom _) rfl) rfl ?_ | refine LOps.pure (Pure.mv (lv := .list _) rfl) rfl ?_ | refine LOps.pure (Pure.llen rfl) rfl ?_ | refine LOps.pure (Pure.neq rfl rfl) rfl ?_
 refine LCode.cond rfl (fun hc => ?_) (fun hc => ?_)
 ·have hne : a.length ≠ b.length := by
   have : ¬ ((a.map encE).length : Int) = (b.map encE).length := by simpa using hc
   omega
  repeat first | refine LOps.nil ?_ | refine LCode.seq ?_ | refine LCode.region ?_ | refine LCode.ret ?_ | refine QThen.normal ?_ | refine QThen.ret ?_ | refine LOps.pure (Pure.as (lv := .atom _) rfl) rfl ?_
  exact retRet rfl (AllRes.cons (ResIs.tmp (v := .atom _) rfl (LV.Sub.refl _)) AllRes.nil) (bool_eq (eqList_len a b hne).symm)
 ·have hle : a.length = b.length := by
   have : ((a.map encE).length : Int) = (b.map encE).length := by simpa using hc
   omega
  repeat first | refine LOps.nil ?_ | refine LCode.seq ?_ | refine LCode.region ?_ | refine LCode.skip ?_ | refine LCode.block ?_ | refine QThen.normal ?_ | refine LOps.pure (Pure.as (lv := .atom _) rfl) rfl ?_
  refine LCode.loopI (fun k ls H => ∃ i, k = a.length - i ∧ i ≤ a.length ∧ ls = [(0, .list (a.map encE)), (1, .list (b.map encE)), (5, int .i64 i)] ∧ H = [] ∧ eqList eqEx a b = eqList eqEx (a.drop i) (b.drop i))
   ⟨_, _, _, ⟨0, rfl, Nat.zero_le _, rfl, rfl, rfl⟩, ⟨rfl, rfl, rfl, trivial⟩, HSub.refl _⟩ ?_
  rintro k ls H ⟨i, rfl, hi, rfl, rfl, hE⟩ j hj
  repeat first | refine LOps.nil ?_ | refine LCode.seq ?_ | refine LCode.region ?_ | refine QThen.normal ?_ | refine LOps.pure (Pure.mv (lv := .list _) rfl) rfl ?_ | refine LOps.pure (Pure.mv (lv := .atom _) rfl) rfl ?_ | refine LOps.pure (Pure.llen rfl) rfl ?_ | refine LOps.pure (Pure.lss rfl rfl) rfl ?_
  refine LCode.cond rfl (fun hc => ?_) (fun hc => ?_)
  ·have hlt : i < a.length := by have := of_decide_eq_true hc; omega
   have hlt2 : i < b.length := by omega
   have hna : nExs (exArgs a[i]) < n := by
    have h1 := nExs_mem (List.getElem_mem hlt)
    have h2 := nEx_eq a[i]
    omega
   repeat first | refine LCode.seq ?_ | refine LCode.skip ?_ | refine LCode.block ?_ | refine QThen.normal ?_
   have hpt := eqEx_parts a[i] b[i]
   refine LCode.cut [(0, .list (a.map encE)), (1, .list (b.map encE)), (5, int .i64 i), (67, bool (!eqEx a[i] b[i]))] ?_ (fun j2 hj2 => ?_)
   ·refine LCode.quiet (by kernel_rfl) ?_
    repeat first | refine LQ.pure (Pure.mv (lv := .list _) rfl) rfl ?_ | refine LQ.pure (Pure.mv (lv := .atom _) rfl) rfl ?_
    refine LQ.pure (Pure.ixRef (el' := encE a[i]) (cs := [_, _, _, _]) rfl rfl (by omega) (map_get _ _ _ hlt) rfl rfl) rfl ?_
    repeat first | refine LQ.pure (Pure.mv (lv := .list _) rfl) rfl ?_ | refine LQ.pure (Pure.mv (lv := .atom _) rfl) rfl ?_ | refine LQ.pure (Pure.field1 rfl rfl) rfl ?_ | refine LQ.pure (Pure.loadRef (c := .atom _) rfl rfl) rfl ?_
    refine LQ.pure (Pure.ixRef (el' := encE b[i]) (cs := [_, _, _, _]) rfl rfl (by omega) (map_get _ _ _ hlt2) rfl rfl) rfl ?_
    repeat first | refine LQ.pure (Pure.mv (lv := .atom _) rfl) rfl ?_ | refine LQ.pure (Pure.field1 rfl rfl) rfl ?_ | refine LQ.pure (Pure.loadRef (c := .atom _) rfl rfl) rfl ?_ | refine LQ.pure (Pure.sneq rfl rfl) rfl ?_
    refine LQ.bcase 28 rfl (fun h1 => ?_) (fun h1 => ?_)
    ·repeat first | refine LQ.pure (Pure.mv (lv := .atom _) rfl) rfl ?_ | refine LQ.pure (Pure.pickT (lv := .atom _) rfl rfl) rfl ?_ | refine LQ.skip rfl rfl rfl rfl ?_ | refine LQ.nil ?_ | refine QThen.normal ?_
     exact ⟨⟨rfl, rfl, rfl, bool_eq (by rw [hpt, not_t h1]; rfl), trivial⟩, rfl, rfl⟩
    ·have h1' := not_f h1
     rw [h1', Bool.true_and] at hpt
     repeat first | refine LQ.pure (Pure.mv (lv := .list _) rfl) rfl ?_ | refine LQ.pure (Pure.mv (lv := .atom _) rfl) rfl ?_ | refine LQ.want rfl rfl ?_
     refine LQ.pure (Pure.ixRef (el' := encE a[i]) (cs := [_, _, _, _]) rfl rfl (by omega) (map_get _ _ _ hlt) rfl rfl) rfl ?_
     repeat first | refine LQ.pure (Pure.mv (lv := .list _) rfl) rfl ?_ | refine LQ.pure (Pure.mv (lv := .atom _) rfl) rfl ?_ | refine LQ.pure (Pure.field1 rfl rfl) rfl ?_ | refine LQ.pure (Pure.loadRef (c := .atom _) rfl rfl) rfl ?_ | refine LQ.want rfl rfl ?_
     refine LQ.pure (Pure.ixRef (el' := encE b[i]) (cs := [_, _, _, _]) rfl rfl (by omega) (map_get _ _ _ hlt2) rfl rfl) rfl ?_
     repeat first | refine LQ.pure (Pure.mv (lv := .atom _) rfl) rfl ?_ | refine LQ.pure (Pure.neq rfl rfl) rfl ?_ | refine LQ.pure (Pure.field1 rfl rfl) rfl ?_ | refine LQ.pure (Pure.loadRef (c := .atom _) rfl rfl) rfl ?_ | refine LQ.pure (Pure.pickF (lv := .atom _) rfl rfl) rfl ?_ | refine LQ.want rfl rfl ?_
     refine LQ.bcase 41 rfl (fun h2 => ?_) (fun h2 => ?_)
     ·repeat first | refine LQ.pure (Pure.mv (lv := .atom _) rfl) rfl ?_ | refine LQ.pure (Pure.pickT (lv := .atom _) rfl rfl) rfl ?_ | refine LQ.skip rfl rfl rfl rfl ?_ | refine LQ.nil ?_ | refine QThen.normal ?_
      exact ⟨⟨rfl, rfl, rfl, bool_eq (by rw [hpt, not_t h2]; rfl), trivial⟩, rfl, rfl⟩
     ·have h2' := not_f h2
      rw [h2', Bool.true_and] at hpt
      repeat first | refine LQ.pure (Pure.mv (lv := .list _) rfl) rfl ?_ | refine LQ.pure (Pure.mv (lv := .atom _) rfl) rfl ?_ | refine LQ.want rfl rfl ?_
      refine LQ.pure (Pure.ixRef (el' := encE a[i]) (cs := [_, _, _, _]) rfl rfl (by omega) (map_get _ _ _ hlt) rfl rfl) rfl ?_
      repeat first | refine LQ.pure (Pure.mv (lv := .list _) rfl) rfl ?_ | refine LQ.pure (Pure.mv (lv := .atom _) rfl) rfl ?_ | refine LQ.pure (Pure.field1 rfl rfl) rfl ?_ | refine LQ.pure (Pure.loadRef (c := .atom _) rfl rfl) rfl ?_ | refine LQ.want rfl rfl ?_
      refine LQ.pure (Pure.ixRef (el' := encE b[i]) (cs := [_, _, _, _]) rfl rfl (by omega) (map_get _ _ _ hlt2) rfl rfl) rfl ?_
      repeat first | refine LQ.pure (Pure.mv (lv := .atom _) rfl) rfl ?_ | refine LQ.pure (Pure.field1 rfl rfl) rfl ?_ | refine LQ.pure (Pure.loadRef (c := .atom _) rfl rfl) rfl ?_ | refine LQ.pure (Pure.sneq rfl rfl) rfl ?_ | refine LQ.pure (Pure.pickF (lv := .atom _) rfl rfl) rfl ?_ | refine LQ.want rfl rfl ?_
      refine LQ.bcase 54 rfl (fun h3 => ?_) (fun h3 => ?_)
      ·repeat first | refine LQ.pure (Pure.pickT (lv := .atom _) rfl rfl) rfl ?_ | refine LQ.skip rfl rfl rfl rfl ?_ | refine LQ.nil ?_ | refine QThen.normal ?_
       exact ⟨⟨rfl, rfl, rfl, bool_eq (by rw [hpt, not_t h3]; rfl), trivial⟩, rfl, rfl⟩
      ·have h3' := not_f h3
       rw [h3', Bool.true_and] at hpt
       repeat first | refine LQ.pure (Pure.mv (lv := .list _) rfl) rfl ?_ | refine LQ.pure (Pure.mv (lv := .atom _) rfl) rfl ?_ | refine LQ.want rfl rfl ?_
       refine LQ.pure (Pure.ixRef (el' := encE a[i]) (cs := [_, _, _, _]) rfl rfl (by omega) (map_get _ _ _ hlt) rfl rfl) rfl ?_
       repeat first | refine LQ.pure (Pure.mv (lv := .list _) rfl) rfl ?_ | refine LQ.pure (Pure.mv (lv := .atom _) rfl) rfl ?_ | refine LQ.pure (Pure.field1 rfl rfl) rfl ?_ | refine LQ.pure (Pure.loadRef (c := .list _) rfl rfl) rfl ?_ | refine LQ.want rfl rfl ?_
       refine LQ.pure (Pure.ixRef (el' := encE b[i]) (cs := [_, _, _, _]) rfl rfl (by omega) (map_get _ _ _ hlt2) rfl rfl) rfl ?_
       repeat first | refine LQ.pure (Pure.field1 rfl rfl) rfl ?_ | refine LQ.pure (Pure.loadRef (c := .list _) rfl rfl) rfl ?_ | refine LQ.want rfl rfl ?_
       refine LQ.call (args := [_, _]) (v := .bool (eqExs (exArgs a[i]) (exArgs b[i]))) (ret_any (by
        have := ih _ hna (exArgs a[i]) (exArgs b[i]) (Nat.le_refl _) (by omega)
        rw [← encArgs_eq, ← encArgs_eq] at this
        exact this)) rfl ?_
       repeat first | refine LQ.pure (Pure.pickF (lv := .atom _) rfl rfl) rfl ?_ | refine LQ.pure (Pure.not rfl) rfl ?_ | refine LQ.want rfl rfl ?_ | refine LQ.nil ?_ | refine QThen.normal ?_
       exact ⟨⟨rfl, rfl, rfl, bool_eq (by rw [hpt]), trivial⟩, rfl, rfl⟩
   ·rw [eqList_drop hlt hlt2] at hE
    refine LCode.cond rfl (fun hd => ?_) (fun hd => ?_)
    ·have hd' : eqEx a[i] b[i] = false := by simpa using hd
     repeat first | refine LOps.nil ?_ | refine LCode.seq ?_ | refine LCode.region ?_ | refine LCode.ret ?_ | refine QThen.normal ?_ | refine QThen.ret ?_ | refine QBlock.ret ?_ | refine LOps.pure (Pure.as (lv := .atom _) rfl) rfl ?_
     exact retRet (hj2.trans hj) (AllRes.cons (ResIs.tmp (v := .atom _) rfl (LV.Sub.refl _)) AllRes.nil) (bool_eq (by rw [hE, hd', Bool.false_and]))
    ·have hd' : eqEx a[i] b[i] = true := by simpa using hd
     rw [hd', Bool.true_and] at hE
     repeat first | refine LOps.nil ?_ | refine LCode.region ?_ | refine LCode.skip ?_ | refine QThen.normal ?_ | refine QBlock.normal ?_ | refine LOps.pure (Pure.as (lv := .atom _) rfl) rfl ?_ | refine LOps.pure (Pure.mv (lv := .atom _) rfl) rfl ?_ | refine LOps.pure (Pure.add rfl rfl (by omega)) rfl ?_
     exact ⟨_, _, _, by omega, ⟨i + 1, rfl, by omega, rfl, rfl, hE⟩, ⟨rfl, rfl, int_eq (by omega), trivial⟩, HSub.refl _, hj2.trans hj⟩
  ·have hge : a.length ≤ i := by have := of_decide_eq_false hc; omega
   rw [eqList_end hge (by omega)] at hE
   repeat first | refine LOps.nil ?_ | refine LCode.seq ?_ | refine LCode.region ?_ | refine LCode.ret ?_ | refine LCode.exit ?_ | refine QThen.normal ?_ | refine QThen.exit ?_ | refine QBlock.hit ?_ | refine LOps.pure (Pure.as (lv := .atom _) rfl) rfl ?_
   exact retRet hj (AllRes.cons (ResIs.tmp (v := .atom _) rfl (LV.Sub.refl _)) AllRes.nil) (bool_eq hE.symm)
end
end Go.Proofs.YtfodkbchknknjaaGreatDoor
namespace Go.Stele
def strengthP (op : List UInt8) : Nat :=
 if (lvOps 0).contains op then 0 else if (lvOps 1).contains op then 1 else if (lvOps 2).contains op then 2 else if (lvOps 3).contains op then 3 else if (lvOps 4).contains op then 4 else if (lvOps 5).contains op then 5 else
  if op = nNeg ∨ op = nNot then 6 else 7
/-- An operator and a text. -/
abbrev OpT := List UInt8 × List UInt8
def opnd (x : OpT) (least : Nat) : List UInt8 := if strengthP x.1 < least then [40] ++ x.2 ++ [41] else x.2
def comSp : List UInt8 := [44, 32]
def leftLv (k : Nat) : Nat := if k = 2 then k + 1 else k
def fNode (op : List UInt8) (num : Nat) (name : List UInt8) (xs : List OpT) : List UInt8 :=
 if op = nNum then Go.Lib.decDigits num
 else if op = nVar then name
 else if op = nElem ∧ xs.length = 1 then name ++ [91] ++ (xs.headD ([], [])).2 ++ [93]
 else if op = nCall then name ++ [40] ++ Go.Lib.join (xs.map (·.2)) comSp ++ [41]
 else if op = nNeg ∧ xs.length = 1 then [45] ++ opnd (xs.headD ([], [])) (strengthP op)
 else if op = nNot ∧ xs.length = 1 then [33] ++ opnd (xs.headD ([], [])) (strengthP op)
 else if xs.length = 2 then opnd (xs.headD ([], [])) (leftLv (strengthP op)) ++ [32] ++ op ++ [32] ++ opnd (xs.tail.headD ([], [])) (strengthP op + 1)
 else []
mutual
def fE : Ex → List UInt8
 | .mk op num name args => fNode op num name (fEs args)
def fEs : List Ex → List OpT
 | [] => []
 | e :: r => (exOp e, fE e) :: fEs r
end
theorem fEs_map : ∀ l : List Ex, fEs l = l.map fun e => (exOp e, fE e)
 | [] => by simp [fEs]
 | e :: r => by rw [fEs, fEs_map r]; rfl
theorem fE_mk (op : List UInt8) (num : Nat) (name : List UInt8) (args : List Ex) : fE (.mk op num name args) = fNode op num name (args.map fun e => (exOp e, fE e)) := by rw [fE, fEs_map]
theorem strengthP_le (op : List UInt8) : strengthP op ≤ 7 := by
 unfold strengthP
 repeat (first | omega | split)
def fOne (l : List Ex) : List UInt8 := Go.Lib.join (l.map fE) comSp
def ind2 (ind : List UInt8) : List UInt8 := ind ++ [32, 32]
/-- One statement, given the texts of the two blocks in it. -/
def fLine (ind : List UInt8) (kind : Int) (name : List UInt8) (index value : List Ex) (t e : List UInt8) (noElse : Bool) : List UInt8 :=
 if kind = 1 then name ++ [32, 61, 32] ++ fOne value ++ [59, 10]
 else if kind = 2 then name ++ [91] ++ fOne index ++ [93, 32, 61, 32] ++ fOne value ++ [59, 10]
 else if kind = 6 then fOne value ++ [59, 10]
 else if kind = 5 then [114, 101, 116, 117, 114, 110, 32] ++ fOne value ++ [59, 10]
 else if kind = 7 then [104, 97, 108, 116, 59, 10]
 else if kind = 3 ∨ kind = 4 then
  (if kind = 4 then [119, 104, 105, 108, 101, 32] else [105, 102, 32]) ++ fOne value ++ [32, 123, 10] ++ t ++ (if noElse then [] else ind ++ [125, 32, 101, 108, 115, 101, 32, 123, 10] ++ e) ++ (ind ++ [125, 10])
 else []
mutual
def fS (ind : List UInt8) : Sm → List UInt8
 | .mk kind name index value thn els => ind ++ fLine ind kind name index value (fSs (ind2 ind) thn) (fSs (ind2 ind) els) els.isEmpty
def fSs (ind : List UInt8) : List Sm → List UInt8
 | [] => []
 | s :: r => fS ind s ++ fSs ind r
end
theorem fS_mk (ind : List UInt8) (kind : Int) (name : List UInt8) (index value : List Ex) (thn els : List Sm) : fS ind (.mk kind name index value thn els) = ind ++ fLine ind kind name index value (fSs (ind2 ind) thn) (fSs (ind2 ind) els) els.isEmpty := by rw [fS]
theorem fSs_append (ind : List UInt8) : ∀ a b : List Sm, fSs ind (a ++ b) = fSs ind a ++ fSs ind b
 | [], b => by simp [fSs]
 | s :: a, b => by
  rw [List.cons_append, fSs, fSs, fSs_append ind a b, List.append_assoc]
theorem fSs_take (ind : List UInt8) {l : List Sm} {i : Nat} (h : i < l.length) : fSs ind (l.take (i + 1)) = fSs ind (l.take i) ++ fS ind l[i] := by
 rw [List.take_succ_eq_append_getElem h, fSs_append, fSs, fSs, List.append_nil]
def varsT (l : List (List UInt8)) : List UInt8 := [118, 97, 114, 32] ++ Go.Lib.join l comSp ++ [59, 10]
def fAr (a : Ar) : List UInt8 := [97, 114, 114, 97, 121, 32] ++ a.name ++ [91] ++ Go.Lib.decDigits a.size ++ [93, 59, 10]
def fFn (f : FnD) : List UInt8 :=
 [102, 117, 110, 99, 32] ++ f.name ++ [40] ++ Go.Lib.join f.params comSp ++ [41, 32, 123, 10] ++ (if f.locals = [] then [] else [32, 32] ++ varsT f.locals) ++ fSs [32, 32] f.body ++ [125, 10]
/-- What Format computes. -/
def formatP (p : Pr) : List UInt8 :=
 (if p.vars = [] then [] else varsT p.vars) ++ (p.arrays.map fAr).flatten ++ (p.funcs.map fFn).flatten
end Go.Stele
namespace Go.Proofs.YtfodkbchknknjaaGreatDoor
open Go.GL Go.RowKit Go.Stele
set_option maxRecDepth 100000
set_option maxHeartbeats 4000000
def strUp (op : List UInt8) : Nat → Nat
 | 0 => if op = nNeg ∨ op = nNot then 6 else 7
 | k + 1 => if (lvOps (5 - k)).contains op then 5 - k else strUp op k
theorem levels_get (i : Nat) (h : i < 6) : levelsLV[i]? = some (lvLV i) := by
 match i, h with
 | 0, _ => rfl
 | 1, _ => rfl
 | 2, _ => rfl
 | 3, _ => rfl
 | 4, _ => rfl
 | 5, _ => rfl
theorem lvOps_len (i : Nat) : (lvOps i).length ≤ 6 := by
 match i with
 | 0 => decide
 | 1 => decide
 | 2 => decide
 | 3 => decide
 | 4 => decide
 | 5 => decide
 | n + 6 => exact Nat.zero_le _
theorem cells_rows {w : World} {L : Live} {b : Nat} : ∀ (k off : Nat) (ws : List (List UInt8)), RepRows w L b k off (ws.map str) → ∀ (j : Nat) x, (ws.map fun l => (⟨l.toArray⟩ : ByteArray))[j]? = some x → k = 1 ∧ w.cell? ⟨b, off + j, none⟩ = some (.string x)
 | k, off, [], _, j, x, h => by simp at h
 | k, off, s :: ws, h, 0, x, hx => by
  simp only [List.map_cons, RepRows] at h
  obtain ⟨⟨hk, _, y, hy, hr⟩, _⟩ := h
  simp only [Rep] at hr
  simp at hx
  rw [← hx, Nat.add_zero, hy, hr]
  exact ⟨hk.symm, rfl⟩
 | k, off, s :: ws, h, j + 1, x, hx => by
  simp only [List.map_cons, RepRows] at h
  obtain ⟨⟨hk, _⟩, h2⟩ := h
  have := cells_rows k (off + k) ws h2 j x (by simpa using hx)
  refine ⟨hk.symm, ?_⟩
  rw [← this.2, ← hk, Nat.add_assoc, Nat.add_comm 1 j]
section
variable {B0 : Nat} {w0 : World}
theorem joinS_spec (sep : List UInt8) (ws : List (List UInt8)) (hn : ws.length ≤ 1000000000) (hl : (Go.Lib.join ws sep).length ≤ 1000000000) : LCalls (KC B0 w0) 22 [.list (ws.map str), str sep] [] (Ret (str (Go.Lib.join ws sep))) := fun xs w L hv hH => by
 simp only [RepL] at hv
 obtain ⟨y, ys, rfl, hy, z, zs, rfl, hz, rfl⟩ := hv
 simp only [Rep] at hy hz
 obtain ⟨a, cap, rfl, hcap, hrows⟩ := hy
 subst hz
 rw [List.length_map] at hcap
 have hmap : (ws.map fun l => (⟨l.toArray⟩ : ByteArray)).map (·.data.toList) = ws := by
  rw [List.map_map]
  conv => rhs; rw [← List.map_id ws]
  rfl
 have hc : Calls Tryz.prog 22 #[.slice a ws.length cap, .string ⟨sep.toArray⟩] w fun e w' => e = .returned (.string ⟨(Go.Lib.join ws sep).toArray⟩) ∧ Below w.heap.size w w' := by
  by_cases hne : ws = []
  ·subst hne
   exact (Tryz.strings_Join_none a cap ⟨sep.toArray⟩ w).mono fun e w' he => ⟨by rw [he.1]; rfl, by rw [he.2]; exact Below.refl _ _⟩
  ·obtain ⟨b, off, k, rfl, hr⟩ := hrows (by simpa using hne)
   have hcells := fun j x hx => (cells_rows k off ws hr j x hx).2
   have hb : b < w.heap.size := by
    obtain ⟨s, r, rfl⟩ := List.exists_cons_of_ne_nil hne
    have := hcells 0 _ rfl
    exact World.block_lt_of_cell? _ _ this
   have := Tryz.strings_Join b off cap (ws.map fun l => (⟨l.toArray⟩ : ByteArray)) ⟨sep.toArray⟩ w hcells hb (by rw [List.length_map]; omega) (by rw [List.length_map]; exact hcap) (by rw [hmap]; show (Go.Lib.join ws sep).length ≤ _; omega)
   rw [List.length_map, hmap] at this
   exact this
 rw [List.length_map]
 refine hc.mono fun e w' he => ?_
 obtain ⟨rfl, hb⟩ := he
 obtain ⟨h1, h2⟩ := fr_below hH hb
 exact ⟨str (Go.Lib.join ws sep), [], L, h1, h2, rep_atom, rfl, rfl⟩
end
attribute [local irreducible] LOps LCode LStep LCalls Go.GL.Pure QThen QBlock RetPost LQ LAny LLate LLateOp
section
variable {B0 : Nat} {w0 : World}
theorem strength_spec (op : List UInt8) : LCalls (KC B0 w0) 141 [str op] [] (Ret (int .i64 (strengthP op))) := by
 refine LCalls.intro Tryz.func141 rfl (n := 30) rfl rfl rfl ?_
 repeat first | refine LOps.nil ?_ | refine LCode.seq ?_ | refine LCode.region ?_ | refine QThen.normal ?_ | refine LOps.pure (Pure.as (lv := .atom _) rfl) rfl ?_
 refine LOps.step (S.fn [] rfl levels_spec ?_) rfl
 repeat first | refine LOps.nil ?_ | refine LCode.seq ?_ | refine LCode.region ?_ | refine LCode.block ?_ | refine QThen.normal ?_ | refine LOps.pure (Pure.as (lv := .list _) rfl) rfl ?_ | refine LOps.pure (Pure.mv (lv := .list _) rfl) rfl ?_ | refine LOps.pure (Pure.mv (lv := .atom _) rfl) rfl ?_ | refine LOps.pure (Pure.llen rfl) rfl ?_
 refine LCode.loopI (fun k ls H => ∃ i, k = 6 - i ∧ i ≤ 6 ∧ ls = [(0, str op), (3, .list levelsLV), (7, .list levelsLV), (8, int .i64 6), (9, int .i64 i)] ∧ H = [] ∧ strengthP op = strUp op (6 - i))
  ⟨_, _, _, ⟨0, rfl, Nat.zero_le _, rfl, rfl, rfl⟩, ⟨rfl, rfl, rfl, rfl, rfl, trivial⟩, HSub.refl _⟩ ?_
 rintro k ls H ⟨i, rfl, hi, rfl, rfl, hE⟩ j hj
 repeat first | refine LOps.nil ?_ | refine LCode.seq ?_ | refine LCode.region ?_ | refine QThen.normal ?_ | refine LOps.pure (Pure.lss rfl rfl) rfl ?_
 refine LCode.cond rfl (fun hc => ?_) (fun hc => ?_)
 ·have hlt : i < 6 := by have := of_decide_eq_true hc; omega
  repeat first | refine LCode.seq ?_ | refine LCode.region ?_ | refine LCode.skip ?_ | refine LCode.block ?_ | refine QThen.normal ?_ | refine LOps.pure (Pure.mv (lv := .atom _) rfl) rfl ?_
  refine LOps.pure (Pure.ixRef (el' := lvLV i) (cs := [lvLV i]) rfl rfl (by omega) (levels_get i hlt) rfl rfl) rfl ?_
  repeat first | refine LOps.nil ?_ | refine LCode.seq ?_ | refine LCode.region ?_ | refine QThen.normal ?_ | refine LOps.pure (Pure.as (lv := .atom _) rfl) rfl ?_ | refine LOps.pure (Pure.as (lv := .list _) rfl) rfl ?_ | refine LOps.pure (Pure.mv (lv := .list _) rfl) rfl ?_ | refine LOps.pure (Pure.mv (lv := .atom _) rfl) rfl ?_ | refine LOps.pure (Pure.loadRef (c := .list _) rfl rfl) rfl ?_
  refine LOps.step (S.fn [_, _] rfl (Contains_spec (lvOps i) op (by have := lvOps_len i; omega)) ?_) rfl
  repeat first | refine LOps.nil ?_ | refine QThen.normal ?_
  obtain ⟨k, hk⟩ : ∃ k, 6 - i = k + 1 := ⟨5 - i, by omega⟩
  rw [hk, strUp] at hE
  have hk' : 5 - k = i := by omega
  rw [hk'] at hE
  refine LCode.cond rfl (fun hd => ?_) (fun hd => ?_)
  ·rw [if_pos hd] at hE
   repeat first | refine LOps.nil ?_ | refine LCode.seq ?_ | refine LCode.region ?_ | refine LCode.ret ?_ | refine QThen.normal ?_ | refine QThen.ret ?_ | refine QBlock.ret ?_ | refine LOps.pure (Pure.as (lv := .atom _) rfl) rfl ?_ | refine LOps.pure (Pure.mv (lv := .atom _) rfl) rfl ?_
   exact retRet hj (AllRes.cons (ResIs.tmp (v := .atom _) rfl (LV.Sub.refl _)) AllRes.nil) (int_eq (by omega))
  ·rw [if_neg (by rw [hd]; simp)] at hE
   repeat first | refine LOps.nil ?_ | refine LCode.region ?_ | refine LCode.skip ?_ | refine QThen.normal ?_ | refine QBlock.normal ?_ | refine LOps.pure (Pure.mv (lv := .atom _) rfl) rfl ?_ | refine LOps.pure (Pure.add rfl rfl (by omega)) rfl ?_
   exact ⟨_, _, _, by omega, ⟨i + 1, rfl, by omega, rfl, rfl, by rw [hE]; congr 1; omega⟩, ⟨rfl, rfl, rfl, rfl, int_eq (by omega), trivial⟩, HSub.refl _, hj⟩
 ·have hge : i = 6 := by have := of_decide_eq_false hc; omega
  subst hge
  have hE' : strengthP op = if op = nNeg ∨ op = nNot then 6 else 7 := hE
  have hll : levelsLV.length = 6 := rfl
  repeat first | refine LCode.seq ?_ | refine LCode.region ?_ | refine LCode.exit ?_ | refine QThen.normal ?_ | refine QThen.exit ?_ | refine QBlock.hit ?_ | refine LOps.pure (Pure.mv (lv := .atom _) rfl) rfl ?_ | refine LOps.pure (Pure.seq rfl rfl) rfl ?_
  refine LOps.bcase 21 rfl (fun h1 => ?_) (fun h1 => ?_)
  ·repeat first | refine LOps.nil ?_ | refine QThen.normal ?_ | refine LOps.pure (Pure.pickT (lv := .atom _) rfl rfl) rfl ?_ | refine LOps.skip rfl rfl rfl rfl ?_
   refine LCode.cond rfl (fun hd => ?_) (fun hd => ?_)
   ·repeat first | refine LOps.nil ?_ | refine LCode.seq ?_ | refine LCode.region ?_ | refine LCode.ret ?_ | refine QThen.normal ?_ | refine QThen.ret ?_ | refine LOps.pure (Pure.as (lv := .atom _) rfl) rfl ?_ | refine LOps.pure (Pure.mv (lv := .list _) rfl) rfl ?_ | refine LOps.pure (Pure.llen rfl) rfl ?_
    exact retRet hj (AllRes.cons (ResIs.tmp (v := .atom _) rfl (LV.Sub.refl _)) AllRes.nil) (int_eq (by rw [if_pos (show op = nNeg ∨ op = nNot from Or.inl (of_decide_eq_true h1))] at hE'; omega))
   ·cases hd
  ·repeat first | refine LOps.nil ?_ | refine QThen.normal ?_ | refine LOps.pure (Pure.mv (lv := .atom _) rfl) rfl ?_ | refine LOps.pure (Pure.seq rfl rfl) rfl ?_ | refine LOps.pure (Pure.pickF (lv := .atom _) rfl rfl) rfl ?_ | refine LOps.want rfl rfl ?_
   refine LCode.cond rfl (fun hd => ?_) (fun hd => ?_)
   ·repeat first | refine LOps.nil ?_ | refine LCode.seq ?_ | refine LCode.region ?_ | refine LCode.ret ?_ | refine QThen.normal ?_ | refine QThen.ret ?_ | refine LOps.pure (Pure.as (lv := .atom _) rfl) rfl ?_ | refine LOps.pure (Pure.mv (lv := .list _) rfl) rfl ?_ | refine LOps.pure (Pure.llen rfl) rfl ?_
    exact retRet hj (AllRes.cons (ResIs.tmp (v := .atom _) rfl (LV.Sub.refl _)) AllRes.nil) (int_eq (by rw [if_pos (show op = nNeg ∨ op = nNot from Or.inr (of_decide_eq_true hd))] at hE'; omega))
   ·repeat first | refine LOps.nil ?_ | refine LCode.seq ?_ | refine LCode.region ?_ | refine LCode.skip ?_ | refine LCode.ret ?_ | refine QThen.normal ?_ | refine LOps.pure (Pure.as (lv := .atom _) rfl) rfl ?_ | refine LOps.pure (Pure.mv (lv := .list _) rfl) rfl ?_ | refine LOps.pure (Pure.llen rfl) rfl ?_ | refine LOps.pure (Pure.add rfl rfl (by omega)) rfl ?_
    exact retRet hj (AllRes.cons (ResIs.tmp (v := .atom _) rfl (LV.Sub.refl _)) AllRes.nil) (int_eq (by rw [if_neg (fun h => h.elim (of_decide_eq_false h1) (of_decide_eq_false hd))] at hE'; omega))
end
end Go.Proofs.YtfodkbchknknjaaGreatDoor
