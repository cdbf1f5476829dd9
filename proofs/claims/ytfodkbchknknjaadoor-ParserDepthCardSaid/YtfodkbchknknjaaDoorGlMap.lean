/- A small logic over the walk's 'Code.wp': maps with flat keys and values, and ranges over them. -/
import Derived.Test.YtfodkbchknknjaaDoorGlAcc
set_option linter.unusedVariables false
set_option linter.unusedSimpArgs false
namespace Go.GL
open Go.RowKit
def noCells : Obj → Bool
  | .cells _ _ _ => false
  | _ => true
theorem shape_none {w : World} {b : Nat} {o : Obj} (h : w.heap[b]? = some o) (ho : noCells o = true) : w.shape? b = none := by
  simp only [World.shape?, h]
  cases o <;> simp_all [noCells]
section
variable {C : Ctx} {e : Env} {H : Heap} {dst : Option Nat} {ty : TypeId} {pos : String} {aft : Array Edge} {g : Option (Nat × Bool)} {K : LV → Heap → Prop} {X : List PanicEntry → Heap → Prop} {x y : Operand}
theorem left_newObj {w : World} {L : Live} (hH : RelH C w L []) {o : Obj} (ho : noCells o = true) {v : Value} (hk : K (.atom v) [(w.heap.size, .obj o)]) : Left C w L [] (World.push w o) v K := by
  have := fr_push hH o 0 [(w.heap.size, .obj o)] (fun p hp => by
    simp only [List.mem_singleton] at hp
    subst hp
    exact ⟨rfl, by simp [Live.upd], heap_push_self, shape_none heap_push_self ho⟩) (by simp)
  exact ⟨_, _, _, this.1, this.2, rep_atom, hk⟩
/-- The block of an object that is kept turns; draws may have come between. -/
theorem left_obj {w w' : World} {L : Live} {b : Nat} {o o' : Obj} (hH : RelH C w L [(b, .obj o)]) (ho' : noCells o' = true) (h1 : w'.os = w.os) (h2 : w'.tape = w.tape) (h3 : w'.output = w.output)
    (h4 : w'.heap.size = w.heap.size) (h5 : ∀ c, c ≠ b → w'.heap[c]? = w.heap[c]?) (h6 : w'.heap[b]? = some o') {v : Value} {lv : LV} (hv : ∀ L, Rep w' L lv v) (hk : K lv [(b, .obj o')]) : Left C w L [(b, .obj o)] w' v K := by
  obtain ⟨hb0, hbs, hl, hx1, hx2⟩ := hH.objs _ (List.mem_singleton.2 rfl)
  simp only at hb0 hbs hl hx1 hx2
  have hx : Ext w L w' L := by
    refine ⟨by rw [h4]; exact Nat.le_refl _, fun c hc => ?_, fun c i hi => ?_, fun _ => Nat.le_refl _⟩
    · by_cases he : c = b
      · subst he
        rw [hx2]
        exact shape_none h6 ho'
      · exact shape_of_heap (h5 c he)
    · by_cases he : c = b
      · subst he; rw [hl] at hi; omega
      · exact cell_of_heap (h5 c he) i
  refine ⟨lv, [(b, .obj o')], L, ⟨h1, h2, h3, hx, fun c hc hn => h5 c (by simpa using hn), fun _ _ _ => rfl, fun p hp => .inl (by simp only [List.mem_singleton] at hp; subst hp; simp)⟩,
    ⟨?_, hH.lbase, by rw [h4]; exact hH.b0, by rw [h4]; exact hH.wf, by simp, fun p hp => ?_⟩, hv L, hk⟩
  · exact hH.base.trans ⟨h1, h2, h3, by rw [h4]; exact Nat.le_refl _, fun c hc => h5 c (by omega)⟩
  · simp only [List.mem_singleton] at hp
    subst hp
    exact ⟨hb0, by rw [h4]; exact hbs, hl, h6, shape_none h6 ho'⟩
theorem S.makeMap {t : TypeId} (hk : ∀ b, K (.atom (.map (some b))) ((b, .obj (.map #[] 0)) :: H)) : LStep C ⟨dst, .makeMap t none, ty, pos, aft, g⟩ e H K X := by
  refine LStep.at0 fun ρ w L _ hH => ?_
  have h3 : execOp ρ ⟨dst, .makeMap t none, ty, pos, aft, g⟩ = (do Pure.pure (.value (← Instr.makeMap t none))) := rfl
  have h4 : (Instr.makeMap t none).run C.P w = .ok (.map (some w.heap.size)) (World.push w (.map #[] 0)) := rfl
  rw [h3, Sem.run_bind, h4]
  exact left_newObj hH rfl (hk _)
def setW (w : World) (b : Nat) (o : Obj) : World := { w with heap := w.heap.setIfInBounds b o }
theorem setW_other {w : World} {b c : Nat} {o : Obj} (h : c ≠ b) : (setW w b o).heap[c]? = w.heap[c]? := by
  simp only [setW, Array.getElem?_setIfInBounds]
  rw [if_neg (Ne.symm h)]
theorem setW_self {w : World} {b : Nat} {o : Obj} (h : b < w.heap.size) : (setW w b o).heap[b]? = some o := by
  simp only [setW, Array.getElem?_setIfInBounds]
  simp [h]
theorem run_setObj {P : Program} {w : World} {b : Nat} {o o' : Obj} (h : w.heap[b]? = some o) (ho : noCells o = true) : (setObj b o').run P w = .ok () (setW w b o') := by
  simp only [setObj, Sem.run, h]
  cases o <;> first | rfl | (simp [noCells] at ho)
theorem findNow_str (k : ByteArray) : ∀ (es : List MapEntry) (i : Nat), (∀ e ∈ es, ∃ s, e.key = .string s ∧ ¬ (k == s) = true) → Instr.findNow .string (.string k) es i = some none
  | [], _, _ => rfl
  | e :: es, i, h => by
    obtain ⟨s, hs, hne⟩ := h e List.mem_cons_self
    have hne' : (k == s) = false := by simpa using hne
    simp only [Instr.findNow, hs, Instr.sameNow, hne']
    exact findNow_str k es (i + 1) (fun e he => h e (List.mem_cons_of_mem _ he))
/-- A new key in a map whose keys are strings. -/
theorem S.insert {t kt el : TypeId} (ht : C.P.underlying t = some (.map kt el)) (hkt : C.P.underlying kt = some .string) {b clock : Nat} {es : Array MapEntry} {F : Heap} {m z : Operand} {k : ByteArray} {v : Value} (hm : e.ev m = .atom (.map (some b))) (hx : e.ev x = .atom (.string k)) (hz : e.ev z = .atom v)
    (hp : Pick (b, .obj (.map es clock)) H F) (hnew : ∀ e ∈ es.toList, ∃ s, e.key = .string s ∧ ¬ (k == s) = true) (hk : K (.atom undef) ((b, .obj (.map (es.push { key := .string k, val := v, born := clock }) (clock + 1))) :: F)) : LStep C ⟨dst, .insert t m x z, ty, pos, aft, g⟩ e H K X := by
  refine LStep.at1 hp fun ρ w L h hH => ?_
  obtain ⟨hb0, hbs, hl, hx1, hx2⟩ := hH.objs _ (List.mem_singleton.2 rfl)
  simp only at hb0 hbs hl hx1 hx2
  have h3 : execOp ρ ⟨dst, .insert t m x z, ty, pos, aft, g⟩ = (do Instr.mapUpdate t (ρ m) (ρ x) (ρ z); Pure.pure .skip) := rfl
  have hf : (Instr.findKey kt (.string k) es.toList).run C.P w = .ok none w := by
    simp only [Instr.findKey, Sem.run_bind, run_underlying' hkt, Result.andThen_ok, findNow_str k es.toList 0 hnew, Sem.run_pure]
  have hc : (Instr.checkKey false 10000 kt (.string k)).run C.P w = .ok () w := by
    have hck : Instr.checkKey false 10000 kt (.string k) = Instr.checkKey false (9999 + 1) kt (.string k) := rfl
    rw [hck, Instr.checkKey]
    simp only [Sem.run_bind, run_underlying' hkt, Result.andThen_ok, Sem.run_pure]
  have hg : (getObj b).run C.P w = .ok (.map es clock) w := by simp only [getObj, Sem.run, hx1]
  rw [h3, atom_of h hm, atom_of h hx, atom_of h hz]
  simp only [Instr.mapUpdate, Sem.run_bind, run_underlying' ht, Result.andThen_ok, hg, hc, hf]
  have hs : (setObj b (.map (es.push { key := .string k, val := v, born := clock }) (clock + 1))).run C.P w = .ok () (setW w b (.map (es.push { key := .string k, val := v, born := clock }) (clock + 1))) := run_setObj hx1 rfl
  rw [hs]
  exact left_obj (w' := setW w b (.map (es.push { key := .string k, val := v, born := clock }) (clock + 1))) hH rfl rfl rfl rfl (by simp [setW]) (fun c hc => setW_other hc) (setW_self hbs) (fun _ => rep_atom) hk
/-- The iterator over a map. -/
theorem S.range {t kt el : TypeId} (ht : C.P.underlying t = some (.map kt el)) {b clock : Nat} {es : Array MapEntry} (hx : e.ev x = .atom (.map (some b))) (hm : (b, .obj (.map es clock)) ∈ H)
    (hk : ∀ r, K (ptr r 0) ((r, .obj (.mapIter (some b) clock #[] clock)) :: H)) : LStep C ⟨dst, .range t x, ty, pos, aft, g⟩ e H K X := by
  obtain ⟨F, hF⟩ : ∃ F, H.Perm ((b, .obj (.map es clock)) :: F) := by
    obtain ⟨l1, l2, rfl⟩ := List.append_of_mem hm
    exact ⟨l1 ++ l2, List.perm_middle⟩
  have main : ∀ X, LStep C ⟨dst, .range t x, ty, pos, aft, g⟩ e [(b, .obj (.map es clock))] (fun lv H' => ∃ r, lv = ptr r 0 ∧ H' = [(r, .obj (.mapIter (some b) clock #[] clock)), (b, .obj (.map es clock))]) X := fun X ρ w L h hH => by
    obtain ⟨hb0, hbs, hl, hx1, hx2⟩ := hH.objs _ (List.mem_singleton.2 rfl)
    simp only at hb0 hbs hl hx1 hx2
    have h3 : execOp ρ ⟨dst, .range t x, ty, pos, aft, g⟩ = (do Pure.pure (.value (← Instr.range t (ρ x)))) := rfl
    have hg : (getObj b).run C.P w = .ok (.map es clock) w := by simp only [getObj, Sem.run, hx1]
    have hn : ∀ o, (newObj o).run C.P w = .ok w.heap.size (World.push w o) := fun _ => rfl
    rw [h3, atom_of h hx]
    simp only [Instr.range, Sem.run_bind, run_underlying' ht, Result.andThen_ok, hg, Sem.run_pure, hn]
    have := Left.frame (F := [(b, .obj (.map es clock))]) (K := fun lv H' => ∃ r, lv = ptr r 0 ∧ H' = [(r, .obj (.mapIter (some b) clock #[] clock)), (b, .obj (.map es clock))]) (v := .pointer (some ⟨w.heap.size, 0, none⟩)) (by simpa using hH) (left_newObj (w := w) (L := L) (hH.sub (List.nil_sublist _)) (o := .mapIter (some b) clock #[] clock) rfl ⟨w.heap.size, rfl, rfl⟩)
    show Left C w L _ _ _ _
    simpa using this
  refine LStep.conseq (LStep.frame (H := [(b, .obj (.map es clock))]) (F := F) hF (K := fun lv H' => ∃ r, lv = ptr r 0 ∧ H' = [(r, .obj (.mapIter (some b) clock #[] clock)), (b, .obj (.map es clock))] ++ F) ?_) ?_
  · exact LStep.conseq (main _) (fun lv H' ⟨r, h1, h2⟩ => ⟨lv, H', LV.Sub.refl _, HSub.refl _, r, h1, by rw [h2]⟩)
  · rintro lv H' ⟨r, rfl, rfl⟩
    exact ⟨ptr r 0, _, LV.Sub.refl _, ⟨[], by simpa using hF.symm⟩, hk r⟩
/-- The next entry of a map that has not turned since the range began: whichever is left, or none. -/
theorem S.next {r b since last clock : Nat} {seen : Array Nat} {es : Array MapEntry} {F : Heap} (hx : e.ev x = ptr r 0) (hp : H.Perm ((r, .obj (.mapIter (some b) since seen last)) :: (b, .obj (.map es clock)) :: F))
    (hold : ∀ e ∈ es.toList, e.born < since ∧ e.born < last)
    (hover : es.filter (fun e => !seen.contains e.born) = #[] → K (.tuple [bool false]) ((r, .obj (.mapIter (some b) since seen last)) :: (b, .obj (.map es clock)) :: F))
    (hstep : ∀ e ∈ (es.filter (fun e => !seen.contains e.born)).toList, K (.tuple [bool true, .atom e.key, .atom e.val]) ((r, .obj (.mapIter (some b) since (seen.push e.born) clock)) :: (b, .obj (.map es clock)) :: F)) :
    LStep C ⟨dst, .next x false, ty, pos, aft, g⟩ e H K X := by
  refine LStep.frame (H := [(r, .obj (.mapIter (some b) since seen last)), (b, .obj (.map es clock))]) (F := F) hp fun ρ w L h hH => ?_
  have hr := hH.objs (r, .obj (.mapIter (some b) since seen last)) (List.Mem.head _)
  have hb := hH.objs (b, .obj (.map es clock)) (List.Mem.tail _ (List.Mem.head _))
  obtain ⟨_, hrs, _, hr1, _⟩ := hr
  obtain ⟨_, hbs, _, hb1, _⟩ := hb
  simp only at hrs hr1 hbs hb1
  have h3 : execOp ρ ⟨dst, .next x false, ty, pos, aft, g⟩ = (do Pure.pure (.value (← Instr.next (ρ x) false ty))) := rfl
  have hg1 : (getObj r).run C.P w = .ok (.mapIter (some b) since seen last) w := by simp only [getObj, Sem.run, hr1]
  have hg2 : (getObj b).run C.P w = .ok (.map es clock) w := by simp only [getObj, Sem.run, hb1]
  have htest : (!seen.isEmpty && !es.isEmpty && es.all (fun e => decide (e.born ≥ last))) = false := by
    rw [Bool.eq_false_iff]
    intro hall
    simp only [Bool.and_eq_true] at hall
    obtain ⟨⟨_, h1⟩, h2⟩ := hall
    have hne : 0 < es.size := by
      rcases Nat.eq_zero_or_pos es.size with h0 | h0
      · have : es = #[] := Array.eq_empty_of_size_eq_zero h0
        subst this
        simp at h1
      · exact h0
    have h3 := (Array.all_eq_true.1 h2) 0 hne
    have h4 := (hold es[0] (by simp)).2
    simp at h3
    omega
  rw [h3, atom_of h hx]
  simp only [Instr.next, Sem.run_bind, Result.andThen_ok, hg1, hg2, htest, Bool.false_eq_true, if_false]
  generalize hL : es.filter (fun e => !seen.contains e.born) = left at hover hstep ⊢
  have hmem : ∀ x ∈ left.toList, x.born < since := fun x hx => by
    subst hL
    simp at hx
    exact (hold x (by simpa using hx.1)).1
  have e1 : left.filter (fun x => decide (x.born < since)) = left := Array.filter_eq_self.2 (fun x hx => by simpa using hmem x (by simpa using hx))
  have e2 : left.filter (fun x => decide (x.born ≥ since)) = #[] := by
    rw [Array.filter_eq_empty_iff]
    intro x hx
    have := hmem x (by simpa using hx)
    simp
    omega
  simp only [e1, e2, Array.append_empty]
  by_cases h0 : left.size = 0
  · have : left = #[] := Array.eq_empty_of_size_eq_zero h0
    subst this
    have hch : (choose (.mapNext 1)).run C.P w = .ok 0 w := by simp [choose, Sem.run, Question.forced]
    simp only [Array.isEmpty_empty, if_true, Array.map_empty, Array.append_empty, List.size_toArray, List.length_singleton, hch, Sem.run_bind, Result.andThen_ok, Sem.run_pure]
    exact ⟨.tuple [bool false], _, L, Fr.refl _ _ _, hH, by simp only [Rep]; exact ⟨[.bool false], rfl, by simp only [RepL, Rep]; exact ⟨_, _, rfl, rfl, rfl⟩⟩, hover rfl⟩
  · have hne : left.isEmpty = false := by simp [Array.isEmpty, h0]
    simp only [hne, Bool.false_eq_true, if_false, Array.empty_append, Array.size_map]
    obtain ⟨j, w1, hj, hw1, hrun⟩ : ∃ (j : Nat) (w1 : World), j < left.size ∧ (w1 = w ∨ w1 = w.drew) ∧ (choose (Question.mapNext left.size)).run C.P w = .ok j w1 := by
      by_cases hf : left.size ≤ 1
      · exact ⟨0, w, by omega, .inl rfl, by simp [choose, Sem.run, Question.forced, hf]⟩
      · exact ⟨_, w.drew, Nat.mod_lt _ (by omega), .inr rfl, by
          simp only [choose, Sem.run, Question.forced, decide_eq_true_eq, hf, if_false, Question.cut]
          rfl⟩
    have hr1' : w1.heap[r]? = some (.mapIter (some b) since seen last) := by rcases hw1 with rfl | rfl <;> exact hr1
    have hsz : w1.heap.size = w.heap.size := by rcases hw1 with rfl | rfl <;> rfl
    have hheap : w1.heap = w.heap := by rcases hw1 with rfl | rfl <;> rfl
    simp only [hrun, Array.getElem?_map, Array.getElem?_eq_getElem hj, Option.map_some, Sem.run_bind, Result.andThen_ok, run_setObj hr1' rfl, Sem.run_pure]
    have hl : Left C w L [(r, .obj (.mapIter (some b) since seen last))] (setW w1 r (.mapIter (some b) since (seen.push left[j].born) clock)) (.tuple #[.bool true, left[j].key, left[j].val]) (fun lv H' => K lv (H' ++ [(b, .obj (.map es clock))] ++ F)) :=
      left_obj (lv := .tuple [bool true, .atom left[j].key, .atom left[j].val]) (RelH.left (F := [(b, .obj (.map es clock))]) hH) rfl (by rcases hw1 with rfl | rfl <;> rfl) (by rcases hw1 with rfl | rfl <;> rfl) (by rcases hw1 with rfl | rfl <;> rfl) (by simp [setW, hsz]) (fun c hc => by rw [setW_other hc, hheap]) (setW_self (by omega))
        (fun _ => by simp only [Rep]; exact ⟨[.bool true, left[j].key, left[j].val], rfl, by simp only [RepL, Rep]; exact ⟨_, _, rfl, rfl, _, _, rfl, rfl, _, _, rfl, rfl, rfl⟩⟩) (hstep left[j] (by simp))
    exact Left.frame (F := [(b, .obj (.map es clock))]) (K := fun lv H' => K lv (H' ++ F)) hH hl
/-- What the step handed out, read again. -/
theorem Pure.entry {r b since last clock stamp : Nat} {seen : Array Nat} {es : Array MapEntry} {en : MapEntry} (hx : e.ev x = ptr r 0) (hi : (r, LObj.obj (.mapIter (some b) since seen last)) ∈ H) (hm : (b, LObj.obj (.map es clock)) ∈ H)
    (hl : clock = last) (hb : seen.back? = some stamp) (hf : es.find? (·.born == stamp) = some en) : Pure C ⟨dst, .entry x, ty, pos, aft, g⟩ e H (.tuple [.atom en.key, .atom en.val]) := fun ρ w L h hH => by
  refine ⟨.tuple #[en.key, en.val], by simp only [Rep]; exact ⟨[en.key, en.val], rfl, by simp only [RepL, Rep]; exact ⟨_, _, rfl, rfl, _, _, rfl, rfl, rfl⟩⟩, fun w' ha => ?_⟩
  have h1 : w'.heap[r]? = some (.mapIter (some b) since seen last) := (ha.1 _ hi).trans (hH.objs _ hi).2.2.2.1
  have h2 : w'.heap[b]? = some (.map es clock) := (ha.1 _ hm).trans (hH.objs _ hm).2.2.2.1
  have h3 : execOp ρ ⟨dst, .entry x, ty, pos, aft, g⟩ = (do Pure.pure (.value (← Instr.entry (ρ x)))) := rfl
  have hg1 : (getObj r).run C.P w' = .ok (.mapIter (some b) since seen last) w' := by simp only [getObj, Sem.run, h1]
  have hg2 : (getObj b).run C.P w' = .ok (.map es clock) w' := by simp only [getObj, Sem.run, h2]
  have hne : (clock != last) = false := by rw [hl]; simp
  rw [h3, atom_of h hx]
  simp only [Instr.entry, Sem.run_bind, Result.andThen_ok, hg1, hb, hg2, hne, Bool.false_eq_true, if_false, Sem.run_pure, hf]
/-- A late operation that only computes or reads. -/
theorem LLateOp.pureH {n : Nat} {ops : Array Oper} {Q : Post} {HF : Heap} {fuel : Nat} {listed : Array Bool} {i : Nat} {op : Op} {lv : LV} (hi : ops[i]? = some ⟨dst, op, ty, pos, aft, none⟩) (hd : dstOk n dst)
    (hp : Pure C ⟨dst, op, ty, pos, aft, none⟩ e H lv) (k : LLate C n ops Q HF fuel (listed.setIfInBounds i true) (e.put dst lv) H) : LLateOp C n ops Q HF fuel listed e H i := fun w0 L0 a w L hL hA hsz hE hH => by
  obtain ⟨v, hv, hrun⟩ := hp a.eval w L hE.ev hH
  unfold wpOp
  rw [hi]
  simp only
  rw [if_pos (by simp [Region.wanted])]
  refine .inl ?_
  unfold Oper.wp
  rw [hrun w (Agree.refl _ _ _)]
  exact ⟨hA, k w0 L0 _ w L hL hA hsz (hE.put hd hv) hH⟩
end
end Go.GL
