/- A small logic over the walk's 'Code.wp': logical values, their readings in memory, and a heap of owned blocks. Definitions and the laws that carry them from world to world. -/
import Derived.Below
import Derived.OrdersHeld
import Derived.Deep.Quiet
namespace Go.GL
open Go.RowKit

/-- A logical value: a flat value, a list behind a slice, a slice that may be appended to, a struct, a tuple, a pointer to cells that nobody writes. -/
inductive LV where
  | atom (v : Value)
  | list (es : List LV)
  | app (b cap k : Nat) (es : List LV)
  | agg (cs : List LV)
  | tuple (vs : List LV)
  | ref (cs : List LV)
  deriving Inhabited

/-- The cells that a value takes. -/
def LV.cells : LV → List LV
  | .agg cs => cs
  | v => [v]

@[reducible] def int (k : IntKind) (n : Int) : LV := .atom (.int k n)
@[reducible] def bool (b : Bool) : LV := .atom (.bool b)
@[reducible] def str (l : List UInt8) : LV := .atom (.string ⟨l.toArray⟩)
@[reducible] def ptr (b off : Nat) : LV := .atom (.pointer (some ⟨b, off, none⟩))
@[reducible] def nilSlice : LV := .atom (.slice none 0 0)

/-- What lies in an owned block. -/
inductive LObj where
  | cells (ty : TypeId) (cs : List LV)
  | row (n : Nat)
  | map (es : List (Value × LV)) (clock : Nat)
  | obj (o : Obj)
  deriving Inhabited

abbrev Heap := List (Nat × LObj)
abbrev Live := Nat → Nat

mutual
/-- The value x reads as the logical value, in the world w whose cells below L are settled. -/
def Rep (w : World) (L : Live) : LV → Value → Prop
  | .atom v, x => x = v
  | .agg cs, x => ∃ xs : List Value, x = .agg xs.toArray ∧ RepL w L cs xs
  | .tuple vs, x => ∃ xs : List Value, x = .tuple xs.toArray ∧ RepL w L vs xs
  | .list es, x => ∃ a cap, x = .slice a es.length cap ∧ es.length ≤ cap ∧ (es ≠ [] → ∃ b off k, a = some ⟨b, off, none⟩ ∧ RepRows w L b k off es)
  | .app b cap k es, x => x = .slice (some ⟨b, 0, none⟩) es.length cap ∧ es.length ≤ cap ∧ RepRows w L b k 0 es ∧ ∃ e s, w.shape? b = some (e, s) ∧ cap * k ≤ s
  | .ref cs, x => ∃ b off, x = .pointer (some ⟨b, off, none⟩) ∧ RepC w L b off cs
def RepL (w : World) (L : Live) : List LV → List Value → Prop
  | [], xs => xs = []
  | c :: cs, xs => ∃ y ys, xs = y :: ys ∧ Rep w L c y ∧ RepL w L cs ys
def RepC (w : World) (L : Live) (b : Nat) : Nat → List LV → Prop
  | _, [] => True
  | off, c :: cs => off < L b ∧ (∃ x, w.cell? ⟨b, off, none⟩ = some x ∧ Rep w L c x) ∧ RepC w L b (off + 1) cs
def RepRows (w : World) (L : Live) (b k : Nat) : Nat → List LV → Prop
  | _, [] => True
  | off, .agg cs :: es => (cs.length = k ∧ RepC w L b off cs) ∧ RepRows w L b k (off + k) es
  | off, .atom v :: es => (1 = k ∧ off < L b ∧ ∃ x, w.cell? ⟨b, off, none⟩ = some x ∧ Rep w L (.atom v) x) ∧ RepRows w L b k (off + k) es
  | off, .list v :: es => (1 = k ∧ off < L b ∧ ∃ x, w.cell? ⟨b, off, none⟩ = some x ∧ Rep w L (.list v) x) ∧ RepRows w L b k (off + k) es
  | off, .app b2 c k2 v :: es => (1 = k ∧ off < L b ∧ ∃ x, w.cell? ⟨b, off, none⟩ = some x ∧ Rep w L (.app b2 c k2 v) x) ∧ RepRows w L b k (off + k) es
  | off, .tuple v :: es => (1 = k ∧ off < L b ∧ ∃ x, w.cell? ⟨b, off, none⟩ = some x ∧ Rep w L (.tuple v) x) ∧ RepRows w L b k (off + k) es
  | off, .ref v :: es => (1 = k ∧ off < L b ∧ ∃ x, w.cell? ⟨b, off, none⟩ = some x ∧ Rep w L (.ref v) x) ∧ RepRows w L b k (off + k) es
end

/-- Nothing that was settled has turned. -/
structure Ext (w : World) (L : Live) (w' : World) (L' : Live) : Prop where
  size : w.heap.size ≤ w'.heap.size
  shape : ∀ b, b < w.heap.size → w'.shape? b = w.shape? b
  live : ∀ b i, i < L b → w'.cell? ⟨b, i, none⟩ = w.cell? ⟨b, i, none⟩
  mono : ∀ b, L b ≤ L' b

theorem Ext.refl (w : World) (L : Live) : Ext w L w L := ⟨Nat.le_refl _, fun _ _ => rfl, fun _ _ _ => rfl, fun _ => Nat.le_refl _⟩
theorem Ext.trans {w1 w2 w3 : World} {L1 L2 L3 : Live} (h : Ext w1 L1 w2 L2) (k : Ext w2 L2 w3 L3) : Ext w1 L1 w3 L3 :=
  ⟨Nat.le_trans h.size k.size, fun b hb => (k.shape b (Nat.lt_of_lt_of_le hb h.size)).trans (h.shape b hb),
   fun b i hi => (k.live b i (Nat.lt_of_lt_of_le hi (h.mono b))).trans (h.live b i hi), fun b => Nat.le_trans (h.mono b) (k.mono b)⟩

theorem shape_lt {w : World} {b : Nat} {p : TypeId × Nat} (h : w.shape? b = some p) : b < w.heap.size := by
  rcases Nat.lt_or_ge b w.heap.size with h1 | h1
  · exact h1
  · simp [World.shape?, Array.getElem?_eq_none h1] at h

mutual
theorem Rep.mono {w w' : World} {L L' : Live} (h : Ext w L w' L') : ∀ (lv : LV) (x : Value), Rep w L lv x → Rep w' L' lv x
  | .atom v, x, r => by simp only [Rep] at r ⊢; exact r
  | .agg cs, x, r => by
    simp only [Rep] at r ⊢
    obtain ⟨xs, rfl, r⟩ := r
    exact ⟨xs, rfl, RepL.mono h cs xs r⟩
  | .tuple cs, x, r => by
    simp only [Rep] at r ⊢
    obtain ⟨xs, rfl, r⟩ := r
    exact ⟨xs, rfl, RepL.mono h cs xs r⟩
  | .list es, x, r => by
    simp only [Rep] at r ⊢
    obtain ⟨a, cap, rfl, hl, r⟩ := r
    refine ⟨a, cap, rfl, hl, fun hne => ?_⟩
    obtain ⟨b, off, k, ha, r⟩ := r hne
    exact ⟨b, off, k, ha, RepRows.mono h b k off es r⟩
  | .app b cap k es, x, r => by
    simp only [Rep] at r ⊢
    obtain ⟨rfl, hl, r, e, s, hs, hc⟩ := r
    exact ⟨rfl, hl, RepRows.mono h b k 0 es r, e, s, by rw [h.shape b (shape_lt hs)]; exact hs, hc⟩
  | .ref cs, x, r => by
    simp only [Rep] at r ⊢
    obtain ⟨b, off, rfl, r⟩ := r
    exact ⟨b, off, rfl, RepC.mono h b off cs r⟩
  termination_by lv => SizeOf.sizeOf lv
theorem RepL.mono {w w' : World} {L L' : Live} (h : Ext w L w' L') : ∀ (cs : List LV) (xs : List Value), RepL w L cs xs → RepL w' L' cs xs
  | [], xs, r => by simp only [RepL] at r ⊢; exact r
  | c :: cs, xs, r => by
    simp only [RepL] at r ⊢
    obtain ⟨y, ys, rfl, r1, r2⟩ := r
    exact ⟨y, ys, rfl, Rep.mono h c y r1, RepL.mono h cs ys r2⟩
  termination_by cs => SizeOf.sizeOf cs
theorem RepC.mono {w w' : World} {L L' : Live} (h : Ext w L w' L') (b : Nat) : ∀ (off : Nat) (cs : List LV), RepC w L b off cs → RepC w' L' b off cs
  | _, [], r => by simp only [RepC]
  | off, c :: cs, r => by
    simp only [RepC] at r ⊢
    obtain ⟨r1, ⟨x, hx, r2⟩, r3⟩ := r
    exact ⟨Nat.lt_of_lt_of_le r1 (h.mono b), ⟨x, by rw [h.live b off r1]; exact hx, Rep.mono h c x r2⟩, RepC.mono h b (off + 1) cs r3⟩
  termination_by _ cs => SizeOf.sizeOf cs
theorem RepRows.mono {w w' : World} {L L' : Live} (h : Ext w L w' L') (b k : Nat) : ∀ (off : Nat) (es : List LV), RepRows w L b k off es → RepRows w' L' b k off es
  | _, [], r => by simp only [RepRows]
  | off, .agg cs :: es, r => by
    simp only [RepRows] at r ⊢
    exact ⟨⟨r.1.1, RepC.mono h b off cs r.1.2⟩, RepRows.mono h b k (off + k) es r.2⟩
  | off, .atom v :: es, r => by
    simp only [RepRows] at r ⊢
    obtain ⟨⟨h1, h2, x, h3, h4⟩, r2⟩ := r
    exact ⟨⟨h1, Nat.lt_of_lt_of_le h2 (h.mono b), x, by rw [h.live b off h2]; exact h3, Rep.mono h (.atom v) x h4⟩, RepRows.mono h b k (off + k) es r2⟩
  | off, .list v :: es, r => by
    simp only [RepRows] at r ⊢
    obtain ⟨⟨h1, h2, x, h3, h4⟩, r2⟩ := r
    exact ⟨⟨h1, Nat.lt_of_lt_of_le h2 (h.mono b), x, by rw [h.live b off h2]; exact h3, Rep.mono h (.list v) x h4⟩, RepRows.mono h b k (off + k) es r2⟩
  | off, .app b2 c k2 v :: es, r => by
    simp only [RepRows] at r ⊢
    obtain ⟨⟨h1, h2, x, h3, h4⟩, r2⟩ := r
    exact ⟨⟨h1, Nat.lt_of_lt_of_le h2 (h.mono b), x, by rw [h.live b off h2]; exact h3, Rep.mono h (.app b2 c k2 v) x h4⟩, RepRows.mono h b k (off + k) es r2⟩
  | off, .tuple v :: es, r => by
    simp only [RepRows] at r ⊢
    obtain ⟨⟨h1, h2, x, h3, h4⟩, r2⟩ := r
    exact ⟨⟨h1, Nat.lt_of_lt_of_le h2 (h.mono b), x, by rw [h.live b off h2]; exact h3, Rep.mono h (.tuple v) x h4⟩, RepRows.mono h b k (off + k) es r2⟩
  | off, .ref v :: es, r => by
    simp only [RepRows] at r ⊢
    obtain ⟨⟨h1, h2, x, h3, h4⟩, r2⟩ := r
    exact ⟨⟨h1, Nat.lt_of_lt_of_le h2 (h.mono b), x, by rw [h.live b off h2]; exact h3, Rep.mono h (.ref v) x h4⟩, RepRows.mono h b k (off + k) es r2⟩
  termination_by _ es => SizeOf.sizeOf es
end

/-- A value that reads as 'a' reads as 'b', too. -/
def LV.Sub (a b : LV) : Prop := ∀ w L x, Rep w L a x → Rep w L b x
theorem LV.Sub.refl (a : LV) : a.Sub a := fun _ _ _ h => h
theorem LV.Sub.trans {a b c : LV} (h : a.Sub b) (k : b.Sub c) : a.Sub c := fun w L x r => k w L x (h w L x r)
theorem LV.Sub.nil : nilSlice.Sub (.list []) := fun w L x r => by
  simp only [Rep] at r ⊢
  subst r
  exact ⟨none, 0, rfl, Nat.le_refl _, fun h => absurd rfl h⟩
theorem LV.Sub.app (b cap k : Nat) (es : List LV) : (LV.app b cap k es).Sub (.list es) := fun w L x r => by
  simp only [Rep] at r ⊢
  obtain ⟨rfl, hl, r, _⟩ := r
  exact ⟨some ⟨b, 0, none⟩, cap, rfl, hl, fun _ => ⟨b, 0, k, rfl, r⟩⟩
/-- Cell by cell. -/
def SubL : List LV → List LV → Prop
  | [], [] => True
  | a :: as, b :: bs => a.Sub b ∧ SubL as bs
  | _, _ => False
theorem SubL.repL {w : World} {L : Live} : ∀ {as bs : List LV} {xs : List Value}, SubL as bs → RepL w L as xs → RepL w L bs xs
  | [], [], xs, _, r => r
  | a :: as, b :: bs, xs, h, r => by
    simp only [RepL] at r ⊢
    obtain ⟨y, ys, rfl, r1, r2⟩ := r
    exact ⟨y, ys, rfl, h.1 _ _ _ r1, SubL.repL h.2 r2⟩
  | [], _ :: _, _, h, _ => h.elim
  | _ :: _, [], _, h, _ => h.elim
theorem LV.Sub.agg {as bs : List LV} (h : SubL as bs) : (LV.agg as).Sub (.agg bs) := fun w L x r => by
  simp only [Rep] at r ⊢
  obtain ⟨xs, rfl, r⟩ := r
  exact ⟨xs, rfl, h.repL r⟩
theorem LV.Sub.tuple {as bs : List LV} (h : SubL as bs) : (LV.tuple as).Sub (.tuple bs) := fun w L x r => by
  simp only [Rep] at r ⊢
  obtain ⟨xs, rfl, r⟩ := r
  exact ⟨xs, rfl, h.repL r⟩

/-! ### The heap of owned blocks -/
def RelObj (w : World) (L : Live) (b : Nat) : LObj → Prop
  | .cells ty cs => L b = 0 ∧ ∃ xs : List Value, w.heap[b]? = some (.cells xs.toArray ty (0, 0)) ∧ RepL w L cs xs
  | .row n => L b = n ∧ ∃ (xs : Array Value) (ty : TypeId) (fr : Nat × Nat), w.heap[b]? = some (.cells xs ty fr) ∧ n ≤ xs.size ∧ fr.2 ≤ n
  | .map es clock => L b = 0 ∧ ∃ as : List MapEntry, w.heap[b]? = some (.map as.toArray clock) ∧ as.map (·.key) = es.map (·.1) ∧ RepL w L (es.map (·.2)) (as.map (·.val))
      ∧ (∀ e ∈ as, e.born < clock) ∧ (as.map (·.born)).Nodup
  | .obj o => L b = 0 ∧ w.heap[b]? = some o ∧ w.shape? b = none

structure Ctx where
  P : Program
  B0 : Nat
  w0 : World

structure RelH (C : Ctx) (w : World) (L : Live) (H : Heap) : Prop where
  base : Below C.B0 C.w0 w
  lbase : ∀ b, b < C.B0 → L b = 0
  b0 : C.B0 ≤ w.heap.size
  wf : ∀ b, w.heap.size ≤ b → L b = 0
  nodup : (H.map (·.1)).Nodup
  objs : ∀ p ∈ H, C.B0 ≤ p.1 ∧ p.1 < w.heap.size ∧ RelObj w L p.1 p.2

@[reducible] def keys (H : Heap) : List Nat := H.map (·.1)
/-- From w to w' no block of before has turned but those of K; and the heap's blocks are K's or new. -/
structure Fr (K : List Nat) (w : World) (L : Live) (w' : World) (L' : Live) (H' : Heap) : Prop where
  os : w'.os = w.os
  tape : w'.tape = w.tape
  output : w'.output = w.output
  ext : Ext w L w' L'
  block : ∀ b, b < w.heap.size → b ∉ K → w'.heap[b]? = w.heap[b]?
  lsame : ∀ b, b < w.heap.size → b ∉ K → L' b = L b
  kin : ∀ p ∈ H', p.1 ∈ K ∨ w.heap.size ≤ p.1

theorem Fr.refl (w : World) (L : Live) (H : Heap) : Fr (keys H) w L w L H :=
  ⟨rfl, rfl, rfl, .refl _ _, fun _ _ _ => rfl, fun _ _ _ => rfl, fun _ hp => .inl (List.mem_map_of_mem hp)⟩
theorem Fr.trans {K : List Nat} {w1 w2 w3 : World} {L1 L2 L3 : Live} {H2 H3 : Heap} (h : Fr K w1 L1 w2 L2 H2) (k : Fr (keys H2) w2 L2 w3 L3 H3) : Fr K w1 L1 w3 L3 H3 := by
  have out : ∀ b, b < w1.heap.size → b ∉ K → b ∉ keys H2 := fun b hb hn hm => by
    obtain ⟨p, hp, rfl⟩ := List.mem_map.1 hm
    rcases h.kin p hp with h1 | h1
    · exact hn h1
    · omega
  refine ⟨k.os.trans h.os, k.tape.trans h.tape, k.output.trans h.output, h.ext.trans k.ext, fun b hb hn => ?_, fun b hb hn => ?_, fun p hp => ?_⟩
  · exact (k.block b (Nat.lt_of_lt_of_le hb h.ext.size) (out b hb hn)).trans (h.block b hb hn)
  · exact (k.lsame b (Nat.lt_of_lt_of_le hb h.ext.size) (out b hb hn)).trans (h.lsame b hb hn)
  · rcases k.kin p hp with h1 | h1
    · obtain ⟨q, hq, he⟩ := List.mem_map.1 h1
      rw [← he]
      exact h.kin q hq
    · exact .inr (Nat.le_trans h.ext.size h1)

theorem Fr.sub {K : List Nat} {w w' : World} {L L' : Live} {H H' : Heap} (h : Fr K w L w' L' H) (hs : ∀ p ∈ H', p ∈ H) : Fr K w L w' L' H' :=
  ⟨h.os, h.tape, h.output, h.ext, h.block, h.lsame, fun p hp => h.kin p (hs p hp)⟩

theorem shape_of_heap {w w' : World} {b : Nat} (h : w'.heap[b]? = w.heap[b]?) : w'.shape? b = w.shape? b := by simp only [World.shape?, h]
theorem cell_of_heap {w w' : World} {b : Nat} (h : w'.heap[b]? = w.heap[b]?) (o : Nat) : w'.cell? ⟨b, o, none⟩ = w.cell? ⟨b, o, none⟩ := by simp only [World.cell?, h]

theorem RelObj.keep {w w' : World} {L L' : Live} {b : Nat} {o : LObj} (h : Ext w L w' L') (hb : w'.heap[b]? = w.heap[b]?) (hl : L' b = L b) (r : RelObj w L b o) : RelObj w' L' b o := by
  cases o with
  | cells ty cs => obtain ⟨r1, xs, r2, r3⟩ := r; exact ⟨hl.trans r1, xs, hb.trans r2, r3.mono h _ _⟩
  | row n => obtain ⟨r1, xs, ty, fr, r2, r3, r4⟩ := r; exact ⟨hl.trans r1, xs, ty, fr, hb.trans r2, r3, r4⟩
  | map es clock => obtain ⟨r1, as, r2, r3, r4, r5⟩ := r; exact ⟨hl.trans r1, as, hb.trans r2, r3, r4.mono h _ _, r5⟩
  | obj o => obtain ⟨r1, r2, r3⟩ := r; exact ⟨hl.trans r1, hb.trans r2, by rw [shape_of_heap hb]; exact r3⟩

theorem RelH.perm {C : Ctx} {w : World} {L : Live} {H H' : Heap} (h : RelH C w L H) (p : H.Perm H') : RelH C w L H' :=
  ⟨h.base, h.lbase, h.b0, h.wf, ((p.map _).nodup_iff).1 h.nodup, fun q hq => h.objs q (p.mem_iff.2 hq)⟩
theorem RelH.left {C : Ctx} {w : World} {L : Live} {H F : Heap} (h : RelH C w L (H ++ F)) : RelH C w L H :=
  ⟨h.base, h.lbase, h.b0, h.wf, (List.nodup_append.1 (by simpa using h.nodup)).1, fun q hq => h.objs q (List.mem_append_left _ hq)⟩
theorem RelH.sub {C : Ctx} {w : World} {L : Live} {H H' : Heap} (h : RelH C w L H) (s : H'.Sublist H) : RelH C w L H' :=
  ⟨h.base, h.lbase, h.b0, h.wf, h.nodup.sublist (s.map _), fun q hq => h.objs q (s.subset hq)⟩

/-- The frame: what a step on H does leaves F as it was. -/
theorem RelH.frame {C : Ctx} {w w' : World} {L L' : Live} {H H' F : Heap} (h : RelH C w L (H ++ F)) (f : Fr (keys H) w L w' L' H') (h' : RelH C w' L' H') :
    RelH C w' L' (H' ++ F) ∧ Fr (keys (H ++ F)) w L w' L' (H' ++ F) := by
  have hn : (keys H ++ keys F).Nodup := by simpa [keys] using h.nodup
  have hdis : ∀ q ∈ F, q.1 ∉ keys H := fun q hq hm => (List.nodup_append.1 hn).2.2 _ hm _ (List.mem_map_of_mem hq) rfl
  refine ⟨⟨h'.base, h'.lbase, h'.b0, h'.wf, ?_, fun p hp => ?_⟩, ⟨f.os, f.tape, f.output, f.ext, fun b hb hk => ?_, fun b hb hk => ?_, fun p hp => ?_⟩⟩
  · rw [List.map_append]
    refine List.nodup_append.2 ⟨h'.nodup, (List.nodup_append.1 hn).2.1, fun a ha b hb he => ?_⟩
    subst he
    obtain ⟨p, hp, rfl⟩ := List.mem_map.1 ha
    obtain ⟨q, hq, he⟩ := List.mem_map.1 hb
    have hqs := (h.objs q (List.mem_append_right _ hq)).2.1
    rcases f.kin p hp with h1 | h1
    · exact hdis q hq (he ▸ h1)
    · omega
  · rcases List.mem_append.1 hp with hp | hp
    · exact h'.objs p hp
    · obtain ⟨r1, r2, r3⟩ := h.objs p (List.mem_append_right _ hp)
      exact ⟨r1, Nat.lt_of_lt_of_le r2 f.ext.size, r3.keep f.ext (f.block _ r2 (hdis p hp)) (f.lsame _ r2 (hdis p hp))⟩
  · exact f.block b hb (fun hm => hk (by simp only [keys, List.map_append, List.mem_append]; exact .inl hm))
  · exact f.lsame b hb (fun hm => hk (by simp only [keys, List.map_append, List.mem_append]; exact .inl hm))
  · rcases List.mem_append.1 hp with hp | hp
    · rcases f.kin p hp with h1 | h1
      · exact .inl (by simp only [keys, List.map_append, List.mem_append]; exact .inl h1)
      · exact .inr h1
    · exact .inl (by simp only [keys, List.map_append, List.mem_append]; exact .inr (List.mem_map_of_mem hp))

/-- One entry picked out. -/
def Pick (p : Nat × LObj) (H F : Heap) : Prop := H.Perm (p :: F)
theorem Pick.here {p : Nat × LObj} {F : Heap} : Pick p (p :: F) F := List.Perm.refl _
theorem Pick.there {p q : Nat × LObj} {H F : Heap} (h : Pick p H F) : Pick p (q :: H) (q :: F) :=
  (List.Perm.cons q h).trans (List.Perm.swap p q F)

/-- What is claimed of the heap at the end is part of it. -/
def HSub (H' H : Heap) : Prop := ∃ G, H.Perm (H' ++ G)
theorem HSub.refl (H : Heap) : HSub H H := ⟨[], by simp⟩
theorem HSub.nil (H : Heap) : HSub [] H := ⟨H, by simp⟩
theorem HSub.drop {H' H : Heap} {p : Nat × LObj} (h : HSub H' H) : HSub H' (p :: H) :=
  let ⟨G, hG⟩ := h
  ⟨p :: G, (List.Perm.cons p hG).trans List.perm_middle.symm⟩
theorem HSub.pick {H' H F : Heap} {p : Nat × LObj} (hp : Pick p H F) (h : HSub H' F) : HSub (p :: H') H :=
  let ⟨G, hG⟩ := h
  ⟨G, List.Perm.trans hp (List.Perm.cons p hG)⟩
theorem RelH.weak {C : Ctx} {w : World} {L : Live} {H H' : Heap} (h : RelH C w L H) (s : HSub H' H) : RelH C w L H' :=
  let ⟨_, hG⟩ := s
  (h.perm hG).left
theorem Fr.weak {K : List Nat} {w w' : World} {L L' : Live} {H H' : Heap} (h : Fr K w L w' L' H) (s : HSub H' H) : Fr K w L w' L' H' :=
  let ⟨_, hG⟩ := s
  h.sub fun _ hp => hG.mem_iff.2 (List.mem_append_left _ hp)
end Go.GL
