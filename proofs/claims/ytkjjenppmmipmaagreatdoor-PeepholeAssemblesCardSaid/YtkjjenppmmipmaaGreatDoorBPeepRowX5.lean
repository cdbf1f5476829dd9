/- Texts joined: GlStr, PeepW, GlInts, GlBytes, PeepAsm, PeepX, PeepY, PeepZ, PeepP, GlFour. -/
import Derived.Lib.Builder
import Derived.Lib.AppendStr
import Derived.Test.YtkjjenppmmipmaaGreatDoorBPeepRowX1
import Derived.Test.YtkjjenppmmipmaaGreatDoorBPeepRowX2
import Derived.Test.YtkjjenppmmipmaaGreatDoorBPeepRowX4
set_option linter.unusedVariables false
set_option linter.unusedSimpArgs false
namespace Go.GL
open Go.RowKit
section
variable {C : Ctx} {e : Env} {H : Heap} {x y : Operand} {dst : Option Nat} {ty : TypeId} {pos : String} {aft : Array Edge} {g : Option (Nat × Bool)} {K : LV → Heap → Prop} {X : List PanicEntry → Heap → Prop}
def byts (l : List UInt8) : List LV := l.map fun b => int .u8 b.toNat
theorem byts_len (l : List UInt8) : (byts l).length = l.length := List.length_map _
theorem byts_app (l m : List UInt8) : byts (l ++ m) = byts l ++ byts m := List.map_append
theorem byts_size (l : List UInt8) : ∀ v ∈ byts l, v.cells.length = 1 := by
  intro v hv
  obtain ⟨b, _, rfl⟩ := List.mem_map.1 hv
  rfl
theorem byts_flat (l : List UInt8) : (byts l).flatMap LV.cells = byts l := by
  induction l with
  | nil => rfl
  | cons b l ih =>
    have h : byts (b :: l) = int .u8 b.toNat :: byts l := rfl
    rw [h, List.flatMap_cons, ih]
    rfl
def bytV (l : List UInt8) : List Value := l.map fun b => .int .u8 b.toNat
theorem byts_rep {w : World} {L : Live} : ∀ l : List UInt8, RepL w L (byts l) (bytV l)
  | [] => by simp [byts, bytV, RepL]
  | b :: l => by
    show RepL w L (int .u8 b.toNat :: byts l) (.int .u8 b.toNat :: bytV l)
    simp only [RepL]
    exact ⟨_, _, rfl, rep_atom, byts_rep l⟩
theorem bytV_flat (l : List UInt8) : ∀ v ∈ bytV l, (∀ cs, v ≠ Value.agg cs) ∧ (∀ cs, v ≠ Value.tuple cs) := by
  intro v hv
  obtain ⟨b, _, rfl⟩ := List.mem_map.1 hv
  exact And.intro (fun _ h => by cases h) (fun _ h => by cases h)
theorem first_str {P : Program} (l : List UInt8) (w' : World) : (Builtin.firstCells 1 l.length (.string ⟨l.toArray⟩)).run P w' = .ok (bytV l).toArray w' := by
  have := Go.Lib.run_firstCells_string (P := P) w' 1 ⟨l.toArray⟩
  rw [size_mk] at this
  rw [this]
  rfl
theorem S.appS {sT xT el bytes : Nat} [ht : TSlice C.P sT el 1] [hr : TRow C.P el 1 bytes] [hx2 : TStr C.P xT] {v : LV} {l m : List UInt8} {F : Heap}
    (hx : e.ev x = v) (ha : Acc 1 v (byts l) H F) (hy : e.ev y = str m) (hroom : (l.length + m.length) * bytes ≤ 140737488355328)
    (hk : ∀ v' H', Acc 1 v' (byts (l ++ m)) H' F → K v' H') : LStep C ⟨dst, .call { callee := .builtin .append, args := #[x, y], argTypes := #[sT, xT] }, ty, pos, aft, g⟩ e H K X := by
  have h0 : ∀ (cs : Array Bool) (args : Array Value), builtin .append #[sT, xT] ty cs args = (do Pure.pure (.value (← Builtin.append_ #[sT, xT] ty args))) := fun _ _ => rfl
  generalize he : byts l = es at ha
  have hel : es.length = l.length := by rw [← he, byts_len]
  cases ha with
  | nil =>
    have hl : l = [] := List.eq_nil_of_length_eq_zero (by rw [← hel]; rfl)
    subst hl
    by_cases hne : m = []
    · subst hne
      intro ρ w L h hH
      have hr : (Builtin.append_ #[sT, xT] ty #[.slice none 0 0, .string ⟨#[]⟩]).run C.P w = .ok (.slice none 0 0) w := by
        obtain ⟨i, hi, his⟩ := ht.size
        have hf := first_str (P := C.P) [] w
        simp only [List.length_nil] at hf
        simp [Builtin.append_, run_underlying' ht.und, run_underlying' hx2.und, sizeOf, typeInfo, hi, Builtin.lenOf, Builtin.firstCells, show (ByteArray.mk #[]).size = 0 from rfl, show ((ByteArray.mk #[]).extract 0 0).data = #[] from rfl]
      rw [execOp_builtin', h0]
      simp only [List.map_toArray, List.map_cons, List.map_nil, Sem.run_bind, atom_of h hx, atom_of h hy, hr, Result.andThen_ok, Sem.run_pure]
      exact ⟨_, H, L, Fr.refl _ _ _, hH, rep_atom, hk _ _ Acc.nil⟩
    · refine LStep.at0 fun ρ w L h hH => ?_
      have hpos : 0 < m.length := List.length_pos_iff.2 hne
      obtain ⟨cap', rest, r1, r2, r3⟩ := run_append_new (ty := ty) (P := C.P) (w := w) (sT := sT) (xT := xT) (a := none) (len := 0) (cap := 0) (n := m.length) (xv := .string ⟨m.toArray⟩) (old := []) (new := bytV m) (.inl hx2.und) (fun w' => by simp [Builtin.lenOf, size_mk]) (fun w' _ => first_str m w')
        (fun w' _ => by simp [Builtin.firstCells]) (by simpa using hroom) (by omega)
      rw [execOp_builtin', h0]
      simp only [List.map_toArray, List.map_cons, List.map_nil, Sem.run_bind, atom_of h hx, atom_of h hy, r3, Result.andThen_ok, Sem.run_pure, List.nil_append, Nat.zero_add]
      obtain ⟨lv, H', L', g1, g2, g3, g4⟩ := left_newRowC (K := fun lv H' => K lv (H' ++ H)) (t := el) (s := 1) (es := byts m) (xs := bytV m) (cap := cap') (rest := rest) hH.drew (by rw [byts_flat]; exact byts_rep m) (byts_size m) (by rw [byts_len]; omega) (by
        rw [r2, byts_len]
        omega) (fun b => hk _ _ Acc.row)
      rw [byts_len] at g3
      exact ⟨lv, H', L', g1.of_drew, g2, g3, g4⟩
  | row =>
    rename_i b cap
    refine LStep.at1 Pick.here fun ρ w L h hH => ?_
    have hsv := h x
    rw [hx] at hsv
    have hxv : ρ x = .slice (some ⟨b, 0, none⟩) es.length cap := by
      have h' := hsv
      simp only [Rep] at h'
      exact h'.1
    rw [hxv] at hsv
    obtain ⟨v, w', r1, r2⟩ := left_append (ty := ty) (K := fun lv H' => K lv (H' ++ F)) (sT := sT) (xT := xT) (.inl hx2.und) hH hsv (xv := .string ⟨m.toArray⟩) (ms := byts m) (new := bytV m) (fun w' => by rw [byts_len]; simp [Builtin.lenOf, size_mk]) (fun w' _ => by rw [byts_len]; exact first_str m w')
      (by rw [byts_flat]; exact byts_rep m) (byts_size m) (bytV_flat m) (by rw [hel, byts_len]; exact hroom) (fun b' cap' => hk _ _ (by rw [byts_app, he]; exact Acc.row))
    rw [execOp_builtin', h0]
    simp only [List.map_toArray, List.map_cons, List.map_nil, Sem.run_bind, hxv, atom_of h hy, r1, Result.andThen_ok, Sem.run_pure]
    exact r2
theorem S.appS1 {sT xT el bytes : Nat} [ht : TSlice C.P sT el 1] [hr : TRow C.P el 1 bytes] [hx2 : TStr C.P xT] {v : LV} {l m : List UInt8} {H1 F : Heap} {q : Nat × LObj}
    (hx : e.ev x = v) (ha : Acc 1 v (byts l) H1 F) (hy : e.ev y = str m) (hroom : (l.length + m.length) * bytes ≤ 140737488355328)
    (hk : ∀ v' H', Acc 1 v' (byts (l ++ m)) H' F → K v' (q :: H')) : LStep C ⟨dst, .call { callee := .builtin .append, args := #[x, y], argTypes := #[sT, xT] }, ty, pos, aft, g⟩ e (q :: H1) K X := by
  refine LStep.conseq (K := fun lv H' => ∃ H2, H' = H2 ++ [q] ∧ Acc 1 lv (byts (l ++ m)) H2 F) (LStep.frame (List.perm_append_singleton _ _).symm (S.appS hx ha hy hroom fun v' H' h => ⟨H', rfl, h⟩)) ?_
  rintro lv H' ⟨H2, rfl, h⟩
  exact ⟨lv, [q] ++ H2, LV.Sub.refl _, ⟨[], by simp⟩, hk _ _ h⟩
/-! ### A buffer whose cells are all known: it can be frozen -/
theorem repL_atoms_eq {w : World} {L : Live} : ∀ {zs xs : List Value}, RepL w L (zs.map .atom) xs → xs = zs
  | [], _, h => by simpa only [List.map_nil, RepL] using h
  | z :: zs, xs, h => by
    simp only [List.map_cons, RepL] at h
    obtain ⟨y, ys, rfl, h1, h2⟩ := h
    simp only [Rep] at h1
    rw [h1, repL_atoms_eq h2]
/-- A row of bytes that holds l, at the slice v. -/
inductive BRow (el : TypeId) : Value → List UInt8 → Heap → Prop
  | nil : BRow el (.slice none 0 0) [] []
  | row {b : Nat} {l : List UInt8} {xs : List Value} (h0 : l ≠ []) (h1 : l.length ≤ xs.length) (h2 : xs.take l.length = bytV l) : BRow el (.slice (some ⟨b, 0, none⟩) l.length xs.length) l [(b, .cells el (xs.map .atom))]
theorem bytV_len (l : List UInt8) : (bytV l).length = l.length := List.length_map _
theorem bytV_app (l m : List UInt8) : bytV (l ++ m) = bytV l ++ bytV m := List.map_append
theorem left_newB {w : World} {L : Live} (hH : RelH C w L []) {el : TypeId} {l : List UInt8} {xs : List Value} (h0 : l ≠ []) (h1 : l.length ≤ xs.length) (h2 : xs.take l.length = bytV l) (hk : ∀ v' H', BRow el v' l H' → K (.atom v') H') :
    Left C w L [] (World.push w (.cells xs.toArray el)) (.slice (some ⟨w.heap.size, 0, none⟩) l.length xs.length) K := by
  have hx := ext_push hH.wf (.cells xs.toArray el) 0
  have := fr_push hH (.cells xs.toArray el) 0 [(w.heap.size, .cells el (xs.map .atom))] (fun p hp => by
    simp only [List.mem_singleton] at hp
    subst hp
    exact ⟨rfl, by simp [Live.upd], xs, heap_push_self, repL_atoms xs⟩) (by simp)
  exact ⟨.atom _, _, _, this.1, this.2, rep_atom, hk _ _ (BRow.row h0 h1 h2)⟩
theorem LStep.appB {sT xT el bytes : Nat} [ht : TSlice C.P sT el 1] [hr : TRow C.P el 1 bytes] [hx2 : TStr C.P xT] {v : Value} {l m : List UInt8}
    (hx : e.ev x = .atom v) (ha : BRow el v l H) (hy : e.ev y = str m) (hroom : (l.length + m.length) * bytes ≤ 140737488355328)
    (hk : ∀ v' H', BRow el v' (l ++ m) H' → K (.atom v') H') : LStep C ⟨dst, .call { callee := .builtin .append, args := #[x, y], argTypes := #[sT, xT] }, ty, pos, aft, g⟩ e H K X := by
  have h0 : ∀ (cs : Array Bool) (args : Array Value), builtin .append #[sT, xT] ty cs args = (do Pure.pure (.value (← Builtin.append_ #[sT, xT] ty args))) := fun _ _ => rfl
  have hlen : ∀ w' : World, (Builtin.lenOf (.string ⟨m.toArray⟩)).run C.P w' = .ok m.length w' := fun w' => by simp [Builtin.lenOf, size_mk]
  cases ha with
  | nil =>
    by_cases hne : m = []
    · subst hne
      intro ρ w L h hH
      have hr : (Builtin.append_ #[sT, xT] ty #[.slice none 0 0, .string ⟨#[]⟩]).run C.P w = .ok (.slice none 0 0) w := by
        obtain ⟨i, hi, his⟩ := ht.size
        simp [Builtin.append_, run_underlying' ht.und, run_underlying' hx2.und, sizeOf, typeInfo, hi, Builtin.lenOf, Builtin.firstCells, show (ByteArray.mk #[]).size = 0 from rfl, show ((ByteArray.mk #[]).extract 0 0).data = #[] from rfl]
      rw [execOp_builtin', h0]
      simp only [List.map_toArray, List.map_cons, List.map_nil, Sem.run_bind, atom_of h hx, atom_of h hy, hr, Result.andThen_ok, Sem.run_pure]
      exact ⟨_, [], L, Fr.refl _ _ _, hH, rep_atom, hk _ _ BRow.nil⟩
    · intro ρ w L h hH
      have hpos : 0 < m.length := List.length_pos_iff.2 hne
      obtain ⟨cap', rest, r1, r2, r3⟩ := run_append_new (ty := ty) (P := C.P) (w := w) (sT := sT) (xT := xT) (a := none) (len := 0) (cap := 0) (n := m.length) (xv := .string ⟨m.toArray⟩) (old := []) (new := bytV m) (.inl hx2.und) hlen (fun w' _ => first_str m w')
        (fun w' _ => by simp [Builtin.firstCells]) (by simpa using hroom) (by omega)
      rw [execOp_builtin', h0]
      simp only [List.map_toArray, List.map_cons, List.map_nil, Sem.run_bind, atom_of h hx, atom_of h hy, r3, Result.andThen_ok, Sem.run_pure, List.nil_append, Nat.zero_add]
      have hcl : (bytV m ++ rest).length = cap' := by rw [List.length_append, r2, bytV_len]; omega
      obtain ⟨lv, H', L', g1, g2, g3, g4⟩ := left_newB (K := K) (el := el) (l := m) (xs := bytV m ++ rest) hH.drew hne (by rw [hcl]; omega) (by rw [List.take_left' (bytV_len m)]) (fun v' H' h' => hk v' H' h')
      rw [hcl] at g3
      exact ⟨lv, H', L', g1.of_drew, g2, g3, g4⟩
  | row hne h1 h2 =>
    rename_i b xs
    intro ρ w L h hH
    obtain ⟨hb0, hbs, hl, zs, hz1, hz2⟩ := hH.objs _ (List.mem_singleton.2 rfl)
    have hz := repL_atoms_eq hz2
    subst hz
    simp only at hb0 hbs hl hz1
    rw [execOp_builtin', h0]
    simp only [List.map_toArray, List.map_cons, List.map_nil, Sem.run_bind, atom_of h hx, atom_of h hy]
    by_cases hc : l.length + m.length ≤ zs.length
    · have hrun := run_append_in (ty := ty) (P := C.P) (w := w) (sT := sT) (xT := xT) (s := 1) (a := some ⟨b, 0, none⟩) (len := l.length) (cap := zs.length) (n := m.length) (xv := .string ⟨m.toArray⟩) (new := bytV m) (.inl hx2.und) hlen (fun w' _ => first_str m w') hc
      obtain ⟨w', r1, r2, r3, r4, r5, r6, r7⟩ := storeCells_run (P := C.P) (b := b) (off := 0 + l.length * 1) (t := el) (fr := (0, 0)) (bytV m) 0 w zs hz1 (by rw [bytV_len]; omega) (fun j _ _ => by simp) (bytV_flat m)
      rw [hrun]
      simp only [add_mk, r1, Result.andThen_ok, Sem.run_pure]
      have hx' : (zs.take (0 + l.length * 1 + 0) ++ bytV m ++ zs.drop (0 + l.length * 1 + 0 + (bytV m).length)).length = zs.length := by
        simp only [List.length_append, List.length_take, List.length_drop, bytV_len]
        omega
      have hfin := left_write (v := .slice (some ⟨b, 0, none⟩) (l.length + m.length) zs.length) (lv := .atom (.slice (some ⟨b, 0, none⟩) (l.length + m.length) zs.length)) (K := K) (cs' := (zs.take (0 + l.length * 1 + 0) ++ bytV m ++ zs.drop (0 + l.length * 1 + 0 + (bytV m).length)).map .atom) hH r2 r3 r4 r5 r6 r7 (by rw [hx', List.length_map]) (repL_atoms _) rep_atom (by
        have hb : BRow el (.slice (some ⟨b, 0, none⟩) (l ++ m).length (zs.take (0 + l.length * 1 + 0) ++ bytV m ++ zs.drop (0 + l.length * 1 + 0 + (bytV m).length)).length) (l ++ m) _ := BRow.row (b := b) (el := el) (by simp [hne]) (by rw [hx', List.length_append]; exact hc) (by
          have he : 0 + l.length * 1 + 0 = l.length := by omega
          rw [he, h2, ← bytV_app, List.take_left' (bytV_len _)])
        rw [hx', List.length_append] at hb
        exact hk _ _ hb)
      exact hfin
    · have hold : ∀ w' : World, w'.heap = w.heap → (Builtin.firstCells 1 l.length (.slice (some ⟨b, 0, none⟩) l.length zs.length)).run C.P w' = .ok (bytV l).toArray w' := fun w' hw => by
        have := loadCellsFrom_run (P := C.P) (w := w') (b := b) (off := 0) l.length 0 #[] (bytV l) (bytV_len l) (fun j x' hj => by
          have hj' : zs[j]? = some x' := by
            rw [← h2, List.getElem?_take] at hj
            split at hj
            · exact hj
            · cases hj
          simp [World.cell?, hw, hz1, hj'])
        simp only [Builtin.firstCells, loadCells, Nat.mul_one, this]
        simp
      obtain ⟨cap', rest, r1, r2, r3⟩ := run_append_new (ty := ty) (P := C.P) (w := w) (sT := sT) (xT := xT) (a := some ⟨b, 0, none⟩) (len := l.length) (cap := zs.length) (n := m.length) (xv := .string ⟨m.toArray⟩) (old := bytV l) (new := bytV m) (.inl hx2.und) hlen (fun w' _ => first_str m w') hold hroom (by omega)
      rw [r3]
      simp only [Result.andThen_ok, Sem.run_pure]
      have hcl : (bytV l ++ bytV m ++ rest).length = cap' := by rw [List.length_append, List.length_append, r2, bytV_len, bytV_len]; omega
      have hH0 : RelH C w L [] := hH.sub (List.nil_sublist _)
      obtain ⟨lv, H', L', g1, g2, g3, g4⟩ := left_newB (K := K) (el := el) (l := l ++ m) (xs := bytV l ++ bytV m ++ rest) hH0.drew (by simp [hne]) (by rw [hcl, List.length_append]; omega) (by rw [← bytV_app, List.take_left' (bytV_len _)]) (fun v' H' h' => hk v' H' h')
      rw [hcl, List.length_append] at g3
      exact ⟨lv, H', L', g1.of_drew.wide (by simp), g2, g3, g4⟩
theorem S.appB1 {sT xT el bytes : Nat} [ht : TSlice C.P sT el 1] [hr : TRow C.P el 1 bytes] [hx2 : TStr C.P xT] {v : Value} {l m : List UInt8} {H1 : Heap} {q : Nat × LObj}
    (hx : e.ev x = .atom v) (ha : BRow el v l H1) (hy : e.ev y = str m) (hroom : (l.length + m.length) * bytes ≤ 140737488355328)
    (hk : ∀ v' H', BRow el v' (l ++ m) H' → K (.atom v') (q :: H')) : LStep C ⟨dst, .call { callee := .builtin .append, args := #[x, y], argTypes := #[sT, xT] }, ty, pos, aft, g⟩ e (q :: H1) K X := by
  refine LStep.conseq (K := fun lv H' => ∃ v' H2, lv = .atom v' ∧ H' = H2 ++ [q] ∧ BRow el v' (l ++ m) H2) (LStep.frame (List.perm_append_singleton _ _).symm (LStep.appB hx ha hy hroom fun v' H' h => ⟨v', H', rfl, rfl, h⟩)) ?_
  rintro lv H' ⟨v', H2, rfl, rfl, h⟩
  exact ⟨_, [q] ++ H2, LV.Sub.refl _, ⟨[], by simp⟩, hk _ _ h⟩
end
end Go.GL
namespace Go.Proofs.YtkjjenppmmipmaaGreatDoor
open Go.GL Go.RowKit Go.Stele
set_option maxRecDepth 100000
set_option maxHeartbeats 4000000
/-- A builder at b that holds l. -/
def BH (b : Nat) (l : List UInt8) (H : Heap) : Prop := ∃ p v Hv, (p = LV.atom (.pointer none) ∨ p = ptr b 0) ∧ BRow 5 v l Hv ∧ H = (b, .cells 58 [p, .atom v]) :: Hv
theorem lays240 : Lays.n240 Tryz.prog Tryz.lays156_ren := { Tryz.lays156 with }
section
variable {B0 : Nat} {w0 : World}
theorem copyCheck_spec (b : Nat) (p v : LV) (hp : p = LV.atom (.pointer none) ∨ p = ptr b 0) : LCalls (KC B0 w0) 62 [ptr b 0] [(b, .cells 58 [p, v])]
    (fun r H' => (∃ x, r = .ret (.atom x)) ∧ H' = [(b, .cells 58 [ptr b 0, v])]) := fun xs w L hv hH => by
  simp only [RepL] at hv
  obtain ⟨y, ys, rfl, hy, rfl⟩ := hv
  simp only [Rep] at hy
  subst hy
  obtain ⟨hb0, hbs, hl, zs, hx1, hx2⟩ := hH.objs _ (List.mem_singleton.2 rfl)
  simp only at hb0 hbs hl hx1 hx2
  have hz := hx2
  simp only [RepL] at hz
  obtain ⟨a, as1, rfl, ha, c, as2, rfl, hc, rfl⟩ := hz
  rcases hp with rfl | rfl
  · simp only [Rep] at ha
    subst ha
    have h0 : w.cell? ⟨b, 0, none⟩ = some (.pointer none) := by simp [World.cell?, hx1]
    have hsh : w.shape? b = some (58, 2) := by simp [World.shape?, hx1]
    have hfz : w.frozen? ⟨b, 0, none⟩ = false := Go.Lib.frozen_of_heap hx1 0
    refine (Any.Builder_copyCheck_fresh (P := Tryz.prog) lays240 Tryz.Builder_Extra_156.toX72 b w h0 hsh hfz).mono fun e w' he => ?_
    obtain ⟨rfl, rfl⟩ := he
    refine left_write (w := w) (w' := w.setCell ⟨b, 0, none⟩ (.pointer (some ⟨b, 0, none⟩))) (xs' := [.pointer (some ⟨b, 0, none⟩), c]) (cs' := [ptr b 0, v]) (lv := .atom (.tuple #[])) hH rfl rfl rfl (by simp [World.setCell]) (fun d hd => by simp [World.setCell, Array.getElem?_modify, Ne.symm hd]) (by rw [setCell_heap (xs := [.pointer none, c]) hx1]; rfl) rfl ?_ rep_atom ⟨⟨_, rfl⟩, rfl⟩
    simp only [RepL] at hx2 ⊢
    exact ⟨_, _, rfl, rep_atom, c, [], rfl, hc, rfl⟩
  · simp only [Rep] at ha
    subst ha
    have h0 : w.cell? ⟨b, 0, none⟩ = some (.pointer (some ⟨b, 0, none⟩)) := by simp [World.cell?, hx1]
    refine (Any.Builder_copyCheck_used (P := Tryz.prog) lays240 Tryz.Builder_Extra_156.toX72 b w h0).mono fun e w' he => ?_
    obtain ⟨rfl, rfl⟩ := he
    exact ⟨.atom (.tuple #[]), _, L, Fr.refl _ _ _, hH, rep_atom, ⟨_, rfl⟩, rfl⟩
attribute [local irreducible] LOps LCode LStep LCalls Go.GL.Pure QThen QBlock RetPost LQ LAny LLate LLateOp
theorem writeString_spec (b : Nat) (l m : List UInt8) (H : Heap) (hB : BH b l H) (hlen : l.length + m.length ≤ 10000000000) : LCalls (KC B0 w0) 35 [ptr b 0, str m] H (fun r H' => (∃ x, r = .ret x) ∧ BH b (l ++ m) H') := by
  obtain ⟨p, v, Hv, hp, hacc, rfl⟩ := hB
  refine LCalls.intro Tryz.func35 rfl (n := 19) rfl rfl rfl ?_
  repeat first
    | refine LOps.nil ?_
    | refine LCode.seq ?_
    | refine LCode.region ?_
    | refine QThen.normal ?_
    | refine LOps.pure (Pure.as (lv := .atom _) rfl) rfl ?_
    | refine LOps.pure (Pure.mv (lv := .atom _) rfl) rfl ?_
  refine LOps.step (S.callH (H1 := [(b, _)]) (F := Hv) [_] rfl (List.Perm.refl _) (copyCheck_spec b p (.atom v) hp) (fun x H' h => ?_) (fun ch H' h => ?_)) rfl
  · obtain ⟨⟨x', hx'⟩, rfl⟩ := h
    cases hx'
    repeat first
      | refine LOps.nil ?_
      | refine LCode.seq ?_
      | refine LCode.region ?_
      | refine QThen.normal ?_
      | refine LOps.pure (Pure.mv (lv := .atom _) rfl) rfl ?_
      | refine LOps.pure (Pure.nilCheckH rfl) rfl ?_
      | refine LOps.pure (Pure.fieldH rfl) rfl ?_
      | refine LOps.pure (Pure.loadH (c := .atom _) rfl (List.Mem.head _) rfl) rfl ?_
    refine LOps.step (S.appB1 (q := (b, .cells 58 [ptr b 0, .atom v])) (l := l) (m := m) rfl hacc rfl (by omega) fun v' H' hacc' => ?_) rfl
    repeat first
      | refine LOps.pure (Pure.nilCheckH rfl) rfl ?_
      | refine LOps.pure (Pure.fieldH rfl) rfl ?_
    have hacc2 := hacc'
    generalize l ++ m = lm at hacc' hacc2 ⊢
    cases hacc' with
    | nil =>
      repeat first
        | refine LOps.nil ?_
        | refine LCode.seq ?_
        | refine LCode.region ?_
        | refine LCode.ret ?_
        | refine QThen.normal ?_
        | refine LOps.pure (Pure.as (lv := .atom _) rfl) rfl ?_
        | refine LOps.pure (Pure.mv (lv := .atom _) rfl) rfl ?_
        | refine LOps.pure (Pure.slen rfl) rfl ?_
        | refine LOps.step (S.store (cs' := [_, _]) rfl Pick.here rfl rfl rfl rfl rfl ?_) rfl
      exact RetPost.ret rfl (AllRes.cons (ResIs.tmp (v := .atom _) rfl (LV.Sub.refl _)) (AllRes.cons (ResIs.tmp (v := .atom _) rfl (LV.Sub.refl _)) AllRes.nil)) (HSub.refl _) ⟨⟨_, rfl⟩, ptr b 0, _, _, .inr rfl, hacc2, rfl⟩
    | row h0 h1 h2 =>
      repeat first
        | refine LOps.nil ?_
        | refine LCode.seq ?_
        | refine LCode.region ?_
        | refine LCode.ret ?_
        | refine QThen.normal ?_
        | refine LOps.pure (Pure.as (lv := .atom _) rfl) rfl ?_
        | refine LOps.pure (Pure.mv (lv := .atom _) rfl) rfl ?_
        | refine LOps.pure (Pure.slen rfl) rfl ?_
        | refine LOps.step (S.store (cs' := [_, _]) rfl Pick.here rfl rfl rfl rfl rfl ?_) rfl
      exact RetPost.ret rfl (AllRes.cons (ResIs.tmp (v := .atom _) rfl (LV.Sub.refl _)) (AllRes.cons (ResIs.tmp (v := .atom _) rfl (LV.Sub.refl _)) AllRes.nil)) (HSub.refl _) ⟨⟨_, rfl⟩, ptr b 0, _, _, .inr rfl, hacc2, rfl⟩
  · obtain ⟨⟨x', hx'⟩, _⟩ := h
    cases hx'
end
end Go.Proofs.YtkjjenppmmipmaaGreatDoor
namespace Go.Proofs.YtkjjenppmmipmaaGreatDoor
open Go Go.Shelf Go.RowKit
section
variable {P : Program} {ρ : Ren}
set_option maxHeartbeats 4000000 in
set_option maxRecDepth 100000 in
theorem builder_string_row (L : Lays.n169 P ρ) (X : Builder.Extra P ρ) (b g : Nat) (p : Value) (l : List UInt8) (cur : Array Value) (w : World) (hbk : w.heap[b]? = some (.cells #[p, .slice (some ⟨g, 0, none⟩) l.length cur.size] (ρ.t 72) (0, 0)))
    (hg : w.heap[g]? = some (.cells cur (ρ.t 5) (0, 0))) (h0 : l ≠ []) (hn : l.length ≤ cur.size) (hbig : l.length ≤ 9223372036854775807) (hcell : ∀ (j : Nat) (x : UInt8), l[j]? = some x → cur[j]? = some (.int .u8 x.toNat)) :
    Calls P (ρ.f 169) #[.pointer (some ⟨b, 0, none⟩)] w fun e w' => e = .returned (.string ⟨l.toArray⟩) ∧ w' = w.drew.freeze ⟨g, 0, none⟩ l.length := by
  have hl0 : l.length ≠ 0 := by simpa using h0
  have c1 : w.drew.cell? ⟨b, 1, none⟩ = some (.slice (some ⟨g, 0, none⟩) l.length cur.size) := by
    have : w.drew.heap[b]? = some (.cells #[p, .slice (some ⟨g, 0, none⟩) l.length cur.size] (ρ.t 72) (0, 0)) := hbk
    rw [Lib.cell_of_heap this]; rfl
  have hSD : (Builtin.unsafeSliceData_ #[(ρ.t 37)] (ρ.t 127) #[.slice (some ⟨g, 0, none⟩) l.length cur.size]).run P w.drew = .ok (.pointer (some ⟨g, 0, none⟩)) w.drew :=
    Lib.run_unsafeSliceData_row _ _ _ _ _ _ (by omega)
  have hUS : (Builtin.unsafeString_ #[(ρ.t 127), (ρ.t 3)] (ρ.t 9) #[.pointer (some ⟨g, 0, none⟩), .int .i64 l.length]).run P w.drew = .ok (.string ⟨l.toArray⟩) (w.drew.freeze ⟨g, 0, none⟩ l.length) := by
    refine Lib.run_unsafeString_row w.drew (ρ.t 127) (ρ.t 3) (ρ.t 9) (ρ.t 5) L.t127 X.cellsByte g cur.size (by have hg' : w.drew.heap[g]? = some (.cells cur (ρ.t 5) (0, 0)) := hg; simp [World.shape?, hg']) l h0 hn hbig ?_
    intro j x hx
    have hg' : w.drew.heap[g]? = some (.cells cur (ρ.t 5) (0, 0)) := hg
    have := hcell j x hx
    rw [Go.GL.add_mk]
    simp [World.cell?, hg', this]
  have mixed := L.mixed
  have t72 := L.t72; have a72 := L.a72; have z72 := L.z72; have v72 := L.v72; have u72 := run_underlying L.t72
  have t70 := L.t70; have a70 := L.a70; have z70 := L.z70; have v70 := L.v70; have u70 := run_underlying L.t70
  have t37 := L.t37; have a37 := L.a37; have z37 := L.z37; have v37 := L.v37; have u37 := run_underlying L.t37
  have t127 := L.t127; have a127 := L.a127; have z127 := L.z127; have v127 := L.v127; have u127 := run_underlying L.t127
  have t3 := L.t3; have a3 := L.a3; have z3 := L.z3; have v3 := L.v3; have u3 := run_underlying L.t3
  have t9 := L.t9; have a9 := L.a9; have z9 := L.z9; have v9 := L.v9; have u9 := run_underlying L.t9
  have t5 := X.t5; have a5 := X.a5; have z5 := X.z5; have v5 := X.v5; have u5 := run_underlying X.t5
  go_enter L.f169, Body.n169_ntmps ρ
  go_wp2
  go_region_o
  all_goals (go_wp2; go_ret; exact ⟨rfl, rfl⟩)
end
open Go.GL Go.Stele
theorem lays169 : Lays.n169 Tryz.prog Tryz.lays156_ren := { Tryz.lays156 with }
section
variable {B0 : Nat} {w0 : World}
theorem fr_freeze {C : Ctx} {w : World} {L : Live} {H : Heap} (hH : RelH C w L H) {g n : Nat} (hm : g ∈ keys H) (hb : C.B0 ≤ g) : Fr (keys H) w L (w.drew.freeze ⟨g, 0, none⟩ n) L [] ∧ RelH C (w.drew.freeze ⟨g, 0, none⟩ n) L [] := by
  have hbl : ∀ c, c ≠ g → (w.drew.freeze ⟨g, 0, none⟩ n).heap[c]? = w.heap[c]? := fun c hc => by
    unfold World.freeze
    split
    · rfl
    · simp only [Array.getElem?_modify]
      rw [if_neg (Ne.symm hc)]
      rfl
  have hsz : (w.drew.freeze ⟨g, 0, none⟩ n).heap.size = w.heap.size := by
    unfold World.freeze
    split
    · rfl
    · simp
  have hsh : ∀ c, (w.drew.freeze ⟨g, 0, none⟩ n).shape? c = w.shape? c := fun c => by
    by_cases hc : c = g
    · subst hc
      unfold World.freeze
      split
      · rfl
      · simp only [World.shape?, Array.getElem?_modify, if_true]
        show (match Option.map _ w.heap[c]? with | some (Obj.cells c e _) => some (e, c.size) | _ => none) = _
        cases w.heap[c]? with
        | none => rfl
        | some o => cases o <;> rfl
    · exact shape_of_heap (hbl c hc)
  have hce : ∀ c i, (w.drew.freeze ⟨g, 0, none⟩ n).cell? ⟨c, i, none⟩ = w.cell? ⟨c, i, none⟩ := fun c i => by
    by_cases hc : c = g
    · subst hc
      unfold World.freeze
      split
      · rfl
      · simp only [World.cell?, Array.getElem?_modify, if_true]
        show (match Option.map _ w.heap[c]? with | some (Obj.cells c e _) => _ | _ => none) = _
        cases w.heap[c]? with
        | none => rfl
        | some o => cases o <;> rfl
    · exact cell_of_heap (hbl c hc) i
  have hos : (w.drew.freeze ⟨g, 0, none⟩ n).os = w.os ∧ (w.drew.freeze ⟨g, 0, none⟩ n).tape = w.tape ∧ (w.drew.freeze ⟨g, 0, none⟩ n).output = w.output := by
    unfold World.freeze
    split <;> exact ⟨rfl, rfl, rfl⟩
  exact ⟨⟨hos.1, hos.2.1, hos.2.2, ⟨Nat.le_of_eq hsz.symm, fun c _ => hsh c, fun c i _ => hce c i, fun _ => Nat.le_refl _⟩, fun c _ hc => hbl c (fun h => hc (h ▸ hm)), fun _ _ _ => rfl, by simp⟩,
    ⟨hH.base.trans ⟨hos.1, hos.2.1, hos.2.2, Nat.le_of_eq hsz.symm, fun c hc => hbl c (by omega)⟩, hH.lbase, by rw [hsz]; exact hH.b0, fun c hc => hH.wf c (by rw [hsz] at hc; exact hc), List.nodup_nil, by simp⟩⟩
theorem string_spec (b : Nat) (l : List UInt8) (H : Heap) (hB : BH b l H) (hlen : l.length ≤ 10000000000) : LCalls (KC B0 w0) 36 [ptr b 0] H (Ret (str l)) := fun xs w L hv hH => by
  obtain ⟨p, v, Hv, hp, hacc, rfl⟩ := hB
  simp only [RepL] at hv
  obtain ⟨y, ys, rfl, hy, rfl⟩ := hv
  simp only [Rep] at hy
  subst hy
  obtain ⟨hb0, hbs, hl, zs, hx1, hx2⟩ := hH.objs _ (List.mem_cons_self ..)
  simp only at hb0 hbs hl hx1 hx2
  simp only [RepL] at hx2
  obtain ⟨a, as1, rfl, ha, c, as2, rfl, hc, rfl⟩ := hx2
  simp only [Rep] at hc
  subst hc
  cases hacc with
  | nil =>
    refine (Any.Builder_String_nil (P := Tryz.prog) lays169 Tryz.Builder_Extra_156 w.heap.size b a w hx1).mono fun e w' he => ?_
    obtain ⟨rfl, hb⟩ := he
    obtain ⟨h1, h2⟩ := fr_below (hH.sub (List.nil_sublist _)) hb
    exact ⟨str [], [], L, h1.wide (by simp), h2, rep_atom, rfl, rfl⟩
  | row h0 h1 h2 =>
    rename_i g xs
    obtain ⟨hg0, hgs, hgl, ws, hw1, hw2⟩ := hH.objs _ (List.mem_cons_of_mem _ (List.mem_singleton.2 rfl))
    simp only at hg0 hgs hgl hw1
    have := repL_atoms_eq hw2
    subst this
    have hcell : ∀ (j : Nat) (x : UInt8), l[j]? = some x → ws.toArray[j]? = some (Value.int .u8 x.toNat) := fun j x hx => by
      have hj : (bytV l)[j]? = some (Value.int .u8 x.toNat) := by simp [bytV, hx]
      rw [← h2, List.getElem?_take] at hj
      split at hj
      · simpa using hj
      · cases hj
    refine (builder_string_row (P := Tryz.prog) lays169 Tryz.Builder_Extra_156 b g a l ws.toArray w hx1 hw1 h0 (by simpa using h1) (by omega) hcell).mono fun e w' he => ?_
    obtain ⟨rfl, rfl⟩ := he
    obtain ⟨f1, f2⟩ := fr_freeze (n := l.length) hH (g := g) (by simp) hg0
    exact ⟨str l, [], L, f1, f2, rep_atom, rfl, rfl⟩
end
end Go.Proofs.YtkjjenppmmipmaaGreatDoor
namespace Go.GL
open Go.RowKit
/-- The keys are strings, the values numbers up to M. -/
def IntMap (es : Array MapEntry) (M : Nat) : Prop := ∀ e ∈ es.toList, (∃ s : List UInt8, e.key = .string ⟨s.toArray⟩) ∧ ∃ n : Nat, n ≤ M ∧ e.val = .int .i64 n
theorem IntMap.nil (M : Nat) : IntMap #[] M := fun e he => by simp at he
theorem findNow_any (k : List UInt8) : ∀ (es : List MapEntry) (i : Nat), (∀ e ∈ es, ∃ s : List UInt8, e.key = .string ⟨s.toArray⟩) →
    (Instr.findNow .string (.string ⟨k.toArray⟩) es i = some none ∧ ∀ e ∈ es, ∃ s, e.key = .string s ∧ ¬ ((⟨k.toArray⟩ : ByteArray) == s) = true) ∨
    ∃ (j : Nat) (e : MapEntry), Instr.findNow .string (.string ⟨k.toArray⟩) es i = some (some (i + j, e.val)) ∧ es[j]? = some e ∧ e.key = .string ⟨k.toArray⟩
  | [], i, _ => .inl ⟨rfl, fun e he => by cases he⟩
  | e :: es, i, h => by
    obtain ⟨s, h1⟩ := h e List.mem_cons_self
    by_cases hs : k = s
    · right
      refine ⟨0, e, ?_, rfl, by rw [h1, hs]⟩
      have hb : ((⟨k.toArray⟩ : ByteArray) == ⟨s.toArray⟩) = true := by rw [bytes_beq, decide_eq_true hs]
      simp only [Instr.findNow, h1, Instr.sameNow, hb, Nat.add_zero]
    · have hb : ((⟨k.toArray⟩ : ByteArray) == ⟨s.toArray⟩) = false := by rw [bytes_beq, decide_eq_false hs]
      rcases findNow_any k es (i + 1) (fun x hx => h x (List.mem_cons_of_mem _ hx)) with ⟨g1, g2⟩ | ⟨j, e2, g1, g2, g3⟩
      · left
        refine ⟨?_, fun x hx => ?_⟩
        · simp only [Instr.findNow, h1, Instr.sameNow, hb]
          exact g1
        · rcases List.mem_cons.1 hx with rfl | hx
          · exact ⟨_, h1, by rw [hb]; simp⟩
          · exact g2 x hx
      · right
        refine ⟨j + 1, e2, ?_, g2, g3⟩
        simp only [Instr.findNow, h1, Instr.sameNow, hb]
        rw [g1]
        congr 3
        omega
section
variable {C : Ctx} {e : Env} {H : Heap} {dst : Option Nat} {ty : TypeId} {pos : String} {aft : Array Edge} {g : Option (Nat × Bool)} {K : LV → Heap → Prop} {X : List PanicEntry → Heap → Prop} {x y : Operand}
/-- A number is put in. -/
theorem S.intPut {t kt el : TypeId} (ht : C.P.underlying t = some (.map kt el)) (hkt : C.P.underlying kt = some .string) {b clock M n : Nat} {es : Array MapEntry} {F : Heap} {m z : Operand} {k : List UInt8} (hm : e.ev m = .atom (.map (some b))) (hx : e.ev x = str k) (hz : e.ev z = int .i64 n)
    (hp : Pick (b, .obj (.map es clock)) H F) (hs : IntMap es M) (hn : n ≤ M) (hk : ∀ es' clock', IntMap es' M → K (.atom undef) ((b, .obj (.map es' clock')) :: F)) : LStep C ⟨dst, .mapUpdate t m x z, ty, pos, aft, g⟩ e H K X := by
  refine fun ρ w L h hH => (show LStep C ⟨dst, .insert t m x z, ty, pos, aft, g⟩ e H K X from ?_) ρ w L h hH
  rcases findNow_any k es.toList 0 (fun e he => (hs e he).1) with ⟨_, g2⟩ | ⟨j, e2, g1, g2, g3⟩
  · refine S.insert ht hkt hm hx hz hp g2 (hk _ _ fun e' he' => ?_)
    rw [Array.toList_push] at he'
    rcases List.mem_append.1 he' with h1 | h1
    · exact hs e' h1
    · obtain rfl := List.mem_singleton.1 h1
      exact ⟨⟨k, rfl⟩, n, hn, rfl⟩
  · refine LStep.at1 hp fun ρ w L h hH => ?_
    obtain ⟨hb0, hbs, hl, hx1, hx2⟩ := hH.objs _ (List.mem_singleton.2 rfl)
    simp only at hb0 hbs hl hx1 hx2
    have h3 : execOp ρ ⟨dst, .insert t m x z, ty, pos, aft, g⟩ = (do Instr.mapUpdate t (ρ m) (ρ x) (ρ z); Pure.pure .skip) := rfl
    have hf : (Instr.findKey kt (.string ⟨k.toArray⟩) es.toList).run C.P w = .ok (some (0 + j, e2.val)) w := by
      simp only [Instr.findKey, Sem.run_bind, run_underlying' hkt, Result.andThen_ok, g1, Sem.run_pure]
    have hg : (getObj b).run C.P w = .ok (.map es clock) w := by simp only [getObj, Sem.run, hx1]
    have hg2 : es[j]? = some e2 := by simpa using g2
    have hst : (Instr.keyThatStays (((es[0 + j]?).map (·.key)).getD (.string ⟨k.toArray⟩)) (.string ⟨k.toArray⟩)).run C.P w = .ok (.string ⟨k.toArray⟩) w := by
      rw [Nat.zero_add, hg2]
      simp only [Option.map_some, Option.getD_some, g3]
      unfold Instr.keyThatStays
      rw [if_pos (by simp only [Instr.sameBits]; rw [bytes_beq]; simp)]
      rfl
    rw [h3, atom_of h hm, atom_of h hx, atom_of h hz]
    simp only [Instr.mapUpdate, Sem.run_bind, run_underlying' ht, Result.andThen_ok, hg, run_checkStr hkt, hf, hst]
    have hset : ∀ o', (setObj b o').run C.P w = .ok () (setW w b o') := fun o' => run_setObj hx1 rfl
    rw [hset]
    refine left_obj (w' := setW w b _) hH rfl rfl rfl rfl (by simp [setW]) (fun c hc => setW_other hc) (setW_self hbs) (fun _ => rep_atom) (hk _ clock fun e' he' => ?_)
    rw [Nat.zero_add] at he'
    obtain ⟨i, hi, rfl⟩ := List.mem_iff_getElem.1 he'
    simp only [Array.length_toList, Array.size_modify] at hi
    rw [Array.getElem_toList, Array.getElem_modify]
    split
    · exact ⟨⟨k, rfl⟩, n, hn, rfl⟩
    · exact hs es[i] (by simp)
/-- A number is looked up. -/
theorem S.intGet {t kt el : TypeId} (ht : C.P.underlying t = some (.map kt el)) (hkt : C.P.underlying kt = some .string) (hz : ∀ w, (zeroValue el).run C.P w = .ok (.int .i64 0) w) {b clock M : Nat} {es : Array MapEntry} {k : List UInt8} (hm : e.ev x = .atom (.map (some b))) (hx : e.ev y = str k)
    (hb : (b, .obj (.map es clock)) ∈ H) (hs : IntMap es M) (hk : ∀ n : Nat, n ≤ M → K (int .i64 n) H) : LStep C ⟨dst, .lookup t x y false, ty, pos, aft, g⟩ e H K X := by
  rcases findNow_any k es.toList 0 (fun e he => (hs e he).1) with ⟨g1, g2⟩ | ⟨j, e2, g1, g2, g3⟩
  · refine Pure.step (lv := int .i64 ((0 : Nat) : Int)) (fun ρ w L h hH => ?_) (hk 0 (Nat.zero_le _))
    obtain ⟨_, _, _, hx1, _⟩ := hH.objs _ hb
    simp only at hx1
    refine ⟨.int .i64 0, rep_atom, fun w' ha => ?_⟩
    have hw : w'.heap[b]? = some (.map es clock) := (ha.1 _ hb).trans hx1
    have h3 : execOp ρ ⟨dst, .lookup t x y false, ty, pos, aft, g⟩ = (do Pure.pure (.value (← Instr.lookup t (ρ x) (ρ y) false))) := rfl
    have hg : (getObj b).run C.P w' = .ok (.map es clock) w' := by simp only [getObj, Sem.run, hw]
    rw [h3, atom_of h hm, atom_of h hx]
    have hf : (Instr.findKey kt (.string ⟨k.toArray⟩) es.toList).run C.P w' = .ok none w' := by
      simp only [Instr.findKey, Sem.run_bind, run_underlying' hkt, Result.andThen_ok, g1, Sem.run_pure]
    simp only [Instr.lookup, Sem.run_bind, run_underlying' ht, Result.andThen_ok, hg, Sem.run_pure, run_checkStr hkt, hf, hz]
    rfl
  · obtain ⟨_, n, hn, hv⟩ := hs e2 (List.mem_of_getElem? g2)
    refine Pure.step (lv := int .i64 (n : Int)) (fun ρ w L h hH => ?_) (hk n hn)
    obtain ⟨_, _, _, hx1, _⟩ := hH.objs _ hb
    simp only at hx1
    refine ⟨.int .i64 n, rep_atom, fun w' ha => ?_⟩
    have hw : w'.heap[b]? = some (.map es clock) := (ha.1 _ hb).trans hx1
    have h3 : execOp ρ ⟨dst, .lookup t x y false, ty, pos, aft, g⟩ = (do Pure.pure (.value (← Instr.lookup t (ρ x) (ρ y) false))) := rfl
    have hg : (getObj b).run C.P w' = .ok (.map es clock) w' := by simp only [getObj, Sem.run, hw]
    rw [h3, atom_of h hm, atom_of h hx]
    have hf : (Instr.findKey kt (.string ⟨k.toArray⟩) es.toList).run C.P w' = .ok (some (0 + j, e2.val)) w' := by
      simp only [Instr.findKey, Sem.run_bind, run_underlying' hkt, Result.andThen_ok, g1, Sem.run_pure]
    simp only [Instr.lookup, Sem.run_bind, run_underlying' ht, Result.andThen_ok, hg, Sem.run_pure, run_checkStr hkt, hf, hv]
    rfl
/-- A map that is nil holds nothing. -/
theorem Pure.nilGet {t kt el : TypeId} (ht : C.P.underlying t = some (.map kt el)) (hkt : C.P.underlying kt = some .string) (hz : ∀ w, (zeroValue el).run C.P w = .ok (.int .i64 0) w) {k : List UInt8} (hm : e.ev x = .atom (.map none)) (hx : e.ev y = str k) : Pure C ⟨dst, .lookup t x y false, ty, pos, aft, g⟩ e H (int .i64 0) := fun ρ w L h hH => by
  refine ⟨.int .i64 0, rep_atom, fun w' ha => ?_⟩
  have h3 : execOp ρ ⟨dst, .lookup t x y false, ty, pos, aft, g⟩ = (do Pure.pure (.value (← Instr.lookup t (ρ x) (ρ y) false))) := rfl
  rw [h3, atom_of h hm, atom_of h hx]
  have hf : (Instr.findKey kt (.string ⟨k.toArray⟩) []).run C.P w' = .ok none w' := by
    simp only [Instr.findKey, Sem.run_bind, run_underlying' hkt, Result.andThen_ok, Instr.findNow, Sem.run_pure]
  simp only [Instr.lookup, Sem.run_bind, run_underlying' ht, Result.andThen_ok, Sem.run_pure, run_checkStr hkt, hf, hz]
  rfl
end
end Go.GL
namespace Go.GL
open Go.RowKit
section
variable {C : Ctx} {e : Env} {H : Heap} {x y : Operand} {dst : Option Nat} {ty : TypeId} {pos : String} {aft : Array Edge} {g : Option (Nat × Bool)} {K : LV → Heap → Prop} {X : List PanicEntry → Heap → Prop}
theorem LStep.appBL {sT xT el bytes : Nat} [ht : TSlice C.P sT el 1] [hr : TRow C.P el 1 bytes] {e2 : Nat} [hx2 : TSlice C.P xT e2 1] {v : Value} {l m : List UInt8}
    (hx : e.ev x = .atom v) (ha : BRow el v l H) (hy : GL.elems (e.ev y) = some (byts m)) (hm0 : m ≠ []) (hroom : (l.length + m.length) * bytes ≤ 140737488355328)
    (hk : ∀ v' H', BRow el v' (l ++ m) H' → K (.atom v') H') : LStep C ⟨dst, .call { callee := .builtin .append, args := #[x, y], argTypes := #[sT, xT] }, ty, pos, aft, g⟩ e H K X := by
  have h0 : ∀ (cs : Array Bool) (args : Array Value), builtin .append #[sT, xT] ty cs args = (do Pure.pure (.value (← Builtin.append_ #[sT, xT] ty args))) := fun _ _ => rfl
  cases ha with
  | nil =>
    by_cases hne : m = []
    · subst hne
      exact absurd rfl hm0
    · intro ρ w L h hH
      have hpos : 0 < m.length := List.length_pos_iff.2 hne
      obtain ⟨ay, cy, xs0, hyv, hyc, hyr, hyl, hyf⟩ := slice_cells (s := 1) (h y) hy (byts_size m)
      rw [byts_flat] at hyr
      have hyx : xs0 = bytV m := repL_atoms_eq (zs := bytV m) (by rw [show (bytV m).map LV.atom = byts m from by simp [bytV, byts, List.map_map, Function.comp_def]]; exact hyr)
      subst hyx
      rw [byts_len] at hyv hyc hyf
      rw [hyv] at hyf
      have hlen : ∀ w' : World, (Builtin.lenOf (.slice ay m.length cy)).run C.P w' = .ok m.length w' := fun w' => by simp [Builtin.lenOf]
      obtain ⟨cap', rest, r1, r2, r3⟩ := run_append_new (ty := ty) (P := C.P) (w := w) (sT := sT) (xT := xT) (a := none) (len := 0) (cap := 0) (n := m.length) (xv := .slice ay m.length cy) (old := []) (new := bytV m) (.inr ⟨_, hx2.und⟩) hlen (fun w' hw => hyf C.P w' hw)
        (fun w' _ => by simp [Builtin.firstCells]) (by simpa using hroom) (by omega)
      rw [execOp_builtin', h0]
      simp only [List.map_toArray, List.map_cons, List.map_nil, Sem.run_bind, atom_of h hx, hyv, r3, Result.andThen_ok, Sem.run_pure, List.nil_append, Nat.zero_add]
      have hcl : (bytV m ++ rest).length = cap' := by rw [List.length_append, r2, bytV_len]; omega
      obtain ⟨lv, H', L', g1, g2, g3, g4⟩ := left_newB (K := K) (el := el) (l := m) (xs := bytV m ++ rest) hH.drew hne (by rw [hcl]; omega) (by rw [List.take_left' (bytV_len m)]) (fun v' H' h' => hk v' H' h')
      rw [hcl] at g3
      exact ⟨lv, H', L', g1.of_drew, g2, g3, g4⟩
  | row hne h1 h2 =>
    rename_i b xs
    intro ρ w L h hH
    obtain ⟨hb0, hbs, hl, zs, hz1, hz2⟩ := hH.objs _ (List.mem_singleton.2 rfl)
    have hz := repL_atoms_eq hz2
    subst hz
    simp only at hb0 hbs hl hz1
    obtain ⟨ay, cy, xs0, hyv, hyc, hyr, hyl, hyf⟩ := slice_cells (s := 1) (h y) hy (byts_size m)
    rw [byts_flat] at hyr
    have hyx : xs0 = bytV m := repL_atoms_eq (zs := bytV m) (by rw [show (bytV m).map LV.atom = byts m from by simp [bytV, byts, List.map_map, Function.comp_def]]; exact hyr)
    subst hyx
    rw [byts_len] at hyv hyc hyf
    rw [hyv] at hyf
    have hlen : ∀ w' : World, (Builtin.lenOf (.slice ay m.length cy)).run C.P w' = .ok m.length w' := fun w' => by simp [Builtin.lenOf]
    rw [execOp_builtin', h0]
    simp only [List.map_toArray, List.map_cons, List.map_nil, Sem.run_bind, atom_of h hx, hyv]
    by_cases hc : l.length + m.length ≤ zs.length
    · have hrun := run_append_in (ty := ty) (P := C.P) (w := w) (sT := sT) (xT := xT) (s := 1) (a := some ⟨b, 0, none⟩) (len := l.length) (cap := zs.length) (n := m.length) (xv := .slice ay m.length cy) (new := bytV m) (.inr ⟨_, hx2.und⟩) hlen (fun w' hw => hyf C.P w' hw) hc
      obtain ⟨w', r1, r2, r3, r4, r5, r6, r7⟩ := storeCells_run (P := C.P) (b := b) (off := 0 + l.length * 1) (t := el) (fr := (0, 0)) (bytV m) 0 w zs hz1 (by rw [bytV_len]; omega) (fun j _ _ => by simp) (bytV_flat m)
      rw [hrun]
      simp only [add_mk, r1, Result.andThen_ok, Sem.run_pure]
      have hx' : (zs.take (0 + l.length * 1 + 0) ++ bytV m ++ zs.drop (0 + l.length * 1 + 0 + (bytV m).length)).length = zs.length := by
        simp only [List.length_append, List.length_take, List.length_drop, bytV_len]
        omega
      have hfin := left_write (v := .slice (some ⟨b, 0, none⟩) (l.length + m.length) zs.length) (lv := .atom (.slice (some ⟨b, 0, none⟩) (l.length + m.length) zs.length)) (K := K) (cs' := (zs.take (0 + l.length * 1 + 0) ++ bytV m ++ zs.drop (0 + l.length * 1 + 0 + (bytV m).length)).map .atom) hH r2 r3 r4 r5 r6 r7 (by rw [hx', List.length_map]) (repL_atoms _) rep_atom (by
        have hb : BRow el (.slice (some ⟨b, 0, none⟩) (l ++ m).length (zs.take (0 + l.length * 1 + 0) ++ bytV m ++ zs.drop (0 + l.length * 1 + 0 + (bytV m).length)).length) (l ++ m) _ := BRow.row (b := b) (el := el) (by simp [hne]) (by rw [hx', List.length_append]; exact hc) (by
          have he : 0 + l.length * 1 + 0 = l.length := by omega
          rw [he, h2, ← bytV_app, List.take_left' (bytV_len _)])
        rw [hx', List.length_append] at hb
        exact hk _ _ hb)
      exact hfin
    · have hold : ∀ w' : World, w'.heap = w.heap → (Builtin.firstCells 1 l.length (.slice (some ⟨b, 0, none⟩) l.length zs.length)).run C.P w' = .ok (bytV l).toArray w' := fun w' hw => by
        have := loadCellsFrom_run (P := C.P) (w := w') (b := b) (off := 0) l.length 0 #[] (bytV l) (bytV_len l) (fun j x' hj => by
          have hj' : zs[j]? = some x' := by
            rw [← h2, List.getElem?_take] at hj
            split at hj
            · exact hj
            · cases hj
          simp [World.cell?, hw, hz1, hj'])
        simp only [Builtin.firstCells, loadCells, Nat.mul_one, this]
        simp
      obtain ⟨cap', rest, r1, r2, r3⟩ := run_append_new (ty := ty) (P := C.P) (w := w) (sT := sT) (xT := xT) (a := some ⟨b, 0, none⟩) (len := l.length) (cap := zs.length) (n := m.length) (xv := .slice ay m.length cy) (old := bytV l) (new := bytV m) (.inr ⟨_, hx2.und⟩) hlen (fun w' hw => hyf C.P w' hw) hold hroom (by omega)
      rw [r3]
      simp only [Result.andThen_ok, Sem.run_pure]
      have hcl : (bytV l ++ bytV m ++ rest).length = cap' := by rw [List.length_append, List.length_append, r2, bytV_len, bytV_len]; omega
      have hH0 : RelH C w L [] := hH.sub (List.nil_sublist _)
      obtain ⟨lv, H', L', g1, g2, g3, g4⟩ := left_newB (K := K) (el := el) (l := l ++ m) (xs := bytV l ++ bytV m ++ rest) hH0.drew (by simp [hne]) (by rw [hcl, List.length_append]; omega) (by rw [← bytV_app, List.take_left' (bytV_len _)]) (fun v' H' h' => hk v' H' h')
      rw [hcl, List.length_append] at g3
      exact ⟨lv, H', L', g1.of_drew.wide (by simp), g2, g3, g4⟩
theorem S.appBL1 {sT xT el bytes : Nat} [ht : TSlice C.P sT el 1] [hr : TRow C.P el 1 bytes] {e2 : Nat} [hx2 : TSlice C.P xT e2 1] {v : Value} {l m : List UInt8} {H1 : Heap} {q : Nat × LObj}
    (hx : e.ev x = .atom v) (ha : BRow el v l H1) (hy : GL.elems (e.ev y) = some (byts m)) (hm0 : m ≠ []) (hroom : (l.length + m.length) * bytes ≤ 140737488355328)
    (hk : ∀ v' H', BRow el v' (l ++ m) H' → K (.atom v') (q :: H')) : LStep C ⟨dst, .call { callee := .builtin .append, args := #[x, y], argTypes := #[sT, xT] }, ty, pos, aft, g⟩ e (q :: H1) K X := by
  refine LStep.conseq (K := fun lv H' => ∃ v' H2, lv = .atom v' ∧ H' = H2 ++ [q] ∧ BRow el v' (l ++ m) H2) (LStep.frame (List.perm_append_singleton _ _).symm (LStep.appBL hx ha hy hm0 hroom fun v' H' h => ⟨v', H', rfl, rfl, h⟩)) ?_
  rintro lv H' ⟨v', H2, rfl, rfl, h⟩
  exact ⟨_, [q] ++ H2, LV.Sub.refl _, ⟨[], by simp⟩, hk _ _ h⟩
/-- The length of a row of bytes. -/
theorem Pure.blen {t el el2 s : Nat} [TSlice C.P t el2 s] {v : Value} {l : List UInt8} {Hv : Heap} (hx : e.ev x = .atom v) (ha : BRow el v l Hv) : Pure C ⟨dst, .call { callee := .builtin .len, args := #[x], argTypes := #[t] }, ty, pos, aft, g⟩ e H (int .i64 l.length) :=
  .of_any fun ρ _ _ h => ⟨_, rep_atom, fun w' => by
    have hu := run_underlying' (P := C.P) (TSlice.und (t := t)) w'
    rw [execOp_builtin', builtin_len']
    cases ha <;> simp [Builtin.len_, hu, goInt, atom_of h hx]⟩
end
end Go.GL
namespace Go.Stele
open Go.Lib
def codeSet : List UInt8 := [43, 45, 42, 47, 37, 94, 60, 64, 33, 63, 58, 59, 44, 46, 36, 48, 49, 50, 51, 52, 53, 54, 55, 56, 57]
/-- Signs and digits alone. -/
def codeW (w : Wd) : Bool := w.all fun c => codeSet.contains c
/-- The labels that are defined, in their order. -/
def defs (l : List Wd) : List Wd := l.filterMap defW
/-- A word that can be assembled where these labels are defined. -/
def OkW (ds : List Wd) (w : Wd) : Prop := match defW w with
  | some _ => True
  | none => match refW w with
    | some d => d ∈ ds
    | none => codeW w = true
/-- Words that can be assembled. -/
def AsmOk (l : List Wd) : Prop := (defs l).Nodup ∧ ∀ w ∈ l, OkW (defs l) w
def firstD (w : Wd) : Bool := match w with
  | [] => false
  | c :: _ => isDigit c
def lastD (w : Wd) : Bool := match w.getLast? with
  | some c => isDigit c
  | none => false
def one (d : Bool) : Nat := if d = true then 1 else 0
/-- How long the text of words is, a digit standing ahead of it or not. -/
def lenW : Bool → List Wd → Nat
  | _, [] => 0
  | d, w :: r => match defW w with
    | some _ => lenW d r
    | none => match refW w with
      | some _ => one d + 6 + lenW true r
      | none => one (d && firstD w) + w.length + lenW (lastD w) r
/-! ### Kinds of words -/
structure Sign (w : Wd) : Prop where
  d : defW w = none
  r : refW w = none
  f : firstD w = false
  l : lastD w = false
  n : w.length = 1
structure Num (w : Wd) : Prop where
  d : defW w = none
  r : refW w = none
  f : firstD w = true
  l : lastD w = true
  n : 1 ≤ w.length
  c : codeW w = true
theorem code_digit {c : UInt8} (h : isDigit c = true) : codeSet.contains c = true := by
  have : ∀ n : Nat, n < 256 → isDigit (UInt8.ofNat n) = true → codeSet.contains (UInt8.ofNat n) = true := by decide +kernel
  have h1 := this c.toNat c.toNat_lt
  rw [UInt8.ofNat_toNat] at h1
  exact h1 h
theorem dec_num (n : Nat) : Num (decDigits n) := by
  have hd := dec_digits n
  have hne := decDigits_ne n
  generalize decDigits n = w at hd hne
  cases w with
  | nil => exact absurd rfl hne
  | cons c r =>
    have hc := hd c (List.mem_cons_self ..)
    have hl : (c :: r).getLast? = some ((c :: r).getLast (by simp)) := List.getLast?_eq_some_getLast (by simp)
    have hlm := hd _ (List.getLast_mem (l := c :: r) (by simp))
    refine ⟨?_, ?_, hc, ?_, by simp, ?_⟩
    · unfold defW
      rw [hl, if_neg]
      intro h
      rw [Option.some.inj h.1] at hlm
      exact absurd hlm (by decide)
    · unfold refW
      simp only
      rw [if_neg]
      intro h
      rw [h.1] at hc
      exact absurd hc (by decide)
    · unfold lastD
      rw [hl]
      exact hlm
    · unfold codeW
      rw [List.all_eq_true]
      exact fun x hx => code_digit (hd x hx)
theorem num_num {w : Wd} {n : Nat} (h : numW w = some n) : Num w := by
  rw [← ((numW_iff w n).1 h).2]
  exact dec_num n
theorem sign_of {w : Wd} (h : w ∈ ([[43], [45], [42], [94], [60], [47], [37], [64], [33], [63], [59], [36]] : List Wd)) : Sign w := by
  have : ∀ w ∈ ([[43], [45], [42], [94], [60], [47], [37], [64], [33], [63], [59], [36]] : List Wd), defW w = none ∧ refW w = none ∧ firstD w = false ∧ lastD w = false ∧ w.length = 1 := by decide +kernel
  obtain ⟨h1, h2, h3, h4, h5⟩ := this w h
  exact ⟨h1, h2, h3, h4, h5⟩
theorem comp_sign {a b c : Nat} {op : Wd} (h : compW a op b = some c) : Sign op := by
  apply sign_of
  unfold compW at h
  simp only [List.mem_cons, List.not_mem_nil, or_false]
  split at h
  · exact .inl ‹_›
  split at h
  · exact .inr (.inl ‹_›)
  split at h
  · exact .inr (.inr (.inl ‹_›))
  split at h
  · exact .inr (.inr (.inr (.inl ‹_›)))
  split at h
  · exact .inr (.inr (.inr (.inr (.inl ‹_›))))
  split at h
  · exact .inr (.inr (.inr (.inr (.inr (.inl ‹_›)))))
  split at h
  · exact .inr (.inr (.inr (.inr (.inr (.inr (.inl ‹_›))))))
  · cases h
theorem joined_kinds {x op y s : Wd} (h : joinedW x op y = some s) : Num x ∧ Sign op ∧ Num y ∧ Num s := by
  obtain ⟨c, _, rfl⟩ := joined_dec h
  unfold joinedW at h
  split at h
  · rename_i a b ha hb
    split at h
    · rename_i c' hc
      exact ⟨num_num ha, comp_sign hc, num_num hb, dec_num c⟩
    · cases h
  · cases h
theorem ref_notdef {w d : Wd} (h : refW w = some d) : defW w = none := by
  unfold refW at h
  split at h
  · cases h
  · rename_i c r
    split at h
    · rename_i hc
      obtain ⟨rfl, hn⟩ := hc
      unfold defW
      rw [if_neg]
      rintro ⟨_, h2⟩
      cases r with
      | nil => cases hn
      | cons e r =>
        rw [List.dropLast_cons_of_ne_nil (by simp), nameW_eq] at h2
        have : isLetter 38 = false := by decide
        rw [this] at h2
        simp at h2
    · cases h
theorem jump_kinds {v : List Wd} {i : Nat} {l : Wd} (h : jumpW v i = some l) : refW (wdAt v i) = some l ∧ wdAt v (i + 1) = [63] := by
  unfold jumpW at h
  split at h
  · rename_i d hd
    split at h
    · cases h
      exact ⟨hd, ‹_›⟩
    · cases h
  · cases h
/-! ### Lengths -/
theorem lenW_def {w l : Wd} (h : defW w = some l) (d : Bool) (r : List Wd) : lenW d (w :: r) = lenW d r := by
  rw [lenW, h]
theorem lenW_ref {w l : Wd} (h : refW w = some l) (d : Bool) (r : List Wd) : lenW d (w :: r) = one d + 6 + lenW true r := by
  rw [lenW, ref_notdef h, h]
theorem Sign.len {w : Wd} (h : Sign w) (d : Bool) (r : List Wd) : lenW d (w :: r) = 1 + lenW false r := by
  rw [lenW, h.d, h.r, h.f, h.l, h.n, Bool.and_false]
  simp [one]
theorem Num.len {w : Wd} (h : Num w) (d : Bool) (r : List Wd) : lenW d (w :: r) = one d + w.length + lenW true r := by
  rw [lenW, h.d, h.r, h.f, h.l, Bool.and_true]
theorem one_le (d : Bool) : one d ≤ 1 := by cases d <;> simp [one]
theorem lenW_tf : ∀ r : List Wd, lenW true r ≤ lenW false r + 1 ∧ lenW false r ≤ lenW true r
  | [] => ⟨by simp [lenW], by simp [lenW]⟩
  | w :: r => by
    have ih := lenW_tf r
    have e1 : one true = 1 := rfl
    have e0 : one false = 0 := rfl
    have h1 := one_le (firstD w)
    rw [lenW, lenW]
    cases defW w with
    | some l => exact ih
    | none =>
      cases refW w with
      | some l => simp only; omega
      | none =>
        simp only [Bool.true_and, Bool.false_and, e0]
        omega
theorem lenW_any (d : Bool) (r : List Wd) : lenW d r ≤ lenW false r + 1 ∧ lenW false r ≤ lenW d r := by
  cases d with
  | true => exact lenW_tf r
  | false => exact ⟨by omega, Nat.le_refl _⟩
theorem lenW_skip (r : List Wd) : ∀ (m : List Wd) (d : Bool), lenW false r ≤ lenW d (m ++ r)
  | [], d => (lenW_any d r).2
  | w :: m, d => by
    rw [List.cons_append, lenW]
    cases defW w with
    | some l => exact lenW_skip r m d
    | none =>
      cases refW w with
      | some l => have := lenW_skip r m true; simp only; omega
      | none => have := lenW_skip r m (lastD w); simp only; omega
theorem lenW_gone {w : Wd} (h : Num w ∨ Sign w) (m r : List Wd) (d : Bool) : lenW d r ≤ lenW d (w :: (m ++ r)) := by
  have h1 := (lenW_any d r).1
  rcases h with h | h
  · have h2 := lenW_skip r m true
    have h3 := h.n
    rw [h.len]
    omega
  · have h2 := lenW_skip r m false
    rw [h.len]
    omega
theorem lenW_mono {x y : List Wd} (h : ∀ d, lenW d x ≤ lenW d y) : ∀ (m : List Wd) (d : Bool), lenW d (m ++ x) ≤ lenW d (m ++ y)
  | [], d => h d
  | w :: m, d => by
    rw [List.cons_append, List.cons_append, lenW, lenW]
    cases defW w with
    | some l => exact lenW_mono h m d
    | none =>
      cases refW w with
      | some l => have := lenW_mono h m true; simp only; omega
      | none => have := lenW_mono h m (lastD w); simp only; omega
theorem defs_cons (w : Wd) (l : List Wd) : defs (w :: l) = (match defW w with | some d => [d] | none => []) ++ defs l := by
  unfold defs
  rw [List.filterMap_cons]
  cases defW w <;> rfl
theorem defs_none {w : Wd} (h : defW w = none) (l : List Wd) : defs (w :: l) = defs l := by rw [defs_cons, h]; rfl
theorem defs_app (a b : List Wd) : defs (a ++ b) = defs a ++ defs b := List.filterMap_append
theorem twW_mem {p : Wd → Bool} : ∀ {l : List Wd} {x : Wd}, x ∈ l.takeWhile p → p x = true
  | [], x, h => by cases h
  | a :: l, x, h => by
    rw [List.takeWhile_cons] at h
    split at h
    · rcases List.mem_cons.1 h with rfl | h
      · assumption
      · exact twW_mem h
    · cases h
/-- What a rule does: it takes no label that is used, puts none, and does not lengthen the text. -/
structure RuleFine (used : Wd → Bool) (v : List Wd) (r : RuleW) : Prop where
  len : ∀ d rest, lenW d (r.2 ++ rest) ≤ lenW d (v.take r.1 ++ rest)
  put : defs r.2 = []
  took : ∀ d ∈ defs (v.take r.1), used d = false
theorem num0 : Num [48] := dec_num 0 |> fun h => by rwa [decDigits_one (by decide)] at h
theorem num1 : Num [49] := dec_num 1 |> fun h => by rwa [decDigits_one (by decide)] at h
theorem rule_fine (used : Wd → Bool) (v : List Wd) (h : (ruleW used v).1 ≠ 0) : RuleFine used v (ruleW used v) := by
  by_cases h1 : ∃ s, dFold v = some s
  · obtain ⟨s, h1⟩ := h1
    rw [rule1 h1]
    have hl := joined_len h1
    have hlt := wdAt_lt (joined_ne h1).2.1
    obtain ⟨k1, k2, k3, k4⟩ := joined_kinds h1
    match v, hlt, hl, k1, k2, k3 with
    | a :: b :: c :: r, _, hl, k1, k2, k3 =>
      simp only [wdAt, List.getElem?_cons_zero, List.getElem?_cons_succ, Option.getD_some] at hl k1 k2 k3
      refine ⟨fun d rest => ?_, by rw [defs_none k4.d]; rfl, fun d hd => ?_⟩
      · simp only [List.take_succ_cons, List.take_zero, List.cons_append, List.nil_append]
        rw [k4.len, k1.len, k3.len, k2.len]
        have := (lenW_tf rest).1
        have e1 : one true = 1 := rfl
        omega
      · simp only [List.take_succ_cons, List.take_zero] at hd
        rw [defs_none k1.d, defs_none k3.d, defs_none k2.d] at hd
        cases hd
  have h1 : dFold v = Option.none := by
    cases h : dFold v with
    | none => rfl
    | some s => exact absurd ⟨s, h⟩ h1
  by_cases h2 : cNeutral v
  · rw [rule2 h1 h2]
    have hop : Num (wdAt v 0) ∧ Sign (wdAt v 1) := by
      rcases h2 with ⟨e, h | h | h⟩ | ⟨e, h | h⟩
      · exact ⟨by rw [e]; exact num0, by rw [h]; exact sign_of (by decide)⟩
      · exact ⟨by rw [e]; exact num0, by rw [h]; exact sign_of (by decide)⟩
      · exact ⟨by rw [e]; exact num0, by rw [h]; exact sign_of (by decide)⟩
      · exact ⟨by rw [e]; exact num1, by rw [h]; exact sign_of (by decide)⟩
      · exact ⟨by rw [e]; exact num1, by rw [h]; exact sign_of (by decide)⟩
    have hlt : 1 < v.length := wdAt_lt (by intro h0; have := hop.2.n; rw [h0] at this; cases this)
    match v, hlt, hop with
    | a :: b :: r, _, hop =>
      simp only [wdAt, List.getElem?_cons_zero, List.getElem?_cons_succ, Option.getD_some] at hop
      refine ⟨fun d rest => lenW_gone (.inl hop.1) [b] rest d, rfl, fun d hd => ?_⟩
      simp only [List.take_succ_cons, List.take_zero] at hd
      rw [defs_none hop.1.d, defs_none hop.2.d] at hd
      cases hd
  by_cases h3 : cRegroup v ∧ ∃ s, dRegroup v = some s
  · obtain ⟨h3, s, h4⟩ := h3
    rw [rule3 h1 h2 h3 h4]
    have hl := joined_len h4
    have h5 : wdAt v 3 ≠ [] := by rw [h3.2]; exact (joined_ne h4).2.1
    have hlt := wdAt_lt h5
    have heq := h3.2
    obtain ⟨k1, k2, k3, k4⟩ := joined_kinds h4
    match v, hlt, hl, k1, k2, k3, heq with
    | a :: b :: c :: e :: r, _, hl, k1, k2, k3, heq =>
      simp only [wdAt, List.getElem?_cons_zero, List.getElem?_cons_succ, Option.getD_some] at hl k1 k2 k3 heq ⊢
      subst heq
      refine ⟨fun d rest => ?_, by rw [defs_none k4.d, defs_none k2.d]; rfl, fun d hd => ?_⟩
      · simp only [List.take_succ_cons, List.take_zero, List.cons_append, List.nil_append]
        rw [k4.len, k1.len, k2.len, k2.len, k3.len, k2.len]
        omega
      · simp only [List.take_succ_cons, List.take_zero] at hd
        rw [defs_none k1.d, defs_none k2.d, defs_none k3.d, defs_none k2.d] at hd
        cases hd
  have h3 : ¬ cRegroup v ∨ dRegroup v = Option.none := by
    by_cases hc : cRegroup v
    · right
      cases h : dRegroup v with
      | none => rfl
      | some s => exact absurd ⟨hc, s, h⟩ h3
    · exact .inl hc
  by_cases h4 : cSame v
  · rw [rule4 h1 h2 h3 h4]
    obtain ⟨g1, g2, g3, g4⟩ := h4
    obtain ⟨n, hn⟩ := Option.isSome_iff_exists.1 g1
    have kn := num_num hn
    have hlt := wdAt_lt (v := v) (i := 3) (by rw [g4]; decide)
    match v, hlt, g2, g3, g4, kn with
    | a :: b :: c :: e :: r, _, g2, g3, g4, kn =>
      simp only [wdAt, List.getElem?_cons_zero, List.getElem?_cons_succ, Option.getD_some] at g2 g3 g4 kn
      subst g2 g3 g4
      refine ⟨fun d rest => lenW_gone (.inl kn) [[64], c, [33]] rest d, rfl, fun d hd => ?_⟩
      simp only [List.take_succ_cons, List.take_zero] at hd
      rw [defs_none kn.d, defs_none (sign_of (by decide)).d, defs_none kn.d, defs_none (sign_of (by decide)).d] at hd
      cases hd
  by_cases h5 : cDouble v
  · rw [rule5 h1 h2 h3 h4 h5]
    obtain ⟨g0, g1, g2, g3, g4⟩ := h5
    obtain ⟨l, hl⟩ := Option.isSome_iff_exists.1 g0
    have h6 := jumpW_lt hl
    obtain ⟨j1, j2⟩ := jump_kinds hl
    match v, h6, g1, g2, g3, g4, j1, j2 with
    | a :: b :: c :: e :: p :: q :: r, _, g1, g2, g3, g4, j1, j2 =>
      simp only [wdAt, List.getElem?_cons_zero, List.getElem?_cons_succ, Option.getD_some] at g1 g2 g3 g4 j1 j2 ⊢
      subst g1 g2 g3 g4 j2
      have s60 : Sign [60] := sign_of (by decide)
      have s63 : Sign [63] := sign_of (by decide)
      refine ⟨fun d rest => ?_, by rw [defs_none (ref_notdef j1), defs_none s63.d]; rfl, fun d hd => ?_⟩
      · simp only [List.take_succ_cons, List.take_zero, List.cons_append, List.nil_append]
        rw [num1.len, s60.len, num1.len, s60.len]
        have := (lenW_any d (p :: [63] :: rest)).1
        have e1 : ([49] : Wd).length = 1 := rfl
        omega
      · simp only [List.take_succ_cons, List.take_zero] at hd
        rw [defs_none num1.d, defs_none s60.d, defs_none num1.d, defs_none s60.d, defs_none (ref_notdef j1), defs_none s63.d] at hd
        cases hd
  have three : ∀ (x : Wd), Num x → wdAt v 0 = x → (jumpW v 1).isSome = true → RuleFine used v (3, []) := fun x hx h0 hj => by
    obtain ⟨l, hl⟩ := Option.isSome_iff_exists.1 hj
    have h6 := jumpW_lt hl
    obtain ⟨j1, j2⟩ := jump_kinds hl
    clear h hj
    match v, h6, h0, j1, j2 with
    | a :: p :: q :: r, _, h0, j1, j2 =>
      simp only [wdAt, List.getElem?_cons_zero, List.getElem?_cons_succ, Option.getD_some] at h0 j1 j2
      subst h0 j2
      refine ⟨fun d rest => lenW_gone (.inl hx) [p, [63]] rest d, rfl, fun d hd => ?_⟩
      simp only [List.take_succ_cons, List.take_zero] at hd
      rw [defs_none hx.d, defs_none (ref_notdef j1), defs_none (sign_of (by decide)).d] at hd
      cases hd
  cases h6 : cNever v with
  | true =>
    rw [rule6 h1 h2 h3 h4 h5 h6]
    unfold cNever at h6
    split at h6
    · rename_i n hn
      exact three _ (num_num hn) rfl (of_decide_eq_true h6).2
    · cases h6
  | false =>
    cases h7 : cNext v with
    | true =>
      rw [rule7 h1 h2 h3 h4 h5 h6 h7]
      unfold cNext at h7
      split at h7
      · rename_i l hl
        exact three _ num0 (of_decide_eq_true h7).1 (by rw [hl]; rfl)
      · cases h7
    | false =>
      by_cases h8 : cDead v
      · rw [rule8 h1 h2 h3 h4 h5 h6 h7 h8]
        have hst : defs (v.take (stopW v)) = [] ∧ ∀ (d : Bool) (x y : List Wd), lenW false x ≤ lenW false y → lenW d (v.take (stopW v) ++ x) ≤ lenW d (v.take (stopW v) ++ y) := by
          have hp := h8.1
          revert hp
          unfold stopW
          split
          · rename_i hj
            intro _
            obtain ⟨l, hl⟩ := Option.isSome_iff_exists.1 hj.1
            have h6 := jumpW_lt hl
            obtain ⟨j1, j2⟩ := jump_kinds hl
            have h0 := hj.2
            clear hj h8 hl h h1 h2 h3 h4 h5 h7 three
            match v, h6, h0, j1, j2 with
            | a :: p :: q :: r, _, h0, j1, j2 =>
              simp only [wdAt, List.getElem?_cons_zero, List.getElem?_cons_succ, Option.getD_some] at h0 j1 j2
              subst h0 j2
              have s63 : Sign [63] := sign_of (by decide)
              refine ⟨?_, fun d x y hxy => ?_⟩
              · simp only [List.take_succ_cons, List.take_zero]
                rw [defs_none num0.d, defs_none (ref_notdef j1), defs_none s63.d]
                rfl
              · simp only [List.take_succ_cons, List.take_zero, List.cons_append, List.nil_append]
                rw [num0.len, num0.len, lenW_ref j1, lenW_ref j1, s63.len, s63.len]
                omega
          · split
            · rename_i hs
              intro _
              have hsg : Sign (wdAt v 0) := by
                rcases hs with h | h <;> rw [h] <;> exact sign_of (by decide)
              have hlt : 0 < v.length := wdAt_lt (by intro h0; have := hsg.n; rw [h0] at this; cases this)
              clear hs h8 h h1 h2 h3 h4 h5 h6 h7 three
              match v, hlt, hsg with
              | a :: r, _, hsg =>
                simp only [wdAt, List.getElem?_cons_zero, Option.getD_some] at hsg
                refine ⟨?_, fun d x y hxy => ?_⟩
                · simp only [List.take_succ_cons, List.take_zero]
                  rw [defs_none hsg.d]
                  rfl
                · simp only [List.take_succ_cons, List.take_zero, List.cons_append, List.nil_append]
                  rw [hsg.len, hsg.len]
                  omega
            · intro hp
              omega
        have htk : v.take (stopW v + deadLen (v.drop (stopW v))) = v.take (stopW v) ++ (v.drop (stopW v)).takeWhile fun w => (defW w).isNone := by
          rw [List.take_add]
          congr 1
          unfold deadLen
          exact (List.prefix_iff_eq_take.1 (List.takeWhile_prefix _)).symm
        refine ⟨fun d rest => ?_, hst.1, fun d hd => ?_⟩
        · simp only
          rw [htk, List.append_assoc]
          exact hst.2 d _ _ (lenW_skip rest _ false)
        · simp only at hd
          rw [htk, defs_app, hst.1, List.nil_append] at hd
          exfalso
          obtain ⟨w, hw, hwd⟩ := List.mem_filterMap.1 hd
          have := twW_mem hw
          rw [hwd] at this
          cases this
      · rw [rule9 h1 h2 h3 h4 h5 h6 h7 h8] at h ⊢
        have hU : rUnused used v = match defW (wdAt v 0) with
          | some l => if used l = true then (0, []) else (1, [])
          | none => (0, []) := rfl
        cases hd : defW (wdAt v 0) with
        | none => rw [hd] at hU; rw [hU] at h; exact absurd rfl h
        | some l =>
          rw [hd] at hU
          simp only at hU
          by_cases hu : used l = true
          · rw [if_pos hu] at hU; rw [hU] at h; exact absurd rfl h
          · rw [if_neg hu] at hU
            rw [hU]
            have hlt : 0 < v.length := wdAt_lt (by intro h0; rw [h0] at hd; cases hd)
            clear hU h h1 h2 h3 h4 h5 h6 h7 h8 three
            match v, hlt, hd with
            | a :: r, _, hd =>
              simp only [wdAt, List.getElem?_cons_zero, Option.getD_some] at hd
              refine ⟨fun d rest => ?_, rfl, fun d hdd => ?_⟩
              · simp only [List.take_succ_cons, List.take_zero, List.cons_append, List.nil_append]
                rw [lenW_def hd]
                exact Nat.le_refl _
              · simp only [List.take_succ_cons, List.take_zero] at hdd
                rw [defs_cons, hd] at hdd
                have : d = l := by simpa [defs] using hdd
                rw [this]
                exact Bool.eq_false_iff.2 hu
/-! ### A pass -/
theorem onceF_lenW (used : Wd → Bool) : ∀ (f : Nat) (l : List Wd) (d : Bool), l.length ≤ f → lenW d (onceF used f l) ≤ lenW d l
  | 0, l, d, h => by
    have : l = [] := List.eq_nil_of_length_eq_zero (by omega)
    subst this
    exact Nat.le_refl _
  | f + 1, [], d, _ => Nat.le_refl _
  | f + 1, w :: r, d, h => by
    rw [onceF]
    split
    · exact lenW_mono (x := onceF used f r) (y := r) (fun d => onceF_lenW used f r d (by simp only [List.length_cons] at h; omega)) [w] d
    · rename_i h0
      have hR := rule_fine used (w :: r) h0
      have hk := rule_ok used (w :: r) h0
      have ih := fun d => onceF_lenW used f ((w :: r).drop (ruleW used (w :: r)).1) d (by rw [List.length_drop]; omega)
      have h1 := lenW_mono ih (ruleW used (w :: r)).2 d
      have h2 := hR.len d ((w :: r).drop (ruleW used (w :: r)).1)
      rw [List.take_append_drop] at h2
      exact Nat.le_trans h1 h2
theorem onceF_defs (used : Wd → Bool) : ∀ (f : Nat) (l : List Wd), l.length ≤ f → (defs (onceF used f l)).Sublist (defs l) ∧ ∀ d ∈ defs l, used d = true → d ∈ defs (onceF used f l)
  | 0, l, h => by
    have : l = [] := List.eq_nil_of_length_eq_zero (by omega)
    subst this
    exact ⟨List.Sublist.refl _, fun d hd => by cases hd⟩
  | f + 1, [], _ => ⟨List.Sublist.refl _, fun d hd => by cases hd⟩
  | f + 1, w :: r, h => by
    rw [onceF]
    split
    · obtain ⟨i1, i2⟩ := onceF_defs used f r (by simp only [List.length_cons] at h; omega)
      rw [defs_cons w r, defs_cons w (onceF used f r)]
      refine ⟨List.Sublist.append (List.Sublist.refl _) i1, fun d hd hu => ?_⟩
      rcases List.mem_append.1 hd with hd | hd
      · exact List.mem_append_left _ hd
      · exact List.mem_append_right _ (i2 d hd hu)
    · rename_i h0
      have hR := rule_fine used (w :: r) h0
      obtain ⟨i1, i2⟩ := onceF_defs used f ((w :: r).drop (ruleW used (w :: r)).1) (by have := rule_ok used (w :: r) h0; rw [List.length_drop]; omega)
      have hs : defs (w :: r) = defs ((w :: r).take (ruleW used (w :: r)).1) ++ defs ((w :: r).drop (ruleW used (w :: r)).1) := by rw [← defs_app, List.take_append_drop]
      rw [defs_app, hR.put, List.nil_append]
      refine ⟨i1.trans (by rw [hs]; exact List.sublist_append_right _ _), fun d hd hu => ?_⟩
      rw [hs] at hd
      rcases List.mem_append.1 hd with hd | hd
      · rw [hR.took d hd] at hu; cases hu
      · exact i2 d hd hu
theorem once_asm {l : List Wd} (h : AsmOk l) : AsmOk (onceP l) := by
  obtain ⟨h1, h2⟩ := h
  obtain ⟨i1, i2⟩ := onceF_defs (usedW l) l.length l (Nat.le_refl _)
  refine ⟨h1.sublist i1, fun w hw => ?_⟩
  have hm := onceF_all (P := fun w => w ∈ l ∨ ∃ n, w = decDigits n) (fun n _ => .inr ⟨n, rfl⟩) (usedW l) l.length l (fun w hw => .inl hw) w hw
  rcases hm with hm | ⟨n, rfl⟩
  · have hk := h2 w hm
    unfold OkW at hk ⊢
    cases hd : defW w with
    | some d => trivial
    | none =>
      rw [hd] at hk
      simp only at hk ⊢
      cases hr : refW w with
      | none => rw [hr] at hk; exact hk
      | some d =>
        rw [hr] at hk
        simp only at hk ⊢
        refine i2 d hk ?_
        unfold usedW
        rw [List.any_eq_true]
        exact ⟨w, hm, decide_eq_true hr⟩
  · have hk := dec_num n
    unfold OkW
    rw [hk.d, hk.r]
    exact hk.c
theorem optF_asm : ∀ (f : Nat) (l : List Wd), AsmOk l → AsmOk (optF f l) ∧ lenW false (optF f l) ≤ lenW false l
  | 0, l, h => ⟨h, Nat.le_refl _⟩
  | f + 1, l, h => by
    rw [optF]
    split
    · exact ⟨h, Nat.le_refl _⟩
    · obtain ⟨i1, i2⟩ := optF_asm f _ (once_asm h)
      exact ⟨i1, Nat.le_trans i2 (onceF_lenW _ _ l false (Nat.le_refl _))⟩
/-- Optimized words can be assembled if the words can, and their text is no longer. -/
theorem opt_asm {l : List Wd} (h : AsmOk l) : AsmOk (optP l) ∧ lenW false (optP l) ≤ lenW false l := optF_asm _ _ h
end Go.Stele
namespace Go.Proofs.YtkjjenppmmipmaaGreatDoor
open Go.GL Go.RowKit Go.Stele
set_option maxRecDepth 100000
set_option maxHeartbeats 4000000
def nameSet2 : List UInt8 := [97, 98, 99, 100, 101, 102, 103, 104, 105, 106, 107, 108, 109, 110, 111, 112, 113, 114, 115, 116, 117, 118, 119, 120, 121, 122, 95, 48, 49, 50, 51, 52, 53, 54, 55, 56, 57]
theorem set2_inner (c : UInt8) : nameSet2.contains c = isInner c := by
  have : ∀ n : Nat, n < 256 → nameSet2.contains (UInt8.ofNat n) = isInner (UInt8.ofNat n) := by decide +kernel
  have h := this c.toNat c.toNat_lt
  rwa [UInt8.ofNat_toNat] at h
theorem trim_gen {st : List UInt8} {p : UInt8 → Bool} (he : ∀ c, st.contains c = p c) (s : List UInt8) : (Go.Lib.trimS s st = []) ↔ s.all p = true := by
  have he : (fun c => st.contains c) = p := funext he
  unfold Go.Lib.trimS Go.Lib.trimLeftS Go.Lib.trimRightS
  rw [he, dropWhile_nil]
  constructor
  · intro h
    by_cases h2 : s.reverse.dropWhile p = []
    · rw [dropWhile_nil] at h2
      rw [List.all_reverse] at h2
      exact h2
    · exfalso
      obtain ⟨c, r, hcr⟩ := List.exists_cons_of_ne_nil h2
      have h3 : p c = false := by
        have := List.head?_dropWhile_not p s.reverse
        rw [hcr] at this
        simpa using this
      rw [hcr, List.all_reverse, List.all_cons, h3] at h
      cases h
  · intro h
    have h2 : s.reverse.dropWhile p = [] := by rw [dropWhile_nil, List.all_reverse]; exact h
    rw [h2]
    rfl
attribute [local irreducible] LOps LCode LStep LCalls Go.GL.Pure QThen QBlock RetPost LQ LAny LLate LLateOp
section
variable {B0 : Nat} {w0 : World}
theorem trim_any (s st : List UInt8) (hs : s.length ≤ 1000000000) (h1 : st.length ≤ 100) (h3 : st.all (fun b => decide (b.toNat < 128)) = true) : LCalls (KC B0 w0) 81 [str s, str st] [] (Ret (str (Go.Lib.trimS s st))) :=
  LCalls.ret_of (vs := [.string ⟨s.toArray⟩, .string ⟨st.toArray⟩]) fun w hw => (Go.Proofs.Any.strings_Trim_laid Tryz.lays160 (by kernel_rfl) ⟨s.toArray⟩ ⟨st.toArray⟩ w (by show s.toArray.size ≤ _; simp; omega) (by show st.toArray.size < _; simp; omega) (Go.Proofs.ascii_of_all h3))
theorem asmName_spec (s : List UInt8) (hs : s.length ≤ 1000000000) : LCalls (KC B0 w0) 92 [str s] [] (Ret (bool (nameW s))) := by
  have hT := trim_any (B0 := B0) (w0 := w0) s nameSet2 hs (by decide) (by decide)
  have hnil := trim_gen set2_inner s
  refine LCalls.intro Tryz.func92 rfl (n := 23) rfl rfl rfl ?_
  repeat first
    | refine LOps.nil ?_
    | refine LCode.seq ?_
    | refine LCode.region ?_
    | refine QThen.normal ?_
    | refine LOps.pure (Pure.as (lv := .atom _) rfl) rfl ?_
    | refine LOps.pure (Pure.mv (lv := .atom _) rfl) rfl ?_
    | refine LOps.pure (Pure.seq rfl rfl) rfl ?_
  refine LOps.bcase 5 rfl (fun h1 => ?_) (fun h1 => ?_)
  · have e : s = [] := of_decide_eq_true h1
    subst e
    repeat first
      | refine LOps.nil ?_
      | refine QThen.normal ?_
      | refine LOps.pure (Pure.mv (lv := .atom _) rfl) rfl ?_
      | refine LOps.pure (Pure.pickT (lv := .atom _) rfl rfl) rfl ?_
      | refine LOps.skip rfl rfl rfl rfl ?_
    refine LCode.cond rfl (fun h => ?_) (fun h => by cases h)
    repeat first
      | refine LOps.nil ?_
      | refine LCode.seq ?_
      | refine LCode.region ?_
      | refine LCode.ret ?_
      | refine QThen.normal ?_
      | refine QThen.ret ?_
      | refine LOps.pure (Pure.as (lv := .atom _) rfl) rfl ?_
    exact retRet rfl (AllRes.cons (ResIs.tmp (v := .atom _) rfl (LV.Sub.refl _)) AllRes.nil) rfl
  have h1' : ¬ s = [] := of_decide_eq_false h1
  obtain ⟨c, r, rfl⟩ : ∃ c r, s = c :: r := by
    cases s with
    | nil => exact absurd rfl h1'
    | cons c r => exact ⟨c, r, rfl⟩
  have hN := nameW_eq c r
  repeat first
    | refine LOps.pure (Pure.mv (lv := .atom _) rfl) rfl ?_
    | refine LOps.pure (Pure.slen rfl) rfl ?_
    | refine LOps.pure (Pure.gtr rfl rfl) rfl ?_
    | refine LOps.pure (Pure.pickF (lv := .atom _) rfl rfl) rfl ?_
    | refine LOps.want rfl rfl ?_
  refine LOps.bcase 10 rfl (fun h2 => ?_) (fun h2 => ?_)
  · have h2' : ¬ (c :: r).length ≤ 40 := by have := of_decide_eq_true h2; omega
    rw [decide_eq_false h2', Bool.false_and, Bool.false_and] at hN
    repeat first
      | refine LOps.nil ?_
      | refine QThen.normal ?_
      | refine LOps.pure (Pure.mv (lv := .atom _) rfl) rfl ?_
      | refine LOps.pure (Pure.pickT (lv := .atom _) rfl rfl) rfl ?_
      | refine LOps.skip rfl rfl rfl rfl ?_
    refine LCode.cond rfl (fun h => ?_) (fun h => by cases h)
    repeat first
      | refine LOps.nil ?_
      | refine LCode.seq ?_
      | refine LCode.region ?_
      | refine LCode.ret ?_
      | refine QThen.normal ?_
      | refine QThen.ret ?_
      | refine LOps.pure (Pure.as (lv := .atom _) rfl) rfl ?_
    exact retRet rfl (AllRes.cons (ResIs.tmp (v := .atom _) rfl (LV.Sub.refl _)) AllRes.nil) (bool_eq hN.symm)
  have h2' : (c :: r).length ≤ 40 := by have := of_decide_eq_false h2; omega
  rw [decide_eq_true h2', Bool.true_and] at hN
  repeat first
    | refine LOps.pure (Pure.mv (lv := .atom _) rfl) rfl ?_
    | refine LOps.want rfl rfl ?_
  refine LOps.pure (Pure.sindex (c := c) rfl rfl (by omega) rfl) rfl ?_
  repeat first
    | refine LOps.pure (Pure.mv (lv := .atom _) rfl) rfl ?_
    | refine LOps.pure (Pure.pickF (lv := .atom _) rfl rfl) rfl ?_
    | refine LOps.pure (Pure.lss rfl rfl) rfl ?_
    | refine LOps.want rfl rfl ?_
  refine LOps.bcase 15 rfl (fun h3 => ?_) (fun h3 => ?_)
  · have h3' : isLetter c = false := by
      unfold isLetter
      rw [decide_eq_false (by have : cv c < 97 := of_decide_eq_true h3; omega), Bool.false_and]
    rw [h3', Bool.false_and] at hN
    repeat first
      | refine LOps.nil ?_
      | refine QThen.normal ?_
      | refine LOps.pure (Pure.pickT (lv := .atom _) rfl rfl) rfl ?_
      | refine LOps.skip rfl rfl rfl rfl ?_
    refine LCode.cond rfl (fun h => ?_) (fun h => by cases h)
    repeat first
      | refine LOps.nil ?_
      | refine LCode.seq ?_
      | refine LCode.region ?_
      | refine LCode.ret ?_
      | refine QThen.normal ?_
      | refine QThen.ret ?_
      | refine LOps.pure (Pure.as (lv := .atom _) rfl) rfl ?_
    exact retRet rfl (AllRes.cons (ResIs.tmp (v := .atom _) rfl (LV.Sub.refl _)) AllRes.nil) (bool_eq hN.symm)
  repeat first
    | refine LOps.pure (Pure.mv (lv := .atom _) rfl) rfl ?_
    | refine LOps.want rfl rfl ?_
  refine LOps.pure (Pure.sindex (c := c) rfl rfl (by omega) rfl) rfl ?_
  repeat first
    | refine LOps.nil ?_
    | refine QThen.normal ?_
    | refine LOps.pure (Pure.gtr rfl rfl) rfl ?_
    | refine LOps.pure (Pure.pickF (lv := .atom _) rfl rfl) rfl ?_
    | refine LOps.want rfl rfl ?_
  refine LCode.cond rfl (fun h => ?_) (fun h => ?_)
  · have h3' : isLetter c = false := by
      unfold isLetter
      rw [decide_eq_false (p := cv c ≤ 122) (by have : cv c > 122 := of_decide_eq_true h; omega), Bool.and_false]
    rw [h3', Bool.false_and] at hN
    repeat first
      | refine LOps.nil ?_
      | refine LCode.seq ?_
      | refine LCode.region ?_
      | refine LCode.ret ?_
      | refine QThen.normal ?_
      | refine QThen.ret ?_
      | refine LOps.pure (Pure.as (lv := .atom _) rfl) rfl ?_
    exact retRet rfl (AllRes.cons (ResIs.tmp (v := .atom _) rfl (LV.Sub.refl _)) AllRes.nil) (bool_eq hN.symm)
  have h3' : isLetter c = true := by
    unfold isLetter
    rw [decide_eq_true (by have : ¬ cv c < 97 := of_decide_eq_false h3; omega), decide_eq_true (by have : ¬ cv c > 122 := of_decide_eq_false h; omega)]
    rfl
  rw [h3', Bool.true_and] at hN
  repeat first
    | refine LCode.seq ?_
    | refine LCode.region ?_
    | refine LCode.skip ?_
    | refine QThen.normal ?_
    | refine LOps.pure (Pure.mv (lv := .atom _) rfl) rfl ?_
  refine LOps.step (S.fn [_, _] rfl hT ?_) rfl
  repeat first
    | refine LOps.nil ?_
    | refine LCode.ret ?_
    | refine QThen.normal ?_
    | refine LOps.pure (Pure.as (lv := .atom _) rfl) rfl ?_
    | refine LOps.pure (Pure.seq rfl rfl) rfl ?_
  exact retRet rfl (AllRes.cons (ResIs.tmp (v := .atom _) rfl (LV.Sub.refl _)) AllRes.nil) (bool_eq (by
    rw [hN, Bool.eq_iff_iff, decide_eq_true_iff]
    exact hnil))
theorem asmDef_spec (p : Wd × Nat) (hs : p.1.length ≤ 1000000000) : LCalls (KC B0 w0) 66 [tokLV p] [] (RetIf (OptLV (defW p.1))) := by
  obtain ⟨w, ln⟩ := p
  simp only at hs ⊢
  obtain ⟨r1, r2⟩ := ite_some (def_eq w)
  have hlen : (Go.Lib.trimSuffix w [58]).length ≤ 1000000000 := by
    unfold Go.Lib.trimSuffix
    split
    · rw [List.length_take]; omega
    · exact hs
  unfold tokLV
  refine LCalls.intro Tryz.func66 rfl (n := 18) rfl rfl rfl ?_
  repeat first
    | refine LCode.seq ?_
    | refine LCode.region ?_
  refine LOps.step (S.box (cs := [str w, int .i64 ln]) rfl fun b1 => ?_) rfl
  repeat first
    | refine LOps.nil ?_
    | refine LCode.seq ?_
    | refine LCode.region ?_
    | refine QThen.normal ?_
    | refine LOps.pure (Pure.as (lv := .atom _) rfl) rfl ?_
    | refine LOps.pure (Pure.fieldH rfl) rfl ?_
    | refine LOps.pure (Pure.loadH (c := .atom _) rfl (List.Mem.head _) rfl) rfl ?_
  refine LOps.step (S.fn [_, _] rfl (cutSuffix_spec w [58] hs) ?_) rfl
  repeat first
    | refine LOps.nil ?_
    | refine LCode.seq ?_
    | refine LCode.region ?_
    | refine QThen.normal ?_
    | refine LOps.pure (Pure.as (lv := .atom _) rfl) rfl ?_
    | refine LOps.pure (Pure.mv (lv := .tuple _) rfl) rfl ?_
    | refine LOps.pure (Pure.extract (c := .atom _) rfl rfl) rfl ?_
    | refine LOps.pure (Pure.mv (lv := .atom _) rfl) rfl ?_
  refine LOps.bcase 14 rfl (fun h => ?_) (fun h => ?_)
  · rw [h, Bool.true_and] at r1
    repeat first
      | refine LOps.pure (Pure.mv (lv := .atom _) rfl) rfl ?_
      | refine LOps.want rfl rfl ?_
    refine LOps.step (S.fn [_] rfl (asmName_spec _ hlen) ?_) rfl
    repeat first
      | refine LOps.nil ?_
      | refine LCode.ret ?_
      | refine QThen.normal ?_
      | refine LOps.pure (Pure.as (lv := .atom _) rfl) rfl ?_
      | refine LOps.pure (Pure.pickT (lv := .atom _) rfl rfl) rfl ?_
    exact retRetIf rfl (AllRes.cons (ResIs.tmp (v := .atom _) rfl (LV.Sub.refl _)) (AllRes.cons (ResIs.tmp (v := .atom _) rfl (LV.Sub.refl _)) AllRes.nil)) (OptLV.mk r1 r2)
  · rw [h, Bool.false_and] at r1
    repeat first
      | refine LOps.nil ?_
      | refine LCode.ret ?_
      | refine QThen.normal ?_
      | refine LOps.pure (Pure.as (lv := .atom _) rfl) rfl ?_
      | refine LOps.pure (Pure.pickF (lv := .atom _) rfl rfl) rfl ?_
      | refine LOps.skip rfl rfl rfl rfl ?_
    exact retRetIf rfl (AllRes.cons (ResIs.tmp (v := .atom _) rfl (LV.Sub.refl _)) (AllRes.cons (ResIs.tmp (v := .atom _) rfl (LV.Sub.refl _)) AllRes.nil)) (OptLV.mk r1 r2)
theorem asmRef_spec (p : Wd × Nat) (hs : p.1.length ≤ 1000000000) : LCalls (KC B0 w0) 67 [tokLV p] [] (RetIf (OptLV (refW p.1))) := by
  obtain ⟨w, ln⟩ := p
  simp only at hs ⊢
  obtain ⟨r1, r2⟩ := ite_some (ref_eq w)
  have hlen : (Go.Lib.trimPrefix w [38]).length ≤ 1000000000 := by
    unfold Go.Lib.trimPrefix
    split
    · rw [List.length_drop]; omega
    · exact hs
  unfold tokLV
  refine LCalls.intro Tryz.func67 rfl (n := 18) rfl rfl rfl ?_
  repeat first
    | refine LCode.seq ?_
    | refine LCode.region ?_
  refine LOps.step (S.box (cs := [str w, int .i64 ln]) rfl fun b1 => ?_) rfl
  repeat first
    | refine LOps.nil ?_
    | refine LCode.seq ?_
    | refine LCode.region ?_
    | refine QThen.normal ?_
    | refine LOps.pure (Pure.as (lv := .atom _) rfl) rfl ?_
    | refine LOps.pure (Pure.fieldH rfl) rfl ?_
    | refine LOps.pure (Pure.loadH (c := .atom _) rfl (List.Mem.head _) rfl) rfl ?_
  refine LOps.step (S.fn [_, _] rfl (cutPrefix_spec w [38]) ?_) rfl
  repeat first
    | refine LOps.nil ?_
    | refine LCode.seq ?_
    | refine LCode.region ?_
    | refine QThen.normal ?_
    | refine LOps.pure (Pure.as (lv := .atom _) rfl) rfl ?_
    | refine LOps.pure (Pure.mv (lv := .tuple _) rfl) rfl ?_
    | refine LOps.pure (Pure.extract (c := .atom _) rfl rfl) rfl ?_
    | refine LOps.pure (Pure.mv (lv := .atom _) rfl) rfl ?_
  refine LOps.bcase 14 rfl (fun h => ?_) (fun h => ?_)
  · rw [h, Bool.true_and] at r1
    repeat first
      | refine LOps.pure (Pure.mv (lv := .atom _) rfl) rfl ?_
      | refine LOps.want rfl rfl ?_
    refine LOps.step (S.fn [_] rfl (asmName_spec _ hlen) ?_) rfl
    repeat first
      | refine LOps.nil ?_
      | refine LCode.ret ?_
      | refine QThen.normal ?_
      | refine LOps.pure (Pure.as (lv := .atom _) rfl) rfl ?_
      | refine LOps.pure (Pure.pickT (lv := .atom _) rfl rfl) rfl ?_
    exact retRetIf rfl (AllRes.cons (ResIs.tmp (v := .atom _) rfl (LV.Sub.refl _)) (AllRes.cons (ResIs.tmp (v := .atom _) rfl (LV.Sub.refl _)) AllRes.nil)) (OptLV.mk r1 r2)
  · rw [h, Bool.false_and] at r1
    repeat first
      | refine LOps.nil ?_
      | refine LCode.ret ?_
      | refine QThen.normal ?_
      | refine LOps.pure (Pure.as (lv := .atom _) rfl) rfl ?_
      | refine LOps.pure (Pure.pickF (lv := .atom _) rfl rfl) rfl ?_
      | refine LOps.skip rfl rfl rfl rfl ?_
    exact retRetIf rfl (AllRes.cons (ResIs.tmp (v := .atom _) rfl (LV.Sub.refl _)) (AllRes.cons (ResIs.tmp (v := .atom _) rfl (LV.Sub.refl _)) AllRes.nil)) (OptLV.mk r1 r2)
theorem asmCode_spec (p : Wd × Nat) (hs : p.1.length ≤ 1000000000) : LCalls (KC B0 w0) 68 [tokLV p] [] (Ret (bool (codeW p.1))) := by
  obtain ⟨w, ln⟩ := p
  simp only at hs ⊢
  have hT := trim_any (B0 := B0) (w0 := w0) w codeSet hs (by decide) (by decide)
  have hnil : (Go.Lib.trimS w codeSet = []) ↔ codeW w = true := trim_gen (p := fun c => codeSet.contains c) (fun c => rfl) w
  unfold tokLV
  refine LCalls.intro Tryz.func68 rfl (n := 7) rfl rfl rfl ?_
  repeat first
    | refine LCode.seq ?_
    | refine LCode.region ?_
  refine LOps.step (S.box (cs := [str w, int .i64 ln]) rfl fun b1 => ?_) rfl
  repeat first
    | refine LOps.nil ?_
    | refine LCode.seq ?_
    | refine LCode.region ?_
    | refine QThen.normal ?_
    | refine LOps.pure (Pure.as (lv := .atom _) rfl) rfl ?_
    | refine LOps.pure (Pure.fieldH rfl) rfl ?_
    | refine LOps.pure (Pure.loadH (c := .atom _) rfl (List.Mem.head _) rfl) rfl ?_
  refine LOps.step (S.fn [_, _] rfl hT ?_) rfl
  repeat first
    | refine LOps.nil ?_
    | refine LCode.ret ?_
    | refine QThen.normal ?_
    | refine LOps.pure (Pure.as (lv := .atom _) rfl) rfl ?_
    | refine LOps.pure (Pure.seq rfl rfl) rfl ?_
  exact retRet rfl (AllRes.cons (ResIs.tmp (v := .atom _) rfl (LV.Sub.refl _)) AllRes.nil) (bool_eq (by
    rw [Bool.eq_iff_iff, decide_eq_true_iff]
    exact hnil))
theorem asmDigit_spec (c : UInt8) : LCalls (KC B0 w0) 70 [int .u8 c.toNat] [] (Ret (bool (isDigit c))) := by
  have hD : isDigit c = (decide (48 ≤ cv c) && decide (cv c ≤ 57)) := rfl
  refine LCalls.intro Tryz.func70 rfl (n := 9) rfl rfl rfl ?_
  repeat first
    | refine LOps.nil ?_
    | refine LCode.seq ?_
    | refine LCode.region ?_
    | refine QThen.normal ?_
    | refine LOps.pure (Pure.as (lv := .atom _) rfl) rfl ?_
    | refine LOps.pure (Pure.mv (lv := .atom _) rfl) rfl ?_
    | refine LOps.pure (Pure.geq rfl rfl) rfl ?_
  refine LOps.bcase 5 rfl (fun h => ?_) (fun h => ?_)
  · have h' : cv c ≥ 48 := of_decide_eq_true h
    rw [decide_eq_true (show 48 ≤ cv c from h'), Bool.true_and] at hD
    repeat first
      | refine LOps.nil ?_
      | refine LCode.ret ?_
      | refine QThen.normal ?_
      | refine LOps.pure (Pure.as (lv := .atom _) rfl) rfl ?_
      | refine LOps.pure (Pure.mv (lv := .atom _) rfl) rfl ?_
      | refine LOps.pure (Pure.leq rfl rfl) rfl ?_
      | refine LOps.pure (Pure.pickT (lv := .atom _) rfl rfl) rfl ?_
      | refine LOps.want rfl rfl ?_
    exact retRet rfl (AllRes.cons (ResIs.tmp (v := .atom _) rfl (LV.Sub.refl _)) AllRes.nil) (bool_eq hD.symm)
  · have h' : ¬ cv c ≥ 48 := of_decide_eq_false h
    rw [decide_eq_false (show ¬ 48 ≤ cv c from h'), Bool.false_and] at hD
    repeat first
      | refine LOps.nil ?_
      | refine LCode.ret ?_
      | refine QThen.normal ?_
      | refine LOps.pure (Pure.as (lv := .atom _) rfl) rfl ?_
      | refine LOps.pure (Pure.pickF (lv := .atom _) rfl rfl) rfl ?_
      | refine LOps.skip rfl rfl rfl rfl ?_
    exact retRet rfl (AllRes.cons (ResIs.tmp (v := .atom _) rfl (LV.Sub.refl _)) AllRes.nil) (bool_eq hD.symm)
theorem itoa_spec (hG : GW B0 w0) (u : Nat) (hu : u ≤ 9223372036854775807) : LCalls (KC B0 w0) 22 [int .i64 u] [] (Ret (str (Go.Lib.decDigits u))) :=
  LCalls.ret_of (vs := [.int .i64 u]) fun w hw => (Tryz.strconv_Itoa u (by omega) (by omega) w (hG.tab hw)).mono fun e w' he => by
    obtain ⟨h1, k, os, h2⟩ := he
    rw [Go.Lib.itoa_nonneg] at h1
    exact ⟨h1, by rw [h2]; exact Go.Lib.below_grow _ w (Nat.le_refl _) k os⟩
theorem address_spec (hG : GW B0 w0) (n : Nat) (hn : n ≤ 1000000000) : LCalls (KC B0 w0) 69 [int .i64 n] [] (RetIf fun lv => ∃ s : List UInt8, lv = str s ∧ s.length = 6 ∧ ∀ c ∈ s, isDigit c = true) := by
  have hi := itoa_spec hG n (by omega)
  have hne := decDigits_ne n
  have hl := dec_len (u := n) (by omega)
  have hd := dec_digits n
  generalize Go.Lib.decDigits n = d at hi hne hl hd
  have hpos := List.length_pos_iff.2 hne
  have hsl : ([48, 48, 48, 48, 48] ++ d : List UInt8).length = d.length + 5 := by simp
  refine LCalls.intro Tryz.func69 rfl (n := 12) rfl rfl rfl ?_
  repeat first
    | refine LOps.nil ?_
    | refine LCode.seq ?_
    | refine LCode.region ?_
    | refine QThen.normal ?_
    | refine LOps.pure (Pure.as (lv := .atom _) rfl) rfl ?_
    | refine LOps.pure (Pure.mv (lv := .atom _) rfl) rfl ?_
  refine LOps.step (S.fn [_] rfl hi ?_) rfl
  repeat first
    | refine LOps.nil ?_
    | refine LCode.seq ?_
    | refine LCode.region ?_
    | refine QThen.normal ?_
    | refine LOps.pure (Pure.as (lv := .atom _) rfl) rfl ?_
    | refine LOps.pure (Pure.mv (lv := .atom _) rfl) rfl ?_
    | refine LOps.pure (Pure.sadd rfl rfl (by first | omega | (simp only [List.length_append, List.length_cons, List.length_nil]; omega))) rfl ?_
    | refine LOps.pure (Pure.slen rfl) rfl ?_
    | refine LOps.pure (Pure.sub rfl rfl (by omega)) rfl ?_
  refine LOps.pure (Pure.sslice (l := [48, 48, 48, 48, 48] ++ d) (i := (([48, 48, 48, 48, 48] ++ d : List UInt8).length : Int) - 6) (j := (([48, 48, 48, 48, 48] ++ d : List UInt8).length : Int)) rfl ⟨_, rfl⟩ rfl (by omega) (by omega) (by omega)) rfl ?_
  repeat first
    | refine LOps.nil ?_
    | refine LCode.ret ?_
    | refine QThen.normal ?_
    | refine LOps.pure (Pure.as (lv := .atom _) rfl) rfl ?_
  exact retRetIf rfl (AllRes.cons (ResIs.tmp (v := .atom _) rfl (LV.Sub.refl _)) AllRes.nil) ⟨_, rfl, by
    rw [List.length_drop, List.length_take]
    omega, fun c hc => by
    have hm := List.mem_of_mem_take (List.mem_of_mem_drop hc)
    rcases List.mem_append.1 hm with h | h
    · have : ∀ c ∈ ([48, 48, 48, 48, 48] : List UInt8), isDigit c = true := by decide
      exact this c h
    · exact hd c h⟩
theorem builderLen_spec (b : Nat) (l : List UInt8) (H : Heap) (hB : BH b l H) : LCalls (KC B0 w0) 42 [ptr b 0] H (fun r H' => r = .ret (int .i64 l.length) ∧ H' = H) := by
  obtain ⟨p, v, Hv, hp, hacc, rfl⟩ := hB
  refine LCalls.intro Tryz.func42 rfl (n := 8) rfl rfl rfl ?_
  repeat first
    | refine LOps.nil ?_
    | refine LCode.seq ?_
    | refine LCode.region ?_
    | refine QThen.normal ?_
    | refine LOps.pure (Pure.as (lv := .atom _) rfl) rfl ?_
    | refine LOps.pure (Pure.mv (lv := .atom _) rfl) rfl ?_
    | refine LOps.pure (Pure.nilCheckH rfl) rfl ?_
    | refine LOps.pure (Pure.fieldH rfl) rfl ?_
    | refine LOps.pure (Pure.loadH (c := .atom _) rfl (List.Mem.head _) rfl) rfl ?_
  refine LOps.pure (Pure.blen rfl hacc) rfl ?_
  repeat first
    | refine LOps.nil ?_
    | refine LCode.ret ?_
    | refine QThen.normal ?_
    | refine LOps.pure (Pure.as (lv := .atom _) rfl) rfl ?_
  exact RetPost.ret rfl (AllRes.cons (ResIs.tmp (v := .atom _) rfl (LV.Sub.refl _)) AllRes.nil) (HSub.refl _) ⟨rfl, rfl⟩
theorem writeByte_spec (b : Nat) (l : List UInt8) (c : UInt8) (H : Heap) (hB : BH b l H) (hlen : l.length ≤ 10000000000) : LCalls (KC B0 w0) 71 [ptr b 0, int .u8 c.toNat] H (fun r H' => (∃ x, r = .ret x) ∧ BH b (l ++ [c]) H') := by
  obtain ⟨p, v, Hv, hp, hacc, rfl⟩ := hB
  refine LCalls.intro Tryz.func71 rfl (n := 17) rfl rfl rfl ?_
  repeat first
    | refine LOps.nil ?_
    | refine LCode.seq ?_
    | refine LCode.region ?_
    | refine QThen.normal ?_
    | refine LOps.pure (Pure.as (lv := .atom _) rfl) rfl ?_
    | refine LOps.pure (Pure.mv (lv := .atom _) rfl) rfl ?_
  refine LOps.step (S.callH (H1 := [(b, _)]) (F := Hv) [_] rfl (List.Perm.refl _) (copyCheck_spec b p (.atom v) hp) (fun x H' h => ?_) (fun ch H' h => ?_)) rfl
  · obtain ⟨⟨x', hx'⟩, rfl⟩ := h
    cases hx'
    repeat first
      | refine LOps.nil ?_
      | refine LCode.seq ?_
      | refine LCode.region ?_
      | refine QThen.normal ?_
      | refine LOps.pure (Pure.mv (lv := .atom _) rfl) rfl ?_
      | refine LOps.pure (Pure.nilCheckH rfl) rfl ?_
      | refine LOps.pure (Pure.fieldH rfl) rfl ?_
      | refine LOps.pure (Pure.loadH (c := .atom _) rfl (List.Mem.head _) rfl) rfl ?_
    refine LOps.step (S.lit [_] rfl (elemsOk.cons rfl rfl elemsOk.nil) rfl rfl rfl ?_) rfl
    refine LOps.step (S.appBL1 (q := (b, .cells 58 [ptr b 0, .atom v])) (l := l) (m := [c]) rfl hacc rfl (by simp) (by simp; omega) fun v' H' hacc' => ?_) rfl
    repeat first
      | refine LOps.pure (Pure.nilCheckH rfl) rfl ?_
      | refine LOps.pure (Pure.fieldH rfl) rfl ?_
    have hacc2 := hacc'
    generalize l ++ [c] = lm at hacc' hacc2 ⊢
    cases hacc' with
    | nil =>
      repeat first
        | refine LOps.nil ?_
        | refine LCode.seq ?_
        | refine LCode.region ?_
        | refine LCode.ret ?_
        | refine QThen.normal ?_
        | refine LOps.pure (Pure.as (lv := .atom _) rfl) rfl ?_
        | refine LOps.step (S.store (cs' := [_, _]) rfl Pick.here rfl rfl rfl rfl rfl ?_) rfl
      exact RetPost.ret rfl (AllRes.cons (ResIs.tmp (v := .atom _) rfl (LV.Sub.refl _)) AllRes.nil) (HSub.refl _) ⟨⟨_, rfl⟩, ptr b 0, _, _, .inr rfl, hacc2, rfl⟩
    | row h0 h1 h2 =>
      repeat first
        | refine LOps.nil ?_
        | refine LCode.seq ?_
        | refine LCode.region ?_
        | refine LCode.ret ?_
        | refine QThen.normal ?_
        | refine LOps.pure (Pure.as (lv := .atom _) rfl) rfl ?_
        | refine LOps.step (S.store (cs' := [_, _]) rfl Pick.here rfl rfl rfl rfl rfl ?_) rfl
      exact RetPost.ret rfl (AllRes.cons (ResIs.tmp (v := .atom _) rfl (LV.Sub.refl _)) AllRes.nil) (HSub.refl _) ⟨⟨_, rfl⟩, ptr b 0, _, _, .inr rfl, hacc2, rfl⟩
  · obtain ⟨⟨x', hx'⟩, _⟩ := h
    cases hx'
end
end Go.Proofs.YtkjjenppmmipmaaGreatDoor
namespace Go.Proofs.YtkjjenppmmipmaaGreatDoor
open Go.GL Go.RowKit Go.Stele
set_option maxRecDepth 100000
set_option maxHeartbeats 4000000
/-- The tokens' texts. -/
abbrev txt (l : List (Wd × Nat)) : List Wd := l.map (·.1)
theorem txt_take {l : List (Wd × Nat)} {i : Nat} (h : i < l.length) : txt (l.take (i + 1)) = txt (l.take i) ++ [l[i].1] := by
  unfold txt
  rw [List.take_succ_eq_append_getElem h, List.map_append]
  rfl
theorem txt_split {l : List (Wd × Nat)} {i : Nat} (h : i < l.length) : txt l = txt (l.take i) ++ l[i].1 :: txt (l.drop (i + 1)) := by
  conv => lhs; rw [← List.take_append_drop i l, List.drop_eq_getElem_cons h]
  unfold txt
  rw [List.map_append, List.map_cons]
theorem defs_some {a : List Wd} {w d : Wd} (h : defW w = some d) : defs (a ++ [w]) = defs a ++ [d] := by
  rw [defs_app, defs_cons, h]
  rfl
theorem defs_no {a : List Wd} {w : Wd} (h : defW w = none) : defs (a ++ [w]) = defs a := by
  rw [defs_app, defs_none h]
  simp [defs]
theorem set_nil : SetMap #[] (fun s => decide (s ∈ ([] : List Wd))) := ⟨fun e he => by simp at he, fun s h => by simp at h⟩
theorem set_snoc {es : Array MapEntry} {ds : List Wd} {d : Wd} (h : SetMap es (fun s => decide (s ∈ ds) || decide (s = d))) : SetMap es (fun s => decide (s ∈ ds ++ [d])) :=
  cast (congrArg (SetMap es) (funext fun s => by simp)) h
theorem nodup_dup {a r : List Wd} {w d : Wd} (h : defW w = some d) (hm : d ∈ defs a) : ¬ (defs (a ++ w :: r)).Nodup := by
  rw [defs_app, defs_cons, h]
  intro hn
  exact (List.nodup_append.1 hn).2.2 d hm d (by simp) rfl
theorem nodup_snoc {a : List Wd} {d : Wd} (h : a.Nodup) (hm : ¬ d ∈ a) : (a ++ [d]).Nodup := by
  rw [List.nodup_append]
  refine ⟨h, by simp, fun x hx y hy => ?_⟩
  rw [List.mem_singleton.1 hy]
  rintro rfl
  exact hm hx
attribute [local irreducible] LOps LCode LStep LCalls Go.GL.Pure QThen QBlock RetPost LQ LAny LLate LLateOp
section
variable {B0 : Nat} {w0 : World}
theorem check_spec (l : List (Wd × Nat)) (hl : l.length ≤ 1000000) (hs : ∀ p ∈ l, p.1.length ≤ 1000000) : LCalls (KC B0 w0) 38 [.list (l.map tokLV)] [] (RetIf fun lv => ∃ (ln e : Int), lv = .tuple [int .i64 ln, int .i64 e] ∧ (e = 0 ↔ AsmOk (txt l))) := by
  have hla : (l.map tokLV).length = l.length := List.length_map _
  have zb : ∀ w, (zeroValue 4).run (KC B0 w0).P w = .ok (.bool false) w := fun w => (Go.zero_of_info (P := Tryz.prog) (n := 1) (by kernel_rfl)).1 w
  refine LCalls.intro Tryz.func38 rfl (n := 70) rfl rfl rfl ?_
  repeat first
    | refine LOps.nil ?_
    | refine LCode.seq ?_
    | refine LCode.region ?_
    | refine QThen.normal ?_
    | refine LOps.pure (Pure.as (lv := .atom _) rfl) rfl ?_
  refine LOps.step (S.makeMap fun m => ?_) rfl
  repeat first
    | refine LOps.nil ?_
    | refine LCode.seq ?_
    | refine LCode.region ?_
    | refine LCode.block ?_
    | refine QThen.normal ?_
    | refine LOps.pure (Pure.as (lv := .atom _) rfl) rfl ?_
    | refine LOps.pure (Pure.mv (lv := .list _) rfl) rfl ?_
    | refine LOps.pure (Pure.mv (lv := .atom _) rfl) rfl ?_
    | refine LOps.pure (Pure.llen rfl) rfl ?_
  refine LCode.loopI (fun k ls H => ∃ (i : Nat) (es : Array MapEntry) (clock : Nat), i ≤ l.length ∧ k = l.length - i ∧ ls = [(0, .list (l.map tokLV)), (4, .atom (.map (some m))), (17, .list (l.map tokLV)), (18, int .i64 l.length), (19, int .i64 (i : Nat))] ∧ H = [(m, .obj (.map es clock))] ∧ SetMap es (fun s => decide (s ∈ defs (txt (l.take i)))))
    ⟨_, _, _, ⟨0, #[], 0, Nat.zero_le _, rfl, rfl, rfl, set_nil⟩, ⟨rfl, rfl, rfl, int_eq (by omega), rfl, trivial⟩, HSub.refl _⟩ ?_
  rintro k ls H ⟨i, es, clock, hi, rfl, rfl, rfl, hM⟩ j1 hj1
  repeat first
    | refine LOps.nil ?_
    | refine LCode.seq ?_
    | refine LCode.region ?_
    | refine QThen.normal ?_
    | refine LOps.pure (Pure.lss rfl rfl) rfl ?_
  refine LCode.cond rfl (fun hc => ?_) (fun hc => ?_)
  · have hlt : i < l.length := by have := of_decide_eq_true hc; omega
    have kd := asmDef_spec (B0 := B0) (w0 := w0) l[i] (by have := hs _ (List.getElem_mem hlt); omega)
    have htt := txt_take hlt
    repeat first
      | refine LCode.seq ?_
      | refine LCode.region ?_
      | refine LCode.skip ?_
      | refine LCode.block ?_
      | refine QThen.normal ?_
    refine LOps.pure (Pure.ixRef (el' := tokLV l[i]) (cs := [_, _]) rfl rfl (by omega) (map_get _ _ _ hlt) rfl rfl) rfl ?_
    repeat first
      | refine LOps.pure (Pure.ldRefAgg (cs' := [_, _]) rfl rfl rfl) rfl ?_
    refine LOps.step (S.alloc fun b6 => ?_) rfl
    repeat first
      | refine LOps.nil ?_
      | refine LCode.seq ?_
      | refine LCode.region ?_
      | refine QThen.normal ?_
      | refine LOps.pure (Pure.ldHAgg (cs' := [_, _]) rfl (List.Mem.head _) rfl rfl) rfl ?_
      | refine LOps.step (S.store (cs' := [_, _]) rfl Pick.here rfl rfl rfl rfl rfl ?_) rfl
    refine LOps.step (S.fnIf [_] rfl kd ?_) rfl
    rintro lv ⟨s, rfl, hs2⟩
    repeat first
      | refine LOps.nil ?_
      | refine LCode.seq ?_
      | refine LCode.region ?_
      | refine QThen.normal ?_
      | refine LOps.pure (Pure.as (lv := .atom _) rfl) rfl ?_
      | refine LOps.pure (Pure.mv (lv := .atom _) rfl) rfl ?_
      | refine LOps.pure (Pure.mv (lv := .tuple _) rfl) rfl ?_
      | refine LOps.pure (Pure.extract (c := .atom _) rfl rfl) rfl ?_
    refine LCode.cond rfl (fun h => ?_) (fun h => ?_)
    · obtain ⟨d, hd⟩ := Option.isSome_iff_exists.1 h
      obtain rfl := hs2 d hd
      repeat first
        | refine LCode.region ?_
        | refine LOps.pure (Pure.mv (lv := .atom _) rfl) rfl ?_
      refine LOps.step (S.setPut (t := 45) (kt := 9) (el := 4) (by kernel_rfl) (by kernel_rfl) rfl rfl rfl (Pick.there Pick.here) hM fun es' clock' hM' => ?_) rfl
      repeat first
        | refine LOps.nil ?_
        | refine LCode.region ?_
        | refine QThen.normal ?_
        | refine QBlock.normal ?_
        | refine LOps.pure (Pure.mv (lv := .atom _) rfl) rfl ?_
        | refine LOps.pure (Pure.add rfl rfl (by omega)) rfl ?_
      exact ⟨_, _, _, by omega, ⟨i + 1, es', clock', by omega, rfl, rfl, rfl, by rw [htt, defs_some hd]; exact set_snoc hM'⟩, ⟨rfl, rfl, rfl, rfl, int_eq (by omega), trivial⟩, ⟨[_], List.Perm.refl _⟩, hj1⟩
    · have hn : defW l[i].1 = none := by
        cases ho : defW l[i].1 with
        | none => rfl
        | some d => rw [ho] at h; cases h
      repeat first
        | refine LOps.nil ?_
        | refine LCode.region ?_
        | refine LCode.skip ?_
        | refine QThen.normal ?_
        | refine QBlock.normal ?_
        | refine LOps.pure (Pure.mv (lv := .atom _) rfl) rfl ?_
        | refine LOps.pure (Pure.add rfl rfl (by omega)) rfl ?_
      exact ⟨_, _, _, by omega, ⟨i + 1, es, clock, by omega, rfl, rfl, rfl, by rw [htt, defs_no hn]; exact hM⟩, ⟨rfl, rfl, rfl, rfl, int_eq (by omega), trivial⟩, HSub.drop (HSub.refl _), hj1⟩
  · have hi' : i = l.length := by have := of_decide_eq_false hc; omega
    subst hi'
    rw [List.take_length] at hM
    repeat first
      | refine LCode.seq ?_
      | refine LCode.region ?_
      | refine LCode.exit ?_
      | refine QThen.normal ?_
      | refine QThen.exit ?_
      | refine QBlock.hit ?_
    refine LOps.step (S.makeMap fun m2 => ?_) rfl
    repeat first
      | refine LOps.nil ?_
      | refine LCode.seq ?_
      | refine LCode.region ?_
      | refine LCode.block ?_
      | refine QThen.normal ?_
      | refine LOps.pure (Pure.as (lv := .atom _) rfl) rfl ?_
      | refine LOps.pure (Pure.mv (lv := .list _) rfl) rfl ?_
      | refine LOps.pure (Pure.mv (lv := .atom _) rfl) rfl ?_
      | refine LOps.pure (Pure.llen rfl) rfl ?_
    refine LCode.loopI (fun k ls H => ∃ (i : Nat) (es2 : Array MapEntry) (clock2 : Nat), i ≤ l.length ∧ k = l.length - i ∧ ls = [(4, .atom (.map (some m))), (9, .atom (.map (some m2))), (33, .list (l.map tokLV)), (34, int .i64 l.length), (35, int .i64 (i : Nat))] ∧ H = [(m2, .obj (.map es2 clock2)), (m, .obj (.map es clock))] ∧ SetMap es2 (fun s => decide (s ∈ defs (txt (l.take i)))) ∧ (defs (txt (l.take i))).Nodup ∧ ∀ w ∈ txt (l.take i), OkW (defs (txt l)) w)
      ⟨_, _, _, ⟨0, #[], 0, Nat.zero_le _, rfl, rfl, rfl, set_nil, List.nodup_nil, fun w hw => by cases hw⟩, ⟨rfl, rfl, rfl, int_eq (by omega), rfl, trivial⟩, HSub.refl _⟩ ?_
    rintro k ls H ⟨i, es2, clock2, hi, rfl, rfl, rfl, hM2, hN, hW⟩ j2 hj2
    repeat first
      | refine LOps.nil ?_
      | refine LCode.seq ?_
      | refine LCode.region ?_
      | refine QThen.normal ?_
      | refine LOps.pure (Pure.lss rfl rfl) rfl ?_
    refine LCode.cond rfl (fun hc => ?_) (fun hc => ?_)
    · have hlt : i < l.length := by have := of_decide_eq_true hc; omega
      have hsl := hs _ (List.getElem_mem hlt)
      have kd := asmDef_spec (B0 := B0) (w0 := w0) l[i] (by omega)
      have kr := asmRef_spec (B0 := B0) (w0 := w0) l[i] (by omega)
      have kc := asmCode_spec (B0 := B0) (w0 := w0) l[i] (by omega)
      have htt := txt_take hlt
      have hts := txt_split hlt
      have hmem : l[i].1 ∈ txt l := by rw [hts]; simp
      have next : OkW (defs (txt l)) l[i].1 → ∀ w ∈ txt (l.take (i + 1)), OkW (defs (txt l)) w := fun h w hw => by
        rw [htt] at hw
        rcases List.mem_append.1 hw with hw | hw
        · exact hW w hw
        · rw [List.mem_singleton.1 hw]; exact h
      repeat first
        | refine LCode.seq ?_
        | refine LCode.region ?_
        | refine LCode.skip ?_
        | refine LCode.block ?_
        | refine QThen.normal ?_
      refine LOps.pure (Pure.ixRef (el' := tokLV l[i]) (cs := [_, _]) rfl rfl (by omega) (map_get _ _ _ hlt) rfl rfl) rfl ?_
      repeat first
        | refine LOps.pure (Pure.ldRefAgg (cs' := [_, _]) rfl rfl rfl) rfl ?_
      refine LOps.step (S.alloc fun b11 => ?_) rfl
      repeat first
        | refine LOps.nil ?_
        | refine LCode.seq ?_
        | refine LCode.region ?_
        | refine QThen.normal ?_
        | refine LOps.pure (Pure.ldHAgg (cs' := [_, _]) rfl (List.Mem.head _) rfl rfl) rfl ?_
        | refine LOps.step (S.store (cs' := [_, _]) rfl Pick.here rfl rfl rfl rfl rfl ?_) rfl
      refine LOps.step (S.fnIf [_] rfl kd ?_) rfl
      rintro lv ⟨s, rfl, hs2⟩
      repeat first
        | refine LOps.nil ?_
        | refine LCode.seq ?_
        | refine LCode.region ?_
        | refine QThen.normal ?_
        | refine LOps.pure (Pure.as (lv := .atom _) rfl) rfl ?_
        | refine LOps.pure (Pure.mv (lv := .atom _) rfl) rfl ?_
        | refine LOps.pure (Pure.mv (lv := .tuple _) rfl) rfl ?_
        | refine LOps.pure (Pure.extract (c := .atom _) rfl rfl) rfl ?_
      refine LCode.cond rfl (fun h => ?_) (fun h => ?_)
      · obtain ⟨d, hd⟩ := Option.isSome_iff_exists.1 h
        obtain rfl := hs2 d hd
        repeat first
          | refine LCode.seq ?_
          | refine LCode.region ?_
          | refine LOps.pure (Pure.mv (lv := .atom _) rfl) rfl ?_
        refine LOps.pure (Pure.setGet (t := 45) (kt := 9) (el := 4) (by kernel_rfl) (by kernel_rfl) zb rfl rfl (List.Mem.tail _ (List.Mem.head _)) hM2) rfl ?_
        repeat first
          | refine LOps.nil ?_
          | refine QThen.normal ?_
        refine LCode.cond rfl (fun h3 => ?_) (fun h3 => ?_)
        · have hin := of_decide_eq_true h3
          repeat first
            | refine LOps.nil ?_
            | refine LCode.seq ?_
            | refine LCode.region ?_
            | refine LCode.ret ?_
            | refine QThen.normal ?_
            | refine QThen.ret ?_
            | refine QBlock.ret ?_
            | refine LOps.pure (Pure.as (lv := .atom _) rfl) rfl ?_
            | refine LOps.pure (Pure.fieldH rfl) rfl ?_
            | refine LOps.pure (Pure.loadH (c := .atom _) rfl (List.Mem.head _) rfl) rfl ?_
          exact retRetIf (hj2.trans hj1) (AllRes.cons (ResIs.tmp (v := .atom _) rfl (LV.Sub.refl _)) (AllRes.cons (ResIs.tmp (v := .atom _) rfl (LV.Sub.refl _)) AllRes.nil)) ⟨_, 8, rfl, by
            constructor
            · intro h; cases h
            · intro h
              have := h.1
              rw [hts] at this
              exact absurd this (nodup_dup hd hin)⟩
        · have hin := of_decide_eq_false h3
          repeat first
            | refine LCode.region ?_
            | refine LCode.skip ?_
            | refine QThen.normal ?_
            | refine LOps.pure (Pure.mv (lv := .atom _) rfl) rfl ?_
          refine LOps.step (S.setPut (t := 45) (kt := 9) (el := 4) (by kernel_rfl) (by kernel_rfl) rfl rfl rfl (Pick.there Pick.here) hM2 fun es' clock' hM' => ?_) rfl
          repeat first
            | refine LOps.nil ?_
            | refine LCode.region ?_
            | refine QThen.normal ?_
            | refine QBlock.normal ?_
            | refine LOps.pure (Pure.mv (lv := .atom _) rfl) rfl ?_
            | refine LOps.pure (Pure.add rfl rfl (by omega)) rfl ?_
          exact ⟨_, _, _, by omega, ⟨i + 1, es', clock', by omega, rfl, rfl, rfl, by rw [htt, defs_some hd]; exact set_snoc hM', by rw [htt, defs_some hd]; exact nodup_snoc hN hin, next (by unfold OkW; rw [hd]; trivial)⟩, ⟨rfl, rfl, rfl, rfl, int_eq (by omega), trivial⟩, ⟨[_], List.Perm.cons _ (List.Perm.swap ..)⟩, hj2⟩
      · have hn : defW l[i].1 = none := by
          cases ho : defW l[i].1 with
          | none => rfl
          | some d => rw [ho] at h; cases h
        have hOk : OkW (defs (txt l)) l[i].1 ↔ (match refW l[i].1 with
            | some d => d ∈ defs (txt l)
            | none => codeW l[i].1 = true) := by
          unfold OkW
          rw [hn]
          first | done | exact Iff.rfl
        repeat first
          | refine LCode.seq ?_
          | refine LCode.region ?_
          | refine LOps.pure (Pure.ldHAgg (cs' := [_, _]) rfl (List.Mem.head _) rfl rfl) rfl ?_
        refine LOps.step (S.fnIf [_] rfl kr ?_) rfl
        rintro lv ⟨s, rfl, hs3⟩
        repeat first
          | refine LOps.nil ?_
          | refine LCode.seq ?_
          | refine LCode.region ?_
          | refine QThen.normal ?_
          | refine LOps.pure (Pure.as (lv := .atom _) rfl) rfl ?_
          | refine LOps.pure (Pure.mv (lv := .atom _) rfl) rfl ?_
          | refine LOps.pure (Pure.mv (lv := .tuple _) rfl) rfl ?_
          | refine LOps.pure (Pure.extract (c := .atom _) rfl rfl) rfl ?_
        refine LCode.cond rfl (fun h3 => ?_) (fun h3 => ?_)
        · obtain ⟨d, hd⟩ := Option.isSome_iff_exists.1 h3
          obtain rfl := hs3 d hd
          rw [hd] at hOk
          simp only at hOk
          repeat first
            | refine LCode.seq ?_
            | refine LCode.region ?_
            | refine LOps.pure (Pure.mv (lv := .atom _) rfl) rfl ?_
          refine LOps.pure (Pure.setGet (t := 45) (kt := 9) (el := 4) (by kernel_rfl) (by kernel_rfl) zb rfl rfl (List.Mem.tail _ (List.Mem.tail _ (List.Mem.head _))) hM) rfl ?_
          repeat first
            | refine LOps.nil ?_
            | refine QThen.normal ?_
            | refine LOps.pure (Pure.not rfl) rfl ?_
          refine LCode.cond rfl (fun h4 => ?_) (fun h4 => ?_)
          · have hin : ¬ s ∈ defs (txt l) := by simpa using h4
            repeat first
              | refine LOps.nil ?_
              | refine LCode.seq ?_
              | refine LCode.region ?_
              | refine LCode.ret ?_
              | refine QThen.normal ?_
              | refine QThen.ret ?_
              | refine QBlock.ret ?_
              | refine LOps.pure (Pure.as (lv := .atom _) rfl) rfl ?_
              | refine LOps.pure (Pure.fieldH rfl) rfl ?_
              | refine LOps.pure (Pure.loadH (c := .atom _) rfl (List.Mem.head _) rfl) rfl ?_
            exact retRetIf (hj2.trans hj1) (AllRes.cons (ResIs.tmp (v := .atom _) rfl (LV.Sub.refl _)) (AllRes.cons (ResIs.tmp (v := .atom _) rfl (LV.Sub.refl _)) AllRes.nil)) ⟨_, 7, rfl, by
              constructor
              · intro h; cases h
              · intro h
                exact absurd (hOk.1 (h.2 _ hmem)) hin⟩
          · have hin : s ∈ defs (txt l) := by simpa using h4
            repeat first
              | refine LOps.nil ?_
              | refine LCode.region ?_
              | refine LCode.skip ?_
              | refine QThen.normal ?_
              | refine QBlock.normal ?_
              | refine LOps.pure (Pure.mv (lv := .atom _) rfl) rfl ?_
              | refine LOps.pure (Pure.add rfl rfl (by omega)) rfl ?_
            exact ⟨_, _, _, by omega, ⟨i + 1, es2, clock2, by omega, rfl, rfl, rfl, by rw [htt, defs_no hn]; exact hM2, by rw [htt, defs_no hn]; exact hN, next (hOk.2 hin)⟩, ⟨rfl, rfl, rfl, rfl, int_eq (by omega), trivial⟩, HSub.drop (HSub.refl _), hj2⟩
        · have hrn : refW l[i].1 = none := by
            cases ho : refW l[i].1 with
            | none => rfl
            | some d => rw [ho] at h3; cases h3
          rw [hrn] at hOk
          simp only at hOk
          repeat first
            | refine LCode.seq ?_
            | refine LCode.region ?_
            | refine LOps.pure (Pure.ldHAgg (cs' := [_, _]) rfl (List.Mem.head _) rfl rfl) rfl ?_
          refine LOps.step (S.fn [_] rfl kc ?_) rfl
          repeat first
            | refine LOps.nil ?_
            | refine QThen.normal ?_
            | refine LOps.pure (Pure.not rfl) rfl ?_
          refine LCode.cond rfl (fun h4 => ?_) (fun h4 => ?_)
          · have hin : ¬ codeW l[i].1 = true := by simpa using h4
            repeat first
              | refine LOps.nil ?_
              | refine LCode.seq ?_
              | refine LCode.region ?_
              | refine LCode.ret ?_
              | refine QThen.normal ?_
              | refine QThen.ret ?_
              | refine QBlock.ret ?_
              | refine LOps.pure (Pure.as (lv := .atom _) rfl) rfl ?_
              | refine LOps.pure (Pure.fieldH rfl) rfl ?_
              | refine LOps.pure (Pure.loadH (c := .atom _) rfl (List.Mem.head _) rfl) rfl ?_
            exact retRetIf (hj2.trans hj1) (AllRes.cons (ResIs.tmp (v := .atom _) rfl (LV.Sub.refl _)) (AllRes.cons (ResIs.tmp (v := .atom _) rfl (LV.Sub.refl _)) AllRes.nil)) ⟨_, 3, rfl, by
              constructor
              · intro h; cases h
              · intro h
                exact absurd (hOk.1 (h.2 _ hmem)) hin⟩
          · have hin : codeW l[i].1 = true := by simpa using h4
            repeat first
              | refine LOps.nil ?_
              | refine LCode.region ?_
              | refine LCode.skip ?_
              | refine QThen.normal ?_
              | refine QBlock.normal ?_
              | refine LOps.pure (Pure.mv (lv := .atom _) rfl) rfl ?_
              | refine LOps.pure (Pure.add rfl rfl (by omega)) rfl ?_
            exact ⟨_, _, _, by omega, ⟨i + 1, es2, clock2, by omega, rfl, rfl, rfl, by rw [htt, defs_no hn]; exact hM2, by rw [htt, defs_no hn]; exact hN, next (hOk.2 hin)⟩, ⟨rfl, rfl, rfl, rfl, int_eq (by omega), trivial⟩, HSub.drop (HSub.refl _), hj2⟩
    · have hi' : i = l.length := by have := of_decide_eq_false hc; omega
      subst hi'
      rw [List.take_length] at hN hW
      repeat first
        | refine LOps.nil ?_
        | refine LCode.seq ?_
        | refine LCode.region ?_
        | refine LCode.ret ?_
        | refine LCode.exit ?_
        | refine QThen.normal ?_
        | refine QThen.exit ?_
        | refine QBlock.hit ?_
        | refine LOps.pure (Pure.as (lv := .atom _) rfl) rfl ?_
      exact retRetIf (hj2.trans hj1) (AllRes.cons (ResIs.tmp (v := .atom _) rfl (LV.Sub.refl _)) (AllRes.cons (ResIs.tmp (v := .atom _) rfl (LV.Sub.refl _)) AllRes.nil)) ⟨0, 0, rfl, fun _ => ⟨hN, hW⟩, fun _ => rfl⟩
end
end Go.Proofs.YtkjjenppmmipmaaGreatDoor
namespace Go.Proofs.YtkjjenppmmipmaaGreatDoor
open Go.GL Go.RowKit Go.Stele
set_option maxRecDepth 100000
set_option maxHeartbeats 4000000
/-- What is written for a word that defines no label. -/
def Piece (w s : Wd) : Prop := match refW w with
  | some _ => s.length = 6 ∧ ∀ c ∈ s, isDigit c = true
  | none => s = w
theorem piece_len {w s : Wd} (hd : defW w = none) (hp : Piece w s) (hs : s ≠ []) (d : Bool) (r : List Wd) : lenW d (w :: r) = one (d && firstD s) + s.length + lenW (lastD s) r := by
  unfold Piece at hp
  cases hr : refW w with
  | some l =>
    rw [hr] at hp
    obtain ⟨h1, h2⟩ := hp
    have hf : firstD s = true := by
      cases s with
      | nil => exact absurd rfl hs
      | cons c r => exact h2 c (List.mem_cons_self ..)
    have hl : lastD s = true := by
      unfold lastD
      rw [List.getLast?_eq_some_getLast hs]
      exact h2 _ (List.getLast_mem hs)
    rw [lenW_ref hr, hf, hl, h1, Bool.and_true]
  | none =>
    rw [hr] at hp
    have hp' : s = w := hp
    subst hp'
    rw [lenW, hd, hr]
theorem lenW_le : ∀ (l : List Wd) (d : Bool), lenW d l ≤ 3 * tot l
  | [], d => Nat.zero_le _
  | w :: r, d => by
    have h1 := one_le d
    have h2 := one_le (d && firstD w)
    rw [lenW, tot_cons]
    cases defW w with
    | some l => have := lenW_le r d; simp only; omega
    | none =>
      cases hr : refW w with
      | some l =>
        have := lenW_le r true
        have hlen : 2 ≤ w.length := by
          unfold refW at hr
          split at hr
          · cases hr
          · rename_i c q
            split at hr
            · rename_i hc
              have := List.length_pos_iff.2 (nameW_ne hc.2)
              simp only [List.length_cons]
              omega
            · cases hr
        simp only
        omega
      | none => have := lenW_le r (lastD w); simp only; omega
/-- The addresses that are known: none at all, or a map of numbers. -/
def Known (km : Option Nat) (Hk : Heap) (M : Nat) : Prop := (km = none ∧ Hk = []) ∨ ∃ b es clock, km = some b ∧ Hk = [(b, .obj (.map es clock))] ∧ IntMap es M
section
variable {C : Ctx} {e : Env} {H : Heap} {dst : Option Nat} {ty : TypeId} {pos : String} {aft : Array Edge} {g : Option (Nat × Bool)} {K : LV → Heap → Prop} {X : List PanicEntry → Heap → Prop} {x y : Operand}
theorem S.known {t kt el : TypeId} (ht : C.P.underlying t = some (.map kt el)) (hkt : C.P.underlying kt = some .string) (hz : ∀ w, (zeroValue el).run C.P w = .ok (.int .i64 0) w) {km : Option Nat} {Hk : Heap} {M : Nat} {k : List UInt8} (hK : Known km Hk M) (hm : e.ev x = .atom (.map km)) (hx : e.ev y = str k)
    (hb : ∀ q ∈ Hk, q ∈ H) (hk : ∀ n : Nat, n ≤ M → K (int .i64 n) H) : LStep C ⟨dst, .lookup t x y false, ty, pos, aft, g⟩ e H K X := by
  rcases hK with ⟨rfl, rfl⟩ | ⟨b, es, clock, rfl, rfl, hI⟩
  · exact Pure.step (Pure.nilGet ht hkt hz hm hx) (hk 0 (Nat.zero_le _))
  · exact S.intGet ht hkt hz hm hx (hb _ (List.mem_singleton.2 rfl)) hI hk
end
theorem sub_mid {a b : Heap} {q : Nat × LObj} : HSub (a ++ b) (a ++ q :: b) := ⟨[q], List.perm_middle.trans (List.perm_append_singleton _ _).symm⟩
theorem sub_mid' {a b : Heap} {q : Nat × LObj} : HSub (a ++ b) ((a ++ [q]) ++ b) := by
  rw [List.append_assoc]
  exact sub_mid
theorem add_eq2 (a b : Nat) : int .i64 ((a + b : Nat) : Int) = int .i64 ((a : Int) + (b : Nat)) := int_eq (by omega)
theorem perm_acc {a b : Heap} {q : Nat × LObj} : (a ++ q :: b).Perm (b ++ (a ++ [q])) := by
  have h := List.perm_append_comm (l₁ := a ++ [q]) (l₂ := b)
  rw [List.append_assoc] at h
  exact h
theorem acc_sub {s : Nat} {v : LV} {es : List LV} {a H F : Heap} (h : Acc s v es H F) : HSub (a ++ F) (a ++ H) := by
  cases h with
  | nil => exact HSub.refl _
  | row => exact sub_mid
attribute [local irreducible] LOps LCode LStep LCalls Go.GL.Pure QThen QBlock RetPost LQ LAny LLate LLateOp
section
variable {B0 : Nat} {w0 : World}
theorem joined_spec2 (hG : GW B0 w0) (l : List (Wd × Nat)) (og : Nat) (hog : og ≤ 1000000) (hl : l.length ≤ 1000000) (hs : ∀ p ∈ l, p.1 ≠ [] ∧ p.1.length ≤ 1000000) (hL : lenW false (txt l) ≤ 1000000) (km : Option Nat) (Hk : Heap) (hK : Known km Hk 2000000) :
    LCalls (KC B0 w0) 39 [.list (l.map tokLV), int .i64 (og : Nat), .atom (.map km)] Hk (fun r H' => ∃ (t : List UInt8) (labs : List (Wd × Nat)), r = .ret (.tuple [str t, .list (labs.map tokLV)]) ∧ H' = Hk ∧ t.length = lenW false (txt l) ∧ labs.length ≤ l.length ∧ ∀ p ∈ labs, p.2 ≤ 2000000) := by
  have hla : (l.map tokLV).length = l.length := List.length_map _
  have zi : ∀ w, (zeroValue 3).run (KC B0 w0).P w = .ok (.int .i64 0) w := fun w => (Go.zero_of_info (P := Tryz.prog) (n := 1) (by kernel_rfl)).1 w
  refine LCalls.intro Tryz.func39 rfl (n := 68) rfl rfl rfl ?_
  repeat first
    | refine LOps.nil ?_
    | refine LCode.seq ?_
    | refine LCode.region ?_
    | refine QThen.normal ?_
    | refine LOps.pure (Pure.as (lv := .atom _) rfl) rfl ?_
  refine LOps.step (S.alloc fun bb => ?_) rfl
  repeat first
    | refine LOps.nil ?_
    | refine LCode.seq ?_
    | refine LCode.region ?_
    | refine LCode.block ?_
    | refine QThen.normal ?_
    | refine LOps.pure (Pure.as (lv := .atom _) rfl) rfl ?_
    | refine LOps.pure (Pure.mv (lv := .list _) rfl) rfl ?_
    | refine LOps.pure (Pure.mv (lv := .atom _) rfl) rfl ?_
    | refine LOps.pure (Pure.llen rfl) rfl ?_
  refine LCode.loopI (fun k ls H => ∃ (i : Nat) (t : List UInt8) (labs : List (Wd × Nat)) (v : LV) (last : UInt8) (HB HL : Heap), i ≤ l.length ∧ k = l.length - i ∧ ls = [(1, int .i64 (og : Nat)), (2, .atom (.map km)), (8, ptr bb 0), (9, v), (10, int .u8 last.toNat), (18, .list (l.map tokLV)), (19, int .i64 l.length), (20, int .i64 (i : Nat))] ∧ H = HB ++ HL ∧ BH bb t HB ∧ Acc 2 v (labs.map tokLV) HL Hk ∧ labs.length ≤ i ∧ (∀ p ∈ labs, p.2 ≤ 2000000) ∧ t.length + lenW (isDigit last) (txt (l.drop i)) = lenW false (txt l))
    ⟨_, _, _, ⟨0, [], [], nilSlice, 32, [(bb, .cells 58 [.atom (.pointer none), .atom (.slice none 0 0)])], Hk, Nat.zero_le _, rfl, rfl, rfl, ⟨_, _, [], .inl rfl, BRow.nil, rfl⟩, Acc.nil, Nat.zero_le _, (fun p hp => (by cases hp)), by simp [show isDigit 32 = false by decide]⟩, ⟨rfl, rfl, rfl, rfl, rfl, rfl, int_eq (by omega), rfl, trivial⟩, HSub.refl _⟩ ?_
  rintro k ls H ⟨i, t, labs, v, last, HB, HL, hi, rfl, rfl, rfl, hB, hacc, hll, hlm, hE⟩ j hj
  have hol : (labs.map tokLV).length = labs.length := List.length_map _
  repeat first
    | refine LOps.nil ?_
    | refine LCode.seq ?_
    | refine LCode.region ?_
    | refine QThen.normal ?_
    | refine LOps.pure (Pure.lss rfl rfl) rfl ?_
  refine LCode.cond rfl (fun hc => ?_) (fun hc => ?_)
  · have hlt : i < l.length := by have := of_decide_eq_true hc; omega
    obtain ⟨hne, hsl⟩ := hs _ (List.getElem_mem hlt)
    have kd := asmDef_spec (B0 := B0) (w0 := w0) l[i] (by omega)
    have kr := asmRef_spec (B0 := B0) (w0 := w0) l[i] (by omega)
    have hdr : txt (l.drop i) = l[i].1 :: txt (l.drop (i + 1)) := by
      unfold txt
      rw [List.drop_eq_getElem_cons hlt, List.map_cons]
    rw [hdr] at hE
    repeat first
      | refine LCode.seq ?_
      | refine LCode.region ?_
      | refine LCode.skip ?_
      | refine LCode.block ?_
      | refine QThen.normal ?_
    refine LOps.pure (Pure.ixRef (el' := tokLV l[i]) (cs := [_, _]) rfl rfl (by omega) (map_get _ _ _ hlt) rfl rfl) rfl ?_
    repeat first
      | refine LOps.pure (Pure.ldRefAgg (cs' := [_, _]) rfl rfl rfl) rfl ?_
    refine LOps.step (S.alloc fun b12 => ?_) rfl
    repeat first
      | refine LOps.nil ?_
      | refine LCode.seq ?_
      | refine LCode.region ?_
      | refine QThen.normal ?_
      | refine LOps.pure (Pure.as (lv := .atom _) rfl) rfl ?_
      | refine LOps.pure (Pure.ldHAgg (cs' := [_, _]) rfl (List.Mem.head _) rfl rfl) rfl ?_
      | refine LOps.pure (Pure.fieldH rfl) rfl ?_
      | refine LOps.pure (Pure.loadH (c := .atom _) rfl (List.Mem.head _) rfl) rfl ?_
      | refine LOps.step (S.store (cs' := [_, _]) rfl Pick.here rfl rfl rfl rfl rfl ?_) rfl
    refine LOps.step (S.fnIf [_] rfl kd ?_) rfl
    rintro lv ⟨s, rfl, hs2⟩
    repeat first
      | refine LOps.nil ?_
      | refine LCode.seq ?_
      | refine LCode.region ?_
      | refine QThen.normal ?_
      | refine LOps.pure (Pure.as (lv := .atom _) rfl) rfl ?_
      | refine LOps.pure (Pure.mv (lv := .atom _) rfl) rfl ?_
      | refine LOps.pure (Pure.mv (lv := .tuple _) rfl) rfl ?_
      | refine LOps.pure (Pure.extract (c := .atom _) rfl rfl) rfl ?_
    refine LCode.cond rfl (fun h => ?_) (fun h => ?_)
    · obtain ⟨d, hd⟩ := Option.isSome_iff_exists.1 h
      obtain rfl := hs2 d hd
      rw [lenW_def hd] at hE
      repeat first
        | refine LCode.seq ?_
        | refine LCode.region ?_
      refine LOps.pure (Pure.mv (lv := v) rfl) rfl ?_
      repeat first
        | refine LOps.pure (Pure.mv (lv := .atom _) rfl) rfl ?_
      refine LOps.step (S.callH (H1 := HB) (F := (b12, .cells 68 [str l[i].1, int .i64 l[i].2]) :: HL) [_] rfl List.perm_middle.symm (builderLen_spec bb t HB hB) (fun v' H' h => ?_) (fun ch H' h => by obtain ⟨h, _⟩ := h; cases h)) rfl
      obtain ⟨hv, rfl⟩ := h
      cases hv
      repeat first
        | refine LOps.pure (Pure.add rfl rfl (by omega)) rfl ?_
        | refine LOps.pure (Pure.bld _ (cs := [_, _]) rfl) rfl ?_
      refine LOps.step (S.lit [_] rfl (elemsOk.cons rfl rfl elemsOk.nil) rfl rfl rfl ?_) rfl
      refine LOps.step (S.accF (H1 := HL) (A := H' ++ [(b12, .cells 68 [str l[i].1, int .i64 l[i].2])]) perm_acc rfl hacc rfl (by simp; rfl) rfl (by simp; omega) fun v' H2 hacc' => ?_) rfl
      refine LOps.pure (Pure.as (lv := v') rfl) rfl ?_
      repeat first
        | refine LOps.nil ?_
        | refine LCode.region ?_
        | refine LCode.exit ?_
        | refine QThen.normal ?_
        | refine QThen.exit ?_
        | refine QBlock.hit ?_
        | refine LOps.pure (Pure.mv (lv := .atom _) rfl) rfl ?_
        | refine LOps.pure (Pure.add rfl rfl (by omega)) rfl ?_
      exact ⟨_, _, _, by omega, ⟨i + 1, t, labs ++ [(s, og + t.length)], v', last, H', H2, by omega, rfl, rfl, rfl, hB, by
        rw [List.map_append]
        have e1 : [tokLV (s, og + t.length)] = [LV.agg [str s, int .i64 ((og : Int) + (t.length : Nat))]] := by
          unfold tokLV
          rw [add_eq2]
        rw [List.map_singleton, e1]
        exact hacc', by simp; omega, by
        intro p hp
        rcases List.mem_append.1 hp with hp | hp
        · exact hlm p hp
        · rw [List.mem_singleton.1 hp]
          simp only
          omega, hE⟩, ⟨rfl, rfl, rfl, rfl, rfl, rfl, rfl, int_eq (by omega), trivial⟩, sub_mid', hj⟩
    · have hn : defW l[i].1 = none := by
        cases ho : defW l[i].1 with
        | none => rfl
        | some d => rw [ho] at h; cases h
      refine LCode.midC (A := Wd) (fun s => [(1, int .i64 (og : Nat)), (2, .atom (.map km)), (8, ptr bb 0), (9, v), (10, int .u8 last.toNat), (13, str s), (18, .list (l.map tokLV)), (19, int .i64 l.length), (20, int .i64 (i : Nat))]) (fun _ => (b12, .cells 68 [str l[i].1, int .i64 l[i].2]) :: (HB ++ HL)) (fun s => s ≠ [] ∧ s.length ≤ 1000000 ∧ Piece l[i].1 s) ?_ ?_
      · repeat first
          | refine LCode.seq ?_
          | refine LCode.region ?_
          | refine LOps.pure (Pure.ldHAgg (cs' := [_, _]) rfl (List.Mem.head _) rfl rfl) rfl ?_
        refine LOps.step (S.fnIf [_] rfl kr ?_) rfl
        rintro lv ⟨s, rfl, hs3⟩
        repeat first
          | refine LOps.nil ?_
          | refine LCode.seq ?_
          | refine LCode.region ?_
          | refine QThen.normal ?_
          | refine LOps.pure (Pure.as (lv := .atom _) rfl) rfl ?_
          | refine LOps.pure (Pure.mv (lv := .atom _) rfl) rfl ?_
          | refine LOps.pure (Pure.mv (lv := .tuple _) rfl) rfl ?_
          | refine LOps.pure (Pure.extract (c := .atom _) rfl rfl) rfl ?_
        refine LCode.cond rfl (fun h3 => ?_) (fun h3 => ?_)
        · obtain ⟨d, hd⟩ := Option.isSome_iff_exists.1 h3
          obtain rfl := hs3 d hd
          repeat first
            | refine LCode.region ?_
            | refine LOps.pure (Pure.mv (lv := .atom _) rfl) rfl ?_
          refine LOps.step (S.known (t := 73) (kt := 9) (el := 3) (by kernel_rfl) (by kernel_rfl) zi hK rfl rfl (fun q hq => List.mem_cons_of_mem _ (List.mem_append_right _ (hacc.hsub.mem q hq))) fun n hn2 => ?_) rfl
          refine LOps.step (S.fnIf [_] rfl (address_spec hG n (by omega)) ?_) rfl
          rintro lv ⟨s6, rfl, h6, h7⟩
          repeat first
            | refine LOps.nil ?_
            | refine QThen.normal ?_
            | refine LOps.pure (Pure.as (lv := .atom _) rfl) rfl ?_
          exact ⟨s6, ⟨(by rintro rfl; cases h6), by omega, by unfold Piece; rw [hd]; exact ⟨h6, h7⟩⟩, ⟨rfl, rfl, rfl, rfl, rfl, rfl, rfl, rfl, rfl, trivial⟩, HSub.refl _, rfl⟩
        · have hrn : refW l[i].1 = none := by
            cases ho : refW l[i].1 with
            | none => rfl
            | some d => rw [ho] at h3; cases h3
          repeat first
            | refine LCode.skip ?_
            | refine QThen.normal ?_
          exact ⟨l[i].1, ⟨hne, hsl, by unfold Piece; rw [hrn]⟩, ⟨rfl, rfl, rfl, rfl, rfl, rfl, rfl, rfl, rfl, trivial⟩, HSub.refl _, rfl⟩
      rintro s ⟨hs0, hs6, hpc⟩ j2 hj2
      have hpl := piece_len hn hpc hs0 (isDigit last) (txt (l.drop (i + 1)))
      rw [hpl] at hE
      have hone := one_le (isDigit last && firstD s)
      obtain ⟨c, r, hcr⟩ := List.exists_cons_of_ne_nil hs0
      have hfc : firstD s = isDigit c := by rw [hcr]; rfl
      refine LCode.seq ?_
      refine LCode.midC (A := Heap) (fun _ => [(1, int .i64 (og : Nat)), (2, .atom (.map km)), (8, ptr bb 0), (9, v), (10, int .u8 last.toNat), (13, str s), (18, .list (l.map tokLV)), (19, int .i64 l.length), (20, int .i64 (i : Nat))]) (fun HB' => HB' ++ (b12, .cells 68 [str l[i].1, int .i64 l[i].2]) :: HL) (fun HB' => BH bb (t ++ if (isDigit last && firstD s) = true then [32] else []) HB') ?_ ?_
      · repeat first
          | refine LCode.seq ?_
          | refine LCode.region ?_
          | refine LOps.pure (Pure.mv (lv := .atom _) rfl) rfl ?_
        refine LOps.step (S.fn [_] rfl (asmDigit_spec last) ?_) rfl
        repeat first
          | refine LOps.pure (Pure.mv (lv := .atom _) rfl) rfl ?_
        refine LOps.bcase 52 rfl (fun h4 => ?_) (fun h4 => ?_)
        · have h4' : isDigit last = true := h4
          rw [h4', Bool.true_and, hfc]
          repeat first
            | refine LOps.pure (Pure.mv (lv := .atom _) rfl) rfl ?_
            | refine LOps.want rfl rfl ?_
          refine LOps.pure (Pure.sindex (c := c) rfl rfl (by omega) (by rw [hcr]; rfl)) rfl ?_
          repeat first
            | refine LOps.want rfl rfl ?_
          refine LOps.step (S.fn [_] rfl (asmDigit_spec c) ?_) rfl
          repeat first
            | refine LOps.nil ?_
            | refine QThen.normal ?_
            | refine LOps.pure (Pure.pickT (lv := .atom _) rfl rfl) rfl ?_
          refine LCode.cond rfl (fun h5 => ?_) (fun h5 => ?_)
          · repeat first
              | refine LCode.region ?_
            refine LOps.step (S.callH (H1 := HB) (F := (b12, .cells 68 [str l[i].1, int .i64 l[i].2]) :: HL) [_, _] rfl List.perm_middle.symm (writeByte_spec bb t 32 HB hB (by omega)) (fun v' H' h => ?_) (fun ch H' h => by obtain ⟨⟨x, h⟩, _⟩ := h; cases h)) rfl
            repeat first
              | refine LOps.nil ?_
              | refine QThen.normal ?_
            exact ⟨H', by rw [if_pos h5]; exact h.2, ⟨rfl, rfl, rfl, rfl, rfl, rfl, rfl, rfl, rfl, trivial⟩, HSub.refl _, rfl⟩
          · repeat first
              | refine LCode.skip ?_
              | refine QThen.normal ?_
            exact ⟨HB, by rw [if_neg (by rw [h5]; decide), List.append_nil]; exact hB, ⟨rfl, rfl, rfl, rfl, rfl, rfl, rfl, rfl, rfl, trivial⟩, ⟨[], by simpa using List.perm_middle.symm⟩, rfl⟩
        · have h4' : isDigit last = false := h4
          rw [h4', Bool.false_and]
          repeat first
            | refine LOps.nil ?_
            | refine QThen.normal ?_
            | refine LOps.pure (Pure.pickF (lv := .atom _) rfl rfl) rfl ?_
            | refine LOps.skip rfl rfl rfl rfl ?_
          refine LCode.cond rfl (fun h5 => by cases h5) (fun h5 => ?_)
          repeat first
            | refine LCode.skip ?_
            | refine QThen.normal ?_
          exact ⟨HB, by rw [if_neg (by decide), List.append_nil]; exact hB, ⟨rfl, rfl, rfl, rfl, rfl, rfl, rfl, rfl, rfl, trivial⟩, ⟨[], by simpa using List.perm_middle.symm⟩, rfl⟩
      rintro HB' hB' j3 hj3
      have htl : (t ++ if (isDigit last && firstD s) = true then [32] else []).length = t.length + one (isDigit last && firstD s) := by
        rw [List.length_append]
        unfold one
        split <;> rfl
      generalize (t ++ if (isDigit last && firstD s) = true then [32] else []) = t2 at hB' htl
      have hsl3 := List.length_pos_iff.2 hs0
      have hget : s[((s.length : Int) - 1).toNat]? = some (s.getLast hs0) := by
        rw [show ((s.length : Int) - 1).toNat = s.length - 1 by omega, List.getLast_eq_getElem, List.getElem?_eq_getElem (by omega)]
      have hlast : lastD s = isDigit (s.getLast hs0) := by
        unfold lastD
        rw [List.getLast?_eq_some_getLast hs0]
      rw [hlast] at hE
      repeat first
        | refine LCode.seq ?_
        | refine LCode.region ?_
        | refine LOps.pure (Pure.mv (lv := .atom _) rfl) rfl ?_
      refine LOps.step (S.callH (H1 := HB') (F := (b12, .cells 68 [str l[i].1, int .i64 l[i].2]) :: HL) [_, _] rfl (List.Perm.refl _) (writeString_spec bb t2 s HB' hB' (by omega)) (fun v' H' h => ?_) (fun ch H' h => by obtain ⟨⟨x, h⟩, _⟩ := h; cases h)) rfl
      obtain ⟨⟨x, hx⟩, hB2⟩ := h
      repeat first
        | refine LOps.nil ?_
        | refine LCode.region ?_
        | refine QThen.normal ?_
        | refine LOps.pure (Pure.mv (lv := .atom _) rfl) rfl ?_
        | refine LOps.pure (Pure.slen rfl) rfl ?_
        | refine LOps.pure (Pure.sub rfl rfl (by omega)) rfl ?_
      refine LOps.pure (Pure.sindex (c := s.getLast hs0) rfl rfl (by omega) hget) rfl ?_
      repeat first
        | refine LOps.nil ?_
        | refine LCode.region ?_
        | refine QThen.normal ?_
        | refine QBlock.normal ?_
        | refine LOps.pure (Pure.as (lv := .atom _) rfl) rfl ?_
        | refine LOps.pure (Pure.mv (lv := .atom _) rfl) rfl ?_
        | refine LOps.pure (Pure.add rfl rfl (by omega)) rfl ?_
      exact ⟨_, _, _, by omega, ⟨i + 1, t2 ++ s, labs, v, s.getLast hs0, H', HL, by omega, rfl, rfl, rfl, hB2, hacc, by omega, hlm, by rw [List.length_append]; omega⟩, ⟨rfl, rfl, rfl, rfl, rfl, rfl, rfl, int_eq (by omega), trivial⟩, sub_mid, hj3.trans (hj2.trans hj)⟩
  · have hi' : i = l.length := by have := of_decide_eq_false hc; omega
    subst hi'
    rw [List.drop_length] at hE
    have hE' : t.length = lenW false (txt l) := by rw [← hE]; rfl
    refine LCode.sub (d := 9) (v := v) rfl hacc.sub ?_
    refine LCode.weak (acc_sub hacc) ?_
    repeat first
      | refine LCode.seq ?_
      | refine LCode.region ?_
      | refine LCode.exit ?_
      | refine QThen.normal ?_
      | refine QThen.exit ?_
      | refine QBlock.hit ?_
    refine LOps.step (S.callH (H1 := HB) (F := Hk) [_] rfl (List.Perm.refl _) (string_spec bb t HB hB (by omega)) (fun v' H' h => ?_) (fun ch H' h => by obtain ⟨h, _⟩ := h; cases h)) rfl
    obtain ⟨hv, rfl⟩ := h
    cases hv
    repeat first
      | refine LOps.nil ?_
      | refine LCode.ret ?_
      | refine QThen.normal ?_
      | refine LOps.pure (Pure.as (lv := .atom _) rfl) rfl ?_
      | refine LOps.pure (Pure.as (lv := .list _) rfl) rfl ?_
      | refine LOps.pure (Pure.mv (lv := .list _) rfl) rfl ?_
    exact RetPost.ret hj (AllRes.cons (ResIs.tmp (v := .atom _) rfl (LV.Sub.refl _)) (AllRes.cons (ResIs.tmp (v := .list _) rfl (LV.Sub.refl _)) AllRes.nil)) (HSub.refl _) ⟨t, labs, rfl, by simp, hE', hll, hlm⟩
end
end Go.Proofs.YtkjjenppmmipmaaGreatDoor
namespace Go.Proofs.YtkjjenppmmipmaaGreatDoor
open Go.GL Go.RowKit Go.Stele
set_option maxRecDepth 100000
set_option maxHeartbeats 4000000
def aliveA : List UInt8 := [50, 32, 51, 32, 43, 32, 48, 32, 94, 32, 46, 32, 36, 32, 55, 32, 46]
def aliveB : List UInt8 := [38, 102, 32, 58, 32, 49, 32, 36, 32, 102, 58, 32, 48, 32, 38, 106, 32, 63, 32, 57, 32, 106, 58, 32, 59]
theorem aliveA_is : optimizeP aliveA = ([53, 32, 46, 32, 36], 0) := by kernel_rfl
theorem aliveB_is : optimizeP aliveB = ([38, 102, 32, 58, 32, 49, 32, 36, 32, 102, 58, 32, 59], 0) := by kernel_rfl
theorem ret_any {C : Ctx} {f : FuncId} {args : List LV} {v : Value} (h : LCalls C f args [] (Ret (.atom v))) : LCalls C f args [] (fun r _ => r = .ret (.atom v)) := LCalls.mono h fun _ _ h => h.1
/-- What the statements ask of a list of words. -/
def Modest (l : List Wd) : Prop := l.length ≤ 200 ∧ ∀ w ∈ l, w.length ≤ 60
theorem Modest.small {l : List Wd} (h : Modest l) : Small l := ⟨by have := h.1; omega, fun w hw => by have := h.2 w hw; omega⟩
theorem Modest.join {l : List Wd} (h : Modest l) : (Go.Lib.join l [32]).length ≤ 12200 := by
  have h1 := join_size l h.2
  have := h.1
  omega
attribute [local irreducible] LOps LCode LStep LCalls Go.GL.Pure QThen QBlock RetPost LQ LAny LLate LLateOp
section
variable {B0 : Nat} {w0 : World}
theorem alive_spec (hG : GW B0 w0) : LCalls (KC B0 w0) 9 [] [] (Ret (bool true)) := by
  have h1 := optimize_spec hG aliveA (by decide)
  rw [aliveA_is] at h1
  have h2 := optimize_spec hG aliveB (by decide)
  rw [aliveB_is] at h2
  refine LCalls.intro Tryz.func9 rfl (n := 27) rfl rfl rfl ?_
  repeat first
    | refine LOps.nil ?_
    | refine LCode.seq ?_
    | refine LCode.region ?_
    | refine QThen.normal ?_
    | refine LOps.pure (Pure.as (lv := .atom _) rfl) rfl ?_
  refine LOps.step (S.fn [_] rfl h1 ?_) rfl
  repeat first
    | refine LOps.nil ?_
    | refine LCode.seq ?_
    | refine LCode.region ?_
    | refine QThen.normal ?_
    | refine LOps.pure (Pure.as (lv := .atom _) rfl) rfl ?_
    | refine LOps.pure (Pure.mv (lv := .tuple _) rfl) rfl ?_
    | refine LOps.pure (Pure.extract (c := .atom _) rfl rfl) rfl ?_
  refine LOps.step (S.fn [_] rfl h2 ?_) rfl
  repeat first
    | refine LOps.nil ?_
    | refine LCode.seq ?_
    | refine LCode.region ?_
    | refine LCode.ret ?_
    | refine QThen.normal ?_
    | refine LOps.pure (Pure.as (lv := .atom _) rfl) rfl ?_
    | refine LOps.pure (Pure.mv (lv := .tuple _) rfl) rfl ?_
    | refine LOps.pure (Pure.extract (c := .atom _) rfl rfl) rfl ?_
    | refine LOps.pure (Pure.mv (lv := .atom _) rfl) rfl ?_
    | refine LOps.pure (Pure.seq rfl rfl) rfl ?_
    | refine LOps.pure (Pure.eql rfl rfl) rfl ?_
    | refine LOps.pure (Pure.pickT (lv := .atom _) rfl rfl) rfl ?_
    | refine LOps.want rfl rfl ?_
  exact retRet rfl (AllRes.cons (ResIs.tmp (v := .atom _) rfl (LV.Sub.refl _)) AllRes.nil) rfl
theorem great_spec (l : List Wd) : LCalls (KC B0 w0) 10 [.list (l.map str)] [] (RetIf fun lv => ∃ g, lv = bool g ∧ (g = false → Modest l)) := by
  have hla : (l.map str).length = l.length := List.length_map _
  refine LCalls.intro Tryz.func10 rfl (n := 19) rfl rfl rfl ?_
  repeat first
    | refine LOps.nil ?_
    | refine LCode.seq ?_
    | refine LCode.region ?_
    | refine QThen.normal ?_
    | refine LOps.pure (Pure.as (lv := .atom _) rfl) rfl ?_
    | refine LOps.pure (Pure.mv (lv := .list _) rfl) rfl ?_
    | refine LOps.pure (Pure.llen rfl) rfl ?_
    | refine LOps.pure (Pure.gtr rfl rfl) rfl ?_
  refine LCode.cond rfl (fun h1 => ?_) (fun h1 => ?_)
  · repeat first
      | refine LOps.nil ?_
      | refine LCode.seq ?_
      | refine LCode.region ?_
      | refine LCode.ret ?_
      | refine QThen.normal ?_
      | refine QThen.ret ?_
      | refine LOps.pure (Pure.as (lv := .atom _) rfl) rfl ?_
    exact retRetIf rfl (AllRes.cons (ResIs.tmp (v := .atom _) rfl (LV.Sub.refl _)) AllRes.nil) ⟨true, rfl, fun h => by cases h⟩
  have hle : l.length ≤ 200 := by have := of_decide_eq_false h1; omega
  repeat first
    | refine LOps.nil ?_
    | refine LCode.seq ?_
    | refine LCode.region ?_
    | refine LCode.skip ?_
    | refine LCode.block ?_
    | refine QThen.normal ?_
    | refine LOps.pure (Pure.as (lv := .atom _) rfl) rfl ?_
  refine LCode.loopI (fun k ls H => ∃ i : Nat, k = l.length - i ∧ i ≤ l.length ∧ ls = [(0, .list (l.map str)), (3, int .i64 (i : Nat))] ∧ H = [] ∧ ∀ w ∈ l.take i, w.length ≤ 60)
    ⟨_, _, _, ⟨0, rfl, Nat.zero_le _, rfl, rfl, by simp⟩, ⟨rfl, rfl, trivial⟩, HSub.refl _⟩ ?_
  rintro k ls H ⟨i, rfl, hi, rfl, rfl, hE⟩ j hj
  repeat first
    | refine LOps.nil ?_
    | refine LCode.seq ?_
    | refine LCode.region ?_
    | refine QThen.normal ?_
    | refine LOps.pure (Pure.mv (lv := .list _) rfl) rfl ?_
    | refine LOps.pure (Pure.mv (lv := .atom _) rfl) rfl ?_
    | refine LOps.pure (Pure.llen rfl) rfl ?_
    | refine LOps.pure (Pure.lss rfl rfl) rfl ?_
  refine LCode.cond rfl (fun hc => ?_) (fun hc => ?_)
  · have hlt : i < l.length := by have := of_decide_eq_true hc; omega
    repeat first
      | refine LCode.seq ?_
      | refine LCode.region ?_
      | refine LCode.skip ?_
      | refine LCode.block ?_
      | refine QThen.normal ?_
      | refine LOps.pure (Pure.mv (lv := .list _) rfl) rfl ?_
      | refine LOps.pure (Pure.mv (lv := .atom _) rfl) rfl ?_
    refine LOps.pure (Pure.ixRef (el' := str l[i]) (cs := [str l[i]]) rfl rfl (by omega) (map_get _ _ _ hlt) rfl rfl) rfl ?_
    repeat first
      | refine LOps.nil ?_
      | refine QThen.normal ?_
      | refine LOps.pure (Pure.gtr rfl rfl) rfl ?_
      | refine LOps.pure (Pure.loadRef (c := .atom _) rfl rfl) rfl ?_
      | refine LOps.pure (Pure.slen rfl) rfl ?_
    refine LCode.cond rfl (fun hd => ?_) (fun hd => ?_)
    · repeat first
        | refine LOps.nil ?_
        | refine LCode.seq ?_
        | refine LCode.region ?_
        | refine LCode.ret ?_
        | refine QThen.normal ?_
        | refine QThen.ret ?_
        | refine QBlock.ret ?_
        | refine LOps.pure (Pure.as (lv := .atom _) rfl) rfl ?_
      exact retRetIf hj (AllRes.cons (ResIs.tmp (v := .atom _) rfl (LV.Sub.refl _)) AllRes.nil) ⟨true, rfl, fun h => by cases h⟩
    · have hd' : l[i].length ≤ 60 := by have := of_decide_eq_false hd; omega
      repeat first
        | refine LOps.nil ?_
        | refine LCode.region ?_
        | refine LCode.skip ?_
        | refine QThen.normal ?_
        | refine QBlock.normal ?_
        | refine LOps.pure (Pure.as (lv := .atom _) rfl) rfl ?_
        | refine LOps.pure (Pure.mv (lv := .atom _) rfl) rfl ?_
        | refine LOps.pure (Pure.add rfl rfl (by omega)) rfl ?_
      exact ⟨_, _, _, by omega, ⟨i + 1, rfl, by omega, rfl, rfl, fun w hw => by
        rw [List.take_succ_eq_append_getElem hlt] at hw
        rcases List.mem_append.1 hw with hw | hw
        · exact hE w hw
        · rw [List.mem_singleton.1 hw]; exact hd'⟩, ⟨rfl, int_eq (by omega), trivial⟩, HSub.refl _, hj⟩
  · have hi' : i = l.length := by have := of_decide_eq_false hc; omega
    subst hi'
    rw [List.take_length] at hE
    repeat first
      | refine LOps.nil ?_
      | refine LCode.seq ?_
      | refine LCode.region ?_
      | refine LCode.ret ?_
      | refine LCode.exit ?_
      | refine QThen.normal ?_
      | refine QThen.exit ?_
      | refine QBlock.hit ?_
      | refine LOps.pure (Pure.as (lv := .atom _) rfl) rfl ?_
    exact retRetIf hj (AllRes.cons (ResIs.tmp (v := .atom _) rfl (LV.Sub.refl _)) AllRes.nil) ⟨false, rfl, fun _ => ⟨hle, hE⟩⟩
theorem same_true (a : List Wd) (ha : a.length ≤ 1000000) : LCalls (KC B0 w0) 12 [.list (a.map str), .list (a.map str)] [] (Ret (bool true)) := by
  have hla : (a.map str).length = a.length := List.length_map _
  refine LCalls.intro Tryz.func12 rfl (n := 26) rfl rfl rfl ?_
  repeat first
    | refine LOps.nil ?_
    | refine LCode.seq ?_
    | refine LCode.region ?_
    | refine QThen.normal ?_
    | refine LOps.pure (Pure.as (lv := .atom _) rfl) rfl ?_
    | refine LOps.pure (Pure.mv (lv := .list _) rfl) rfl ?_
    | refine LOps.pure (Pure.llen rfl) rfl ?_
    | refine LOps.pure (Pure.neq rfl rfl) rfl ?_
  refine LCode.cond rfl (fun hc => ?_) (fun hc => ?_)
  · exact absurd hc (by simp)
  repeat first
    | refine LOps.nil ?_
    | refine LCode.seq ?_
    | refine LCode.region ?_
    | refine LCode.skip ?_
    | refine LCode.block ?_
    | refine QThen.normal ?_
    | refine LOps.pure (Pure.as (lv := .atom _) rfl) rfl ?_
  refine LCode.loopI (fun k ls H => ∃ i : Nat, k = a.length - i ∧ i ≤ a.length ∧ ls = [(0, .list (a.map str)), (1, .list (a.map str)), (5, int .i64 (i : Nat))] ∧ H = [])
    ⟨_, _, _, ⟨0, rfl, Nat.zero_le _, rfl, rfl⟩, ⟨rfl, rfl, rfl, trivial⟩, HSub.refl _⟩ ?_
  rintro k ls H ⟨i, rfl, hi, rfl, rfl⟩ j hj
  repeat first
    | refine LOps.nil ?_
    | refine LCode.seq ?_
    | refine LCode.region ?_
    | refine QThen.normal ?_
    | refine LOps.pure (Pure.mv (lv := .list _) rfl) rfl ?_
    | refine LOps.pure (Pure.mv (lv := .atom _) rfl) rfl ?_
    | refine LOps.pure (Pure.llen rfl) rfl ?_
    | refine LOps.pure (Pure.lss rfl rfl) rfl ?_
  refine LCode.cond rfl (fun hc => ?_) (fun hc => ?_)
  · have hlt : i < a.length := by have := of_decide_eq_true hc; omega
    repeat first
      | refine LCode.seq ?_
      | refine LCode.skip ?_
      | refine LCode.block ?_
      | refine QThen.normal ?_
    refine LCode.cut [(0, .list (a.map str)), (1, .list (a.map str)), (5, int .i64 (i : Nat)), (25, bool (!decide (a[i] = a[i])))] ?_ (fun j2 hj2 => ?_)
    · refine LCode.quiet (by kernel_rfl) ?_
      repeat first
        | refine LQ.pure (Pure.mv (lv := .list _) rfl) rfl ?_
        | refine LQ.pure (Pure.mv (lv := .atom _) rfl) rfl ?_
      refine LQ.pure (Pure.ixRef (el' := str a[i]) (cs := [_]) rfl rfl (by omega) (map_get _ _ _ hlt) rfl rfl) rfl ?_
      repeat first
        | refine LQ.pure (Pure.mv (lv := .list _) rfl) rfl ?_
        | refine LQ.pure (Pure.mv (lv := .atom _) rfl) rfl ?_
        | refine LQ.pure (Pure.loadRef (c := .atom _) rfl rfl) rfl ?_
      refine LQ.pure (Pure.ixRef (el' := str a[i]) (cs := [_]) rfl rfl (by omega) (map_get _ _ _ hlt) rfl rfl) rfl ?_
      repeat first
        | refine LQ.pure (Pure.loadRef (c := .atom _) rfl rfl) rfl ?_
        | refine LQ.pure (Pure.sneq rfl rfl) rfl ?_
        | refine LQ.nil ?_
        | refine QThen.normal ?_
      exact ⟨⟨rfl, rfl, rfl, rfl, trivial⟩, rfl, rfl⟩
    refine LCode.cond rfl (fun hd => ?_) (fun hd => ?_)
    · exact absurd hd (by simp)
    · repeat first
        | refine LOps.nil ?_
        | refine LCode.region ?_
        | refine LCode.skip ?_
        | refine QThen.normal ?_
        | refine QBlock.normal ?_
        | refine LOps.pure (Pure.as (lv := .atom _) rfl) rfl ?_
        | refine LOps.pure (Pure.mv (lv := .atom _) rfl) rfl ?_
        | refine LOps.pure (Pure.add rfl rfl (by omega)) rfl ?_
      exact ⟨_, _, _, by omega, ⟨i + 1, rfl, by omega, rfl, rfl⟩, ⟨rfl, rfl, int_eq (by omega), trivial⟩, HSub.refl _, hj2.trans hj⟩
  · repeat first
      | refine LOps.nil ?_
      | refine LCode.seq ?_
      | refine LCode.region ?_
      | refine LCode.ret ?_
      | refine LCode.exit ?_
      | refine QThen.normal ?_
      | refine QThen.exit ?_
      | refine QBlock.hit ?_
      | refine LOps.pure (Pure.as (lv := .atom _) rfl) rfl ?_
    exact retRet hj (AllRes.cons (ResIs.tmp (v := .atom _) rfl (LV.Sub.refl _)) AllRes.nil) rfl
end
end Go.Proofs.YtkjjenppmmipmaaGreatDoor
namespace Go.GL
open Go.RowKit
theorem results4 {P : Program} {fn : Func} {r s t q : ResultVar} (h : fn.results = #[r, s, t, q]) {tmps : Array Value} {w : World} {v u x y : Value} (h1 : (readRes tmps r).run P w = .ok v w) (h2 : (readRes tmps s).run P w = .ok u w) (h3 : (readRes tmps t).run P w = .ok x w) (h4 : (readRes tmps q).run P w = .ok y w) :
    (results fn tmps).run P w = .ok (.tuple #[v, u, x, y]) w := by
  have : results fn tmps = (do let v ← readRes tmps r; let u ← readRes tmps s; let x ← readRes tmps t; let y ← readRes tmps q; Pure.pure (.tuple #[v, u, x, y])) := by
    cases r <;> cases s <;> cases t <;> cases q <;> simp [results, h, readRes]
  rw [this, bind_run h1, bind_run h2, bind_run h3, bind_run h4]
  rfl
theorem results_of4 {C : Ctx} {n : Nat} {fn : Func} {e : Env} {H : Heap} {a : Act} {w : World} {L : Live} (hE : RelE n a e w L) (hH : RelH C w L H) {vs : List LV}
    (h : AllRes C n e H fn.results.toList vs) (h3 : fn.results.size = 4) : ∃ v, (results fn a.tmps).run C.P w = .ok v w ∧ Rep w L (resLV vs) v := by
  obtain ⟨rs, hrs⟩ : ∃ rs, fn.results = List.toArray rs := ⟨fn.results.toList, by simp⟩
  rw [hrs] at h h3
  simp only [List.size_toArray] at h h3
  match rs, vs, h, h3, hrs with
  | [r, s, t, q], [x, y, z, o], h, _, hrs =>
    obtain ⟨v1, g1, r1⟩ := h.1 a w L hE hH
    obtain ⟨v2, g2, r2⟩ := h.2.1 a w L hE hH
    obtain ⟨v3, g3, r3⟩ := h.2.2.1 a w L hE hH
    obtain ⟨v4, g4, r4⟩ := h.2.2.2.1 a w L hE hH
    exact ⟨_, results4 hrs g1 g2 g3 g4, by simp only [resLV, Rep]; exact ⟨[v1, v2, v3, v4], rfl, by simp only [RepL]; exact ⟨v1, _, rfl, r1, v2, _, rfl, r2, v3, _, rfl, r3, v4, _, rfl, r4, rfl⟩⟩⟩
  | [_, _, _, _], [], h, _, _ => exact h.elim
  | [_, _, _, _], [_], h, _, _ => exact h.2.elim
  | [_, _, _, _], [_, _], h, _, _ => exact h.2.2.elim
  | [_, _, _, _], [_, _, _], h, _, _ => exact h.2.2.2.elim
  | [_, _, _, _], _ :: _ :: _ :: _ :: _ :: _, h, _, _ => exact h.2.2.2.2.elim
/-- Entering a function. -/
theorem LCalls.intro4 {C : Ctx} {f : FuncId} {fn : Func} {c : Code} {n : Nat} {args : List LV} {H : Heap} {R : LRes → Heap → Prop} (hf : C.P.funcs[f]? = some fn) (hb : fn.body = some c) (hn : fn.ntmps = n) (h3 : Nat.beq fn.results.size 4 = true)
    (hl : Nat.ble args.length n = true) (h : LCode C n c (RetPost C n fn.results.toList R) (argsEnv args) H) : LCalls C f args H R := fun vs w L hv hH => by
  subst hn
  have hl' : args.length ≤ fn.ntmps := by simpa using hl
  have h3' : fn.results.size = 4 := Nat.eq_of_beq_eq_true h3
  have hlen := hv.length
  refine calls_of_wp hf hb (Go.wp_mono (h _ w L ⟨?_, rfl, fun i => ?_⟩ hH) fun ex a' w' hq => ?_)
  · simp; omega
  · simp only [argsEnv]
    rw [Array.getD_eq_getD_getElem?]
    rcases Nat.lt_or_ge i args.length with hi | hi
    · rw [List.getElem?_eq_getElem hi]
      obtain ⟨x, hx, hr⟩ := hv.get (List.getElem?_eq_getElem hi)
      have hxi : (vs.toArray ++ Array.replicate (fn.ntmps - vs.toArray.size) undef)[i]? = some x := by
        rw [Array.getElem?_append_left (by simp; omega)]
        simpa using hx
      rw [hxi]
      exact hr
    · rw [List.getElem?_eq_none hi]
      have hxi : ((vs.toArray ++ Array.replicate (fn.ntmps - vs.toArray.size) undef)[i]?).getD undef = undef := by
        rw [Array.getElem?_append_right (by simp; omega)]
        rw [Array.getElem?_replicate]
        split <;> rfl
      rw [hxi]
      simp only [Option.getD_none, Rep]
  · obtain ⟨e', H', L', g1, g2, g3, g4⟩ := hq
    have ret : RelE fn.ntmps a' e' w' L' → (e'.ds = [] ∧ ∃ vs H'', AllRes C fn.ntmps e' H' fn.results.toList vs ∧ HSub H'' H' ∧ R (.ret (resLV vs)) H'') →
        a'.defers = [] ∧ ∃ v, (results fn a'.tmps).run C.P w' = .ok v w' ∧ CallPost C w L H (fun v => R (.ret v)) (fun ch => R (.panic ch)) (.returned v) w' := fun hE hr => by
      obtain ⟨h1, vs', H'', h2, h4, h5⟩ := hr
      obtain ⟨v, r1, r2⟩ := results_of4 hE g2 h2 h3'
      exact ⟨hE.ds.trans h1, v, r1, resLV vs', H'', L', g1.weak h4, g2.weak h4, r2, h5⟩
    cases ex with
    | normal => exact ret g3 g4
    | ret => exact ret g3 g4
    | panic ch =>
      obtain ⟨h1, H'', h4, h5⟩ := g4
      exact ⟨g3.trans h1, H'', L', g1.weak h4, g2.weak h4, h5⟩
    | exit id => exact g4.elim
    | goto id => exact g4.elim
    | outgrown => exact g4.elim

end Go.GL
