/- Texts joined: CmpLift, CmpLf, CmpLfA, JnC. -/
import Derived.Test.YtdakelgkjdaijaaGreatDoorCards
import Derived.Test.YtdakelgkjdaijaaGreatDoorTie
import Derived.WalkKit
import Derived.ProofKit
import Derived.OpenShut
import Derived.ChangeMaps5
import Derived.Deep.DeepHandedRow
import Derived.Lib.LaidTab
import Derived.ChangeSlices
import Derived.WideKeyArgs
import Derived.Lib.SmallJoins
import Derived.KernelRfl
import Derived.Lib.Replace
import Derived.Lib.Join
import Derived.JoinedCond
import Derived.JoinedOf
import Derived.Test.YtdakelgkjdaijaaGreatDoorBRowP21
import Derived.Test.YtdakelgkjdaijaaGreatDoorBRowP22
import Derived.Test.YtdakelgkjdaijaaGreatDoorBRowP23
import Derived.Test.YtdakelgkjdaijaaGreatDoorBRowP24
import Derived.Test.YtdakelgkjdaijaaGreatDoorBRowP25
set_option linter.unusedVariables false
set_option linter.unusedSimpArgs false
namespace Go.Proofs.YtdakelgkjdaijaaGreatDoor
open Go.ChangeShapes Go.WideShapes Go.ChangeAt Go.RowKit
set_option maxRecDepth 100000
theorem own : ownKnob Tryz.prog.godebug = none := by kernel_rfl
/-- The variables that every row lists. -/
def lst : List (String × DataW Unit) := [("math/bits.deBruijn32tab", Rows.laid_math_bits_deBruijn32tab), ("math/bits.deBruijn64tab", Rows.laid_math_bits_deBruijn64tab), ("internal/strconv.uint64pow10", Rows.laid_internal_strconv_uint64pow10), ("strconv.ErrRange", Rows.laid_strconv_ErrRange), ("strconv.ErrSyntax", Rows.laid_strconv_ErrSyntax)]
/-- The heap reaches beyond the variables. -/
theorem heap_eight {W : World} (hs : W.ShapedOpen Tryz.prog) : 8 ≤ W.heap.size := by
 have h0 : (((begin Tryz.prog (fun _ _ => 0) default).world.heap[7]?).bind Obj.row?).isSome = true := by kernel_rfl
 obtain ⟨⟨zero, t'⟩, h0'⟩ := Option.isSome_iff_exists.1 h0
 obtain ⟨cs, h1, _⟩ := hs.1 7 zero t' (of_decide_eq_true (by kernel_rfl)) h0'
 have := (Array.getElem?_eq_some_iff.1 h1).1
 omega
theorem gw_of_laid {W : World} (h : laidMetH Tryz.prog lst W) (hs : W.ShapedOpen Tryz.prog) : GW 8 W ∧ 8 ≤ W.heap.size := by
 have h0 : laidMet Tryz.prog lst W := h
 have hp : laidMet Tryz.prog [("internal/strconv.uint64pow10", Rows.laid_internal_strconv_uint64pow10)] W := h0.filter (fun x => x.1 == "internal/strconv.uint64pow10")
 have he : laidMet Tryz.prog [("strconv.ErrRange", Rows.laid_strconv_ErrRange)] W := h0.filter (fun x => x.1 == "strconv.ErrRange")
 obtain ⟨ps, ⟨g, t, cs, fuel, p, q, hg, ht, hvar, hd, _, _⟩, _⟩ := he
 have hg' : Tryz.prog.globalNamed "strconv.ErrRange" = some 5 := by kernel_rfl
 obtain rfl := Option.some.inj (hg'.symm.trans hg)
 have ht' : (Tryz.prog.globals[5]?).map (·.type) = some 72 := by kernel_rfl
 obtain rfl := Option.some.inj (ht'.symm.trans ht)
 obtain ⟨ms, hms⟩ : ∃ ms, Tryz.prog.underlying 72 = some (.interface ms) := (inferInstance : Go.GL.TIface Tryz.prog 72).und
 refine ⟨⟨?_, ?_, Nat.le_refl _⟩, heap_eight hs⟩
 ·exact Lib.tabIs_of_head (g := 1) (t := 234) (e := 99) (n := 20) (rest := []) (by kernel_rfl) (by kernel_rfl) (by kernel_rfl) (by kernel_rfl) (by kernel_rfl) (by kernel_rfl) hp
 ·obtain ⟨_, u, v, hcs, _, _⟩ := iface_of_trod hms hd
  refine ⟨u, v, ?_⟩
  rw [hvar]
  congr 1
  exact Array.ext' (by simpa using hcs)
theorem relH_of {W : World} {L : Go.GL.Live} (h8 : 8 ≤ W.heap.size) (h2 : ∀ b, W.heap.size ≤ b → L b = 0) : Go.GL.RelH (KC 8 W) W L [] :=
 ⟨Below.refl _ _, trivial, h8, h2, List.nodup_nil, by simp⟩
/-- The law's own call, in the words of the walk. -/
theorem lift_at {f : FuncId} {args : List Go.GL.LV} {vs : List Value} {W : World} {L : Go.GL.Live} (h : Go.GL.LCalls (KC 8 W) f args [] (Go.GL.Ret (Go.GL.bool true))) (hr : Go.GL.RepL W L args vs) (hR : Go.GL.RelH (KC 8 W) W L []) : Calls Tryz.prog f vs.toArray W fun e W' => e = .returned (.bool true) ∧ Below W.heap.size W W' := by
 refine (h vs W L hr hR).mono ?_
 intro e W' he
 cases e with
 | returned v =>
  obtain ⟨lv, H', L', h1, h2, h3, h4, _⟩ := he
  injection h4 with h4
  subst h4
  simp only [Go.GL.Rep] at h3
  subst h3
  exact ⟨rfl, h1.os, h1.tape, h1.output, h1.ext.size, fun k hk => h1.block k hk (by simp [Go.GL.keys])⟩
 | panicked ch =>
  obtain ⟨H', L', h1, h2, h3, _⟩ := he
  cases h3
 | outgrown => exact he.elim
theorem u32_of {n : Int} (h : (Lit.int .u32 n).wf = true) : ∃ a : Nat, n = (a : Int) ∧ a < 4294967296 := by
 simp [Lit.wf] at h
 refine ⟨n.toNat, ?_, ?_⟩
 all_goals have := h
 all_goals simp [IntKind.has, IntKind.min, IntKind.max, IntKind.signed, IntKind.bits] at this
 all_goals omega
theorem post_of_below {H : Type} {enc : TypeId × Value → H} {P : Program} {f : Func} {s : ChangeSpec} {apart fresh handsOn again : Bool} {W W' : World} {args : Array Value} {v : Value} {ds gs : List (DataW H)} {before pa pv : List MemPlace}
  (hW : DataW.Whole enc P f.params.toList s.vars apart W args.toList ds gs before)
  (hres : ∀ (b : Nat) (sp : Nat → Bool) (hd : Bool), DataW.TrodAll enc P W' b sp hd f.resultTypes.toList (v.resultList f.resultTypes.size) (s.fn H (ds ++ gs)).results [])
  (hargs : ∀ sp : Nat → Bool, (∀ p ∈ before, sp p.block = true) → DataW.TrodAll enc P W' 0 sp true f.params.toList args.toList (s.fn H (ds ++ gs)).args pa)
  (hvars : ∀ sp : Nat → Bool, (∀ p ∈ before, sp p.block = true) → DataW.TrodVars enc P W' sp s.vars (s.fn H (ds ++ gs)).vars pv)
  (hps : before = pa ++ pv) (hb : Below W.heap.size W W')
  (hok : ∀ (j : Nat) (t : TypeId) (r : Value), f.resultTypes[j]? = some t → (v.resultList f.resultTypes.size)[j]? = some r → Value.okWide P W' .any 0 t r) :
  s.post enc P f apart fresh handsOn again W args v W' := by
 have hold : ∀ p ∈ before, (fun b => decide (b < W.heap.size)) p.block = true := fun p hp => by simpa using hW.lt p hp
 have hlt := hW.lt
 refine ⟨ds, gs, before, [], pa, pv, hW, hres _ _ _, hargs _ hold, hvars _ hold, World.keptBut_mono (fun p hp => ⟨hp, ?_⟩) (hb.frame (· ∈ before)), fun _ => ?_⟩
 ·rw [hps, List.mem_append] at hp
  exact Or.inr hp
 ·obtain ⟨_, _, _, _, _, hz, hn⟩ := hW
  refine ⟨hok, _, _, ([] ++ pa) ++ pv, ⟨[] ++ pa, pv, trodAll_append (hargs _ (fun _ _ => rfl)) (hres _ _ _), hvars _ (fun _ _ => rfl), rfl, ?_, ?_⟩, ?_⟩
  ·intro b off hp
   have hp' : MemPlace.cell b off ∈ before := by rw [hps]; simpa using hp
   rw [hb.frozen (p := ⟨b, off, none⟩) (hlt _ hp')]
   exact hz b off hp'
  ·intro ha
   have := hn ha
   rw [hps] at this
   simpa using this
  ·intro p hp _
   rw [hps]
   simpa using hp
noncomputable def low : Nat := (World.holding Tryz.prog default ⟨#[], #[], []⟩).heap.size
def lst7 : List (String × DataW Unit) := [("math/bits.deBruijn32tab", Rows.laid_math_bits_deBruijn32tab), ("math/bits.deBruijn64tab", Rows.laid_math_bits_deBruijn64tab), ("internal/strconv.uint64pow10", Rows.laid_internal_strconv_uint64pow10), ("unicode/utf8.acceptRanges", Rows.laid_unicode_utf8_acceptRanges), ("strconv.ErrRange", Rows.laid_strconv_ErrRange), ("strconv.ErrSyntax", Rows.laid_strconv_ErrSyntax), ("unicode/utf8.first", Rows.laid_unicode_utf8_first)]
theorem laid5 {W : World} (h : laidMetH Tryz.prog lst7 W) : laidMetH Tryz.prog lst W := by
 have h0 : laidMet Tryz.prog lst7 W := h
 exact (show laidMet Tryz.prog lst W from h0.filter (fun x => !(x.1 == "unicode/utf8.acceptRanges") && !(x.1 == "unicode/utf8.first")))
noncomputable def laidWorld7 (os : Os) : World :=
 let w0 := World.holding Tryz.prog os ⟨#[.cells #[.string ⟨#[118, 97, 108, 117, 101, 32, 111, 117, 116, 32, 111, 102, 32, 114, 97, 110, 103, 101]⟩] 294, .cells #[.string ⟨#[105, 110, 118, 97, 108, 105, 100, 32, 115, 121, 110, 116, 97, 120]⟩] 294], #[], []⟩
 let put (h : Array Obj) (g : Nat) (cs : Array Value) : Array Obj := h.modify g fun
  | .cells _ t frozen => .cells cs t frozen
  | o => o
 { w0 with heap := put (put (put (put (put (put (put w0.heap 2 #[.int .u8 0, .int .u8 1, .int .u8 28, .int .u8 2, .int .u8 29, .int .u8 14, .int .u8 24, .int .u8 3, .int .u8 30, .int .u8 22, .int .u8 20, .int .u8 15, .int .u8 25, .int .u8 17, .int .u8 4, .int .u8 8, .int .u8 31, .int .u8 27, .int .u8 13, .int .u8 23, .int .u8 21, .int .u8 19, .int .u8 16, .int .u8 7, .int .u8 26, .int .u8 12, .int .u8 18, .int .u8 6, .int .u8 11, .int .u8 5, .int .u8 10, .int .u8 9]) 3 #[.int .u8 0, .int .u8 1, .int .u8 56, .int .u8 2, .int .u8 57, .int .u8 49, .int .u8 28, .int .u8 3, .int .u8 61, .int .u8 58, .int .u8 42, .int .u8 50, .int .u8 38, .int .u8 29, .int .u8 17, .int .u8 4, .int .u8 62, .int .u8 47, .int .u8 59, .int .u8 36, .int .u8 45, .int .u8 43, .int .u8 51, .int .u8 22, .int .u8 53, .int .u8 39, .int .u8 33, .int .u8 30, .int .u8 24, .int .u8 18, .int .u8 12, .int .u8 5, .int .u8 63, .int .u8 55, .int .u8 48, .int .u8 27, .int .u8 60, .int .u8 41, .int .u8 37, .int .u8 16, .int .u8 46, .int .u8 35, .int .u8 44, .int .u8 21, .int .u8 52, .int .u8 32, .int .u8 23, .int .u8 11, .int .u8 54, .int .u8 26, .int .u8 40, .int .u8 15, .int .u8 34, .int .u8 20, .int .u8 31, .int .u8 10, .int .u8 25, .int .u8 14, .int .u8 19, .int .u8 9, .int .u8 13, .int .u8 8, .int .u8 7, .int .u8 6]) 1 #[.int .u64 1, .int .u64 10, .int .u64 100, .int .u64 1000, .int .u64 10000, .int .u64 100000, .int .u64 1000000, .int .u64 10000000, .int .u64 100000000, .int .u64 1000000000, .int .u64 10000000000, .int .u64 100000000000, .int .u64 1000000000000, .int .u64 10000000000000, .int .u64 100000000000000, .int .u64 1000000000000000, .int .u64 10000000000000000, .int .u64 100000000000000000, .int .u64 1000000000000000000, .int .u64 10000000000000000000]) 7 #[.int .u8 128, .int .u8 191, .int .u8 160, .int .u8 191, .int .u8 128, .int .u8 159, .int .u8 144, .int .u8 191, .int .u8 128, .int .u8 143, .int .u8 0, .int .u8 0, .int .u8 0, .int .u8 0, .int .u8 0, .int .u8 0, .int .u8 0, .int .u8 0, .int .u8 0, .int .u8 0, .int .u8 0, .int .u8 0, .int .u8 0, .int .u8 0, .int .u8 0, .int .u8 0, .int .u8 0, .int .u8 0, .int .u8 0, .int .u8 0, .int .u8 0, .int .u8 0]) 6 (Go.Pinned.utf8FirstZ.map fun n : Nat => Value.int .u8 (n : Int)).toArray) 5 #[.iface 292 (.pointer (some ⟨low, 0, none⟩))]) 4 #[.iface 292 (.pointer (some ⟨low + 1, 0, none⟩))] }
theorem laid_met7 (os : Os) (args : Array Value) : laidMet Tryz.prog lst7 ((laidWorld7 os).forCall (fun _ _ => 0) ⟨#[], args, []⟩).memory :=
 laidMet_of_run' 8 (by kernel_rfl) (by kernel_rfl)
theorem laidOut : laidOutB Tryz.prog = true := by kernel_rfl
/-- A variable's cells: numbers. -/
def NumCells (W : World) (g : Nat) (t : TypeId) (n : Nat) (ts : List TypeId) : Prop := ∃ cs, W.heap[g]? = some (.cells cs t) ∧ cs.size = n ∧ ∀ i v, cs[i]? = some v → ∃ u k n, ts[i % ts.length]? = some u ∧ Tryz.prog.underlying u = some (.int k) ∧ v = .int k n
theorem num_cells {W : World} (hs : W.ShapedOpen Tryz.prog) (g : Nat) (t : TypeId) (n : Nat) (ts : List TypeId) (hg : decide (g < Tryz.prog.globals.size) = true) (h0 : (((begin Tryz.prog (fun _ _ => 0) default).world.heap[g]?).bind Obj.row?).map (fun r => (r.1.size, r.2)) = some (n, t)) (hb : Tryz.prog.buildable t = true) (hc : Tryz.prog.cellTypes Tryz.prog.depth t = some ts)
  (hall : (ts.all fun u => match Tryz.prog.underlying u with | some (.int _) => true | _ => false) = true) : NumCells W g t n ts := by
 obtain ⟨⟨zero, t'⟩, h0', h1⟩ := Option.map_eq_some_iff.1 h0
 simp only [Prod.mk.injEq] at h1
 obtain ⟨rfl, rfl⟩ := h1
 obtain ⟨cs, h1, h2, h3⟩ := hs.1 g zero _ (of_decide_eq_true hg) h0'
 obtain ⟨ts', e1, e2, e3⟩ := h3 hb
 obtain rfl := Option.some.inj (hc.symm.trans e1)
 refine ⟨cs, h1, h2, fun i v hv => ?_⟩
 obtain ⟨u, hu, hok⟩ := e3 i v hv
 have := List.all_eq_true.1 hall u (List.mem_of_getElem? hu)
 unfold Cell.ok at hok
 split at this
 ·rename_i k hk
  rw [hk] at hok
  cases v <;> simp only at hok
  rename_i k' n
  exact ⟨u, k, n, hu, hk, by rw [hok.1]⟩
 ·cases this
theorem cells0 {W : World} (hs : W.ShapedOpen Tryz.prog) : NumCells W 0 3 1 [3] := num_cells hs 0 3 1 [3] (by kernel_rfl) (by kernel_rfl) (by kernel_rfl) (by kernel_rfl) (by kernel_rfl)
theorem gm_of {W : World} (hs : W.ShapedOpen Tryz.prog) : Asm.GM W := by
 obtain ⟨cs, h1, h2, h3⟩ := cells0 hs
 have h4 : 0 < cs.size := by omega
 obtain ⟨u, k, n, e1, e2, e3⟩ := h3 0 cs[0] (by simp [h4])
 have e4 : u = 3 := by simpa using e1.symm
 subst e4
 have e5 : Tryz.prog.underlying 3 = some (.int .i64) := Tryz.underlying3
 rw [e5] at e2
 cases e2
 exact ⟨n, by simp [World.cell?, h1, h4, e3]⟩
end Go.Proofs.YtdakelgkjdaijaaGreatDoor
namespace Go.Proofs.YtdakelgkjdaijaaGreatDoor
open Go.ChangeShapes Go.WideShapes Go.ChangeAt Go.RowKit Go.Deep Go.Joins
set_option maxRecDepth 100000
end Go.Proofs.YtdakelgkjdaijaaGreatDoor
namespace Go.Proofs.YtdakelgkjdaijaaGreatDoor
open Go.ChangeShapes Go.WideShapes Go.ChangeAt Go.RowKit Go.Deep Go.Joins
open Go.GL (LV Live Rep RepL RepC RepRows)
set_option maxRecDepth 100000
/-- Every cell of a block of cells. -/
def allL (W : World) : Live := fun b => match W.heap[b]? with
 | some (.cells c _ _) => c.size
 | _ => 0
theorem allL_lt {W : World} {b off : Nat} {x : Value} (h : W.cell? ⟨b, off, none⟩ = some x) : off < allL W b := by
 unfold World.cell? at h
 unfold allL
 split at h
 ·rename_i c t z hb
  simp only [hb]
  simp only [Option.isSome_none, Bool.false_eq_true, if_false] at h
  exact (Array.getElem?_eq_some_iff.1 h).1
 ·cases h
theorem allL_out {W : World} {b : Nat} (h : W.heap.size ≤ b) : allL W b = 0 := by
 unfold allL
 rw [Array.getElem?_eq_none h]
theorem repC_of {W : World} {b : Nat} : ∀ (cs : List LV) (vs : List Value) (off : Nat), RepL W (allL W) cs vs → (∀ i (h : i < vs.length), W.cell? ⟨b, off + i, none⟩ = some vs[i]) → RepC W (allL W) b off cs
 | [], vs, off, _, _ => by simp only [RepC]
 | c :: cs, vs, off, h, hc => by
  simp only [RepL] at h
  obtain ⟨y, ys, rfl, h1, h2⟩ := h
  have h0 := hc 0 (by simp)
  simp only [Nat.add_zero, List.getElem_cons_zero] at h0
  simp only [RepC]
  refine ⟨allL_lt h0, ⟨y, h0, h1⟩, repC_of cs ys (off + 1) h2 fun i hi => ?_⟩
  have := hc (i + 1) (by simpa using hi)
  rw [show off + (i + 1) = off + 1 + i by omega] at this
  simpa using this
/-- Cells that were read one by one. -/
theorem cells_get {W : World} {base : Nat} {b off k : Nat} {sp : Option Nat} {vs : List Value} (hk : 0 < k) (h : W.cells? base ⟨b, off, sp⟩ k = some vs) : sp = none ∧ vs.length = k ∧ ∀ i (hi : i < vs.length), W.cell? ⟨b, off + i, none⟩ = some vs[i] := by
 unfold World.cells? at h
 split at h
 ·have hl := mapM_some_length h
  rw [List.length_range] at hl
  have hg : ∀ i, i < k → W.cell? (Addr.add ⟨b, off, sp⟩ i) = vs[i]? := fun i hi => mapM_some_get h i i (by simp [hi])
  have h0 := hg 0 hk
  rw [List.getElem?_eq_getElem (by omega)] at h0
  have hsp : sp = none := by
   cases sp with
   | none => rfl
   | some z =>
    unfold Addr.add World.cell? at h0
    simp at h0
    split at h0 <;> simp_all
  subst hsp
  refine ⟨rfl, by omega, fun i hi => ?_⟩
  have := hg i (by omega)
  rw [List.getElem?_eq_getElem hi] at this
  unfold Addr.add at this
  split at this
  ·rename_i h
   subst h
   exact this
  ·exact this
 ·cases h
end Go.Proofs.YtdakelgkjdaijaaGreatDoor
namespace Go.Proofs.YtdakelgkjdaijaaGreatDoor
open Go.ChangeShapes Go.WideShapes Go.ChangeAt Go.RowKit Go.Deep Go.Joins
open Go.GL (LV Live Rep RepL RepC RepRows)
set_option maxRecDepth 100000
theorem relAll {W : World} (h8 : 8 ≤ W.heap.size) : Go.GL.RelH (KC 8 W) W (allL W) [] := relH_of h8 fun b hb => allL_out hb
section
variable {W : World}
theorem repL_cons {c : LV} {cs : List LV} {v : Value} {vs : List Value} (h : RepL W (allL W) [c] [v]) (h2 : RepL W (allL W) cs vs) : RepL W (allL W) (c :: cs) (v :: vs) := by
 simp only [RepL] at h ⊢
 obtain ⟨y, ys, e, h1, rfl⟩ := h
 simp only [List.cons.injEq] at e
 obtain ⟨rfl, _⟩ := e
 exact ⟨v, vs, rfl, h1, h2⟩
theorem repL_nil : RepL W (allL W) [] [] := by simp only [RepL]
end
end Go.Proofs.YtdakelgkjdaijaaGreatDoor
namespace Go.Proofs.YtdakelgkjdaijaaGreatDoor.Jn
open Go
set_option maxRecDepth 100000
theorem j2 : laidOutB Tryz.prog = true := by kernel_rfl
theorem j3 : mapsRowed Tryz.prog = true := by kernel_rfl
theorem j7 : (Tryz.prog.stops == []) = true := by kernel_rfl
theorem j9 : (Tryz.prog.stopKnobs == []) = true := by kernel_rfl
theorem j22 : (Rows.topSourceProgramsRow.plainKeys == Tryz.prog.plainKeys) = true := by kernel_rfl
theorem j23b : Tryz.prog.stopsHeard = true := by kernel_rfl
theorem j24 : Tryz.prog.mayEnter = true := by kernel_rfl
theorem j24b : (Rows.topSourceProgramsRow.lifted == Tryz.prog.liftsFinal) = true := by kernel_rfl
theorem j24c : (Tryz.prog.make == some Rows.topSourceProgramsRow.make) = true := by kernel_rfl
theorem joined {f : FuncId} {fn : Func} {s : ChangeSpec} {c : OpenClaim}
  (e22 : c.plainKeys = Rows.topSourceProgramsRow.plainKeys) (e24b : c.lifted = Rows.topSourceProgramsRow.lifted) (e24c : c.make = Rows.topSourceProgramsRow.make)
  (k1 : c.wf (OpenSpec.ofChange s) = true) (k4 : (fn.params.all (Tryz.prog.readableRec ·)) = true) (k5 : namedTie Tryz.prog c.named s.vars = true)
  (k6 : (c.stops == []) = true) (k8 : (c.knobs == []) = true)
  (k10 : (c.inPlace == Tryz.prog.inPlace f) = true) (k11 : (c.unfollowed == Tryz.prog.unfollowed f) = true) (k12 : (c.recurses == Tryz.prog.recurses f) = true) (k13 : (c.named == Tryz.prog.varsNamed f) = true)
  (k14 : (c.maps == (fn.params.toList ++ s.plain.varTypes Tryz.prog).any (Tryz.prog.mapsRec ·)) = true) (k15 : (c.ifaces == (fn.params.toList ++ s.plain.varTypes Tryz.prog).any (Tryz.prog.ifacesRec ·)) = true)
  (k16 : (c.mapsOut == Tryz.prog.mapsAmong fn.resultTypes.toList) = true)
  (k17 : (c.loops == (fn.params.toList ++ s.plain.varTypes Tryz.prog).any (Tryz.prog.loopsFrom ·)) = true) (k17b : (c.wideKeys == (fn.params.toList ++ s.plain.varTypes Tryz.prog ++ fn.resultTypes.toList).any (Tryz.prog.wideKeysFrom ·)) = true)
  (k18 : s.vars.all (Tryz.prog.varReadable ·) = true) (k19 : fn.resultTypes.all (fun t => Tryz.prog.readableRec t && decide (t < Tryz.prog.types.size)) = true)
  (k20 : (c.ifacesOut == fn.resultTypes.toList.any (Tryz.prog.ifacesRec ·)) = true) (k21 : (c.loopsOut == fn.resultTypes.toList.any (Tryz.prog.loopsFrom ·)) = true)
  (k23 : c.shortTexts.isNone = true) (k25 : (c.kinds == (if c.domain.isEmpty then [] else fn.params.toList.map fun t => match Tryz.prog.underlying t with | some (.int k) => some k | _ => none)) = true)
  (k26 : (c.pinned == c.pinnedBy) = true) (k27 : (c.veiled == (fn.params.toList ++ s.plain.varTypes Tryz.prog ++ fn.resultTypes.toList).any (Tryz.prog.veiledRec ·)) = true)
  (k28 : c.veiledFits Tryz.prog fn.params.toList (fn.params.toList ++ s.plain.varTypes Tryz.prog ++ fn.resultTypes.toList) = true) :
  joinedFacts Tryz.prog f fn s c = true := by
 have m22 : (c.plainKeys == Tryz.prog.plainKeys) = true := by rw [e22]; exact j22
 have m24b : (c.lifted == Tryz.prog.liftsFinal) = true := by rw [e24b]; exact j24b
 have m24c : (Tryz.prog.make == some c.make) = true := by rw [e24c]; exact j24c
 unfold joinedFacts
 simp only [Bool.and_eq_true]
 exact ⟨⟨⟨⟨⟨⟨⟨⟨⟨⟨⟨⟨⟨⟨⟨⟨⟨⟨⟨⟨⟨⟨⟨⟨⟨⟨⟨⟨⟨⟨⟨k1, j2⟩, j3⟩, k4⟩, k5⟩, k6⟩, j7⟩, k8⟩, j9⟩, k10⟩, k11⟩, k12⟩, k13⟩, k14⟩, k15⟩, k16⟩, k17⟩, k17b⟩, k18⟩, k19⟩, k20⟩, k21⟩, m22⟩, k23⟩, j23b⟩, j24⟩, m24b⟩, m24c⟩, k25⟩, k26⟩, k27⟩, k28⟩
end Go.Proofs.YtdakelgkjdaijaaGreatDoor.Jn
