/- InterpreterArithmetic: a program that computes with two numbers, and the bytes that it puts out: for any two numbers the law returns true. The card: the listed package-level variables read as the program's text lays them. -/
import Derived.Test.YtcbpcianefpniaaGreatDoorCards
import Derived.Test.YtcbpcianefpniaaGreatDoorTie
import Derived.WalkKit
import Derived.ProofKit
import Derived.OpenShut
import Derived.ChangeMaps5
import Derived.Deep.DeepHandedRow
import Derived.Lib.LaidTab
import Derived.Test.YtcbpcianefpniaaGreatDoorBRowIA9
set_option linter.unusedVariables false
set_option linter.unusedSimpArgs false
namespace Go.Proofs.YtcbpcianefpniaaGreatDoor
open Go.ChangeShapes Go.WideShapes Go.ChangeAt Go.RowKit
set_option maxRecDepth 100000
theorem own : ownKnob Tryz.prog.godebug = none := by kernel_rfl
/-- The variables that every row lists. -/
def lst : List (String × DataW Unit) := [("math/bits.deBruijn32tab", Rows.laid_math_bits_deBruijn32tab), ("math/bits.deBruijn64tab", Rows.laid_math_bits_deBruijn64tab), ("internal/strconv.uint64pow10", Rows.laid_internal_strconv_uint64pow10), ("strconv.ErrRange", Rows.laid_strconv_ErrRange), ("strconv.ErrSyntax", Rows.laid_strconv_ErrSyntax)]
theorem gw_of_laid {W : World} (h : laidMetH Tryz.prog lst W) : GW 8 W ∧ 8 ≤ W.heap.size := by
 have h0 : laidMet Tryz.prog lst W := h
 have hp : laidMet Tryz.prog [("internal/strconv.uint64pow10", Rows.laid_internal_strconv_uint64pow10)] W := h0.filter (fun x => x.1 == "internal/strconv.uint64pow10")
 have he : laidMet Tryz.prog [("strconv.ErrRange", Rows.laid_strconv_ErrRange)] W := h0.filter (fun x => x.1 == "strconv.ErrRange")
 obtain ⟨ps, ⟨g, t, cs, fuel, p, q, hg, ht, hvar, hd, _, _⟩, _⟩ := he
 have hg' : Tryz.prog.globalNamed "strconv.ErrRange" = some 7 := by kernel_rfl
 obtain rfl := Option.some.inj (hg'.symm.trans hg)
 have ht' : (Tryz.prog.globals[7]?).map (·.type) = some 146 := by kernel_rfl
 obtain rfl := Option.some.inj (ht'.symm.trans ht)
 obtain ⟨ms, hms⟩ : ∃ ms, Tryz.prog.underlying 146 = some (.interface ms) := (inferInstance : Go.GL.TIface Tryz.prog 146).und
 have h8 : 7 < W.heap.size := by
  have hvar' := hvar
  unfold World.var? at hvar'
  rw [hg'] at hvar'
  rcases Nat.lt_or_ge 7 W.heap.size with h1 | h1
  ·exact h1
  ·simp [Array.getElem?_eq_none h1] at hvar'
 refine ⟨⟨?_, ?_, Nat.le_refl _⟩, h8⟩
 ·exact Lib.tabIs_of_head (g := 1) (t := 205) (e := 84) (n := 20) (rest := []) (by kernel_rfl) (by kernel_rfl) (by kernel_rfl) (by kernel_rfl) (by kernel_rfl) (by kernel_rfl) hp
 ·obtain ⟨_, u, v, hcs, _, _⟩ := iface_of_trod hms hd
  refine ⟨u, v, ?_⟩
  rw [hvar]
  congr 1
  exact Array.ext' (by simpa using hcs)
theorem relH_of {W : World} {L : Go.GL.Live} (h8 : 8 ≤ W.heap.size) (h1 : ∀ b, b < 8 → L b = 0) (h2 : ∀ b, W.heap.size ≤ b → L b = 0) : Go.GL.RelH (KC 8 W) W L [] :=
 ⟨Below.refl _ _, h1, h8, h2, List.nodup_nil, by simp⟩
/-- The law's own call, in the words of the walk. -/
theorem lift_at {f : FuncId} {args : List Go.GL.LV} {vs : List Value} {W : World} {L : Go.GL.Live} (h : Go.GL.LCalls (KC 8 W) f args [] (Go.GL.Ret (Go.GL.bool true))) (hr : Go.GL.RepL W L args vs) (hR : Go.GL.RelH (KC 8 W) W L []) : Calls Tryz.prog f vs.toArray W fun e W' => e = .returned (.bool true) ∧ Below W.heap.size W W' := by
 refine (h vs W L hr hR).mono ?_
 intro e W' he
 cases e with
 | returned v =>
  obtain ⟨lv, H', L', h1, h2, h3, h4, _⟩ := he
  injection h4 with h4
  subst h4
  simp only [Go.GL.Rep] at h3
  subst h3
  exact ⟨rfl, h1.os, h1.tape, h1.output, h1.ext.size, fun k hk => h1.block k hk (by simp [Go.GL.keys])⟩
 | panicked ch =>
  obtain ⟨H', L', h1, h2, h3, _⟩ := he
  cases h3
 | outgrown => exact he.elim
theorem lift_atoms {f : FuncId} {vs : List Value} {W : World} (h8 : 8 ≤ W.heap.size) (h : Go.GL.LCalls (KC 8 W) f (vs.map .atom) [] (Go.GL.Ret (Go.GL.bool true))) : Calls Tryz.prog f vs.toArray W fun e W' => e = .returned (.bool true) ∧ Below W.heap.size W W' :=
 lift_at (L := fun _ => 0) h (Go.GL.repL_atoms vs) (relH_of h8 (fun _ _ => rfl) (fun _ _ => rfl))
theorem u32_of {n : Int} (h : (Lit.int .u32 n).wf = true) : ∃ a : Nat, n = (a : Int) ∧ a < 4294967296 := by
 simp [Lit.wf] at h
 refine ⟨n.toNat, ?_, ?_⟩
 all_goals have := h
 all_goals simp [IntKind.has, IntKind.min, IntKind.max, IntKind.signed, IntKind.bits] at this
 all_goals omega
theorem post_of_below {H : Type} {enc : TypeId × Value → H} {P : Program} {f : Func} {s : ChangeSpec} {apart fresh handsOn again : Bool} {W W' : World} {args : Array Value} {v : Value} {ds gs : List (DataW H)} {before pa pv : List MemPlace}
  (hW : DataW.Whole enc P f.params.toList s.vars apart W args.toList ds gs before)
  (hres : ∀ (b : Nat) (sp : Nat → Bool) (hd : Bool), DataW.TrodAll enc P W' b sp hd f.resultTypes.toList (v.resultList f.resultTypes.size) (s.fn H (ds ++ gs)).results [])
  (hargs : ∀ sp : Nat → Bool, (∀ p ∈ before, sp p.block = true) → DataW.TrodAll enc P W' 0 sp true f.params.toList args.toList (s.fn H (ds ++ gs)).args pa)
  (hvars : ∀ sp : Nat → Bool, (∀ p ∈ before, sp p.block = true) → DataW.TrodVars enc P W' sp s.vars (s.fn H (ds ++ gs)).vars pv)
  (hps : before = pa ++ pv) (hb : Below W.heap.size W W')
  (hok : ∀ (j : Nat) (t : TypeId) (r : Value), f.resultTypes[j]? = some t → (v.resultList f.resultTypes.size)[j]? = some r → Value.okWide P W' .any 0 t r) :
  s.post enc P f apart fresh handsOn again W args v W' := by
 have hold : ∀ p ∈ before, (fun b => decide (b < W.heap.size)) p.block = true := fun p hp => by simpa using hW.lt p hp
 have hlt := hW.lt
 refine ⟨ds, gs, before, [], pa, pv, hW, hres _ _ _, hargs _ hold, hvars _ hold, World.keptBut_mono (fun p hp => ⟨hp, ?_⟩) (hb.frame (· ∈ before)), fun _ => ?_⟩
 ·rw [hps, List.mem_append] at hp
  exact Or.inr hp
 ·obtain ⟨_, _, _, _, _, hz, hn⟩ := hW
  refine ⟨hok, _, _, ([] ++ pa) ++ pv, ⟨[] ++ pa, pv, trodAll_append (hargs _ (fun _ _ => rfl)) (hres _ _ _), hvars _ (fun _ _ => rfl), rfl, ?_, ?_⟩, ?_⟩
  ·intro b off hp
   have hp' : MemPlace.cell b off ∈ before := by rw [hps]; simpa using hp
   rw [hb.frozen (p := ⟨b, off, none⟩) (hlt _ hp')]
   exact hz b off hp'
  ·intro ha
   have := hn ha
   rw [hps] at this
   simpa using this
  ·intro p hp _
   rw [hps]
   simpa using hp
noncomputable def low : Nat := (World.holding Tryz.prog default ⟨#[], #[], []⟩).heap.size
/-- A world that meets the condition: the settled one, each listed variable's cells laid. -/
noncomputable def laidWorld (os : Os) : World :=
 let w0 := World.holding Tryz.prog os ⟨#[.cells #[.string ⟨#[118, 97, 108, 117, 101, 32, 111, 117, 116, 32, 111, 102, 32, 114, 97, 110, 103, 101]⟩] 256, .cells #[.string ⟨#[105, 110, 118, 97, 108, 105, 100, 32, 115, 121, 110, 116, 97, 120]⟩] 256], #[], []⟩
 let put (h : Array Obj) (g : Nat) (cs : Array Value) : Array Obj := h.modify g fun
  | .cells _ t frozen => .cells cs t frozen
  | o => o
 { w0 with heap := put (put (put (put (put w0.heap 4 #[.int .u8 0, .int .u8 1, .int .u8 28, .int .u8 2, .int .u8 29, .int .u8 14, .int .u8 24, .int .u8 3, .int .u8 30, .int .u8 22, .int .u8 20, .int .u8 15, .int .u8 25, .int .u8 17, .int .u8 4, .int .u8 8, .int .u8 31, .int .u8 27, .int .u8 13, .int .u8 23, .int .u8 21, .int .u8 19, .int .u8 16, .int .u8 7, .int .u8 26, .int .u8 12, .int .u8 18, .int .u8 6, .int .u8 11, .int .u8 5, .int .u8 10, .int .u8 9]) 5 #[.int .u8 0, .int .u8 1, .int .u8 56, .int .u8 2, .int .u8 57, .int .u8 49, .int .u8 28, .int .u8 3, .int .u8 61, .int .u8 58, .int .u8 42, .int .u8 50, .int .u8 38, .int .u8 29, .int .u8 17, .int .u8 4, .int .u8 62, .int .u8 47, .int .u8 59, .int .u8 36, .int .u8 45, .int .u8 43, .int .u8 51, .int .u8 22, .int .u8 53, .int .u8 39, .int .u8 33, .int .u8 30, .int .u8 24, .int .u8 18, .int .u8 12, .int .u8 5, .int .u8 63, .int .u8 55, .int .u8 48, .int .u8 27, .int .u8 60, .int .u8 41, .int .u8 37, .int .u8 16, .int .u8 46, .int .u8 35, .int .u8 44, .int .u8 21, .int .u8 52, .int .u8 32, .int .u8 23, .int .u8 11, .int .u8 54, .int .u8 26, .int .u8 40, .int .u8 15, .int .u8 34, .int .u8 20, .int .u8 31, .int .u8 10, .int .u8 25, .int .u8 14, .int .u8 19, .int .u8 9, .int .u8 13, .int .u8 8, .int .u8 7, .int .u8 6]) 1 #[.int .u64 1, .int .u64 10, .int .u64 100, .int .u64 1000, .int .u64 10000, .int .u64 100000, .int .u64 1000000, .int .u64 10000000, .int .u64 100000000, .int .u64 1000000000, .int .u64 10000000000, .int .u64 100000000000, .int .u64 1000000000000, .int .u64 10000000000000, .int .u64 100000000000000, .int .u64 1000000000000000, .int .u64 10000000000000000, .int .u64 100000000000000000, .int .u64 1000000000000000000, .int .u64 10000000000000000000]) 7 #[.iface 254 (.pointer (some ⟨low, 0, none⟩))]) 6 #[.iface 254 (.pointer (some ⟨low + 1, 0, none⟩))] }
theorem laid_met (os : Os) (args : Array Value) : laidMet Tryz.prog lst ((laidWorld os).forCall (fun _ _ => 0) ⟨#[], args, []⟩).memory :=
 laidMet_of_run' 8 (by kernel_rfl) (by kernel_rfl)
end Go.Proofs.YtcbpcianefpniaaGreatDoor
namespace Go.Proofs.YtcbpcianefpniaaGreatDoor.fnArith
open Go.ChangeShapes Go.WideShapes Go.ChangeAt Go.RowKit Go.ChangeMaps
set_option maxRecDepth 100000
theorem contract (H : Type) (enc : TypeId × Value → H) (W : World) (base : Nat) (args : Array Value) (ds gs : List (DataW H)) (before : List MemPlace)
  (hval : ∀ (j : Nat) t v, Tryz.f7.params[j]? = some t → args[j]? = some v → Value.okWide Tryz.prog W .any base t v)
  (hW : DataW.Whole enc Tryz.prog Tryz.f7.params.toList Rows.interpreterArithmeticSpec.vars false W args.toList ds gs before) (hL : laidMetH Tryz.prog Rows.interpreterArithmeticRow.laid W) :
  Calls Tryz.prog 7 args W fun e W' => ∃ v, e = .returned v ∧ Rows.interpreterArithmeticSpec.post enc Tryz.prog Tryz.f7 false true false false W args v W' := by
 have hW' := hW
 obtain ⟨p, q, hA0, hV, rfl, hfz, hnd⟩ := hW
 have hA : DataW.TrodAll enc Tryz.prog W 0 (fun _ => true) true Tryz.f7.params.toList args.toList ds p := hA0
 rw [Tryz.params7] at hA hval
 obtain ⟨v0, vs0, d0, ds0, p0, q0, hargs, rfl, rfl, h0, r0⟩ := trodAll_cons hA
 obtain ⟨v1, vs1, d1, ds1, p1, q1, rfl, rfl, rfl, h1, r1⟩ := trodAll_cons r0
 obtain ⟨rfl, rfl, rfl⟩ := trodAll_nil r1
 obtain rfl : args = #[v0, v1] := by cases args; simp_all
 obtain ⟨rfl, rfl⟩ := trodVars_none hV
 obtain ⟨x, rfl, rfl, rfl, wx⟩ := open_int Tryz.underlying43 (hval 0 43 v0 rfl rfl) h0
 obtain ⟨y, rfl, rfl, rfl, wy⟩ := open_int Tryz.underlying43 (hval 1 43 v1 rfl rfl) h1
 obtain ⟨a, rfl, ha⟩ := u32_of wx
 obtain ⟨b, rfl, hb⟩ := u32_of wy
 clear hA0
 simp only [List.append_nil] at hW'
 obtain ⟨hG, h8⟩ := gw_of_laid hL
 refine (lift_atoms (vs := [.int .u32 (a : Int), .int .u32 (b : Int)]) h8 (Inp.arithmetic_law hG ha hb)).mono fun e W' ⟨he, hg⟩ => ?_
 subst he
 exact ⟨_, rfl, post_of_below (pa := []) (pv := []) hW' (fun _ _ _ => trodAll_cons_mk (shut_bool Tryz.underlying4 _) trodAll_mk0) (fun _ _ => trodAll_cons_mk (shut_int Tryz.underlying43 wx) (trodAll_cons_mk (shut_int Tryz.underlying43 wy) trodAll_mk0)) (fun _ _ => rfl) rfl
  hg (ok_one (by kernel_rfl) rfl (okWide_bool_mk Tryz.underlying4 _))⟩
theorem reads (os : Os) {H : Type} (enc : TypeId × Value → H) : ∃ places, DataW.whole enc Tryz.prog ((laidWorld os).forCall (fun _ _ => 0) ⟨#[], #[.int .u32 0, .int .u32 0], []⟩).memory Tryz.f7.params.toList Rows.interpreterArithmeticSpec.vars false #[Value.int .u32 0, Value.int .u32 0].toList 8 = some ([.lit (.int .u32 0), .lit (.int .u32 0)], [], places) :=
 ⟨[], by kernel_rfl⟩
theorem lifted (os : Os) (started : os.Started) (H : Type) (enc : TypeId × Value → H) (F : Stop.Interp) :
  ReturnsInHanded {} Tryz.checked os 7 .any ((OpenSpec.ofChange Rows.interpreterArithmeticSpec).preRow enc Tryz.prog Tryz.f7 Rows.interpreterArithmeticRow.domain false Rows.interpreterArithmeticRow.laid) (((OpenSpec.ofChange Rows.interpreterArithmeticSpec).at F).post enc Tryz.prog Tryz.f7 false true false false) := by
 obtain ⟨places, hx⟩ := reads os enc
 refine returnsInHanded_of_row (C := Tryz.checked) (s := OpenSpec.ofChange Rows.interpreterArithmeticSpec) own started (by kernel_rfl) Tryz.func7
  (witness_row_at (enc := enc) (C := Tryz.checked) false (laidWorld os) #[.int .u32 0, .int .u32 0] rfl (by kernel_rfl) (by kernel_rfl) (by kernel_rfl)
   (OpenSpec.preRow_of_cond 8 hx (by kernel_rfl) (fun k hk => by cases hk) (by kernel_rfl) (laid_met os _))) ?_
 intro W base args ds gs before hval hW _ _ _ hL _ _
 exact contract H enc W base args ds gs before hval hW hL
theorem said : Rows.InterpreterArithmeticSaid :=
 OpenClaim.holds_of_cond 7 Tryz.f7 rfl rfl rfl rfl rfl rfl rfl ⟨rfl, rfl, rfl, rfl, rfl⟩ rfl rfl rfl rfl rfl (by kernel_rfl) Tryz.func7 (by kernel_rfl)
  (of_decide_eq_true (by kernel_rfl)) (by unfold Func.isWrapper; first | (rw [if_pos (by decide +kernel)]; kernel_rfl) | (rw [if_neg (by decide +kernel)]; exact ⟨rfl, rfl⟩))
  (fun os started H enc _ F => by rw [OpenClaim.pre_eq_preRow]; exact lifted os started H enc F)
theorem plain (f : FuncId) (fn : Func) (hf : Tryz.pinned.checked.prog.funcNamed "stele/stelelaw22.InterpreterArithmetic" = some f) (hfn : Tryz.pinned.checked.prog.funcs[f]? = some fn) :
  true = Tryz.pinned.checked.prog.looks [] ∧ ∀ (j : Nat) t, fn.params[j]? = some t → Tryz.pinned.checked.prog.wantsStandIn t = false := by
 obtain rfl : f = 7 := Option.some.inj ((show Tryz.prog.funcNamed "stele/stelelaw22.InterpreterArithmetic" = some 7 by kernel_rfl).symm.trans hf) |>.symm
 obtain rfl : fn = Tryz.f7 := (Option.some.inj (Tryz.func7.symm.trans hfn)).symm
 refine ⟨by kernel_rfl, fun j t ht => ?_⟩
 rw [Tryz.params7] at ht
 obtain rfl : t = 43 := by simpa using Array.mem_of_getElem? ht
 exact (show Tryz.prog.wantsStandIn 43 = false by kernel_rfl)
end Go.Proofs.YtcbpcianefpniaaGreatDoor.fnArith
namespace Go.Proofs.YtcbpcianefpniaaGreatDoor
theorem interpreterArithmetic_card : Rows.InterpreterArithmeticCardSaid :=
 Claim7.holds_tied_plain_at .later [] _ _ _ _ fnArith.said (fun _ h => by cases h) (by kernel_rfl) (fun _ h => by cases h) interpreterArithmetic_row_tie rfl ⟨rfl, rfl⟩ (by kernel_rfl) rfl fnArith.plain (by kernel_rfl)
#print axioms interpreterArithmetic_card
end Go.Proofs.YtcbpcianefpniaaGreatDoor
