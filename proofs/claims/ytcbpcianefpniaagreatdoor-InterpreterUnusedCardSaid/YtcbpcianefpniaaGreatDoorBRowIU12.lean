/- InterpreterUnused: declarations that nothing uses change nothing: for every text, list of numbers and number the law returns true. The card: the listed package-level variables read as the program's text lays them. -/
import Derived.ChangeMaps5
import Derived.Test.YtcbpcianefpniaaGreatDoorBRowIU10
import Derived.Test.YtcbpcianefpniaaGreatDoorBRowIU11
set_option linter.unusedVariables false
set_option linter.unusedSimpArgs false
namespace Go.Proofs.YtcbpcianefpniaaGreatDoor.fnUnused
open Go.ChangeShapes Go.WideShapes Go.ChangeAt Go.RowKit Go.ChangeMaps
set_option maxRecDepth 100000
theorem contract (H : Type) (enc : TypeId × Value → H) (W : World) (base : Nat) (args : Array Value) (ds gs : List (DataW H)) (before : List MemPlace)
  (hval : ∀ (j : Nat) t v, Tryz.f9.params[j]? = some t → args[j]? = some v → Value.okWide Tryz.prog W .any base t v)
  (hW : DataW.Whole enc Tryz.prog Tryz.f9.params.toList Rows.interpreterUnusedSpec.vars false W args.toList ds gs before) (hL : laidMetH Tryz.prog Rows.interpreterUnusedRow.laid W) (hS : W.ShapedOpen Tryz.prog) :
  Calls Tryz.prog 9 args W fun e W' => ∃ v, e = .returned v ∧ Rows.interpreterUnusedSpec.post enc Tryz.prog Tryz.f9 false true false false W args v W' := by
 have hW' := hW
 obtain ⟨p, q, hA0, hV, rfl, hfz, hnd⟩ := hW
 have hA : DataW.TrodAll enc Tryz.prog W 0 (fun _ => true) true Tryz.f9.params.toList args.toList ds p := hA0
 rw [Tryz.params9] at hA hval
 obtain ⟨v0, vs0, d0, ds0, p0, q0, hargs, rfl, rfl, h0, r0⟩ := trodAll_cons hA
 obtain ⟨v1, vs1, d1, ds1, p1, q1, rfl, rfl, rfl, h1, r1⟩ := trodAll_cons r0
 obtain ⟨v2, vs2, d2, ds2, p2, q2, rfl, rfl, rfl, h2, r2⟩ := trodAll_cons r1
 obtain ⟨rfl, rfl, rfl⟩ := trodAll_nil r2
 obtain rfl : args = #[v0, v1, v2] := by cases args; simp_all
 obtain ⟨rfl, rfl⟩ := trodVars_none hV
 obtain ⟨s, rfl, rfl, rfl, ws⟩ := open_string Tryz.underlying9 (hval 0 9 v0 rfl rfl) h0
 obtain ⟨l, L, hlt0, hr, hR⟩ := open_nums hL hS (hval 1 22 v1 rfl rfl) h1
 obtain ⟨x, rfl, rfl, rfl, wx⟩ := open_int Tryz.underlying37 (hval 2 37 v2 rfl rfl) h2
 obtain ⟨n, rfl, hn⟩ := u16_of wx
 have hG := (gw_of_laid hL).1
 clear hA0
 simp only [List.append_nil, List.nil_append] at hW'
 have hlt : ∀ x ∈ p1, x.block < W.heap.size := fun x hx => by simpa using hW'.lt x hx
 have hM : ∃ m, W.cell? ⟨0, 0, none⟩ = some (.int .i64 m) := by
  obtain ⟨cs, h1, h2, h3⟩ := cells0 hS
  have h4 : 0 < cs.size := by omega
  obtain ⟨u, k, n, e1, e2, e3⟩ := h3 0 cs[0] (by simp [h4])
  have e4 : u = 3 := by simpa using e1.symm
  subst e4
  have e5 : Tryz.prog.underlying 3 = some (.int .i64) := Tryz.underlying3
  rw [e5] at e2
  cases e2
  exact ⟨n, by simp [World.cell?, h1, h4, e3]⟩
 have hr3 : Go.GL.RepL W L [Go.GL.str s.data.toList, .list (l.map Inp.u32), Go.GL.int .u16 (n : Int)] [.string s, v1, .int .u16 (n : Int)] := by
  simp only [Go.GL.RepL] at hr
  obtain ⟨x, xs, hx, hx1, hx2⟩ := hr
  simp only [List.cons.injEq] at hx
  obtain ⟨rfl, rfl⟩ := hx
  simp only [Go.GL.RepL, Go.GL.str, Go.GL.int]
  exact ⟨_, _, rfl, by simp [Go.GL.Rep], _, _, rfl, hx1, _, _, rfl, by simp [Go.GL.Rep], rfl⟩
 refine (lift_at (vs := [.string s, v1, .int .u16 (n : Int)]) (Inp.unused_walk hG hM s.data.toList hlt0 hn) hr3 hR).mono fun e W' ⟨he, hg⟩ => ?_
 subst he
 exact ⟨_, rfl, post_of_below (pa := p1) (pv := []) hW' (fun _ _ _ => trodAll_cons_mk (shut_bool Tryz.underlying4 _) trodAll_mk0) (fun sp hsp => by
   have h5 := trodAll_cons_mk (shut_string Tryz.underlying9 ws) (trodAll_cons_mk (stay_nums h1 hg hlt hsp) (trodAll_cons_mk (shut_int Tryz.underlying37 wx) trodAll_mk0))
   simp only [List.nil_append, List.append_nil] at h5
   exact h5) (fun _ _ => rfl) (by simp)
  hg (ok_one (by kernel_rfl) rfl (okWide_bool_mk Tryz.underlying4 _))⟩
theorem reads (os : Os) {H : Type} (enc : TypeId × Value → H) : ∃ places, DataW.whole enc Tryz.prog ((laidWorld os).forCall (fun _ _ => 0) ⟨#[], #[.string ⟨#[]⟩, .slice none 0 0, .int .u16 0], []⟩).memory Tryz.f9.params.toList Rows.interpreterUnusedSpec.vars false #[Value.string ⟨#[]⟩, .slice none 0 0, .int .u16 0].toList 8 = some ([.lit (.string []), .nil, .lit (.int .u16 0)], [], places) :=
 ⟨[], by kernel_rfl⟩
theorem lifted (os : Os) (started : os.Started) (H : Type) (enc : TypeId × Value → H) (F : Stop.Interp) :
  ReturnsInHanded {} Tryz.checked os 9 .any ((OpenSpec.ofChange Rows.interpreterUnusedSpec).preRow enc Tryz.prog Tryz.f9 Rows.interpreterUnusedRow.domain false Rows.interpreterUnusedRow.laid) (((OpenSpec.ofChange Rows.interpreterUnusedSpec).at F).post enc Tryz.prog Tryz.f9 false true false false) := by
 obtain ⟨places, hx⟩ := reads os enc
 refine returnsInHanded_of_row (C := Tryz.checked) (s := OpenSpec.ofChange Rows.interpreterUnusedSpec) own started (by kernel_rfl) Tryz.func9
  (witness_row_at (enc := enc) (C := Tryz.checked) false (laidWorld os) #[.string ⟨#[]⟩, .slice none 0 0, .int .u16 0] rfl (by kernel_rfl) (by kernel_rfl) (by kernel_rfl)
   (OpenSpec.preRow_of_cond 8 hx (by kernel_rfl) (fun k hk => by cases hk) (by kernel_rfl) (laid_met os _))) ?_
 intro W base args ds gs before hval hW _ _ _ hL hS _
 exact contract H enc W base args ds gs before hval hW hL hS
theorem said : Rows.InterpreterUnusedSaid :=
 OpenClaim.holds_of_cond 9 Tryz.f9 rfl rfl rfl rfl rfl rfl rfl ⟨rfl, rfl, rfl, rfl, rfl⟩ rfl rfl rfl rfl rfl (by kernel_rfl) Tryz.func9 (by kernel_rfl)
  (of_decide_eq_true (by kernel_rfl)) (by unfold Func.isWrapper; first | (rw [if_pos (by decide +kernel)]; kernel_rfl) | (rw [if_neg (by decide +kernel)]; exact ⟨rfl, rfl⟩))
  (fun os started H enc _ F => by rw [OpenClaim.pre_eq_preRow]; exact lifted os started H enc F)
theorem plain (f : FuncId) (fn : Func) (hf : Tryz.pinned.checked.prog.funcNamed "stele/stelelaw22.InterpreterUnused" = some f) (hfn : Tryz.pinned.checked.prog.funcs[f]? = some fn) :
  true = Tryz.pinned.checked.prog.looks [] ∧ ∀ (j : Nat) t, fn.params[j]? = some t → Tryz.pinned.checked.prog.wantsStandIn t = false := by
 obtain rfl : f = 9 := Option.some.inj ((show Tryz.prog.funcNamed "stele/stelelaw22.InterpreterUnused" = some 9 by kernel_rfl).symm.trans hf) |>.symm
 obtain rfl : fn = Tryz.f9 := (Option.some.inj (Tryz.func9.symm.trans hfn)).symm
 refine ⟨by kernel_rfl, fun j t ht => ?_⟩
 rw [Tryz.params9] at ht
 have hm := Array.mem_of_getElem? ht
 simp only [List.mem_toArray, List.mem_cons, List.not_mem_nil, or_false] at hm
 rcases hm with rfl | rfl | rfl
 ·exact (show Tryz.prog.wantsStandIn 9 = false by kernel_rfl)
 ·exact (show Tryz.prog.wantsStandIn 22 = false by kernel_rfl)
 ·exact (show Tryz.prog.wantsStandIn 37 = false by kernel_rfl)
end Go.Proofs.YtcbpcianefpniaaGreatDoor.fnUnused
namespace Go.Proofs.YtcbpcianefpniaaGreatDoor
theorem interpreterUnused_card : Rows.InterpreterUnusedCardSaid :=
 Claim7.holds_tied_plain_at .later [] _ _ _ _ fnUnused.said (fun _ h => by cases h) (by kernel_rfl) (fun _ h => by cases h) interpreterUnused_row_tie rfl ⟨rfl, rfl⟩ (by kernel_rfl) rfl fnUnused.plain (by kernel_rfl)
#print axioms interpreterUnused_card
end Go.Proofs.YtcbpcianefpniaaGreatDoor
