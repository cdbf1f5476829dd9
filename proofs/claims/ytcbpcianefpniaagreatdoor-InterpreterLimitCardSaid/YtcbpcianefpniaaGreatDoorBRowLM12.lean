/- Texts joined: RowIM. -/
import Derived.ChangeMaps5
import Derived.Test.YtcbpcianefpniaaGreatDoorBRowLM9
import Derived.Test.YtcbpcianefpniaaGreatDoorBRowLM10
set_option linter.unusedVariables false
set_option linter.unusedSimpArgs false
namespace Go.Proofs.YtcbpcianefpniaaGreatDoor.fnLimit
open Go.ChangeShapes Go.WideShapes Go.ChangeAt Go.RowKit Go.ChangeMaps
set_option maxRecDepth 100000
theorem contract (H : Type) (enc : TypeId × Value → H) (W : World) (base : Nat) (args : Array Value) (ds gs : List (DataW H)) (before : List MemPlace)
  (hval : ∀ (j : Nat) t v, Tryz.f5.params[j]? = some t → args[j]? = some v → Value.okWide Tryz.prog W .any base t v)
  (hW : DataW.Whole enc Tryz.prog Tryz.f5.params.toList Rows.interpreterLimitSpec.vars false W args.toList ds gs before) (hL : laidMetH Tryz.prog Rows.interpreterLimitRow.laid W) (hS : W.ShapedOpen Tryz.prog) :
  Calls Tryz.prog 5 args W fun e W' => ∃ v, e = .returned v ∧ Rows.interpreterLimitSpec.post enc Tryz.prog Tryz.f5 false true false false W args v W' := by
 have hW' := hW
 obtain ⟨p, q, hA0, hV, rfl, hfz, hnd⟩ := hW
 have hA : DataW.TrodAll enc Tryz.prog W 0 (fun _ => true) true Tryz.f5.params.toList args.toList ds p := hA0
 rw [Tryz.params5] at hA hval
 obtain ⟨v0, vs0, d0, ds0, p0, q0, hargs, rfl, rfl, h0, r0⟩ := trodAll_cons hA
 obtain ⟨rfl, rfl, rfl⟩ := trodAll_nil r0
 obtain rfl : args = #[v0] := by cases args; simp_all
 obtain ⟨rfl, rfl⟩ := trodVars_none hV
 obtain ⟨s, l, a, k, L, hlt0, ha, hk, hr, hR⟩ := open_limited hL hS (hval 0 39 v0 rfl rfl) h0
 have hG := (gw_of_laid hL).1
 clear hA0
 simp only [List.append_nil] at hW'
 have hlt : ∀ x ∈ p0, x.block < W.heap.size := fun x hx => by simpa using hW'.lt x hx
 refine (lift_at (vs := [v0]) (Inp.limit_walk hG s hlt0 ha hk) hr hR).mono fun e W' ⟨he, hg⟩ => ?_
 subst he
 exact ⟨_, rfl, post_of_below (pa := p0) (pv := []) hW' (fun _ _ _ => trodAll_cons_mk (shut_bool Tryz.underlying4 _) trodAll_mk0) (fun sp hsp => trodAll_mk1 (stay_limited h0 hg hlt hsp)) (fun _ _ => rfl) (by simp)
  hg (ok_one (by kernel_rfl) rfl (okWide_bool_mk Tryz.underlying4 _))⟩
theorem reads (os : Os) {H : Type} (enc : TypeId × Value → H) : ∃ places, DataW.whole enc Tryz.prog ((laidWorld os).forCall (fun _ _ => 0) ⟨#[], #[.agg #[.string ⟨#[]⟩, .slice none 0 0, .int .u16 0, .int .u16 0]], []⟩).memory Tryz.f5.params.toList Rows.interpreterLimitSpec.vars false #[Value.agg #[.string ⟨#[]⟩, .slice none 0 0, .int .u16 0, .int .u16 0]].toList 8 = some ([.agg [.lit (.string []), .nil, .lit (.int .u16 0), .lit (.int .u16 0)]], [], places) :=
 ⟨[], by kernel_rfl⟩
theorem lifted (os : Os) (started : os.Started) (H : Type) (enc : TypeId × Value → H) (F : Stop.Interp) :
  ReturnsInHanded {} Tryz.checked os 5 .any ((OpenSpec.ofChange Rows.interpreterLimitSpec).preRow enc Tryz.prog Tryz.f5 Rows.interpreterLimitRow.domain false Rows.interpreterLimitRow.laid) (((OpenSpec.ofChange Rows.interpreterLimitSpec).at F).post enc Tryz.prog Tryz.f5 false true false false) := by
 obtain ⟨places, hx⟩ := reads os enc
 refine returnsInHanded_of_row (C := Tryz.checked) (s := OpenSpec.ofChange Rows.interpreterLimitSpec) own started (by kernel_rfl) Tryz.func5
  (witness_row_at (enc := enc) (C := Tryz.checked) false (laidWorld os) #[.agg #[.string ⟨#[]⟩, .slice none 0 0, .int .u16 0, .int .u16 0]] rfl (by kernel_rfl) (by kernel_rfl) (by kernel_rfl)
   (OpenSpec.preRow_of_cond 8 hx (by kernel_rfl) (fun k hk => by cases hk) (by kernel_rfl) (laid_met os _))) ?_
 intro W base args ds gs before hval hW _ _ _ hL hS _
 exact contract H enc W base args ds gs before hval hW hL hS
theorem said : Rows.InterpreterLimitSaid :=
 OpenClaim.holds_of_cond 5 Tryz.f5 rfl rfl rfl rfl rfl rfl rfl ⟨rfl, rfl, rfl, rfl, rfl⟩ rfl rfl rfl rfl rfl (by kernel_rfl) Tryz.func5 (by kernel_rfl)
  (of_decide_eq_true (by kernel_rfl)) (by unfold Func.isWrapper; first | (rw [if_pos (by decide +kernel)]; kernel_rfl) | (rw [if_neg (by decide +kernel)]; exact ⟨rfl, rfl⟩))
  (fun os started H enc _ F => by rw [OpenClaim.pre_eq_preRow]; exact lifted os started H enc F)
theorem plain (f : FuncId) (fn : Func) (hf : Tryz.pinned.checked.prog.funcNamed "stele/stelelaw22.InterpreterLimit" = some f) (hfn : Tryz.pinned.checked.prog.funcs[f]? = some fn) :
  true = Tryz.pinned.checked.prog.looks [] ∧ ∀ (j : Nat) t, fn.params[j]? = some t → Tryz.pinned.checked.prog.wantsStandIn t = false := by
 obtain rfl : f = 5 := Option.some.inj ((show Tryz.prog.funcNamed "stele/stelelaw22.InterpreterLimit" = some 5 by kernel_rfl).symm.trans hf) |>.symm
 obtain rfl : fn = Tryz.f5 := (Option.some.inj (Tryz.func5.symm.trans hfn)).symm
 refine ⟨by kernel_rfl, fun j t ht => ?_⟩
 rw [Tryz.params5] at ht
 obtain rfl : t = 39 := by simpa using Array.mem_of_getElem? ht
 exact (show Tryz.prog.wantsStandIn 39 = false by kernel_rfl)
end Go.Proofs.YtcbpcianefpniaaGreatDoor.fnLimit
namespace Go.Proofs.YtcbpcianefpniaaGreatDoor
theorem interpreterLimit_card : Rows.InterpreterLimitCardSaid :=
 Claim7.holds_tied_plain_at .later [] _ _ _ _ fnLimit.said (fun _ h => by cases h) (by kernel_rfl) (fun _ h => by cases h) interpreterLimit_row_tie rfl ⟨rfl, rfl⟩ (by kernel_rfl) rfl fnLimit.plain (by kernel_rfl)
#print axioms interpreterLimit_card
end Go.Proofs.YtcbpcianefpniaaGreatDoor
