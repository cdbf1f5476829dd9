/- ParserDepth: 98 nested parentheses, or unary operators, or any mixture of both are accepted inside of a function; 100 are rejected with ErrLimit: for every mask and either number the law returns true. The card: the listed package-level variables read as the program's text lays them. -/
import Derived.Test.YtfodkbchknknjaaDoorLift0
import Derived.ChangeMaps5
import Derived.WideKeyArr2
import Derived.Test.YtfodkbchknknjaaDoorLawD
set_option linter.unusedVariables false
set_option linter.unusedSimpArgs false
namespace Go.Proofs.YtfodkbchknknjaaDoor.fnDepth
open Go.ChangeShapes Go.WideShapes Go.ChangeAt Go.RowKit Go.ChangeMaps Go.WideMaps
set_option maxRecDepth 100000
theorem arr13 : ArrKey Tryd.prog 22 5 13 := ⟨Tryd.underlying22, by kernel_rfl, by kernel_rfl, by kernel_rfl⟩
section arr
variable {H : Type} {enc : TypeId × Value → H} {P : Program} {k e : TypeId} {q : IntKind} {W : World} {base : Nat} {sp : Nat → Bool} {held : Bool}
theorem arr_open (he : P.underlying e = some (.int q)) {m : Nat} {cs : List Value} : ∀ (n s : Nat) (xs : List (DataW H × List MemPlace)), cs.length = s + n → (List.range' s n).mapM (fun i => DataW.trod enc P W base sp held m e ((cs.drop (i * 1)).take 1)) = some xs →
    ∃ zs : List Int, zs.length = n ∧ cs.drop s = zs.map (Value.int q) ∧ xs = zs.map (fun z => (DataW.lit (.int q z), [])) ∧ ∀ z ∈ zs, (Lit.int q z).wf = true
  | 0, s, xs, hl, h => by
    simp at h
    subst h
    exact ⟨[], rfl, by rw [List.drop_eq_nil_of_le (by omega)]; rfl, rfl, by simp⟩
  | n + 1, s, xs, hl, h => by
    rw [List.range'_succ, List.mapM_cons] at h
    simp only [bind, Option.bind_eq_some_iff, pure, Option.some.injEq] at h
    obtain ⟨y, hy, ys, hys, rfl⟩ := h
    obtain ⟨zs, h1, h2, rfl, h4⟩ := arr_open he n (s + 1) ys (by omega) hys
    obtain ⟨a, ea, rfl, wa⟩ := DataW.trod_int he hy
    refine ⟨a :: zs, by simp [h1], ?_, rfl, fun z hz => ?_⟩
    · rw [Nat.mul_one] at ea
      rw [← List.take_append_drop 1 (cs.drop s), ea, List.drop_drop, h2]
      rfl
    · rcases List.mem_cons.1 hz with rfl | hz
      · exact wa
      · exact h4 z hz
theorem arr_shut (he : P.underlying e = some (.int q)) {m : Nat} {cs : List Value} : ∀ (n s : Nat) (zs : List Int), zs.length = n → cs.drop s = zs.map (Value.int q) → (∀ z ∈ zs, (Lit.int q z).wf = true) →
    (List.range' s n).mapM (fun i => DataW.trod enc P W base sp held (m + 1) e ((cs.drop (i * 1)).take 1)) = some (zs.map (fun z => (DataW.lit (.int q z), [])))
  | 0, s, zs, hl, h, hw => by
    obtain rfl := List.eq_nil_of_length_eq_zero hl
    rfl
  | n + 1, s, [], hl, h, hw => by simp at hl
  | n + 1, s, z :: zs, hl, h, hw => by
    have h1 : cs.drop (s + 1) = zs.map (Value.int q) := by
      have := congrArg (List.drop 1) h
      rw [List.drop_drop] at this
      exact this
    rw [List.range'_succ, List.mapM_cons, arr_shut he n (s + 1) zs (by simpa using hl) h1 fun z hz => hw z (List.mem_cons_of_mem _ hz), Nat.mul_one, h]
    simp [DataW.trod, he, hw z (List.mem_cons_self ..)]
theorem open_mask (A : ArrKey P k e 13) (he : P.underlying e = some (.int .u8)) {r : Reach} {b0 : Nat} {v : Value} {d : DataW H} {ps : List MemPlace} (hval : Value.okWide P W r b0 k v) (hd : DataW.Trod enc P W base sp held k v d ps) :
    ∃ ms : List UInt8, ms.length = 13 ∧ v = .agg ((ms.map fun c => Value.int .u8 c.toNat)).toArray ∧ d = .agg (ms.map fun c => .lit (.int .u8 c.toNat)) ∧ ps = [] := by
  obtain ⟨xs, rfl, hn⟩ := WideMaps.okWide_arr A hval
  obtain ⟨fuel, hf⟩ := hd
  cases fuel with
  | zero => simp [DataW.trod] at hf
  | succ m =>
    rw [DataW.trod_step] at hf
    unfold DataW.trodStep at hf
    simp only [A.hu, Value.cells] at hf
    rw [if_pos (by rw [A.size]; simpa using hn)] at hf
    simp only [Option.map_eq_some_iff, A.one, List.range_eq_range'] at hf
    obtain ⟨ys, hy, e1⟩ := hf
    obtain ⟨zs, h1, h2, rfl, h4⟩ := arr_open he 13 0 ys (by simpa using hn) hy
    obtain ⟨ms, rfl⟩ : ∃ ms : List UInt8, zs = ms.map (fun c => (c.toNat : Int)) := by
      refine ⟨zs.map fun z => UInt8.ofNat z.toNat, ?_⟩
      rw [List.map_map]
      conv => lhs; rw [← List.map_id zs]
      refine List.map_congr_left fun z hz => ?_
      have := h4 z hz
      simp only [Lit.wf, Bool.and_eq_true, decide_eq_true_eq, IntKind.min, IntKind.max, IntKind.signed, IntKind.bits] at this
      obtain ⟨g1, g2⟩ := this
      simp at g1 g2
      simp only [id_eq, Function.comp, UInt8.toNat_ofNat']
      omega
    simp only [Prod.mk.injEq] at e1
    refine ⟨ms, by simpa using h1, ?_, ?_, ?_⟩
    · rw [List.drop_zero, List.map_map] at h2
      rw [← Array.toArray_toList (xs := xs), h2]
      rfl
    · rw [← e1.1]
      simp [Function.comp_def]
    · rw [← e1.2]
      simp [List.flatMap_eq_nil_iff]
theorem shut_mask (A : ArrKey P k e 13) (he : P.underlying e = some (.int .u8)) {ms : List UInt8} (hms : ms.length = 13) : DataW.Trod enc P W base sp held k (.agg ((ms.map fun c => Value.int .u8 c.toNat)).toArray) (.agg (ms.map fun c => .lit (.int .u8 c.toNat))) [] :=
  ⟨2, by
    show DataW.trod enc P W base sp held (1 + 1) k (ms.map fun c => Value.int .u8 c.toNat) = _
    rw [DataW.trod_step]
    unfold DataW.trodStep
    simp only [A.hu]
    rw [if_pos (by rw [A.size]; simpa using hms), A.one, List.range_eq_range', arr_shut (m := 0) he 13 0 (ms.map fun c => (c.toNat : Int)) (by simpa using hms) (by rw [List.drop_zero, List.map_map]; rfl) (by
      intro z hz
      obtain ⟨c, _, rfl⟩ := List.mem_map.1 hz
      have := UInt8.toNat_lt c
      simp only [Lit.wf, Bool.and_eq_true, decide_eq_true_eq, IntKind.min, IntKind.max, IntKind.signed, IntKind.bits]
      simp
      omega)]
    simp [Function.comp_def]⟩
theorem rep_mask (W : World) (ms : List UInt8) (b : Bool) : Go.GL.RepL W (fun _ => 0) [.agg (ms.map fun c => Go.GL.int .u8 c.toNat), Go.GL.bool b] [.agg ((ms.map fun c => Value.int .u8 c.toNat)).toArray, .bool b] := by
  simp only [Go.GL.RepL, Go.GL.Rep]
  refine ⟨_, _, rfl, ⟨_, rfl, ?_⟩, _, _, rfl, rfl, rfl⟩
  have := Go.GL.repL_atoms (w := W) (L := fun _ => 0) (ms.map fun c => Value.int .u8 c.toNat)
  rw [List.map_map] at this
  exact this
end arr
theorem contract (H : Type) (enc : TypeId × Value → H) (W : World) (base : Nat) (args : Array Value) (ds gs : List (DataW H)) (before : List MemPlace)
    (hval : ∀ (j : Nat) t v, Tryd.f3.params[j]? = some t → args[j]? = some v → Value.okWide Tryd.prog W .any base t v)
    (hW : DataW.Whole enc Tryd.prog Tryd.f3.params.toList Rows.parserDepthSpec.vars false W args.toList ds gs before) (hL : laidMetH Tryd.prog Rows.parserDepthRow.laid W) :
    Calls Tryd.prog 3 args W fun e W' => ∃ v, e = .returned v ∧ Rows.parserDepthSpec.post enc Tryd.prog Tryd.f3 false true false false W args v W' := by
  have hW' := hW
  obtain ⟨p, q, hA0, hV, rfl, hfz, hnd⟩ := hW
  have hA : DataW.TrodAll enc Tryd.prog W 0 (fun _ => true) true Tryd.f3.params.toList args.toList ds p := hA0
  rw [Tryd.params3] at hA hval
  obtain ⟨v0, vs0, d0, ds0, p0, q0, hargs, rfl, rfl, h0, r0⟩ := trodAll_cons hA
  obtain ⟨v1, vs1, d1, ds1, p1, q1, rfl, rfl, rfl, h1, r1⟩ := trodAll_cons r0
  obtain ⟨rfl, rfl, rfl⟩ := trodAll_nil r1
  obtain rfl : args = #[v0, v1] := by cases args; simp_all
  obtain ⟨rfl, rfl⟩ := trodVars_none hV
  obtain ⟨ms, hms, rfl, rfl, rfl⟩ := open_mask arr13 Tryd.underlying5 (hval 0 22 v0 rfl rfl) h0
  obtain ⟨b, rfl, rfl, rfl⟩ := open_bool Tryd.underlying4 (hval 1 4 v1 rfl rfl) h1
  clear hA0
  simp only [List.append_nil] at hW'
  have h8 := depth_spec (gw_of_laid hL) ms hms b
  have h9 := lift_callR h8 (rep_mask W ms b)
  clear h8
  refine Calls.mono h9 ?_
  rintro e W' ⟨rfl, hg⟩
  exact ⟨_, rfl, post_of_below (pa := []) (pv := []) hW' (fun _ _ _ => trodAll_cons_mk (shut_bool Tryd.underlying4 _) trodAll_mk0) (fun _ _ => trodAll_cons_mk (shut_mask arr13 Tryd.underlying5 hms) (trodAll_cons_mk (shut_bool Tryd.underlying4 _) trodAll_mk0)) (fun _ _ => rfl) rfl
    hg (ok_one (by kernel_rfl) rfl (okWide_bool_mk Tryd.underlying4 _))⟩
theorem reads (os : Os) {H : Type} (enc : TypeId × Value → H) : ∃ places, DataW.whole enc Tryd.prog ((laidWorld os).forCall (fun _ _ => 0) ⟨#[], #[.agg #[.int .u8 0, .int .u8 0, .int .u8 0, .int .u8 0, .int .u8 0, .int .u8 0, .int .u8 0, .int .u8 0, .int .u8 0, .int .u8 0, .int .u8 0, .int .u8 0, .int .u8 0], .bool false], []⟩).memory Tryd.f3.params.toList Rows.parserDepthSpec.vars false #[Value.agg #[.int .u8 0, .int .u8 0, .int .u8 0, .int .u8 0, .int .u8 0, .int .u8 0, .int .u8 0, .int .u8 0, .int .u8 0, .int .u8 0, .int .u8 0, .int .u8 0, .int .u8 0], Value.bool false].toList 8 = some ([.agg [.lit (.int .u8 0), .lit (.int .u8 0), .lit (.int .u8 0), .lit (.int .u8 0), .lit (.int .u8 0), .lit (.int .u8 0), .lit (.int .u8 0), .lit (.int .u8 0), .lit (.int .u8 0), .lit (.int .u8 0), .lit (.int .u8 0), .lit (.int .u8 0), .lit (.int .u8 0)], .lit (.bool false)], [], places) :=
  ⟨[], by kernel_rfl⟩
theorem lifted (os : Os) (started : os.Started) (H : Type) (enc : TypeId × Value → H) (F : Stop.Interp) :
    ReturnsInHanded {} Tryd.checked os 3 .any ((OpenSpec.ofChange Rows.parserDepthSpec).preRow enc Tryd.prog Tryd.f3 Rows.parserDepthRow.domain false Rows.parserDepthRow.laid) (((OpenSpec.ofChange Rows.parserDepthSpec).at F).post enc Tryd.prog Tryd.f3 false true false false) := by
  obtain ⟨places, hx⟩ := reads os enc
  refine returnsInHanded_of_row (C := Tryd.checked) (s := OpenSpec.ofChange Rows.parserDepthSpec) own started (by kernel_rfl) Tryd.func3
    (witness_row_at (enc := enc) (C := Tryd.checked) false (laidWorld os) #[.agg #[.int .u8 0, .int .u8 0, .int .u8 0, .int .u8 0, .int .u8 0, .int .u8 0, .int .u8 0, .int .u8 0, .int .u8 0, .int .u8 0, .int .u8 0, .int .u8 0, .int .u8 0], .bool false] rfl (by kernel_rfl) (by kernel_rfl) (by kernel_rfl)
      (OpenSpec.preRow_of_cond 8 hx (by kernel_rfl) (fun k hk => by cases hk) (by kernel_rfl) (laid_met os _))) ?_
  intro W base args ds gs before hval hW _ _ _ hL _ _
  exact contract H enc W base args ds gs before hval hW hL
theorem said : Rows.ParserDepthSaid :=
  OpenClaim.holds_of_cond 3 Tryd.f3 rfl rfl rfl rfl rfl rfl rfl ⟨rfl, rfl, rfl, rfl, rfl⟩ rfl rfl rfl rfl rfl (by kernel_rfl) Tryd.func3 (by kernel_rfl)
    (of_decide_eq_true (by kernel_rfl)) (by unfold Func.isWrapper; first | (rw [if_pos (by decide +kernel)]; kernel_rfl) | (rw [if_neg (by decide +kernel)]; exact ⟨rfl, rfl⟩))
    (fun os started H enc _ F => by rw [OpenClaim.pre_eq_preRow]; exact lifted os started H enc F)
theorem plain (f : FuncId) (fn : Func) (hf : Tryd.pinned.checked.prog.funcNamed "stele/stelelaw20.ParserDepth" = some f) (hfn : Tryd.pinned.checked.prog.funcs[f]? = some fn) :
    true = Tryd.pinned.checked.prog.looks [] ∧ ∀ (j : Nat) t, fn.params[j]? = some t → Tryd.pinned.checked.prog.wantsStandIn t = false := by
  obtain rfl : f = 3 := Option.some.inj ((show Tryd.prog.funcNamed "stele/stelelaw20.ParserDepth" = some 3 by kernel_rfl).symm.trans hf) |>.symm
  obtain rfl : fn = Tryd.f3 := (Option.some.inj (Tryd.func3.symm.trans hfn)).symm
  refine ⟨by kernel_rfl, fun j t ht => ?_⟩
  rw [Tryd.params3] at ht
  have h2 : t = 22 ∨ t = 4 := by simpa using Array.mem_of_getElem? ht
  rcases h2 with rfl | rfl
  · exact (show Tryd.prog.wantsStandIn 22 = false by kernel_rfl)
  · exact (show Tryd.prog.wantsStandIn 4 = false by kernel_rfl)
end Go.Proofs.YtfodkbchknknjaaDoor.fnDepth
namespace Go.Proofs.YtfodkbchknknjaaDoor
theorem parserDepth_card : Rows.ParserDepthCardSaid :=
  Claim7.holds_tied_plain_at .later [] _ _ _ _ fnDepth.said (fun _ h => by cases h) (by kernel_rfl) (fun _ h => by cases h) parserDepth_row_tie rfl ⟨rfl, rfl⟩ (by kernel_rfl) rfl fnDepth.plain (by kernel_rfl)
#print axioms parserDepth_card
end Go.Proofs.YtfodkbchknknjaaDoor
