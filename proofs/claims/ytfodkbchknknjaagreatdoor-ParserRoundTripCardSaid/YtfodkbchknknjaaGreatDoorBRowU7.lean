/- Texts joined: LawA, Lift0, FmtSpec, Fmt1, Fmt2, GlStr, Fmt3, Fmt4. -/
import Derived.Test.YtfodkbchknknjaaGreatDoorCards
import Derived.Test.YtfodkbchknknjaaGreatDoorTie
import Derived.WalkKit
import Derived.ProofKit
import Derived.OpenShut
import Derived.ChangeMaps5
import Derived.Deep.DeepHandedRow
import Derived.Lib.LaidTab
import Derived.Lib.Join
import Derived.Lib.Builder
import Derived.Lib.AppendStr
import Derived.Test.YtfodkbchknknjaaGreatDoorBRowU2
import Derived.Test.YtfodkbchknknjaaGreatDoorBRowU3
import Derived.Test.YtfodkbchknknjaaGreatDoorBRowU5
import Derived.Test.YtfodkbchknknjaaGreatDoorBRowU6
set_option linter.unusedVariables false
set_option linter.unusedSimpArgs false
namespace Go.Proofs.YtfodkbchknknjaaGreatDoor
open Go.GL Go.RowKit Go.Stele
set_option maxRecDepth 100000
set_option maxHeartbeats 4000000
theorem prog_end {T : List Tok} : ∀ (f : Nat) (p : Pr) (i op : Nat) (q : Pr) (i' op' : Nat), i ≤ T.length → sProg T f p i op = some (.ok q i' op') → i' ≤ T.length
  | 0, _, _, _, _, _, _, _, h => by rw [sProg] at h; cases h
  | f + 1, p, i, op, q, i', op', hi, h => by
    rw [sProg] at h
    split at h
    · cases h
      exact hi
    · split at h
      · rcases obind_some h with ⟨l, i1, op1, h1, h⟩ | ⟨l, e, _, h⟩
        · exact prog_end f _ i1 op1 q i' op' ((sVars_good T f _ _ _ _ h1).2.2.1 hi) h
        · cases h
      · split at h
        · rename_i h0
          have := isTok_lt h0
          rcases obind_some h with ⟨a, i1, op1, h1, h⟩ | ⟨l, e, _, h⟩
          · exact prog_end f _ i1 op1 q i' op' ((sArray_good T _ _ _ h1).2.2.1 (by omega)) h
          · cases h
        · split at h
          · rename_i h0
            have := isTok_lt h0
            rcases obind_some h with ⟨a, i1, op1, h1, h⟩ | ⟨l, e, _, h⟩
            · exact prog_end f _ i1 op1 q i' op' ((sFunc_good T f _ _ _ h1).2.2.1 (by omega)) h
            · cases h
          · cases h
theorem noPr_ok : PrOk noPr := ⟨by decide, by intro a ha; cases ha⟩
theorem parseP_ok (s : List UInt8) : PrOk (parseP s).1 := by
  unfold parseP
  split
  · exact noPr_ok
  · rename_i T hT
    have ht := tok_lex hT
    have hk : ∀ t ∈ T, TokOk t := by
      unfold lexAllP at hT
      split at hT
      · cases hT
      · exact (lexP_ok _ _ _ _ hT).2
    split
    · rename_i p i op hp
      obtain ⟨h1, h2⟩ := prog_nd hk _ _ _ _ _ _ _ (by intro a ha; cases ha) hp
      have h3 := prog_end _ _ _ _ _ _ _ (Nat.zero_le _) hp
      have := ht.len
      have h0 : nPr noPr = 0 := rfl
      exact ⟨by show nPr p ≤ _; omega, h2⟩
    · exact noPr_ok
    · exact noPr_ok
def bodyPre : List UInt8 := [102, 117, 110, 99, 32, 109, 97, 105, 110, 40, 41, 32, 123, 32, 120, 32, 61, 32]
def bodyPost : List UInt8 := [59, 32, 125]
def bodyOf (s : List UInt8) : List UInt8 := bodyPre ++ s ++ bodyPost
def vE (s : List UInt8) : Ex := .mk nVar 0 s []
def bE (op : List UInt8) (a b : Ex) : Ex := .mk op 0 [] [a, b]
def asP (x : Ex) : Pr := ⟨[], [], [⟨[109, 97, 105, 110], [], [], [.mk 1 [120] [] [x] [] []]⟩]⟩
theorem encE_bE (op : List UInt8) (a b : Ex) : encE (bE op a b) = .agg [str op, int .u32 0, str [], .list [encE a, encE b]] := by rw [bE, encE_mk]; rfl
theorem encE_vE (s : List UInt8) : encE (vE s) = .agg [str nVar, int .u32 0, str s, .list []] := by rw [vE, encE_mk]; rfl
theorem encPr_asP (x : Ex) : encPr (asP x) = .agg [.list [], .list [], .list [.agg [str [109, 97, 105, 110], .list [], .list [], .list [.agg [int .i64 1, str [120], .list [], .list [encE x], .list [], .list []]]]]] := by
  rw [encPr, asP]
  simp only [List.map_cons, List.map_nil, encFn, encS_mk]
def aliveS1 : List UInt8 := [97, 32, 45, 32, 98, 32, 42, 32, 50]
def aliveS2 : List UInt8 := [102, 117, 110, 99, 32, 109, 97, 105, 110, 40, 41, 32, 123, 10, 120, 32, 61, 32, 97, 32, 60, 32, 98, 10, 60, 32, 99, 59, 32, 125]
def aliveX : Ex := bE [45] (vE [97]) (bE [42] (vE [98]) (.mk nNum 2 [] []))
theorem alive1 : parseP (bodyOf aliveS1) = (asP aliveX, 0, 0) := by kernel_rfl
theorem alive2 : parseP aliveS2 = (noPr, 3, 3) := by kernel_rfl
attribute [local irreducible] LOps LCode LStep LCalls Go.GL.Pure QThen QBlock RetPost LQ LAny LLate LLateOp
section
variable {B0 : Nat} {w0 : World}
theorem body_spec (s : List UInt8) (hs : s.length ≤ 1000000) : LCalls (KC B0 w0) 15 [str s] [] (Ret (str (bodyOf s))) := by
  refine LCalls.intro Tryz.func15 rfl (n := 6) rfl rfl rfl ?_
  repeat first
    | refine LOps.nil ?_
    | refine LCode.seq ?_
    | refine LCode.region ?_
    | refine LCode.ret ?_
    | refine QThen.normal ?_
    | refine LOps.pure (Pure.as (lv := .atom _) rfl) rfl ?_
    | refine LOps.pure (Pure.mv (lv := .atom _) rfl) rfl ?_
    | refine LOps.pure (Pure.sadd rfl rfl (by simp only [List.length_append, List.length_cons, List.length_nil]; omega)) rfl ?_
  exact retRet rfl (AllRes.cons (ResIs.tmp (v := .atom _) rfl (LV.Sub.refl _)) AllRes.nil) rfl
theorem variable_spec (s : List UInt8) : LCalls (KC B0 w0) 18 [str s] [] (Ret (encE (vE s))) := by
  refine LCalls.intro Tryz.func18 rfl (n := 5) rfl rfl rfl ?_
  repeat first
    | refine LCode.seq ?_
    | refine LCode.region ?_
  refine LOps.step (S.alloc fun b2 => ?_) rfl
  repeat first
    | refine LOps.nil ?_
    | refine LCode.seq ?_
    | refine LCode.region ?_
    | refine LCode.ret ?_
    | refine QThen.normal ?_
    | refine LOps.pure (Pure.mv (lv := .atom _) rfl) rfl ?_
    | refine LOps.pure (Pure.bld _ (cs := [_, _, _, _]) rfl) rfl ?_
    | refine LOps.step (S.store (cs' := [_, _, _, _]) rfl Pick.here rfl rfl rfl rfl rfl ?_) rfl
  exact retRet rfl (AllRes.cons (ResIs.cellAgg (k := 4) rfl (List.Mem.head _) rfl (LV.Sub.agg (bs := [_, _, _, .list []]) ⟨LV.Sub.refl _, LV.Sub.refl _, LV.Sub.refl _, LV.Sub.nil, trivial⟩)) AllRes.nil) (by rw [encE_vE]; rfl)
theorem lbinary_spec (op : List UInt8) (a b : Ex) : LCalls (KC B0 w0) 17 [str op, encE a, encE b] [] (Ret (encE (bE op a b))) := by
  refine LCalls.intro Tryz.func17 rfl (n := 12) rfl rfl rfl ?_
  repeat first
    | refine LCode.seq ?_
    | refine LCode.region ?_
  refine LOps.step (S.box (cs := [str (exOp a), int .u32 (exNum a), str (exName a), .list (encArgs a)]) rfl fun b4 => ?_) rfl
  refine LOps.step (S.box (cs := [str (exOp b), int .u32 (exNum b), str (exName b), .list (encArgs b)]) rfl fun b5 => ?_) rfl
  refine LOps.step (S.alloc fun b6 => ?_) rfl
  repeat first
    | refine LOps.nil ?_
    | refine LCode.seq ?_
    | refine LCode.region ?_
    | refine QThen.normal ?_
    | refine LOps.pure (Pure.mv (lv := .atom _) rfl) rfl ?_
    | refine LOps.pure (Pure.ldHAgg (cs' := [_, _, _, _]) rfl (List.Mem.tail _ (List.Mem.head _)) rfl rfl) rfl ?_
    | refine LOps.pure (Pure.ldHAgg (cs' := [_, _, _, _]) rfl (List.Mem.tail _ (List.Mem.tail _ (List.Mem.head _))) rfl rfl) rfl ?_
  refine LOps.step (S.lit (es := [encE a, encE b]) [_, _] rfl (elemsOk.cons rfl rfl (elemsOk.cons rfl rfl elemsOk.nil)) rfl rfl rfl ?_) rfl
  repeat first
    | refine LOps.nil ?_
    | refine LCode.ret ?_
    | refine QThen.normal ?_
    | refine LOps.pure (Pure.bld _ (cs := [_, _, _, _]) rfl) rfl ?_
    | refine LOps.step (S.store (cs' := [_, _, _, _]) rfl Pick.here rfl rfl rfl rfl rfl ?_) rfl
  exact retRet rfl (AllRes.cons (ResIs.cellAgg rfl (List.Mem.head _) rfl (LV.Sub.refl _)) AllRes.nil) (by rw [encE_bE]; rfl)
theorem assigned_spec (x : Ex) : LCalls (KC B0 w0) 20 [encE x] [] (Ret (encPr (asP x))) := by
  refine LCalls.intro Tryz.func20 rfl (n := 10) rfl rfl rfl ?_
  repeat first
    | refine LCode.seq ?_
    | refine LCode.region ?_
  refine LOps.step (S.box (cs := [str (exOp x), int .u32 (exNum x), str (exName x), .list (encArgs x)]) rfl fun b1 => ?_) rfl
  refine LOps.step (S.alloc fun b2 => ?_) rfl
  repeat first
    | refine LOps.nil ?_
    | refine LCode.seq ?_
    | refine LCode.region ?_
    | refine QThen.normal ?_
    | refine LOps.pure (Pure.ldHAgg (cs' := [_, _, _, _]) rfl (List.Mem.tail _ (List.Mem.head _)) rfl rfl) rfl ?_
  refine LOps.step (S.lit (es := [encE x]) [_] rfl (elemsOk.cons rfl rfl elemsOk.nil) rfl rfl rfl ?_) rfl
  repeat first
    | refine LOps.pure (Pure.bld _ (cs := [_, _, _, _, _, _]) rfl) rfl ?_
  refine LOps.sub 5 (v' := .agg [int .i64 1, str [120], .list [], .list [encE x], .list [], .list []]) rfl (LV.Sub.agg ⟨LV.Sub.refl _, LV.Sub.refl _, LV.Sub.nil, LV.Sub.refl _, LV.Sub.nil, LV.Sub.nil, trivial⟩) ?_
  refine LOps.step (S.lit (es := [.agg [int .i64 1, str [120], .list [], .list [encE x], .list [], .list []]]) [_] rfl (elemsOk.cons rfl rfl elemsOk.nil) rfl rfl rfl ?_) rfl
  repeat first
    | refine LOps.pure (Pure.bld _ (cs := [_, _, _, _]) rfl) rfl ?_
  refine LOps.sub 7 (v' := .agg [str [109, 97, 105, 110], .list [], .list [], .list [.agg [int .i64 1, str [120], .list [], .list [encE x], .list [], .list []]]]) rfl (LV.Sub.agg ⟨LV.Sub.refl _, LV.Sub.nil, LV.Sub.nil, LV.Sub.refl _, trivial⟩) ?_
  refine LOps.step (S.lit (es := [.agg [str [109, 97, 105, 110], .list [], .list [], .list [.agg [int .i64 1, str [120], .list [], .list [encE x], .list [], .list []]]]]) [_] rfl (elemsOk.cons rfl rfl elemsOk.nil) rfl rfl rfl ?_) rfl
  repeat first
    | refine LOps.nil ?_
    | refine LCode.ret ?_
    | refine QThen.normal ?_
    | refine LOps.pure (Pure.bld _ (cs := [_, _, _]) rfl) rfl ?_
    | refine LOps.step (S.store (cs' := [_, _, _]) rfl Pick.here rfl rfl rfl rfl rfl ?_) rfl
  exact retRet rfl (AllRes.cons (ResIs.cellAgg (k := 3) rfl (List.Mem.head _) rfl (LV.Sub.agg (bs := [.list [], .list [], _]) ⟨LV.Sub.nil, LV.Sub.nil, LV.Sub.refl _, trivial⟩)) AllRes.nil) (by rw [encPr_asP]; rfl)
theorem asP_ok (x : Ex) (h : nEx x ≤ 1000) : PrOk (asP x) := ⟨by simp only [asP, nPr, nFns, nFn, nSms, nSm, nExs, List.length_nil]; omega, by intro a ha; cases ha⟩
theorem equal_true (a b : Pr) (ha : PrOk a) (hb : PrOk b) (h : eqPr a b = true) : LCalls (KC B0 w0) 14 [encPr a, encPr b] [] (Ret (bool true)) := by
  have := equal_spec (B0 := B0) (w0 := w0) a b ha hb
  rw [h] at this
  exact this
theorem alive_spec (hG : GW B0 w0) : LCalls (KC B0 w0) 11 [] [] (Ret (bool true)) := by
  have h1 := parse_spec hG (bodyOf aliveS1) (by decide)
  rw [alive1] at h1
  have h2 := parse_spec hG aliveS2 (by decide)
  rw [alive2] at h2
  refine LCalls.intro Tryz.func11 rfl (n := 44) rfl rfl rfl ?_
  repeat first
    | refine LOps.nil ?_
    | refine LCode.seq ?_
    | refine LCode.region ?_
    | refine QThen.normal ?_
    | refine LOps.pure (Pure.as (lv := .atom _) rfl) rfl ?_
  refine LOps.step (S.fn [_] rfl (body_spec aliveS1 (by decide)) ?_) rfl
  refine LOps.step (S.fn [_] rfl h1 ?_) rfl
  refine LOps.pure (Pure.mv rfl) rfl ?_
  refine LOps.pure (Pure.extract (vs := [encPr (asP aliveX), int .i64 0, int .i64 0]) rfl rfl) rfl ?_
  refine LOps.pure (Pure.extract (vs := [encPr (asP aliveX), int .i64 0, int .i64 0]) rfl rfl) rfl ?_
  refine LOps.pure (Pure.extract (vs := [encPr (asP aliveX), int .i64 0, int .i64 0]) rfl rfl) rfl ?_
  refine LOps.step (S.alloc fun b1 => ?_) rfl
  repeat first
    | refine LOps.nil ?_
    | refine LCode.seq ?_
    | refine LCode.region ?_
    | refine QThen.normal ?_
    | refine LOps.pure (Pure.as (lv := .atom _) rfl) rfl ?_
    | refine LOps.step (S.store (cs' := [_, _, _]) rfl Pick.here rfl rfl rfl rfl rfl ?_) rfl
  refine LOps.step (S.fn [_] rfl h2 ?_) rfl
  refine LOps.pure (Pure.mv rfl) rfl ?_
  refine LOps.pure (Pure.extract (vs := [encPr noPr, int .i64 3, int .i64 3]) rfl rfl) rfl ?_
  refine LOps.pure (Pure.extract (vs := [encPr noPr, int .i64 3, int .i64 3]) rfl rfl) rfl ?_
  refine LOps.pure (Pure.extract (vs := [encPr noPr, int .i64 3, int .i64 3]) rfl rfl) rfl ?_
  refine LOps.step (S.alloc fun b4 => ?_) rfl
  repeat first
    | refine LOps.nil ?_
    | refine LCode.seq ?_
    | refine LCode.region ?_
    | refine QThen.normal ?_
    | refine LOps.pure (Pure.as (lv := .atom _) rfl) rfl ?_
    | refine LOps.step (S.store (cs' := [_, _, _]) rfl Pick.here rfl rfl rfl rfl rfl ?_) rfl
  refine LOps.step (S.fn [_] rfl (variable_spec [97]) ?_) rfl
  refine LOps.step (S.fn [_] rfl (variable_spec [98]) ?_) rfl
  repeat first
    | refine LOps.pure (Pure.bld _ (cs := [_, _, _, _]) rfl) rfl ?_
  refine LOps.sub 21 (v' := encE (.mk nNum 2 [] [])) rfl (by rw [encE_mk]; exact LV.Sub.agg ⟨LV.Sub.refl _, LV.Sub.refl _, LV.Sub.refl _, LV.Sub.nil, trivial⟩) ?_
  refine LOps.step (S.fn [_, _, _] rfl (lbinary_spec [42] (vE [98]) (.mk nNum 2 [] [])) ?_) rfl
  refine LOps.step (S.fn [_, _, _] rfl (lbinary_spec [45] (vE [97]) (bE [42] (vE [98]) (.mk nNum 2 [] []))) ?_) rfl
  refine LOps.step (S.fn [_] rfl (assigned_spec aliveX) ?_) rfl
  refine LOps.step (S.alloc fun b7 => ?_) rfl
  repeat first
    | refine LOps.nil ?_
    | refine LCode.seq ?_
    | refine LCode.region ?_
    | refine QThen.normal ?_
    | refine LOps.pure (Pure.mv (lv := .atom _) rfl) rfl ?_
    | refine LOps.pure (Pure.eql rfl rfl) rfl ?_
    | refine LOps.pure (Pure.pickT (lv := .atom _) rfl rfl) rfl ?_
    | refine LOps.pure (Pure.ldHAgg (cs' := [_, _, _]) rfl (List.Mem.head _) rfl rfl) rfl ?_
    | refine LOps.pure (Pure.ldHAgg (cs' := [_, _, _]) rfl (List.Mem.tail _ (List.Mem.tail _ (List.Mem.head _))) rfl rfl) rfl ?_
    | refine LOps.want rfl rfl ?_
    | refine LOps.step (S.store (cs' := [_, _, _]) rfl Pick.here rfl rfl rfl rfl rfl ?_) rfl
  refine LOps.step (S.fn [_, _] rfl (equal_true (asP aliveX) (asP aliveX) (asP_ok _ (by decide)) (asP_ok _ (by decide)) ((eqPr_iff _ _).2 rfl)) ?_) rfl
  repeat first
    | refine LOps.nil ?_
    | refine LCode.ret ?_
    | refine QThen.normal ?_
    | refine LOps.pure (Pure.as (lv := .atom _) rfl) rfl ?_
    | refine LOps.pure (Pure.mv (lv := .atom _) rfl) rfl ?_
    | refine LOps.pure (Pure.eql rfl rfl) rfl ?_
    | refine LOps.pure (Pure.pickT (lv := .atom _) rfl rfl) rfl ?_
    | refine LOps.want rfl rfl ?_
  exact retRet rfl (AllRes.cons (ResIs.tmp (v := .atom _) rfl (LV.Sub.refl _)) AllRes.nil) rfl
end
end Go.Proofs.YtfodkbchknknjaaGreatDoor
namespace Go.Proofs.YtfodkbchknknjaaGreatDoor
open Go.ChangeShapes Go.WideShapes Go.ChangeAt Go.RowKit
set_option maxRecDepth 100000
theorem own : ownKnob Tryz.prog.godebug = none := by kernel_rfl
/-- The variables that every row lists. -/
def lst : List (String × DataW Unit) := [("math/bits.deBruijn32tab", Rows.laid_math_bits_deBruijn32tab), ("math/bits.deBruijn64tab", Rows.laid_math_bits_deBruijn64tab), ("internal/strconv.uint64pow10", Rows.laid_internal_strconv_uint64pow10), ("strconv.ErrRange", Rows.laid_strconv_ErrRange), ("strconv.ErrSyntax", Rows.laid_strconv_ErrSyntax)]
theorem gw_of_laid {W : World} (h : laidMetH Tryz.prog lst W) : GW W.heap.size W := by
  have h0 : laidMet Tryz.prog lst W := h
  have hp : laidMet Tryz.prog [("internal/strconv.uint64pow10", Rows.laid_internal_strconv_uint64pow10)] W := h0.filter (fun x => x.1 == "internal/strconv.uint64pow10")
  have he : laidMet Tryz.prog [("strconv.ErrRange", Rows.laid_strconv_ErrRange)] W := h0.filter (fun x => x.1 == "strconv.ErrRange")
  have hd : laidMet Tryz.prog [("math/bits.deBruijn64tab", Rows.laid_math_bits_deBruijn64tab)] W := h0.filter (fun x => x.1 == "math/bits.deBruijn64tab")
  refine ⟨?_, ?_, ?_⟩
  · exact Lib.tabIs_of_head (g := 1) (t := 156) (e := 119) (n := 20) (rest := []) (by kernel_rfl) (by kernel_rfl) (by kernel_rfl) (by kernel_rfl) (by kernel_rfl) (by kernel_rfl) hp
  · obtain ⟨ps, ⟨g, t, cs, fuel, p, q, hg, ht, hvar, hd, _, _⟩, _⟩ := he
    have hg' : Tryz.prog.globalNamed "strconv.ErrRange" = some 3 := by kernel_rfl
    obtain rfl := Option.some.inj (hg'.symm.trans hg)
    have ht' : (Tryz.prog.globals[3]?).map (·.type) = some 90 := by kernel_rfl
    obtain rfl := Option.some.inj (ht'.symm.trans ht)
    obtain ⟨ms, hms⟩ : ∃ ms, Tryz.prog.underlying 90 = some (.interface ms) := (inferInstance : Go.GL.TIface Tryz.prog 90).und
    obtain ⟨_, u, v, hcs, _, _⟩ := iface_of_trod hms hd
    refine ⟨u, v, ?_⟩
    rw [hvar]
    congr 1
    exact Array.ext' (by simpa using hcs)
  · obtain ⟨ps, ⟨g, t, cs, fuel, p, q, hg, ht, hvar, hd, _, _⟩, _⟩ := hd
    have hg' : Tryz.prog.globalNamed "math/bits.deBruijn64tab" = some 5 := by kernel_rfl
    obtain rfl := Option.some.inj (hg'.symm.trans hg)
    have : 5 < W.heap.size := by
      unfold World.var? at hvar
      rw [hg'] at hvar
      rcases Nat.lt_or_ge 5 W.heap.size with h1 | h1
      · exact h1
      · simp [Array.getElem?_eq_none h1] at hvar
    omega
/-- The law's own call, in the words of the walk. -/
theorem lift_callR {f : FuncId} {args : List Go.GL.LV} {vs : List Value} {W : World} (h : Go.GL.LCalls (KC W.heap.size W) f args [] (Go.GL.Ret (Go.GL.bool true))) (hr : Go.GL.RepL W (fun _ => 0) args vs) : Calls Tryz.prog f vs.toArray W fun e W' => e = .returned (.bool true) ∧ Below W.heap.size W W' := by
  refine (h vs W (fun _ => 0) hr ⟨Below.refl _ _, fun _ _ => rfl, Nat.le_refl _, fun _ _ => rfl, List.nodup_nil, by simp⟩).mono ?_
  intro e W' he
  cases e with
  | returned v =>
    obtain ⟨lv, H', L', h1, h2, h3, h4, _⟩ := he
    injection h4 with h4
    subst h4
    simp only [Go.GL.Rep] at h3
    subst h3
    exact ⟨rfl, h2.base⟩
  | panicked ch =>
    obtain ⟨H', L', h1, h2, h3, _⟩ := he
    cases h3
  | outgrown => exact he.elim
theorem lift_call {f : FuncId} {vs : List Value} {W : World} (h : Go.GL.LCalls (KC W.heap.size W) f (vs.map .atom) [] (Go.GL.Ret (Go.GL.bool true))) : Calls Tryz.prog f vs.toArray W fun e W' => e = .returned (.bool true) ∧ Below W.heap.size W W' :=
  lift_callR h (Go.GL.repL_atoms vs)
theorem post_of_below {H : Type} {enc : TypeId × Value → H} {P : Program} {f : Func} {s : ChangeSpec} {apart fresh handsOn again : Bool} {W W' : World} {args : Array Value} {v : Value} {ds gs : List (DataW H)} {before pa pv : List MemPlace}
    (hW : DataW.Whole enc P f.params.toList s.vars apart W args.toList ds gs before)
    (hres : ∀ (b : Nat) (sp : Nat → Bool) (hd : Bool), DataW.TrodAll enc P W' b sp hd f.resultTypes.toList (v.resultList f.resultTypes.size) (s.fn H (ds ++ gs)).results [])
    (hargs : ∀ sp : Nat → Bool, (∀ p ∈ before, sp p.block = true) → DataW.TrodAll enc P W' 0 sp true f.params.toList args.toList (s.fn H (ds ++ gs)).args pa)
    (hvars : ∀ sp : Nat → Bool, (∀ p ∈ before, sp p.block = true) → DataW.TrodVars enc P W' sp s.vars (s.fn H (ds ++ gs)).vars pv)
    (hps : before = pa ++ pv) (hb : Below W.heap.size W W')
    (hok : ∀ (j : Nat) (t : TypeId) (r : Value), f.resultTypes[j]? = some t → (v.resultList f.resultTypes.size)[j]? = some r → Value.okWide P W' .any 0 t r) :
    s.post enc P f apart fresh handsOn again W args v W' := by
  have hold : ∀ p ∈ before, (fun b => decide (b < W.heap.size)) p.block = true := fun p hp => by simpa using hW.lt p hp
  have hlt := hW.lt
  refine ⟨ds, gs, before, [], pa, pv, hW, hres _ _ _, hargs _ hold, hvars _ hold, World.keptBut_mono (fun p hp => ⟨hp, ?_⟩) (hb.frame (· ∈ before)), fun _ => ?_⟩
  · rw [hps, List.mem_append] at hp
    exact Or.inr hp
  · obtain ⟨_, _, _, _, _, hz, hn⟩ := hW
    refine ⟨hok, _, _, ([] ++ pa) ++ pv, ⟨[] ++ pa, pv, trodAll_append (hargs _ (fun _ _ => rfl)) (hres _ _ _), hvars _ (fun _ _ => rfl), rfl, ?_, ?_⟩, ?_⟩
    · intro b off hp
      have hp' : MemPlace.cell b off ∈ before := by rw [hps]; simpa using hp
      rw [hb.frozen (p := ⟨b, off, none⟩) (hlt _ hp')]
      exact hz b off hp'
    · intro ha
      have := hn ha
      rw [hps] at this
      simpa using this
    · intro p hp _
      rw [hps]
      simpa using hp
noncomputable def low : Nat := (World.holding Tryz.prog default ⟨#[], #[], []⟩).heap.size
/-- A world that meets the condition: the settled one, each listed variable's cells laid. -/
noncomputable def laidWorld (os : Os) : World :=
  let w0 := World.holding Tryz.prog os ⟨#[.cells #[.string ⟨#[118, 97, 108, 117, 101, 32, 111, 117, 116, 32, 111, 102, 32, 114, 97, 110, 103, 101]⟩] 173, .cells #[.string ⟨#[105, 110, 118, 97, 108, 105, 100, 32, 115, 121, 110, 116, 97, 120]⟩] 173], #[], []⟩
  let put (h : Array Obj) (g : Nat) (cs : Array Value) : Array Obj := h.modify g fun
    | .cells _ t frozen => .cells cs t frozen
    | o => o
  { w0 with heap := put (put (put (put (put w0.heap 4 #[.int .u8 0, .int .u8 1, .int .u8 28, .int .u8 2, .int .u8 29, .int .u8 14, .int .u8 24, .int .u8 3, .int .u8 30, .int .u8 22, .int .u8 20, .int .u8 15, .int .u8 25, .int .u8 17, .int .u8 4, .int .u8 8, .int .u8 31, .int .u8 27, .int .u8 13, .int .u8 23, .int .u8 21, .int .u8 19, .int .u8 16, .int .u8 7, .int .u8 26, .int .u8 12, .int .u8 18, .int .u8 6, .int .u8 11, .int .u8 5, .int .u8 10, .int .u8 9]) 5 #[.int .u8 0, .int .u8 1, .int .u8 56, .int .u8 2, .int .u8 57, .int .u8 49, .int .u8 28, .int .u8 3, .int .u8 61, .int .u8 58, .int .u8 42, .int .u8 50, .int .u8 38, .int .u8 29, .int .u8 17, .int .u8 4, .int .u8 62, .int .u8 47, .int .u8 59, .int .u8 36, .int .u8 45, .int .u8 43, .int .u8 51, .int .u8 22, .int .u8 53, .int .u8 39, .int .u8 33, .int .u8 30, .int .u8 24, .int .u8 18, .int .u8 12, .int .u8 5, .int .u8 63, .int .u8 55, .int .u8 48, .int .u8 27, .int .u8 60, .int .u8 41, .int .u8 37, .int .u8 16, .int .u8 46, .int .u8 35, .int .u8 44, .int .u8 21, .int .u8 52, .int .u8 32, .int .u8 23, .int .u8 11, .int .u8 54, .int .u8 26, .int .u8 40, .int .u8 15, .int .u8 34, .int .u8 20, .int .u8 31, .int .u8 10, .int .u8 25, .int .u8 14, .int .u8 19, .int .u8 9, .int .u8 13, .int .u8 8, .int .u8 7, .int .u8 6]) 1 #[.int .u64 1, .int .u64 10, .int .u64 100, .int .u64 1000, .int .u64 10000, .int .u64 100000, .int .u64 1000000, .int .u64 10000000, .int .u64 100000000, .int .u64 1000000000, .int .u64 10000000000, .int .u64 100000000000, .int .u64 1000000000000, .int .u64 10000000000000, .int .u64 100000000000000, .int .u64 1000000000000000, .int .u64 10000000000000000, .int .u64 100000000000000000, .int .u64 1000000000000000000, .int .u64 10000000000000000000]) 3 #[.iface 171 (.pointer (some ⟨low, 0, none⟩))]) 2 #[.iface 171 (.pointer (some ⟨low + 1, 0, none⟩))] }
theorem laid_met (os : Os) (args : Array Value) : laidMet Tryz.prog lst ((laidWorld os).forCall (fun _ _ => 0) ⟨#[], args, []⟩).memory :=
  laidMet_of_run' 8 (by kernel_rfl) (by kernel_rfl)
end Go.Proofs.YtfodkbchknknjaaGreatDoor
namespace Go.Stele
def strengthP (op : List UInt8) : Nat :=
  if (lvOps 0).contains op then 0 else if (lvOps 1).contains op then 1 else if (lvOps 2).contains op then 2 else if (lvOps 3).contains op then 3 else if (lvOps 4).contains op then 4 else if (lvOps 5).contains op then 5 else
    if op = nNeg ∨ op = nNot then 6 else 7
/-- An operator and a text. -/
abbrev OpT := List UInt8 × List UInt8
def opnd (x : OpT) (least : Nat) : List UInt8 := if strengthP x.1 < least then [40] ++ x.2 ++ [41] else x.2
def comSp : List UInt8 := [44, 32]
def leftLv (k : Nat) : Nat := if k = 2 then k + 1 else k
def fNode (op : List UInt8) (num : Nat) (name : List UInt8) (xs : List OpT) : List UInt8 :=
  if op = nNum then Go.Lib.decDigits num
  else if op = nVar then name
  else if op = nElem ∧ xs.length = 1 then name ++ [91] ++ (xs.headD ([], [])).2 ++ [93]
  else if op = nCall then name ++ [40] ++ Go.Lib.join (xs.map (·.2)) comSp ++ [41]
  else if op = nNeg ∧ xs.length = 1 then [45] ++ opnd (xs.headD ([], [])) (strengthP op)
  else if op = nNot ∧ xs.length = 1 then [33] ++ opnd (xs.headD ([], [])) (strengthP op)
  else if xs.length = 2 then opnd (xs.headD ([], [])) (leftLv (strengthP op)) ++ [32] ++ op ++ [32] ++ opnd (xs.tail.headD ([], [])) (strengthP op + 1)
  else []
mutual
def fE : Ex → List UInt8
  | .mk op num name args => fNode op num name (fEs args)
def fEs : List Ex → List OpT
  | [] => []
  | e :: r => (exOp e, fE e) :: fEs r
end
theorem fEs_map : ∀ l : List Ex, fEs l = l.map fun e => (exOp e, fE e)
  | [] => by simp [fEs]
  | e :: r => by rw [fEs, fEs_map r]; rfl
theorem fE_mk (op : List UInt8) (num : Nat) (name : List UInt8) (args : List Ex) : fE (.mk op num name args) = fNode op num name (args.map fun e => (exOp e, fE e)) := by rw [fE, fEs_map]
theorem strengthP_le (op : List UInt8) : strengthP op ≤ 7 := by
  unfold strengthP
  repeat (first | omega | split)
def fOne (l : List Ex) : List UInt8 := Go.Lib.join (l.map fE) comSp
def ind2 (ind : List UInt8) : List UInt8 := ind ++ [32, 32]
/-- One statement, given the texts of the two blocks in it. -/
def fLine (ind : List UInt8) (kind : Int) (name : List UInt8) (index value : List Ex) (t e : List UInt8) (noElse : Bool) : List UInt8 :=
  if kind = 1 then name ++ [32, 61, 32] ++ fOne value ++ [59, 10]
  else if kind = 2 then name ++ [91] ++ fOne index ++ [93, 32, 61, 32] ++ fOne value ++ [59, 10]
  else if kind = 6 then fOne value ++ [59, 10]
  else if kind = 5 then [114, 101, 116, 117, 114, 110, 32] ++ fOne value ++ [59, 10]
  else if kind = 7 then [104, 97, 108, 116, 59, 10]
  else if kind = 3 ∨ kind = 4 then
    (if kind = 4 then [119, 104, 105, 108, 101, 32] else [105, 102, 32]) ++ fOne value ++ [32, 123, 10] ++ t ++ (if noElse then [] else ind ++ [125, 32, 101, 108, 115, 101, 32, 123, 10] ++ e) ++ (ind ++ [125, 10])
  else []
mutual
def fS (ind : List UInt8) : Sm → List UInt8
  | .mk kind name index value thn els => ind ++ fLine ind kind name index value (fSs (ind2 ind) thn) (fSs (ind2 ind) els) els.isEmpty
def fSs (ind : List UInt8) : List Sm → List UInt8
  | [] => []
  | s :: r => fS ind s ++ fSs ind r
end
theorem fS_mk (ind : List UInt8) (kind : Int) (name : List UInt8) (index value : List Ex) (thn els : List Sm) : fS ind (.mk kind name index value thn els) = ind ++ fLine ind kind name index value (fSs (ind2 ind) thn) (fSs (ind2 ind) els) els.isEmpty := by rw [fS]
theorem fSs_append (ind : List UInt8) : ∀ a b : List Sm, fSs ind (a ++ b) = fSs ind a ++ fSs ind b
  | [], b => by simp [fSs]
  | s :: a, b => by
    rw [List.cons_append, fSs, fSs, fSs_append ind a b, List.append_assoc]
theorem fSs_take (ind : List UInt8) {l : List Sm} {i : Nat} (h : i < l.length) : fSs ind (l.take (i + 1)) = fSs ind (l.take i) ++ fS ind l[i] := by
  rw [List.take_succ_eq_append_getElem h, fSs_append, fSs, fSs, List.append_nil]
def varsT (l : List (List UInt8)) : List UInt8 := [118, 97, 114, 32] ++ Go.Lib.join l comSp ++ [59, 10]
def fAr (a : Ar) : List UInt8 := [97, 114, 114, 97, 121, 32] ++ a.name ++ [91] ++ Go.Lib.decDigits a.size ++ [93, 59, 10]
def fFn (f : FnD) : List UInt8 :=
  [102, 117, 110, 99, 32] ++ f.name ++ [40] ++ Go.Lib.join f.params comSp ++ [41, 32, 123, 10] ++ (if f.locals = [] then [] else [32, 32] ++ varsT f.locals) ++ fSs [32, 32] f.body ++ [125, 10]
/-- What Format computes. -/
def formatP (p : Pr) : List UInt8 :=
  (if p.vars = [] then [] else varsT p.vars) ++ (p.arrays.map fAr).flatten ++ (p.funcs.map fFn).flatten
end Go.Stele
namespace Go.Proofs.YtfodkbchknknjaaGreatDoor
open Go.GL Go.RowKit Go.Stele
set_option maxRecDepth 100000
set_option maxHeartbeats 4000000
def strUp (op : List UInt8) : Nat → Nat
  | 0 => if op = nNeg ∨ op = nNot then 6 else 7
  | k + 1 => if (lvOps (5 - k)).contains op then 5 - k else strUp op k
theorem strUp_all (op : List UInt8) : strengthP op = strUp op 6 := rfl
theorem levels_get (i : Nat) (h : i < 6) : levelsLV[i]? = some (lvLV i) := by
  match i, h with
  | 0, _ => rfl
  | 1, _ => rfl
  | 2, _ => rfl
  | 3, _ => rfl
  | 4, _ => rfl
  | 5, _ => rfl
theorem lvOps_len (i : Nat) : (lvOps i).length ≤ 6 := by
  match i with
  | 0 => decide
  | 1 => decide
  | 2 => decide
  | 3 => decide
  | 4 => decide
  | 5 => decide
  | n + 6 => exact Nat.zero_le _
theorem cells_rows {w : World} {L : Live} {b : Nat} : ∀ (k off : Nat) (ws : List (List UInt8)), RepRows w L b k off (ws.map str) → ∀ (j : Nat) x, (ws.map fun l => (⟨l.toArray⟩ : ByteArray))[j]? = some x → k = 1 ∧ w.cell? ⟨b, off + j, none⟩ = some (.string x)
  | k, off, [], _, j, x, h => by simp at h
  | k, off, s :: ws, h, 0, x, hx => by
    simp only [List.map_cons, RepRows] at h
    obtain ⟨⟨hk, _, y, hy, hr⟩, _⟩ := h
    simp only [Rep] at hr
    simp at hx
    rw [← hx, Nat.add_zero, hy, hr]
    exact ⟨hk.symm, rfl⟩
  | k, off, s :: ws, h, j + 1, x, hx => by
    simp only [List.map_cons, RepRows] at h
    obtain ⟨⟨hk, _⟩, h2⟩ := h
    have := cells_rows k (off + k) ws h2 j x (by simpa using hx)
    refine ⟨hk.symm, ?_⟩
    rw [← this.2, ← hk, Nat.add_assoc, Nat.add_comm 1 j]
section
variable {B0 : Nat} {w0 : World}
theorem joinS_spec (sep : List UInt8) (ws : List (List UInt8)) (hn : ws.length ≤ 1000000000) (hl : (Go.Lib.join ws sep).length ≤ 1000000000) : LCalls (KC B0 w0) 22 [.list (ws.map str), str sep] [] (Ret (str (Go.Lib.join ws sep))) := fun xs w L hv hH => by
  simp only [RepL] at hv
  obtain ⟨y, ys, rfl, hy, z, zs, rfl, hz, rfl⟩ := hv
  simp only [Rep] at hy hz
  obtain ⟨a, cap, rfl, hcap, hrows⟩ := hy
  subst hz
  rw [List.length_map] at hcap
  have hmap : (ws.map fun l => (⟨l.toArray⟩ : ByteArray)).map (·.data.toList) = ws := by
    rw [List.map_map]
    conv => rhs; rw [← List.map_id ws]
    rfl
  have hc : Calls Tryz.prog 22 #[.slice a ws.length cap, .string ⟨sep.toArray⟩] w fun e w' => e = .returned (.string ⟨(Go.Lib.join ws sep).toArray⟩) ∧ Below w.heap.size w w' := by
    by_cases hne : ws = []
    · subst hne
      exact (Tryz.strings_Join_none a cap ⟨sep.toArray⟩ w).mono fun e w' he => ⟨by rw [he.1]; rfl, by rw [he.2]; exact Below.refl _ _⟩
    · obtain ⟨b, off, k, rfl, hr⟩ := hrows (by simpa using hne)
      have hcells := fun j x hx => (cells_rows k off ws hr j x hx).2
      have hb : b < w.heap.size := by
        obtain ⟨s, r, rfl⟩ := List.exists_cons_of_ne_nil hne
        have := hcells 0 _ rfl
        exact World.block_lt_of_cell? _ _ this
      have := Tryz.strings_Join b off cap (ws.map fun l => (⟨l.toArray⟩ : ByteArray)) ⟨sep.toArray⟩ w hcells hb (by rw [List.length_map]; omega) (by rw [List.length_map]; exact hcap) (by rw [hmap]; show (Go.Lib.join ws sep).length ≤ _; omega)
      rw [List.length_map, hmap] at this
      exact this
  rw [List.length_map]
  refine hc.mono fun e w' he => ?_
  obtain ⟨rfl, hb⟩ := he
  obtain ⟨h1, h2⟩ := fr_below hH hb
  exact ⟨str (Go.Lib.join ws sep), [], L, h1, h2, rep_atom, rfl, rfl⟩
end
attribute [local irreducible] LOps LCode LStep LCalls Go.GL.Pure QThen QBlock RetPost LQ LAny LLate LLateOp
section
variable {B0 : Nat} {w0 : World}
theorem strength_spec (op : List UInt8) : LCalls (KC B0 w0) 141 [str op] [] (Ret (int .i64 (strengthP op))) := by
  refine LCalls.intro Tryz.func141 rfl (n := 30) rfl rfl rfl ?_
  repeat first
    | refine LOps.nil ?_
    | refine LCode.seq ?_
    | refine LCode.region ?_
    | refine QThen.normal ?_
    | refine LOps.pure (Pure.as (lv := .atom _) rfl) rfl ?_
  refine LOps.step (S.fn [] rfl levels_spec ?_) rfl
  repeat first
    | refine LOps.nil ?_
    | refine LCode.seq ?_
    | refine LCode.region ?_
    | refine LCode.block ?_
    | refine QThen.normal ?_
    | refine LOps.pure (Pure.as (lv := .list _) rfl) rfl ?_
    | refine LOps.pure (Pure.mv (lv := .list _) rfl) rfl ?_
    | refine LOps.pure (Pure.mv (lv := .atom _) rfl) rfl ?_
    | refine LOps.pure (Pure.llen rfl) rfl ?_
  refine LCode.loopI (fun k ls H => ∃ i, k = 6 - i ∧ i ≤ 6 ∧ ls = [(0, str op), (3, .list levelsLV), (7, .list levelsLV), (8, int .i64 6), (9, int .i64 i)] ∧ H = [] ∧ strengthP op = strUp op (6 - i))
    ⟨_, _, _, ⟨0, rfl, Nat.zero_le _, rfl, rfl, rfl⟩, ⟨rfl, rfl, rfl, rfl, rfl, trivial⟩, HSub.refl _⟩ ?_
  rintro k ls H ⟨i, rfl, hi, rfl, rfl, hE⟩ j hj
  repeat first
    | refine LOps.nil ?_
    | refine LCode.seq ?_
    | refine LCode.region ?_
    | refine QThen.normal ?_
    | refine LOps.pure (Pure.lss rfl rfl) rfl ?_
  refine LCode.cond rfl (fun hc => ?_) (fun hc => ?_)
  · have hlt : i < 6 := by have := of_decide_eq_true hc; omega
    repeat first
      | refine LCode.seq ?_
      | refine LCode.region ?_
      | refine LCode.skip ?_
      | refine LCode.block ?_
      | refine QThen.normal ?_
      | refine LOps.pure (Pure.mv (lv := .atom _) rfl) rfl ?_
    refine LOps.pure (Pure.ixRef (el' := lvLV i) (cs := [lvLV i]) rfl rfl (by omega) (levels_get i hlt) rfl rfl) rfl ?_
    repeat first
      | refine LOps.nil ?_
      | refine LCode.seq ?_
      | refine LCode.region ?_
      | refine QThen.normal ?_
      | refine LOps.pure (Pure.as (lv := .atom _) rfl) rfl ?_
      | refine LOps.pure (Pure.as (lv := .list _) rfl) rfl ?_
      | refine LOps.pure (Pure.mv (lv := .list _) rfl) rfl ?_
      | refine LOps.pure (Pure.mv (lv := .atom _) rfl) rfl ?_
      | refine LOps.pure (Pure.loadRef (c := .list _) rfl rfl) rfl ?_
    refine LOps.step (S.fn [_, _] rfl (Contains_spec (lvOps i) op (by have := lvOps_len i; omega)) ?_) rfl
    repeat first
      | refine LOps.nil ?_
      | refine QThen.normal ?_
    obtain ⟨k, hk⟩ : ∃ k, 6 - i = k + 1 := ⟨5 - i, by omega⟩
    rw [hk, strUp] at hE
    have hk' : 5 - k = i := by omega
    rw [hk'] at hE
    refine LCode.cond rfl (fun hd => ?_) (fun hd => ?_)
    · rw [if_pos hd] at hE
      repeat first
        | refine LOps.nil ?_
        | refine LCode.seq ?_
        | refine LCode.region ?_
        | refine LCode.ret ?_
        | refine QThen.normal ?_
        | refine QThen.ret ?_
        | refine QBlock.ret ?_
        | refine LOps.pure (Pure.as (lv := .atom _) rfl) rfl ?_
        | refine LOps.pure (Pure.mv (lv := .atom _) rfl) rfl ?_
      exact retRet hj (AllRes.cons (ResIs.tmp (v := .atom _) rfl (LV.Sub.refl _)) AllRes.nil) (int_eq (by omega))
    · rw [if_neg (by rw [hd]; simp)] at hE
      repeat first
        | refine LOps.nil ?_
        | refine LCode.region ?_
        | refine LCode.skip ?_
        | refine QThen.normal ?_
        | refine QBlock.normal ?_
        | refine LOps.pure (Pure.mv (lv := .atom _) rfl) rfl ?_
        | refine LOps.pure (Pure.add rfl rfl (by omega)) rfl ?_
      exact ⟨_, _, _, by omega, ⟨i + 1, rfl, by omega, rfl, rfl, by rw [hE]; congr 1; omega⟩, ⟨rfl, rfl, rfl, rfl, int_eq (by omega), trivial⟩, HSub.refl _, hj⟩
  · have hge : i = 6 := by have := of_decide_eq_false hc; omega
    subst hge
    have hE' : strengthP op = if op = nNeg ∨ op = nNot then 6 else 7 := hE
    have hll : levelsLV.length = 6 := rfl
    repeat first
      | refine LCode.seq ?_
      | refine LCode.region ?_
      | refine LCode.exit ?_
      | refine QThen.normal ?_
      | refine QThen.exit ?_
      | refine QBlock.hit ?_
      | refine LOps.pure (Pure.mv (lv := .atom _) rfl) rfl ?_
      | refine LOps.pure (Pure.seq rfl rfl) rfl ?_
    refine LOps.bcase 21 rfl (fun h1 => ?_) (fun h1 => ?_)
    · repeat first
        | refine LOps.nil ?_
        | refine QThen.normal ?_
        | refine LOps.pure (Pure.pickT (lv := .atom _) rfl rfl) rfl ?_
        | refine LOps.skip rfl rfl rfl rfl ?_
      refine LCode.cond rfl (fun hd => ?_) (fun hd => ?_)
      · repeat first
          | refine LOps.nil ?_
          | refine LCode.seq ?_
          | refine LCode.region ?_
          | refine LCode.ret ?_
          | refine QThen.normal ?_
          | refine QThen.ret ?_
          | refine LOps.pure (Pure.as (lv := .atom _) rfl) rfl ?_
          | refine LOps.pure (Pure.mv (lv := .list _) rfl) rfl ?_
          | refine LOps.pure (Pure.llen rfl) rfl ?_
        exact retRet hj (AllRes.cons (ResIs.tmp (v := .atom _) rfl (LV.Sub.refl _)) AllRes.nil) (int_eq (by rw [if_pos (show op = nNeg ∨ op = nNot from Or.inl (of_decide_eq_true h1))] at hE'; omega))
      · cases hd
    · repeat first
        | refine LOps.nil ?_
        | refine QThen.normal ?_
        | refine LOps.pure (Pure.mv (lv := .atom _) rfl) rfl ?_
        | refine LOps.pure (Pure.seq rfl rfl) rfl ?_
        | refine LOps.pure (Pure.pickF (lv := .atom _) rfl rfl) rfl ?_
        | refine LOps.want rfl rfl ?_
      refine LCode.cond rfl (fun hd => ?_) (fun hd => ?_)
      · repeat first
          | refine LOps.nil ?_
          | refine LCode.seq ?_
          | refine LCode.region ?_
          | refine LCode.ret ?_
          | refine QThen.normal ?_
          | refine QThen.ret ?_
          | refine LOps.pure (Pure.as (lv := .atom _) rfl) rfl ?_
          | refine LOps.pure (Pure.mv (lv := .list _) rfl) rfl ?_
          | refine LOps.pure (Pure.llen rfl) rfl ?_
        exact retRet hj (AllRes.cons (ResIs.tmp (v := .atom _) rfl (LV.Sub.refl _)) AllRes.nil) (int_eq (by rw [if_pos (show op = nNeg ∨ op = nNot from Or.inr (of_decide_eq_true hd))] at hE'; omega))
      · repeat first
          | refine LOps.nil ?_
          | refine LCode.seq ?_
          | refine LCode.region ?_
          | refine LCode.skip ?_
          | refine LCode.ret ?_
          | refine QThen.normal ?_
          | refine LOps.pure (Pure.as (lv := .atom _) rfl) rfl ?_
          | refine LOps.pure (Pure.mv (lv := .list _) rfl) rfl ?_
          | refine LOps.pure (Pure.llen rfl) rfl ?_
          | refine LOps.pure (Pure.add rfl rfl (by omega)) rfl ?_
        exact retRet hj (AllRes.cons (ResIs.tmp (v := .atom _) rfl (LV.Sub.refl _)) AllRes.nil) (int_eq (by rw [if_neg (fun h => h.elim (of_decide_eq_false h1) (of_decide_eq_false hd))] at hE'; omega))
end
end Go.Proofs.YtfodkbchknknjaaGreatDoor
namespace Go.Proofs.YtfodkbchknknjaaGreatDoor
open Go.GL Go.RowKit Go.Stele
set_option maxRecDepth 100000
set_option maxHeartbeats 4000000
attribute [local irreducible] LOps LCode LStep LCalls Go.GL.Pure QThen QBlock RetPost LQ LAny LLate LLateOp
theorem wrap_u64 {n : Int} (h : 0 ≤ n ∧ n ≤ 4294967295) : IntKind.u64.wrap n = n := by
  simp only [IntKind.wrap, IntKind.bits, IntKind.signed, Bool.false_and]
  simp
  omega
theorem opnd_len (x : OpT) (least : Nat) : x.2.length ≤ (opnd x least).length := by
  unfold opnd
  split
  · simp
    omega
  · exact Nat.le_refl _
theorem join_mem (sep : List UInt8) : ∀ {ws : List (List UInt8)} {x : List UInt8}, x ∈ ws → x.length ≤ (Go.Lib.join ws sep).length
  | [a], x, h => by
    obtain rfl := List.mem_singleton.mp h
    simp [Go.Lib.join]
  | a :: b :: r, x, h => by
    have e : Go.Lib.join (a :: b :: r) sep = a ++ sep ++ Go.Lib.join (b :: r) sep := by simp [Go.Lib.join]
    rw [e]
    rcases List.mem_cons.mp h with h | h
    · subst h
      simp only [List.length_append]
      omega
    · have := join_mem sep h
      simp only [List.length_append]
      omega
section
variable {B0 : Nat} {w0 : World}
theorem operand_spec (e : Ex) (least : Nat) (hl : (fE e).length ≤ 1000000000) (he : LCalls (KC B0 w0) 118 [encE e] [] (Ret (str (fE e)))) :
    LCalls (KC B0 w0) 142 [encE e, int .i64 least] [] (Ret (str (opnd (exOp e, fE e) least))) := by
  obtain ⟨op, num, name, args⟩ := e
  simp only [exOp]
  rw [encE_mk] at he ⊢
  refine LCalls.intro Tryz.func142 rfl (n := 17) rfl rfl rfl ?_
  repeat first
    | refine LCode.seq ?_
    | refine LCode.region ?_
  refine LOps.step (S.box (cs := [str op, int .u32 num, str name, .list (args.map encE)]) rfl fun b1 => ?_) rfl
  repeat first
    | refine LOps.nil ?_
    | refine LCode.seq ?_
    | refine LCode.region ?_
    | refine QThen.normal ?_
    | refine LOps.pure (Pure.as (lv := .atom _) rfl) rfl ?_
    | refine LOps.pure (Pure.ldHAgg (cs' := [_, _, _, _]) rfl (List.Mem.head _) rfl rfl) rfl ?_
  refine LOps.step (S.fn [_] rfl he ?_) rfl
  repeat first
    | refine LOps.nil ?_
    | refine LCode.seq ?_
    | refine LCode.region ?_
    | refine QThen.normal ?_
    | refine LOps.pure (Pure.as (lv := .atom _) rfl) rfl ?_
    | refine LOps.pure (Pure.fieldH rfl) rfl ?_
    | refine LOps.pure (Pure.loadH (c := .atom _) rfl (List.Mem.head _) rfl) rfl ?_
  refine LOps.step (S.fn [_] rfl (strength_spec op) ?_) rfl
  repeat first
    | refine LOps.nil ?_
    | refine QThen.normal ?_
    | refine LOps.pure (Pure.mv (lv := .atom _) rfl) rfl ?_
    | refine LOps.pure (Pure.lss rfl rfl) rfl ?_
  refine LCode.cond rfl (fun hd => ?_) (fun hd => ?_)
  · have hd' : strengthP op < least := by have := of_decide_eq_true hd; omega
    repeat first
      | refine LOps.nil ?_
      | refine LCode.seq ?_
      | refine LCode.region ?_
      | refine LCode.ret ?_
      | refine QThen.normal ?_
      | refine QThen.ret ?_
      | refine LOps.pure (Pure.as (lv := .atom _) rfl) rfl ?_
      | refine LOps.pure (Pure.mv (lv := .atom _) rfl) rfl ?_
      | refine LOps.pure (Pure.sadd rfl rfl (by simp only [List.length_append, List.length_cons, List.length_nil]; omega)) rfl ?_
    exact retRet rfl (AllRes.cons (ResIs.tmp (v := .atom _) rfl (LV.Sub.refl _)) AllRes.nil) (str_eq (by simp only [opnd]; rw [if_pos hd']))
  · have hd' : ¬ strengthP op < least := by have := of_decide_eq_false hd; omega
    repeat first
      | refine LOps.nil ?_
      | refine LCode.seq ?_
      | refine LCode.region ?_
      | refine LCode.skip ?_
      | refine LCode.ret ?_
      | refine QThen.normal ?_
      | refine LOps.pure (Pure.as (lv := .atom _) rfl) rfl ?_
      | refine LOps.pure (Pure.mv (lv := .atom _) rfl) rfl ?_
    exact retRet rfl (AllRes.cons (ResIs.tmp (v := .atom _) rfl (LV.Sub.refl _)) AllRes.nil) (str_eq (by simp only [opnd]; rw [if_neg hd']))
theorem list_spec (l : List Ex) (hn : l.length ≤ 1000000000) (hl : (Go.Lib.join (l.map fE) comSp).length ≤ 1000000000) (he : ∀ e ∈ l, LCalls (KC B0 w0) 118 [encE e] [] (Ret (str (fE e)))) :
    LCalls (KC B0 w0) 87 [.list (l.map encE)] [] (Ret (str (Go.Lib.join (l.map fE) comSp))) := by
  have hla : (l.map encE).length = l.length := List.length_map _
  refine LCalls.intro Tryz.func87 rfl (n := 20) rfl rfl rfl ?_
  repeat first
    | refine LOps.nil ?_
    | refine LCode.seq ?_
    | refine LCode.region ?_
    | refine LCode.block ?_
    | refine QThen.normal ?_
    | refine LOps.pure (Pure.as (lv := .atom _) rfl) rfl ?_
    | refine LOps.pure (Pure.mv (lv := .list _) rfl) rfl ?_
    | refine LOps.pure (Pure.mv (lv := .atom _) rfl) rfl ?_
    | refine LOps.pure (Pure.llen rfl) rfl ?_
  refine LCode.loopI (fun k ls H => ∃ (v : LV) (i : Nat), i ≤ l.length ∧ k = l.length - i ∧ ls = [(0, .list (l.map encE)), (3, v), (6, .list (l.map encE)), (7, int .i64 l.length), (8, int .i64 i)] ∧ Acc 1 v (((l.take i).map fE).map str) H [])
    ⟨_, _, _, ⟨nilSlice, 0, Nat.zero_le _, rfl, rfl, by simpa using Acc.nil⟩, ⟨rfl, rfl, rfl, int_eq (by omega), rfl, trivial⟩, HSub.refl _⟩ ?_
  rintro k ls H ⟨v, i, hi, rfl, rfl, hacc⟩ j hj
  repeat first
    | refine LOps.nil ?_
    | refine LCode.seq ?_
    | refine LCode.region ?_
    | refine QThen.normal ?_
    | refine LOps.pure (Pure.lss rfl rfl) rfl ?_
  refine LCode.cond rfl (fun hc => ?_) (fun hc => ?_)
  · have hlt : i < l.length := by have := of_decide_eq_true hc; omega
    repeat first
      | refine LCode.seq ?_
      | refine LCode.region ?_
      | refine LCode.skip ?_
      | refine LCode.block ?_
      | refine QThen.normal ?_
    refine LOps.pure (Pure.ixRef (el' := encE l[i]) (cs := [_, _, _, _]) rfl rfl (by omega) (map_get _ _ _ hlt) rfl rfl) rfl ?_
    repeat first
      | refine LOps.pure (Pure.ldRefAgg (cs' := [_, _, _, _]) rfl rfl rfl) rfl ?_
    refine LOps.step (S.alloc fun b5 => ?_) rfl
    repeat first
      | refine LOps.nil ?_
      | refine LCode.region ?_
      | refine QThen.normal ?_
      | refine LOps.step (S.store (cs' := [_, _, _, _]) rfl Pick.here rfl rfl rfl rfl rfl ?_) rfl
    refine LOps.pure (Pure.mv (lv := v) rfl) rfl ?_
    repeat first
      | refine LOps.pure (Pure.ldHAgg (cs' := [_, _, _, _]) rfl (List.Mem.head _) rfl rfl) rfl ?_
    refine LOps.step (S.fn [_] rfl (he l[i] (List.getElem_mem hlt)) ?_) rfl
    refine LOps.step (S.lit [_] rfl (elemsOk.cons rfl rfl elemsOk.nil) rfl rfl rfl ?_) rfl
    refine LOps.step (S.acc1 rfl hacc rfl (by simp; rfl) rfl (by simp; omega) fun v' H' hacc' => ?_) rfl
    refine LOps.pure (Pure.as (lv := v') rfl) rfl ?_
    repeat first
      | refine LOps.nil ?_
      | refine LCode.region ?_
      | refine QThen.normal ?_
      | refine QBlock.normal ?_
      | refine LOps.pure (Pure.mv (lv := .atom _) rfl) rfl ?_
      | refine LOps.pure (Pure.add rfl rfl (by omega)) rfl ?_
    exact ⟨_, _, _, by omega, ⟨v', i + 1, by omega, rfl, rfl, by
      rw [List.take_succ_eq_append_getElem hlt, List.map_append, List.map_append]
      exact hacc'⟩, ⟨rfl, rfl, rfl, rfl, int_eq (by omega), trivial⟩, HSub.drop (HSub.refl _), hj⟩
  · have hi' : i = l.length := by have := of_decide_eq_false hc; omega
    subst hi'
    rw [List.take_length] at hacc
    refine LCode.sub (d := 3) (v := v) rfl hacc.sub ?_
    refine LCode.weak (HSub.nil _) ?_
    repeat first
      | refine LCode.seq ?_
      | refine LCode.region ?_
      | refine LCode.exit ?_
      | refine QThen.normal ?_
      | refine QThen.exit ?_
      | refine QBlock.hit ?_
      | refine LOps.pure (Pure.mv (lv := .list _) rfl) rfl ?_
    refine LOps.step (S.fn [_, _] rfl (joinS_spec comSp (l.map fE) (by rw [List.length_map]; omega) hl) ?_) rfl
    repeat first
      | refine LOps.nil ?_
      | refine LCode.ret ?_
      | refine QThen.normal ?_
      | refine LOps.pure (Pure.as (lv := .atom _) rfl) rfl ?_
    exact retRet hj (AllRes.cons (ResIs.tmp (v := .atom _) rfl (LV.Sub.refl _)) AllRes.nil) rfl
theorem expr_node (hG : GW B0 w0) (op : List UInt8) (num : Nat) (name : List UInt8) (args : List Ex) (hnum : num < 4294967296) (hn : args.length ≤ 1000000000) (hl : (fE (.mk op num name args)).length ≤ 1000000000)
    (he : ∀ e ∈ args, (fE e).length ≤ 1000000000 → LCalls (KC B0 w0) 118 [encE e] [] (Ret (str (fE e)))) :
    LCalls (KC B0 w0) 118 [encE (.mk op num name args)] [] (Ret (str (fE (.mk op num name args)))) := by
  have hF := fE_mk op num name args
  have hla : (args.map encE).length = args.length := List.length_map _
  rw [fNode, List.length_map, List.map_map] at hF
  rw [encE_mk]
  refine LCalls.intro Tryz.func118 rfl (n := 113) rfl rfl rfl ?_
  repeat first
    | refine LCode.seq ?_
    | refine LCode.region ?_
  refine LOps.step (S.box (cs := [str op, int .u32 num, str name, .list (args.map encE)]) rfl fun b1 => ?_) rfl
  repeat first
    | refine LOps.nil ?_
    | refine LCode.seq ?_
    | refine QThen.normal ?_
    | refine LOps.pure (Pure.as (lv := .atom _) rfl) rfl ?_
  refine LCode.cut [(1, ptr b1 0), (2, str []), (3, int .i64 args.length), (4, int .i64 (strengthP op))] ?_ (fun j hj => ?_)
  · refine LCode.quiet (by kernel_rfl) ?_
    repeat first
      | refine LQ.pure (Pure.fieldH rfl) rfl ?_
      | refine LQ.pure (Pure.loadH (c := .list _) rfl (List.Mem.head _) rfl) rfl ?_
      | refine LQ.pure (Pure.loadH (c := .atom _) rfl (List.Mem.head _) rfl) rfl ?_
      | refine LQ.pure (Pure.llen rfl) rfl ?_
    refine LQ.call (args := [_]) (v := .int .i64 (strengthP op)) (ret_any (strength_spec op)) rfl ?_
    repeat first
      | refine LQ.pure (Pure.as (lv := .atom _) rfl) rfl ?_
      | refine LQ.nil ?_
      | refine QThen.normal ?_
    exact ⟨⟨rfl, rfl, int_eq (by omega), rfl, trivial⟩, rfl, rfl⟩
  repeat first
    | refine LOps.nil ?_
    | refine LCode.seq ?_
    | refine LCode.region ?_
    | refine LCode.block ?_
    | refine QThen.normal ?_
    | refine LOps.pure (Pure.as (lv := .atom _) rfl) rfl ?_
    | refine LOps.pure (Pure.fieldH rfl) rfl ?_
    | refine LOps.pure (Pure.loadH (c := .atom _) rfl (List.Mem.head _) rfl) rfl ?_
    | refine LOps.pure (Pure.seq rfl rfl) rfl ?_
  refine LCode.cond rfl (fun h1 => ?_) (fun h1 => ?_)
  · have e1 : op = nNum := of_decide_eq_true h1
    rw [if_pos e1] at hF
    repeat first
      | refine LCode.seq ?_
      | refine LCode.region ?_
      | refine LOps.pure (Pure.fieldH rfl) rfl ?_
      | refine LOps.pure (Pure.loadH (c := .atom _) rfl (List.Mem.head _) rfl) rfl ?_
      | refine LOps.pure (Pure.cvt rfl) rfl ?_
    refine LOps.step (S.fn [_, _] (show _ = [int .u64 (IntKind.wrap .u64 num), int .i64 10] from rfl) (by rw [wrap_u64 (by omega)]; exact fmtUint_spec hG num (by omega)) ?_) rfl
    repeat first
      | refine LOps.nil ?_
      | refine LCode.ret ?_
      | refine QThen.normal ?_
      | refine QThen.ret ?_
      | refine QBlock.ret ?_
      | refine LOps.pure (Pure.as (lv := .atom _) rfl) rfl ?_
    exact retRet hj (AllRes.cons (ResIs.tmp (v := .atom _) rfl (LV.Sub.refl _)) AllRes.nil) (str_eq hF.symm)
  have e1 : ¬ op = nNum := of_decide_eq_false h1
  rw [if_neg e1] at hF
  repeat first
    | refine LOps.nil ?_
    | refine LCode.seq ?_
    | refine LCode.region ?_
    | refine QThen.normal ?_
    | refine LOps.pure (Pure.as (lv := .atom _) rfl) rfl ?_
    | refine LOps.pure (Pure.fieldH rfl) rfl ?_
    | refine LOps.pure (Pure.loadH (c := .atom _) rfl (List.Mem.head _) rfl) rfl ?_
    | refine LOps.pure (Pure.seq rfl rfl) rfl ?_
  refine LCode.cond rfl (fun h2 => ?_) (fun h2 => ?_)
  · have e2 : op = nVar := of_decide_eq_true h2
    rw [if_pos e2] at hF
    repeat first
      | refine LOps.nil ?_
      | refine LCode.seq ?_
      | refine LCode.region ?_
      | refine LCode.ret ?_
      | refine QThen.normal ?_
      | refine QThen.ret ?_
      | refine QBlock.ret ?_
      | refine LOps.pure (Pure.as (lv := .atom _) rfl) rfl ?_
      | refine LOps.pure (Pure.fieldH rfl) rfl ?_
      | refine LOps.pure (Pure.loadH (c := .atom _) rfl (List.Mem.head _) rfl) rfl ?_
    exact retRet hj (AllRes.cons (ResIs.tmp (v := .atom _) rfl (LV.Sub.refl _)) AllRes.nil) (str_eq hF.symm)
  have e2 : ¬ op = nVar := of_decide_eq_false h2
  rw [if_neg e2] at hF
  repeat first
    | refine LCode.seq ?_
    | refine LCode.region ?_
    | refine LOps.pure (Pure.fieldH rfl) rfl ?_
    | refine LOps.pure (Pure.loadH (c := .atom _) rfl (List.Mem.head _) rfl) rfl ?_
    | refine LOps.pure (Pure.seq rfl rfl) rfl ?_
    | refine LOps.pure (Pure.mv (lv := .atom _) rfl) rfl ?_
  refine LOps.cut [(1, ptr b1 0), (2, str []), (3, int .i64 args.length), (4, int .i64 (strengthP op)), (26, bool (decide (op = nElem ∧ args.length = 1)))] ?_ (fun j3 hj3 => ?_)
  · refine LOps.bcase 30 rfl (fun h => ?_) (fun h => ?_)
    · have h' : op = nElem := of_decide_eq_true h
      repeat first
        | refine LOps.nil ?_
        | refine QThen.normal ?_
        | refine LOps.pure (Pure.as (lv := .atom _) rfl) rfl ?_
        | refine LOps.pure (Pure.mv (lv := .atom _) rfl) rfl ?_
        | refine LOps.pure (Pure.eql rfl rfl) rfl ?_
        | refine LOps.pure (Pure.pickT (lv := .atom _) rfl rfl) rfl ?_
        | refine LOps.want rfl rfl ?_
      exact ⟨⟨rfl, rfl, rfl, rfl, bool_eq (by simp only [h', true_and]; exact decide_eq_decide.mpr (by omega)), trivial⟩, rfl, rfl⟩
    · have h' : ¬ op = nElem := of_decide_eq_false h
      repeat first
        | refine LOps.nil ?_
        | refine QThen.normal ?_
        | refine LOps.pure (Pure.as (lv := .atom _) rfl) rfl ?_
        | refine LOps.pure (Pure.pickF (lv := .atom _) rfl rfl) rfl ?_
        | refine LOps.skip rfl rfl rfl rfl ?_
      exact ⟨⟨rfl, rfl, rfl, rfl, bool_eq (by simp only [h', false_and]; rfl), trivial⟩, rfl, rfl⟩
  refine LCode.cond rfl (fun h3 => ?_) (fun h3 => ?_)
  · obtain ⟨e3, hlen⟩ : op = nElem ∧ args.length = 1 := of_decide_eq_true h3
    obtain ⟨a, rfl⟩ := List.length_eq_one_iff.mp hlen
    rw [if_pos ⟨e3, hlen⟩] at hF
    simp only [List.map_cons, List.headD_cons] at hF
    rw [hF] at hl
    simp only [List.length_append, List.length_cons, List.length_nil] at hl
    repeat first
      | refine LCode.seq ?_
    refine LCode.cut [(2, str (name ++ [91] ++ fE a ++ [93]))] ?_ (fun j4 hj4 => ?_)
    · refine LCode.quiet (by kernel_rfl) ?_
      repeat first
        | refine LQ.pure (Pure.fieldH rfl) rfl ?_
        | refine LQ.pure (Pure.loadH (c := .list _) rfl (List.Mem.head _) rfl) rfl ?_
        | refine LQ.pure (Pure.loadH (c := .atom _) rfl (List.Mem.head _) rfl) rfl ?_
        | refine LQ.pure (Pure.sadd rfl rfl (by simp only [List.length_append, List.length_cons, List.length_nil]; omega)) rfl ?_
      refine LQ.pure (Pure.ixRef (el' := encE a) (cs := [_, _, _, _]) rfl rfl (by omega) rfl rfl rfl) rfl ?_
      repeat first
        | refine LQ.pure (Pure.ldRefAgg (cs' := [_, _, _, _]) rfl rfl rfl) rfl ?_
      refine LQ.call (args := [_]) (v := .string ⟨(fE a).toArray⟩) (ret_any (he a (List.mem_singleton.mpr rfl) (by omega))) rfl ?_
      repeat first
        | refine LQ.pure (Pure.as (lv := .atom _) rfl) rfl ?_
        | refine LQ.pure (Pure.sadd rfl rfl (by simp only [List.length_append, List.length_cons, List.length_nil]; omega)) rfl ?_
        | refine LQ.nil ?_
        | refine QThen.normal ?_
      exact ⟨⟨rfl, trivial⟩, rfl, rfl⟩
    repeat first
      | refine LCode.ret ?_
      | refine QThen.ret ?_
      | refine QBlock.ret ?_
    exact retRet (hj4.trans (hj3.trans hj)) (AllRes.cons (ResIs.tmp (v := .atom _) rfl (LV.Sub.refl _)) AllRes.nil) (str_eq hF.symm)
  have e3 : ¬ (op = nElem ∧ args.length = 1) := of_decide_eq_false h3
  rw [if_neg e3] at hF
  repeat first
    | refine LOps.nil ?_
    | refine LCode.seq ?_
    | refine LCode.region ?_
    | refine QThen.normal ?_
    | refine LOps.pure (Pure.as (lv := .atom _) rfl) rfl ?_
    | refine LOps.pure (Pure.fieldH rfl) rfl ?_
    | refine LOps.pure (Pure.loadH (c := .atom _) rfl (List.Mem.head _) rfl) rfl ?_
    | refine LOps.pure (Pure.seq rfl rfl) rfl ?_
  refine LCode.cond rfl (fun h4 => ?_) (fun h4 => ?_)
  · have e4 : op = nCall := of_decide_eq_true h4
    rw [if_pos e4] at hF
    have hmm : List.map ((fun x => x.snd) ∘ fun e => (exOp e, fE e)) args = args.map fE := rfl
    rw [hmm] at hF
    rw [hF] at hl
    simp only [List.length_append, List.length_cons, List.length_nil] at hl
    repeat first
      | refine LCode.seq ?_
    refine LCode.cut [(2, str (name ++ [40] ++ Go.Lib.join (args.map fE) comSp ++ [41]))] ?_ (fun j4 hj4 => ?_)
    · refine LCode.quiet (by kernel_rfl) ?_
      repeat first
        | refine LQ.pure (Pure.fieldH rfl) rfl ?_
        | refine LQ.pure (Pure.loadH (c := .list _) rfl (List.Mem.head _) rfl) rfl ?_
        | refine LQ.pure (Pure.loadH (c := .atom _) rfl (List.Mem.head _) rfl) rfl ?_
        | refine LQ.pure (Pure.sadd rfl rfl (by simp only [List.length_append, List.length_cons, List.length_nil]; omega)) rfl ?_
      refine LQ.call (args := [_]) (v := .string ⟨(Go.Lib.join (args.map fE) comSp).toArray⟩) (ret_any (list_spec args hn (by omega) fun e he' => he e he' (by have := join_mem comSp (List.mem_map_of_mem (f := fE) he'); omega))) rfl ?_
      repeat first
        | refine LQ.pure (Pure.as (lv := .atom _) rfl) rfl ?_
        | refine LQ.pure (Pure.sadd rfl rfl (by simp only [List.length_append, List.length_cons, List.length_nil]; omega)) rfl ?_
        | refine LQ.nil ?_
        | refine QThen.normal ?_
      exact ⟨⟨rfl, trivial⟩, rfl, rfl⟩
    repeat first
      | refine LCode.ret ?_
      | refine QThen.ret ?_
      | refine QBlock.ret ?_
    exact retRet (hj4.trans (hj3.trans hj)) (AllRes.cons (ResIs.tmp (v := .atom _) rfl (LV.Sub.refl _)) AllRes.nil) (str_eq hF.symm)
  have e4 : ¬ op = nCall := of_decide_eq_false h4
  rw [if_neg e4] at hF
  repeat first
    | refine LCode.seq ?_
    | refine LCode.region ?_
    | refine LOps.pure (Pure.fieldH rfl) rfl ?_
    | refine LOps.pure (Pure.loadH (c := .atom _) rfl (List.Mem.head _) rfl) rfl ?_
    | refine LOps.pure (Pure.seq rfl rfl) rfl ?_
    | refine LOps.pure (Pure.mv (lv := .atom _) rfl) rfl ?_
  refine LOps.cut [(1, ptr b1 0), (2, str []), (3, int .i64 args.length), (4, int .i64 (strengthP op)), (56, bool (decide (op = nNeg ∧ args.length = 1)))] ?_ (fun j5 hj5 => ?_)
  · refine LOps.bcase 60 rfl (fun h => ?_) (fun h => ?_)
    · have h' : op = nNeg := of_decide_eq_true h
      repeat first
        | refine LOps.nil ?_
        | refine QThen.normal ?_
        | refine LOps.pure (Pure.as (lv := .atom _) rfl) rfl ?_
        | refine LOps.pure (Pure.mv (lv := .atom _) rfl) rfl ?_
        | refine LOps.pure (Pure.eql rfl rfl) rfl ?_
        | refine LOps.pure (Pure.pickT (lv := .atom _) rfl rfl) rfl ?_
        | refine LOps.want rfl rfl ?_
      exact ⟨⟨rfl, rfl, rfl, rfl, bool_eq (by simp only [h', true_and]; exact decide_eq_decide.mpr (by omega)), trivial⟩, rfl, rfl⟩
    · have h' : ¬ op = nNeg := of_decide_eq_false h
      repeat first
        | refine LOps.nil ?_
        | refine QThen.normal ?_
        | refine LOps.pure (Pure.as (lv := .atom _) rfl) rfl ?_
        | refine LOps.pure (Pure.pickF (lv := .atom _) rfl rfl) rfl ?_
        | refine LOps.skip rfl rfl rfl rfl ?_
      exact ⟨⟨rfl, rfl, rfl, rfl, bool_eq (by simp only [h', false_and]; rfl), trivial⟩, rfl, rfl⟩
  refine LCode.cond rfl (fun h5 => ?_) (fun h5 => ?_)
  · obtain ⟨e5, hlen⟩ : op = nNeg ∧ args.length = 1 := of_decide_eq_true h5
    obtain ⟨a, rfl⟩ := List.length_eq_one_iff.mp hlen
    rw [if_pos ⟨e5, hlen⟩] at hF
    simp only [List.map_cons, List.headD_cons] at hF
    rw [hF] at hl
    simp only [List.length_append, List.length_cons, List.length_nil] at hl
    have hol := opnd_len (exOp a, fE a) (strengthP op)
    simp only at hol
    repeat first
      | refine LCode.seq ?_
      | refine LCode.region ?_
      | refine LOps.pure (Pure.fieldH rfl) rfl ?_
      | refine LOps.pure (Pure.loadH (c := .list _) rfl (List.Mem.head _) rfl) rfl ?_
    refine LOps.pure (Pure.ixRef (el' := encE a) (cs := [_, _, _, _]) rfl rfl (by omega) rfl rfl rfl) rfl ?_
    repeat first
      | refine LOps.pure (Pure.mv (lv := .atom _) rfl) rfl ?_
      | refine LOps.pure (Pure.ldRefAgg (cs' := [_, _, _, _]) rfl rfl rfl) rfl ?_
    refine LOps.step (S.fn [_, _] rfl (operand_spec a (strengthP op) (by omega) (he a (List.mem_singleton.mpr rfl) (by omega))) ?_) rfl
    repeat first
      | refine LOps.nil ?_
      | refine LCode.ret ?_
      | refine QThen.normal ?_
      | refine QThen.ret ?_
      | refine QBlock.ret ?_
      | refine LOps.pure (Pure.as (lv := .atom _) rfl) rfl ?_
      | refine LOps.pure (Pure.sadd rfl rfl (by simp only [List.length_append, List.length_cons, List.length_nil]; omega)) rfl ?_
    exact retRet (hj5.trans (hj3.trans hj)) (AllRes.cons (ResIs.tmp (v := .atom _) rfl (LV.Sub.refl _)) AllRes.nil) (str_eq hF.symm)
  have e5 : ¬ (op = nNeg ∧ args.length = 1) := of_decide_eq_false h5
  rw [if_neg e5] at hF
  repeat first
    | refine LCode.seq ?_
    | refine LCode.region ?_
    | refine LOps.pure (Pure.fieldH rfl) rfl ?_
    | refine LOps.pure (Pure.loadH (c := .atom _) rfl (List.Mem.head _) rfl) rfl ?_
    | refine LOps.pure (Pure.seq rfl rfl) rfl ?_
    | refine LOps.pure (Pure.mv (lv := .atom _) rfl) rfl ?_
  refine LOps.cut [(1, ptr b1 0), (2, str []), (3, int .i64 args.length), (4, int .i64 (strengthP op)), (71, bool (decide (op = nNot ∧ args.length = 1)))] ?_ (fun j6 hj6 => ?_)
  · refine LOps.bcase 75 rfl (fun h => ?_) (fun h => ?_)
    · have h' : op = nNot := of_decide_eq_true h
      repeat first
        | refine LOps.nil ?_
        | refine QThen.normal ?_
        | refine LOps.pure (Pure.as (lv := .atom _) rfl) rfl ?_
        | refine LOps.pure (Pure.mv (lv := .atom _) rfl) rfl ?_
        | refine LOps.pure (Pure.eql rfl rfl) rfl ?_
        | refine LOps.pure (Pure.pickT (lv := .atom _) rfl rfl) rfl ?_
        | refine LOps.want rfl rfl ?_
      exact ⟨⟨rfl, rfl, rfl, rfl, bool_eq (by simp only [h', true_and]; exact decide_eq_decide.mpr (by omega)), trivial⟩, rfl, rfl⟩
    · have h' : ¬ op = nNot := of_decide_eq_false h
      repeat first
        | refine LOps.nil ?_
        | refine QThen.normal ?_
        | refine LOps.pure (Pure.as (lv := .atom _) rfl) rfl ?_
        | refine LOps.pure (Pure.pickF (lv := .atom _) rfl rfl) rfl ?_
        | refine LOps.skip rfl rfl rfl rfl ?_
      exact ⟨⟨rfl, rfl, rfl, rfl, bool_eq (by simp only [h', false_and]; rfl), trivial⟩, rfl, rfl⟩
  refine LCode.cond rfl (fun h6 => ?_) (fun h6 => ?_)
  · obtain ⟨e6, hlen⟩ : op = nNot ∧ args.length = 1 := of_decide_eq_true h6
    obtain ⟨a, rfl⟩ := List.length_eq_one_iff.mp hlen
    rw [if_pos ⟨e6, hlen⟩] at hF
    simp only [List.map_cons, List.headD_cons] at hF
    rw [hF] at hl
    simp only [List.length_append, List.length_cons, List.length_nil] at hl
    have hol := opnd_len (exOp a, fE a) (strengthP op)
    simp only at hol
    repeat first
      | refine LCode.seq ?_
      | refine LCode.region ?_
      | refine LOps.pure (Pure.fieldH rfl) rfl ?_
      | refine LOps.pure (Pure.loadH (c := .list _) rfl (List.Mem.head _) rfl) rfl ?_
    refine LOps.pure (Pure.ixRef (el' := encE a) (cs := [_, _, _, _]) rfl rfl (by omega) rfl rfl rfl) rfl ?_
    repeat first
      | refine LOps.pure (Pure.mv (lv := .atom _) rfl) rfl ?_
      | refine LOps.pure (Pure.ldRefAgg (cs' := [_, _, _, _]) rfl rfl rfl) rfl ?_
    refine LOps.step (S.fn [_, _] rfl (operand_spec a (strengthP op) (by omega) (he a (List.mem_singleton.mpr rfl) (by omega))) ?_) rfl
    repeat first
      | refine LOps.nil ?_
      | refine LCode.ret ?_
      | refine QThen.normal ?_
      | refine QThen.ret ?_
      | refine QBlock.ret ?_
      | refine LOps.pure (Pure.as (lv := .atom _) rfl) rfl ?_
      | refine LOps.pure (Pure.sadd rfl rfl (by simp only [List.length_append, List.length_cons, List.length_nil]; omega)) rfl ?_
    exact retRet (hj6.trans (hj5.trans (hj3.trans hj))) (AllRes.cons (ResIs.tmp (v := .atom _) rfl (LV.Sub.refl _)) AllRes.nil) (str_eq hF.symm)
  have e6 : ¬ (op = nNot ∧ args.length = 1) := of_decide_eq_false h6
  rw [if_neg e6] at hF
  repeat first
    | refine LOps.nil ?_
    | refine LCode.seq ?_
    | refine LCode.region ?_
    | refine QThen.normal ?_
    | refine LOps.pure (Pure.as (lv := .atom _) rfl) rfl ?_
    | refine LOps.pure (Pure.mv (lv := .atom _) rfl) rfl ?_
    | refine LOps.pure (Pure.eql rfl rfl) rfl ?_
  refine LCode.cond rfl (fun h7 => ?_) (fun h7 => ?_)
  · have e7 : args.length = 2 := by have := of_decide_eq_true h7; omega
    obtain ⟨a, b, rfl⟩ : ∃ a b, args = [a, b] := by
      match args, e7 with
      | [a, b], _ => exact ⟨a, b, rfl⟩
    rw [if_pos e7] at hF
    simp only [List.map_cons, List.headD_cons, List.tail_cons] at hF
    rw [hF] at hl
    simp only [List.length_append, List.length_cons, List.length_nil] at hl
    have hola := opnd_len (exOp a, fE a) (leftLv (strengthP op))
    have holb := opnd_len (exOp b, fE b) (strengthP op + 1)
    have hs7 := strengthP_le op
    simp only at hola holb
    have sa := operand_spec a (leftLv (strengthP op)) (by omega) (he a (by simp) (by omega))
    have sb := operand_spec b (strengthP op + 1) (by omega) (he b (by simp) (by omega))
    repeat first
      | refine LOps.nil ?_
      | refine LCode.seq ?_
      | refine LCode.region ?_
      | refine QThen.normal ?_
      | refine LOps.pure (Pure.as (lv := .atom _) rfl) rfl ?_
      | refine LOps.pure (Pure.mv (lv := .atom _) rfl) rfl ?_
      | refine LOps.pure (Pure.eql rfl rfl) rfl ?_
    refine LCode.cut [(1, ptr b1 0), (2, str []), (4, int .i64 (strengthP op)), (5, int .i64 (leftLv (strengthP op)))] ?_ (fun j7 hj7 => ?_)
    · refine LCode.cond rfl (fun h8 => ?_) (fun h8 => ?_)
      · have h8' : strengthP op = 2 := by have := of_decide_eq_true h8; omega
        repeat first
          | refine LOps.nil ?_
          | refine LCode.region ?_
          | refine QThen.normal ?_
          | refine LOps.pure (Pure.as (lv := .atom _) rfl) rfl ?_
          | refine LOps.pure (Pure.mv (lv := .atom _) rfl) rfl ?_
          | refine LOps.pure (Pure.add rfl rfl (by omega)) rfl ?_
        exact ⟨⟨rfl, rfl, rfl, int_eq (by rw [leftLv, if_pos h8']; omega), trivial⟩, rfl, rfl⟩
      · have h8' : ¬ strengthP op = 2 := by have := of_decide_eq_false h8; omega
        repeat first
          | refine LCode.skip ?_
          | refine QThen.normal ?_
        exact ⟨⟨rfl, rfl, rfl, int_eq (by rw [leftLv, if_neg h8']), trivial⟩, rfl, rfl⟩
    repeat first
      | refine LCode.seq ?_
    refine LCode.cut [(2, str (opnd (exOp a, fE a) (leftLv (strengthP op)) ++ [32] ++ op ++ [32] ++ opnd (exOp b, fE b) (strengthP op + 1)))] ?_ (fun j8 hj8 => ?_)
    · refine LCode.quiet (by kernel_rfl) ?_
      repeat first
        | refine LQ.pure (Pure.fieldH rfl) rfl ?_
        | refine LQ.pure (Pure.loadH (c := .list _) rfl (List.Mem.head _) rfl) rfl ?_
      refine LQ.pure (Pure.ixRef (el' := encE a) (cs := [_, _, _, _]) rfl rfl (by omega) rfl rfl rfl) rfl ?_
      repeat first
        | refine LQ.pure (Pure.mv (lv := .atom _) rfl) rfl ?_
        | refine LQ.pure (Pure.ldRefAgg (cs' := [_, _, _, _]) rfl rfl rfl) rfl ?_
      refine LQ.call (args := [_, _]) (v := .string ⟨(opnd (exOp a, fE a) (leftLv (strengthP op))).toArray⟩) (ret_any sa) rfl ?_
      repeat first
        | refine LQ.pure (Pure.fieldH rfl) rfl ?_
        | refine LQ.pure (Pure.loadH (c := .list _) rfl (List.Mem.head _) rfl) rfl ?_
        | refine LQ.pure (Pure.loadH (c := .atom _) rfl (List.Mem.head _) rfl) rfl ?_
        | refine LQ.pure (Pure.sadd rfl rfl (by simp only [List.length_append, List.length_cons, List.length_nil]; omega)) rfl ?_
      refine LQ.pure (Pure.ixRef (el' := encE b) (cs := [_, _, _, _]) rfl rfl (by omega) rfl rfl rfl) rfl ?_
      repeat first
        | refine LQ.pure (Pure.mv (lv := .atom _) rfl) rfl ?_
        | refine LQ.pure (Pure.ldRefAgg (cs' := [_, _, _, _]) rfl rfl rfl) rfl ?_
        | refine LQ.pure (Pure.add rfl rfl (by omega)) rfl ?_
      refine LQ.call (args := [_, _]) (v := .string ⟨(opnd (exOp b, fE b) (strengthP op + 1)).toArray⟩) (ret_any (by
        have e9 : int .i64 ((strengthP op : Int) + 1) = int .i64 ((strengthP op + 1 : Nat) : Int) := int_eq (by omega)
        rw [← e9] at sb
        exact sb)) rfl ?_
      repeat first
        | refine LQ.pure (Pure.as (lv := .atom _) rfl) rfl ?_
        | refine LQ.pure (Pure.sadd rfl rfl (by simp only [List.length_append, List.length_cons, List.length_nil]; omega)) rfl ?_
        | refine LQ.nil ?_
        | refine QThen.normal ?_
      exact ⟨⟨rfl, trivial⟩, rfl, rfl⟩
    repeat first
      | refine LCode.ret ?_
      | refine QThen.ret ?_
      | refine QBlock.ret ?_
    exact retRet (hj8.trans (hj7.trans (hj6.trans (hj5.trans (hj3.trans hj))))) (AllRes.cons (ResIs.tmp (v := .atom _) rfl (LV.Sub.refl _)) AllRes.nil) (str_eq hF.symm)
  · have e7 : ¬ args.length = 2 := by have := of_decide_eq_false h7; omega
    rw [if_neg e7] at hF
    repeat first
      | refine LOps.nil ?_
      | refine LCode.seq ?_
      | refine LCode.region ?_
      | refine LCode.skip ?_
      | refine LCode.ret ?_
      | refine QThen.normal ?_
      | refine QBlock.normal ?_
      | refine LOps.pure (Pure.as (lv := .atom _) rfl) rfl ?_
    exact retRet (hj6.trans (hj5.trans (hj3.trans hj))) (AllRes.cons (ResIs.tmp (v := .atom _) rfl (LV.Sub.refl _)) AllRes.nil) (str_eq hF.symm)
mutual
def okE : Ex → Prop
  | .mk _ num _ args => num < 4294967296 ∧ args.length ≤ 1000000000 ∧ okEs args
def okEs : List Ex → Prop
  | [] => True
  | e :: r => okE e ∧ okEs r
end
theorem okEs_mem : ∀ {l : List Ex} {e : Ex}, okEs l → e ∈ l → okE e
  | e :: r, x, h, hx => by
    rw [okEs] at h
    rcases List.mem_cons.mp hx with hx | hx
    · exact hx ▸ h.1
    · exact okEs_mem h.2 hx
theorem fexpr_spec (hG : GW B0 w0) : ∀ (n : Nat) (e : Ex), nEx e ≤ n → okE e → (fE e).length ≤ 1000000000 → LCalls (KC B0 w0) 118 [encE e] [] (Ret (str (fE e))) := by
  intro n
  induction n with
  | zero =>
    intro e hn
    obtain ⟨op, num, name, args⟩ := e
    rw [nEx] at hn
    omega
  | succ n ih =>
    intro e hn hk hl
    obtain ⟨op, num, name, args⟩ := e
    rw [nEx] at hn
    rw [okE] at hk
    exact expr_node hG op num name args hk.1 hk.2.1 hl fun e he hle => ih e (by have := nExs_mem he; omega) (okEs_mem hk.2.2 he) hle
end
end Go.Proofs.YtfodkbchknknjaaGreatDoor
namespace Go.GL
open Go.RowKit
section
variable {C : Ctx} {e : Env} {H : Heap} {x y : Operand} {dst : Option Nat} {ty : TypeId} {pos : String} {aft : Array Edge} {g : Option (Nat × Bool)} {K : LV → Heap → Prop} {X : List PanicEntry → Heap → Prop}
def byts (l : List UInt8) : List LV := l.map fun b => int .u8 b.toNat
theorem byts_len (l : List UInt8) : (byts l).length = l.length := List.length_map _
theorem byts_app (l m : List UInt8) : byts (l ++ m) = byts l ++ byts m := List.map_append
theorem byts_size (l : List UInt8) : ∀ v ∈ byts l, v.cells.length = 1 := by
  intro v hv
  obtain ⟨b, _, rfl⟩ := List.mem_map.1 hv
  rfl
theorem byts_flat (l : List UInt8) : (byts l).flatMap LV.cells = byts l := by
  induction l with
  | nil => rfl
  | cons b l ih =>
    have h : byts (b :: l) = int .u8 b.toNat :: byts l := rfl
    rw [h, List.flatMap_cons, ih]
    rfl
def bytV (l : List UInt8) : List Value := l.map fun b => .int .u8 b.toNat
theorem byts_rep {w : World} {L : Live} : ∀ l : List UInt8, RepL w L (byts l) (bytV l)
  | [] => by simp [byts, bytV, RepL]
  | b :: l => by
    show RepL w L (int .u8 b.toNat :: byts l) (.int .u8 b.toNat :: bytV l)
    simp only [RepL]
    exact ⟨_, _, rfl, rep_atom, byts_rep l⟩
theorem bytV_flat (l : List UInt8) : ∀ v ∈ bytV l, (∀ cs, v ≠ Value.agg cs) ∧ (∀ cs, v ≠ Value.tuple cs) := by
  intro v hv
  obtain ⟨b, _, rfl⟩ := List.mem_map.1 hv
  exact And.intro (fun _ h => by cases h) (fun _ h => by cases h)
theorem first_str {P : Program} (l : List UInt8) (w' : World) : (Builtin.firstCells 1 l.length (.string ⟨l.toArray⟩)).run P w' = .ok (bytV l).toArray w' := by
  have := Go.Lib.run_firstCells_string (P := P) w' 1 ⟨l.toArray⟩
  rw [size_mk] at this
  rw [this]
  rfl
theorem S.appS {sT xT el bytes : Nat} [ht : TSlice C.P sT el 1] [hr : TRow C.P el 1 bytes] [hx2 : TStr C.P xT] {v : LV} {l m : List UInt8} {F : Heap}
    (hx : e.ev x = v) (ha : Acc 1 v (byts l) H F) (hy : e.ev y = str m) (hroom : (l.length + m.length) * bytes ≤ 140737488355328)
    (hk : ∀ v' H', Acc 1 v' (byts (l ++ m)) H' F → K v' H') : LStep C ⟨dst, .call { callee := .builtin .append, args := #[x, y], argTypes := #[sT, xT] }, ty, pos, aft, g⟩ e H K X := by
  have h0 : ∀ (cs : Array Bool) (args : Array Value), builtin .append #[sT, xT] ty cs args = (do Pure.pure (.value (← Builtin.append_ #[sT, xT] ty args))) := fun _ _ => rfl
  generalize he : byts l = es at ha
  have hel : es.length = l.length := by rw [← he, byts_len]
  cases ha with
  | nil =>
    have hl : l = [] := List.eq_nil_of_length_eq_zero (by rw [← hel]; rfl)
    subst hl
    by_cases hne : m = []
    · subst hne
      intro ρ w L h hH
      have hr : (Builtin.append_ #[sT, xT] ty #[.slice none 0 0, .string ⟨#[]⟩]).run C.P w = .ok (.slice none 0 0) w := by
        obtain ⟨i, hi, his⟩ := ht.size
        have hf := first_str (P := C.P) [] w
        simp only [List.length_nil] at hf
        simp [Builtin.append_, run_underlying' ht.und, run_underlying' hx2.und, sizeOf, typeInfo, hi, Builtin.lenOf, Builtin.firstCells, show (ByteArray.mk #[]).size = 0 from rfl, show ((ByteArray.mk #[]).extract 0 0).data = #[] from rfl]
      rw [execOp_builtin', h0]
      simp only [List.map_toArray, List.map_cons, List.map_nil, Sem.run_bind, atom_of h hx, atom_of h hy, hr, Result.andThen_ok, Sem.run_pure]
      exact ⟨_, H, L, Fr.refl _ _ _, hH, rep_atom, hk _ _ Acc.nil⟩
    · refine LStep.at0 fun ρ w L h hH => ?_
      have hpos : 0 < m.length := List.length_pos_iff.2 hne
      obtain ⟨cap', rest, r1, r2, r3⟩ := run_append_new (ty := ty) (P := C.P) (w := w) (sT := sT) (xT := xT) (a := none) (len := 0) (cap := 0) (n := m.length) (xv := .string ⟨m.toArray⟩) (old := []) (new := bytV m) (.inl hx2.und) (fun w' => by simp [Builtin.lenOf, size_mk]) (fun w' _ => first_str m w')
        (fun w' _ => by simp [Builtin.firstCells]) (by simpa using hroom) (by omega)
      rw [execOp_builtin', h0]
      simp only [List.map_toArray, List.map_cons, List.map_nil, Sem.run_bind, atom_of h hx, atom_of h hy, r3, Result.andThen_ok, Sem.run_pure, List.nil_append, Nat.zero_add]
      obtain ⟨lv, H', L', g1, g2, g3, g4⟩ := left_newRowC (K := fun lv H' => K lv (H' ++ H)) (t := el) (s := 1) (es := byts m) (xs := bytV m) (cap := cap') (rest := rest) hH.drew (by rw [byts_flat]; exact byts_rep m) (byts_size m) (by rw [byts_len]; omega) (by
        rw [r2, byts_len]
        omega) (fun b => hk _ _ Acc.row)
      rw [byts_len] at g3
      exact ⟨lv, H', L', g1.of_drew, g2, g3, g4⟩
  | row =>
    rename_i b cap
    refine LStep.at1 Pick.here fun ρ w L h hH => ?_
    have hsv := h x
    rw [hx] at hsv
    have hxv : ρ x = .slice (some ⟨b, 0, none⟩) es.length cap := by
      have h' := hsv
      simp only [Rep] at h'
      exact h'.1
    rw [hxv] at hsv
    obtain ⟨v, w', r1, r2⟩ := left_append (ty := ty) (K := fun lv H' => K lv (H' ++ F)) (sT := sT) (xT := xT) (.inl hx2.und) hH hsv (xv := .string ⟨m.toArray⟩) (ms := byts m) (new := bytV m) (fun w' => by rw [byts_len]; simp [Builtin.lenOf, size_mk]) (fun w' _ => by rw [byts_len]; exact first_str m w')
      (by rw [byts_flat]; exact byts_rep m) (byts_size m) (bytV_flat m) (by rw [hel, byts_len]; exact hroom) (fun b' cap' => hk _ _ (by rw [byts_app, he]; exact Acc.row))
    rw [execOp_builtin', h0]
    simp only [List.map_toArray, List.map_cons, List.map_nil, Sem.run_bind, hxv, atom_of h hy, r1, Result.andThen_ok, Sem.run_pure]
    exact r2
theorem S.appS1 {sT xT el bytes : Nat} [ht : TSlice C.P sT el 1] [hr : TRow C.P el 1 bytes] [hx2 : TStr C.P xT] {v : LV} {l m : List UInt8} {H1 F : Heap} {q : Nat × LObj}
    (hx : e.ev x = v) (ha : Acc 1 v (byts l) H1 F) (hy : e.ev y = str m) (hroom : (l.length + m.length) * bytes ≤ 140737488355328)
    (hk : ∀ v' H', Acc 1 v' (byts (l ++ m)) H' F → K v' (q :: H')) : LStep C ⟨dst, .call { callee := .builtin .append, args := #[x, y], argTypes := #[sT, xT] }, ty, pos, aft, g⟩ e (q :: H1) K X := by
  refine LStep.conseq (K := fun lv H' => ∃ H2, H' = H2 ++ [q] ∧ Acc 1 lv (byts (l ++ m)) H2 F) (LStep.frame (List.perm_append_singleton _ _).symm (S.appS hx ha hy hroom fun v' H' h => ⟨H', rfl, h⟩)) ?_
  rintro lv H' ⟨H2, rfl, h⟩
  exact ⟨lv, [q] ++ H2, LV.Sub.refl _, ⟨[], by simpa using List.perm_append_comm⟩, hk _ _ h⟩
/-! ### A buffer whose cells are all known: it can be frozen -/
theorem repL_atoms_eq {w : World} {L : Live} : ∀ {zs xs : List Value}, RepL w L (zs.map .atom) xs → xs = zs
  | [], _, h => by simpa only [List.map_nil, RepL] using h
  | z :: zs, xs, h => by
    simp only [List.map_cons, RepL] at h
    obtain ⟨y, ys, rfl, h1, h2⟩ := h
    simp only [Rep] at h1
    rw [h1, repL_atoms_eq h2]
/-- A row of bytes that holds l, at the slice v. -/
inductive BRow (el : TypeId) : Value → List UInt8 → Heap → Prop
  | nil : BRow el (.slice none 0 0) [] []
  | row {b : Nat} {l : List UInt8} {xs : List Value} (h0 : l ≠ []) (h1 : l.length ≤ xs.length) (h2 : xs.take l.length = bytV l) : BRow el (.slice (some ⟨b, 0, none⟩) l.length xs.length) l [(b, .cells el (xs.map .atom))]
theorem bytV_len (l : List UInt8) : (bytV l).length = l.length := List.length_map _
theorem bytV_app (l m : List UInt8) : bytV (l ++ m) = bytV l ++ bytV m := List.map_append
theorem left_newB {w : World} {L : Live} (hH : RelH C w L []) {el : TypeId} {l : List UInt8} {xs : List Value} (h0 : l ≠ []) (h1 : l.length ≤ xs.length) (h2 : xs.take l.length = bytV l) (hk : ∀ v' H', BRow el v' l H' → K (.atom v') H') :
    Left C w L [] (World.push w (.cells xs.toArray el)) (.slice (some ⟨w.heap.size, 0, none⟩) l.length xs.length) K := by
  have hx := ext_push hH.wf (.cells xs.toArray el) 0
  have := fr_push hH (.cells xs.toArray el) 0 [(w.heap.size, .cells el (xs.map .atom))] (fun p hp => by
    simp only [List.mem_singleton] at hp
    subst hp
    exact ⟨rfl, by simp [Live.upd], xs, heap_push_self, repL_atoms xs⟩) (by simp)
  exact ⟨.atom _, _, _, this.1, this.2, rep_atom, hk _ _ (BRow.row h0 h1 h2)⟩
theorem LStep.appB {sT xT el bytes : Nat} [ht : TSlice C.P sT el 1] [hr : TRow C.P el 1 bytes] [hx2 : TStr C.P xT] {v : Value} {l m : List UInt8}
    (hx : e.ev x = .atom v) (ha : BRow el v l H) (hy : e.ev y = str m) (hroom : (l.length + m.length) * bytes ≤ 140737488355328)
    (hk : ∀ v' H', BRow el v' (l ++ m) H' → K (.atom v') H') : LStep C ⟨dst, .call { callee := .builtin .append, args := #[x, y], argTypes := #[sT, xT] }, ty, pos, aft, g⟩ e H K X := by
  have h0 : ∀ (cs : Array Bool) (args : Array Value), builtin .append #[sT, xT] ty cs args = (do Pure.pure (.value (← Builtin.append_ #[sT, xT] ty args))) := fun _ _ => rfl
  have hlen : ∀ w' : World, (Builtin.lenOf (.string ⟨m.toArray⟩)).run C.P w' = .ok m.length w' := fun w' => by simp [Builtin.lenOf, size_mk]
  cases ha with
  | nil =>
    by_cases hne : m = []
    · subst hne
      intro ρ w L h hH
      have hr : (Builtin.append_ #[sT, xT] ty #[.slice none 0 0, .string ⟨#[]⟩]).run C.P w = .ok (.slice none 0 0) w := by
        obtain ⟨i, hi, his⟩ := ht.size
        simp [Builtin.append_, run_underlying' ht.und, run_underlying' hx2.und, sizeOf, typeInfo, hi, Builtin.lenOf, Builtin.firstCells, show (ByteArray.mk #[]).size = 0 from rfl, show ((ByteArray.mk #[]).extract 0 0).data = #[] from rfl]
      rw [execOp_builtin', h0]
      simp only [List.map_toArray, List.map_cons, List.map_nil, Sem.run_bind, atom_of h hx, atom_of h hy, hr, Result.andThen_ok, Sem.run_pure]
      exact ⟨_, [], L, Fr.refl _ _ _, hH, rep_atom, hk _ _ BRow.nil⟩
    · intro ρ w L h hH
      have hpos : 0 < m.length := List.length_pos_iff.2 hne
      obtain ⟨cap', rest, r1, r2, r3⟩ := run_append_new (ty := ty) (P := C.P) (w := w) (sT := sT) (xT := xT) (a := none) (len := 0) (cap := 0) (n := m.length) (xv := .string ⟨m.toArray⟩) (old := []) (new := bytV m) (.inl hx2.und) hlen (fun w' _ => first_str m w')
        (fun w' _ => by simp [Builtin.firstCells]) (by simpa using hroom) (by omega)
      rw [execOp_builtin', h0]
      simp only [List.map_toArray, List.map_cons, List.map_nil, Sem.run_bind, atom_of h hx, atom_of h hy, r3, Result.andThen_ok, Sem.run_pure, List.nil_append, Nat.zero_add]
      have hcl : (bytV m ++ rest).length = cap' := by rw [List.length_append, r2, bytV_len]; omega
      obtain ⟨lv, H', L', g1, g2, g3, g4⟩ := left_newB (K := K) (el := el) (l := m) (xs := bytV m ++ rest) hH.drew hne (by rw [hcl]; omega) (by rw [List.take_left' (bytV_len m)]) (fun v' H' h' => hk v' H' h')
      rw [hcl] at g3
      exact ⟨lv, H', L', g1.of_drew, g2, g3, g4⟩
  | row hne h1 h2 =>
    rename_i b xs
    intro ρ w L h hH
    obtain ⟨hb0, hbs, hl, zs, hz1, hz2⟩ := hH.objs _ (List.mem_singleton.2 rfl)
    have hz := repL_atoms_eq hz2
    subst hz
    simp only at hb0 hbs hl hz1
    rw [execOp_builtin', h0]
    simp only [List.map_toArray, List.map_cons, List.map_nil, Sem.run_bind, atom_of h hx, atom_of h hy]
    by_cases hc : l.length + m.length ≤ zs.length
    · have hrun := run_append_in (ty := ty) (P := C.P) (w := w) (sT := sT) (xT := xT) (s := 1) (a := some ⟨b, 0, none⟩) (len := l.length) (cap := zs.length) (n := m.length) (xv := .string ⟨m.toArray⟩) (new := bytV m) (.inl hx2.und) hlen (fun w' _ => first_str m w') hc
      obtain ⟨w', r1, r2, r3, r4, r5, r6, r7⟩ := storeCells_run (P := C.P) (b := b) (off := 0 + l.length * 1) (t := el) (fr := (0, 0)) (bytV m) 0 w zs hz1 (by rw [bytV_len]; omega) (fun j _ _ => by simp) (bytV_flat m)
      rw [hrun]
      simp only [add_mk, r1, Result.andThen_ok, Sem.run_pure]
      have hx' : (zs.take (0 + l.length * 1 + 0) ++ bytV m ++ zs.drop (0 + l.length * 1 + 0 + (bytV m).length)).length = zs.length := by
        simp only [List.length_append, List.length_take, List.length_drop, bytV_len]
        omega
      have hfin := left_write (v := .slice (some ⟨b, 0, none⟩) (l.length + m.length) zs.length) (lv := .atom (.slice (some ⟨b, 0, none⟩) (l.length + m.length) zs.length)) (K := K) (cs' := (zs.take (0 + l.length * 1 + 0) ++ bytV m ++ zs.drop (0 + l.length * 1 + 0 + (bytV m).length)).map .atom) hH r2 r3 r4 r5 r6 r7 (by rw [hx', List.length_map]) (repL_atoms _) rep_atom (by
        have hb : BRow el (.slice (some ⟨b, 0, none⟩) (l ++ m).length (zs.take (0 + l.length * 1 + 0) ++ bytV m ++ zs.drop (0 + l.length * 1 + 0 + (bytV m).length)).length) (l ++ m) _ := BRow.row (b := b) (el := el) (by simp [hne]) (by rw [hx', List.length_append]; exact hc) (by
          have he : 0 + l.length * 1 + 0 = l.length := by omega
          rw [he, h2, ← bytV_app, List.take_left' (bytV_len _)])
        rw [hx', List.length_append] at hb
        exact hk _ _ hb)
      exact hfin
    · have hold : ∀ w' : World, w'.heap = w.heap → (Builtin.firstCells 1 l.length (.slice (some ⟨b, 0, none⟩) l.length zs.length)).run C.P w' = .ok (bytV l).toArray w' := fun w' hw => by
        have := loadCellsFrom_run (P := C.P) (w := w') (b := b) (off := 0) l.length 0 #[] (bytV l) (bytV_len l) (fun j x' hj => by
          have hj' : zs[j]? = some x' := by
            rw [← h2, List.getElem?_take] at hj
            split at hj
            · exact hj
            · cases hj
          simp [World.cell?, hw, hz1, hj'])
        simp only [Builtin.firstCells, loadCells, Nat.mul_one, this]
        simp
      obtain ⟨cap', rest, r1, r2, r3⟩ := run_append_new (ty := ty) (P := C.P) (w := w) (sT := sT) (xT := xT) (a := some ⟨b, 0, none⟩) (len := l.length) (cap := zs.length) (n := m.length) (xv := .string ⟨m.toArray⟩) (old := bytV l) (new := bytV m) (.inl hx2.und) hlen (fun w' _ => first_str m w') hold hroom (by omega)
      rw [r3]
      simp only [Result.andThen_ok, Sem.run_pure]
      have hcl : (bytV l ++ bytV m ++ rest).length = cap' := by rw [List.length_append, List.length_append, r2, bytV_len, bytV_len]; omega
      have hH0 : RelH C w L [] := hH.sub (List.nil_sublist _)
      obtain ⟨lv, H', L', g1, g2, g3, g4⟩ := left_newB (K := K) (el := el) (l := l ++ m) (xs := bytV l ++ bytV m ++ rest) hH0.drew (by simp [hne]) (by rw [hcl, List.length_append]; omega) (by rw [← bytV_app, List.take_left' (bytV_len _)]) (fun v' H' h' => hk v' H' h')
      rw [hcl, List.length_append] at g3
      exact ⟨lv, H', L', g1.of_drew.wide (by simp), g2, g3, g4⟩
theorem S.appB1 {sT xT el bytes : Nat} [ht : TSlice C.P sT el 1] [hr : TRow C.P el 1 bytes] [hx2 : TStr C.P xT] {v : Value} {l m : List UInt8} {H1 : Heap} {q : Nat × LObj}
    (hx : e.ev x = .atom v) (ha : BRow el v l H1) (hy : e.ev y = str m) (hroom : (l.length + m.length) * bytes ≤ 140737488355328)
    (hk : ∀ v' H', BRow el v' (l ++ m) H' → K (.atom v') (q :: H')) : LStep C ⟨dst, .call { callee := .builtin .append, args := #[x, y], argTypes := #[sT, xT] }, ty, pos, aft, g⟩ e (q :: H1) K X := by
  refine LStep.conseq (K := fun lv H' => ∃ v' H2, lv = .atom v' ∧ H' = H2 ++ [q] ∧ BRow el v' (l ++ m) H2) (LStep.frame (List.perm_append_singleton _ _).symm (LStep.appB hx ha hy hroom fun v' H' h => ⟨v', H', rfl, rfl, h⟩)) ?_
  rintro lv H' ⟨v', H2, rfl, rfl, h⟩
  exact ⟨_, [q] ++ H2, LV.Sub.refl _, ⟨[], by simpa using List.perm_append_comm⟩, hk _ _ h⟩
end
end Go.GL
namespace Go.Proofs.YtfodkbchknknjaaGreatDoor
open Go.GL Go.RowKit Go.Stele
set_option maxRecDepth 100000
set_option maxHeartbeats 4000000
/-- A builder at b that holds l. -/
def BH (b : Nat) (l : List UInt8) (H : Heap) : Prop := ∃ p v Hv, (p = LV.atom (.pointer none) ∨ p = ptr b 0) ∧ BRow 5 v l Hv ∧ H = (b, .cells 87 [p, .atom v]) :: Hv
theorem lays240 : Lays.n240 Tryz.prog Tryz.lays156_ren := { Tryz.lays156 with }
section
variable {B0 : Nat} {w0 : World}
theorem copyCheck_spec (b : Nat) (p v : LV) (hp : p = LV.atom (.pointer none) ∨ p = ptr b 0) : LCalls (KC B0 w0) 83 [ptr b 0] [(b, .cells 87 [p, v])]
    (fun r H' => (∃ x, r = .ret (.atom x)) ∧ H' = [(b, .cells 87 [ptr b 0, v])]) := fun xs w L hv hH => by
  simp only [RepL] at hv
  obtain ⟨y, ys, rfl, hy, rfl⟩ := hv
  simp only [Rep] at hy
  subst hy
  obtain ⟨hb0, hbs, hl, zs, hx1, hx2⟩ := hH.objs _ (List.mem_singleton.2 rfl)
  simp only at hb0 hbs hl hx1 hx2
  have hz := hx2
  simp only [RepL] at hz
  obtain ⟨a, as1, rfl, ha, c, as2, rfl, hc, rfl⟩ := hz
  rcases hp with rfl | rfl
  · simp only [Rep] at ha
    subst ha
    have h0 : w.cell? ⟨b, 0, none⟩ = some (.pointer none) := by simp [World.cell?, hx1]
    have hsh : w.shape? b = some (87, 2) := by simp [World.shape?, hx1]
    have hfz : w.frozen? ⟨b, 0, none⟩ = false := Go.Lib.frozen_of_heap hx1 0
    refine (Any.Builder_copyCheck_fresh (P := Tryz.prog) lays240 Tryz.Builder_Extra_156.toX72 b w h0 hsh hfz).mono fun e w' he => ?_
    obtain ⟨rfl, rfl⟩ := he
    refine left_write (w := w) (w' := w.setCell ⟨b, 0, none⟩ (.pointer (some ⟨b, 0, none⟩))) (xs' := [.pointer (some ⟨b, 0, none⟩), c]) (cs' := [ptr b 0, v]) (lv := .atom (.tuple #[])) hH rfl rfl rfl (by simp [World.setCell]) (fun d hd => by simp [World.setCell, Array.getElem?_modify, Ne.symm hd]) (by rw [setCell_heap (xs := [.pointer none, c]) hx1]; rfl) rfl ?_ rep_atom ⟨⟨_, rfl⟩, rfl⟩
    simp only [RepL] at hx2 ⊢
    exact ⟨_, _, rfl, rep_atom, c, [], rfl, hc, rfl⟩
  · simp only [Rep] at ha
    subst ha
    have h0 : w.cell? ⟨b, 0, none⟩ = some (.pointer (some ⟨b, 0, none⟩)) := by simp [World.cell?, hx1]
    refine (Any.Builder_copyCheck_used (P := Tryz.prog) lays240 Tryz.Builder_Extra_156.toX72 b w h0).mono fun e w' he => ?_
    obtain ⟨rfl, rfl⟩ := he
    exact ⟨.atom (.tuple #[]), _, L, Fr.refl _ _ _, hH, rep_atom, ⟨_, rfl⟩, rfl⟩
attribute [local irreducible] LOps LCode LStep LCalls Go.GL.Pure QThen QBlock RetPost LQ LAny LLate LLateOp
theorem writeString_spec (b : Nat) (l m : List UInt8) (H : Heap) (hB : BH b l H) (hlen : l.length + m.length ≤ 10000000000) : LCalls (KC B0 w0) 49 [ptr b 0, str m] H (fun r H' => (∃ x, r = .ret x) ∧ BH b (l ++ m) H') := by
  obtain ⟨p, v, Hv, hp, hacc, rfl⟩ := hB
  refine LCalls.intro Tryz.func49 rfl (n := 19) rfl rfl rfl ?_
  repeat first
    | refine LOps.nil ?_
    | refine LCode.seq ?_
    | refine LCode.region ?_
    | refine QThen.normal ?_
    | refine LOps.pure (Pure.as (lv := .atom _) rfl) rfl ?_
    | refine LOps.pure (Pure.mv (lv := .atom _) rfl) rfl ?_
  refine LOps.step (S.callH (H1 := [(b, _)]) (F := Hv) [_] rfl (List.Perm.refl _) (copyCheck_spec b p (.atom v) hp) (fun x H' h => ?_) (fun ch H' h => ?_)) rfl
  · obtain ⟨⟨x', hx'⟩, rfl⟩ := h
    cases hx'
    repeat first
      | refine LOps.nil ?_
      | refine LCode.seq ?_
      | refine LCode.region ?_
      | refine QThen.normal ?_
      | refine LOps.pure (Pure.mv (lv := .atom _) rfl) rfl ?_
      | refine LOps.pure (Pure.nilCheckH rfl) rfl ?_
      | refine LOps.pure (Pure.fieldH rfl) rfl ?_
      | refine LOps.pure (Pure.loadH (c := .atom _) rfl (List.Mem.head _) rfl) rfl ?_
    refine LOps.step (S.appB1 (q := (b, .cells 87 [ptr b 0, .atom v])) (l := l) (m := m) rfl hacc rfl (by omega) fun v' H' hacc' => ?_) rfl
    repeat first
      | refine LOps.pure (Pure.nilCheckH rfl) rfl ?_
      | refine LOps.pure (Pure.fieldH rfl) rfl ?_
    have hacc2 := hacc'
    generalize l ++ m = lm at hacc' hacc2 ⊢
    cases hacc' with
    | nil =>
      repeat first
        | refine LOps.nil ?_
        | refine LCode.seq ?_
        | refine LCode.region ?_
        | refine LCode.ret ?_
        | refine QThen.normal ?_
        | refine LOps.pure (Pure.as (lv := .atom _) rfl) rfl ?_
        | refine LOps.pure (Pure.mv (lv := .atom _) rfl) rfl ?_
        | refine LOps.pure (Pure.slen rfl) rfl ?_
        | refine LOps.step (S.store (cs' := [_, _]) rfl Pick.here rfl rfl rfl rfl rfl ?_) rfl
      exact RetPost.ret rfl (AllRes.cons (ResIs.tmp (v := .atom _) rfl (LV.Sub.refl _)) (AllRes.cons (ResIs.tmp (v := .atom _) rfl (LV.Sub.refl _)) AllRes.nil)) (HSub.refl _) ⟨⟨_, rfl⟩, ptr b 0, _, _, .inr rfl, hacc2, rfl⟩
    | row h0 h1 h2 =>
      repeat first
        | refine LOps.nil ?_
        | refine LCode.seq ?_
        | refine LCode.region ?_
        | refine LCode.ret ?_
        | refine QThen.normal ?_
        | refine LOps.pure (Pure.as (lv := .atom _) rfl) rfl ?_
        | refine LOps.pure (Pure.mv (lv := .atom _) rfl) rfl ?_
        | refine LOps.pure (Pure.slen rfl) rfl ?_
        | refine LOps.step (S.store (cs' := [_, _]) rfl Pick.here rfl rfl rfl rfl rfl ?_) rfl
      exact RetPost.ret rfl (AllRes.cons (ResIs.tmp (v := .atom _) rfl (LV.Sub.refl _)) (AllRes.cons (ResIs.tmp (v := .atom _) rfl (LV.Sub.refl _)) AllRes.nil)) (HSub.refl _) ⟨⟨_, rfl⟩, ptr b 0, _, _, .inr rfl, hacc2, rfl⟩
  · obtain ⟨⟨x', hx'⟩, _⟩ := h
    cases hx'
end
end Go.Proofs.YtfodkbchknknjaaGreatDoor
namespace Go.Proofs.YtfodkbchknknjaaGreatDoor
open Go Go.Shelf Go.RowKit
section
variable {P : Program} {ρ : Ren}
set_option maxHeartbeats 4000000 in
set_option maxRecDepth 100000 in
theorem builder_string_row (L : Lays.n169 P ρ) (X : Builder.Extra P ρ) (b g : Nat) (p : Value) (l : List UInt8) (cur : Array Value) (w : World) (hbk : w.heap[b]? = some (.cells #[p, .slice (some ⟨g, 0, none⟩) l.length cur.size] (ρ.t 72) (0, 0)))
    (hg : w.heap[g]? = some (.cells cur (ρ.t 5) (0, 0))) (h0 : l ≠ []) (hn : l.length ≤ cur.size) (hbig : l.length ≤ 9223372036854775807) (hcell : ∀ (j : Nat) (x : UInt8), l[j]? = some x → cur[j]? = some (.int .u8 x.toNat)) :
    Calls P (ρ.f 169) #[.pointer (some ⟨b, 0, none⟩)] w fun e w' => e = .returned (.string ⟨l.toArray⟩) ∧ w' = w.drew.freeze ⟨g, 0, none⟩ l.length := by
  have hl0 : l.length ≠ 0 := by simpa using h0
  have c1 : w.drew.cell? ⟨b, 1, none⟩ = some (.slice (some ⟨g, 0, none⟩) l.length cur.size) := by
    have : w.drew.heap[b]? = some (.cells #[p, .slice (some ⟨g, 0, none⟩) l.length cur.size] (ρ.t 72) (0, 0)) := hbk
    rw [Lib.cell_of_heap this]; rfl
  have hSD : (Builtin.unsafeSliceData_ #[(ρ.t 37)] (ρ.t 127) #[.slice (some ⟨g, 0, none⟩) l.length cur.size]).run P w.drew = .ok (.pointer (some ⟨g, 0, none⟩)) w.drew :=
    Lib.run_unsafeSliceData_row _ _ _ _ _ _ (by omega)
  have hUS : (Builtin.unsafeString_ #[(ρ.t 127), (ρ.t 3)] (ρ.t 9) #[.pointer (some ⟨g, 0, none⟩), .int .i64 l.length]).run P w.drew = .ok (.string ⟨l.toArray⟩) (w.drew.freeze ⟨g, 0, none⟩ l.length) := by
    refine Lib.run_unsafeString_row w.drew (ρ.t 127) (ρ.t 3) (ρ.t 9) (ρ.t 5) L.t127 X.cellsByte g cur.size (by have hg' : w.drew.heap[g]? = some (.cells cur (ρ.t 5) (0, 0)) := hg; simp [World.shape?, hg']) l h0 hn hbig ?_
    intro j x hx
    have hg' : w.drew.heap[g]? = some (.cells cur (ρ.t 5) (0, 0)) := hg
    have := hcell j x hx
    rw [Go.GL.add_mk]
    simp [World.cell?, hg', this]
  have mixed := L.mixed
  have t72 := L.t72; have a72 := L.a72; have z72 := L.z72; have v72 := L.v72; have u72 := run_underlying L.t72
  have t70 := L.t70; have a70 := L.a70; have z70 := L.z70; have v70 := L.v70; have u70 := run_underlying L.t70
  have t37 := L.t37; have a37 := L.a37; have z37 := L.z37; have v37 := L.v37; have u37 := run_underlying L.t37
  have t127 := L.t127; have a127 := L.a127; have z127 := L.z127; have v127 := L.v127; have u127 := run_underlying L.t127
  have t3 := L.t3; have a3 := L.a3; have z3 := L.z3; have v3 := L.v3; have u3 := run_underlying L.t3
  have t9 := L.t9; have a9 := L.a9; have z9 := L.z9; have v9 := L.v9; have u9 := run_underlying L.t9
  have t5 := X.t5; have a5 := X.a5; have z5 := X.z5; have v5 := X.v5; have u5 := run_underlying X.t5
  go_enter L.f169, Body.n169_ntmps ρ
  go_wp2
  go_region_o
  all_goals (go_wp2; go_ret; exact ⟨rfl, rfl⟩)
end
open Go.GL Go.Stele
theorem lays169 : Lays.n169 Tryz.prog Tryz.lays156_ren := { Tryz.lays156 with }
section
variable {B0 : Nat} {w0 : World}
theorem fr_freeze {C : Ctx} {w : World} {L : Live} {H : Heap} (hH : RelH C w L H) {g n : Nat} (hm : g ∈ keys H) (hb : C.B0 ≤ g) : Fr (keys H) w L (w.drew.freeze ⟨g, 0, none⟩ n) L [] ∧ RelH C (w.drew.freeze ⟨g, 0, none⟩ n) L [] := by
  have hbl : ∀ c, c ≠ g → (w.drew.freeze ⟨g, 0, none⟩ n).heap[c]? = w.heap[c]? := fun c hc => by
    unfold World.freeze
    split
    · rfl
    · simp only [Array.getElem?_modify]
      rw [if_neg (Ne.symm hc)]
      rfl
  have hsz : (w.drew.freeze ⟨g, 0, none⟩ n).heap.size = w.heap.size := by
    unfold World.freeze
    split
    · rfl
    · simp
  have hsh : ∀ c, (w.drew.freeze ⟨g, 0, none⟩ n).shape? c = w.shape? c := fun c => by
    by_cases hc : c = g
    · subst hc
      unfold World.freeze
      split
      · rfl
      · simp only [World.shape?, Array.getElem?_modify, if_true]
        show (match Option.map _ w.heap[c]? with | some (Obj.cells c e _) => some (e, c.size) | _ => none) = _
        cases w.heap[c]? with
        | none => rfl
        | some o => cases o <;> rfl
    · exact shape_of_heap (hbl c hc)
  have hce : ∀ c i, (w.drew.freeze ⟨g, 0, none⟩ n).cell? ⟨c, i, none⟩ = w.cell? ⟨c, i, none⟩ := fun c i => by
    by_cases hc : c = g
    · subst hc
      unfold World.freeze
      split
      · rfl
      · simp only [World.cell?, Array.getElem?_modify, if_true]
        show (match Option.map _ w.heap[c]? with | some (Obj.cells c e _) => _ | _ => none) = _
        cases w.heap[c]? with
        | none => rfl
        | some o => cases o <;> rfl
    · exact cell_of_heap (hbl c hc) i
  have hos : (w.drew.freeze ⟨g, 0, none⟩ n).os = w.os ∧ (w.drew.freeze ⟨g, 0, none⟩ n).tape = w.tape ∧ (w.drew.freeze ⟨g, 0, none⟩ n).output = w.output := by
    unfold World.freeze
    split <;> exact ⟨rfl, rfl, rfl⟩
  exact ⟨⟨hos.1, hos.2.1, hos.2.2, ⟨Nat.le_of_eq hsz.symm, fun c _ => hsh c, fun c i _ => hce c i, fun _ => Nat.le_refl _⟩, fun c _ hc => hbl c (fun h => hc (h ▸ hm)), fun _ _ _ => rfl, by simp⟩,
    ⟨hH.base.trans ⟨hos.1, hos.2.1, hos.2.2, Nat.le_of_eq hsz.symm, fun c hc => hbl c (by omega)⟩, hH.lbase, by rw [hsz]; exact hH.b0, fun c hc => hH.wf c (by rw [hsz] at hc; exact hc), List.nodup_nil, by simp⟩⟩
theorem string_spec (b : Nat) (l : List UInt8) (H : Heap) (hB : BH b l H) (hlen : l.length ≤ 10000000000) : LCalls (KC B0 w0) 50 [ptr b 0] H (Ret (str l)) := fun xs w L hv hH => by
  obtain ⟨p, v, Hv, hp, hacc, rfl⟩ := hB
  simp only [RepL] at hv
  obtain ⟨y, ys, rfl, hy, rfl⟩ := hv
  simp only [Rep] at hy
  subst hy
  obtain ⟨hb0, hbs, hl, zs, hx1, hx2⟩ := hH.objs _ (List.mem_cons_self ..)
  simp only at hb0 hbs hl hx1 hx2
  simp only [RepL] at hx2
  obtain ⟨a, as1, rfl, ha, c, as2, rfl, hc, rfl⟩ := hx2
  simp only [Rep] at hc
  subst hc
  cases hacc with
  | nil =>
    refine (Any.Builder_String_nil (P := Tryz.prog) lays169 Tryz.Builder_Extra_156 w.heap.size b a w hx1).mono fun e w' he => ?_
    obtain ⟨rfl, hb⟩ := he
    obtain ⟨h1, h2⟩ := fr_below (hH.sub (List.nil_sublist _)) hb
    exact ⟨str [], [], L, h1.wide (by simp), h2, rep_atom, rfl, rfl⟩
  | row h0 h1 h2 =>
    rename_i g xs
    obtain ⟨hg0, hgs, hgl, ws, hw1, hw2⟩ := hH.objs _ (List.mem_cons_of_mem _ (List.mem_singleton.2 rfl))
    simp only at hg0 hgs hgl hw1
    have := repL_atoms_eq hw2
    subst this
    have hcell : ∀ (j : Nat) (x : UInt8), l[j]? = some x → ws.toArray[j]? = some (Value.int .u8 x.toNat) := fun j x hx => by
      have hj : (bytV l)[j]? = some (Value.int .u8 x.toNat) := by simp [bytV, hx]
      rw [← h2, List.getElem?_take] at hj
      split at hj
      · simpa using hj
      · cases hj
    refine (builder_string_row (P := Tryz.prog) lays169 Tryz.Builder_Extra_156 b g a l ws.toArray w hx1 hw1 h0 (by simpa using h1) (by omega) hcell).mono fun e w' he => ?_
    obtain ⟨rfl, rfl⟩ := he
    obtain ⟨f1, f2⟩ := fr_freeze (n := l.length) hH (g := g) (by simp) hg0
    exact ⟨str l, [], L, f1, f2, rep_atom, rfl, rfl⟩
end
end Go.Proofs.YtfodkbchknknjaaGreatDoor
