/- Texts joined: LawA, RtParse, RtProg, RtLaw, LawT, LawU. -/
import Derived.Test.YtfodkbchknknjaaGreatDoorBRowU6
import Derived.Test.YtfodkbchknknjaaGreatDoorBRowU7
import Derived.Test.YtfodkbchknknjaaGreatDoorBRowU8
import Derived.Test.YtfodkbchknknjaaGreatDoorBRowU9
set_option linter.unusedVariables false
set_option linter.unusedSimpArgs false
namespace Go.Proofs.YtfodkbchknknjaaGreatDoor
open Go.GL Go.RowKit Go.Stele
set_option maxRecDepth 100000
set_option maxHeartbeats 4000000
theorem prog_end {T : List Tok} : ∀ (f : Nat) (p : Pr) (i op : Nat) (q : Pr) (i' op' : Nat), i ≤ T.length → sProg T f p i op = some (.ok q i' op') → i' ≤ T.length
  | 0, _, _, _, _, _, _, _, h => by rw [sProg] at h; cases h
  | f + 1, p, i, op, q, i', op', hi, h => by
    rw [sProg] at h
    split at h
    · cases h
      exact hi
    · split at h
      · rcases obind_some h with ⟨l, i1, op1, h1, h⟩ | ⟨l, e, _, h⟩
        · exact prog_end f _ i1 op1 q i' op' ((sVars_good T f _ _ _ _ h1).2.2.1 hi) h
        · cases h
      · split at h
        · rename_i h0
          have := isTok_lt h0
          rcases obind_some h with ⟨a, i1, op1, h1, h⟩ | ⟨l, e, _, h⟩
          · exact prog_end f _ i1 op1 q i' op' ((sArray_good T _ _ _ h1).2.2.1 (by omega)) h
          · cases h
        · split at h
          · rename_i h0
            have := isTok_lt h0
            rcases obind_some h with ⟨a, i1, op1, h1, h⟩ | ⟨l, e, _, h⟩
            · exact prog_end f _ i1 op1 q i' op' ((sFunc_good T f _ _ _ h1).2.2.1 (by omega)) h
            · cases h
          · cases h
theorem noPr_ok : PrOk noPr := ⟨by decide, by intro a ha; cases ha⟩
theorem parseP_ok (s : List UInt8) : PrOk (parseP s).1 := by
  unfold parseP
  split
  · exact noPr_ok
  · rename_i T hT
    have ht := tok_lex hT
    have hk : ∀ t ∈ T, TokOk t := by
      unfold lexAllP at hT
      split at hT
      · cases hT
      · exact (lexP_ok _ _ _ _ hT).2
    split
    · rename_i p i op hp
      obtain ⟨h1, h2⟩ := prog_nd hk _ _ _ _ _ _ _ (by intro a ha; cases ha) hp
      have h3 := prog_end _ _ _ _ _ _ _ (Nat.zero_le _) hp
      have := ht.len
      have h0 : nPr noPr = 0 := rfl
      exact ⟨by show nPr p ≤ _; omega, h2⟩
    · exact noPr_ok
    · exact noPr_ok
def bodyPre : List UInt8 := [102, 117, 110, 99, 32, 109, 97, 105, 110, 40, 41, 32, 123, 32, 120, 32, 61, 32]
def bodyPost : List UInt8 := [59, 32, 125]
def bodyOf (s : List UInt8) : List UInt8 := bodyPre ++ s ++ bodyPost
def vE (s : List UInt8) : Ex := .mk nVar 0 s []
def bE (op : List UInt8) (a b : Ex) : Ex := .mk op 0 [] [a, b]
def asP (x : Ex) : Pr := ⟨[], [], [⟨[109, 97, 105, 110], [], [], [.mk 1 [120] [] [x] [] []]⟩]⟩
theorem encE_bE (op : List UInt8) (a b : Ex) : encE (bE op a b) = .agg [str op, int .u32 0, str [], .list [encE a, encE b]] := by rw [bE, encE_mk]; rfl
theorem encE_vE (s : List UInt8) : encE (vE s) = .agg [str nVar, int .u32 0, str s, .list []] := by rw [vE, encE_mk]; rfl
theorem encPr_asP (x : Ex) : encPr (asP x) = .agg [.list [], .list [], .list [.agg [str [109, 97, 105, 110], .list [], .list [], .list [.agg [int .i64 1, str [120], .list [], .list [encE x], .list [], .list []]]]]] := by
  rw [encPr, asP]
  simp only [List.map_cons, List.map_nil, encFn, encS_mk]
def aliveS1 : List UInt8 := [97, 32, 45, 32, 98, 32, 42, 32, 50]
def aliveS2 : List UInt8 := [102, 117, 110, 99, 32, 109, 97, 105, 110, 40, 41, 32, 123, 10, 120, 32, 61, 32, 97, 32, 60, 32, 98, 10, 60, 32, 99, 59, 32, 125]
def aliveX : Ex := bE [45] (vE [97]) (bE [42] (vE [98]) (.mk nNum 2 [] []))
theorem alive1 : parseP (bodyOf aliveS1) = (asP aliveX, 0, 0) := by kernel_rfl
theorem alive2 : parseP aliveS2 = (noPr, 3, 3) := by kernel_rfl
attribute [local irreducible] LOps LCode LStep LCalls Go.GL.Pure QThen QBlock RetPost LQ LAny LLate LLateOp
section
variable {B0 : Nat} {w0 : World}
theorem body_spec (s : List UInt8) (hs : s.length ≤ 1000000) : LCalls (KC B0 w0) 15 [str s] [] (Ret (str (bodyOf s))) := by
  refine LCalls.intro Tryz.func15 rfl (n := 6) rfl rfl rfl ?_
  repeat first
    | refine LOps.nil ?_
    | refine LCode.seq ?_
    | refine LCode.region ?_
    | refine LCode.ret ?_
    | refine QThen.normal ?_
    | refine LOps.pure (Pure.as (lv := .atom _) rfl) rfl ?_
    | refine LOps.pure (Pure.mv (lv := .atom _) rfl) rfl ?_
    | refine LOps.pure (Pure.sadd rfl rfl (by simp only [List.length_append, List.length_cons, List.length_nil]; omega)) rfl ?_
  exact retRet rfl (AllRes.cons (ResIs.tmp (v := .atom _) rfl (LV.Sub.refl _)) AllRes.nil) rfl
theorem variable_spec (s : List UInt8) : LCalls (KC B0 w0) 18 [str s] [] (Ret (encE (vE s))) := by
  refine LCalls.intro Tryz.func18 rfl (n := 5) rfl rfl rfl ?_
  repeat first
    | refine LCode.seq ?_
    | refine LCode.region ?_
  refine LOps.step (S.alloc fun b2 => ?_) rfl
  repeat first
    | refine LOps.nil ?_
    | refine LCode.seq ?_
    | refine LCode.region ?_
    | refine LCode.ret ?_
    | refine QThen.normal ?_
    | refine LOps.pure (Pure.mv (lv := .atom _) rfl) rfl ?_
    | refine LOps.pure (Pure.bld _ (cs := [_, _, _, _]) rfl) rfl ?_
    | refine LOps.step (S.store (cs' := [_, _, _, _]) rfl Pick.here rfl rfl rfl rfl rfl ?_) rfl
  exact retRet rfl (AllRes.cons (ResIs.cellAgg (k := 4) rfl (List.Mem.head _) rfl (LV.Sub.agg (bs := [_, _, _, .list []]) ⟨LV.Sub.refl _, LV.Sub.refl _, LV.Sub.refl _, LV.Sub.nil, trivial⟩)) AllRes.nil) (by rw [encE_vE]; rfl)
theorem lbinary_spec (op : List UInt8) (a b : Ex) : LCalls (KC B0 w0) 17 [str op, encE a, encE b] [] (Ret (encE (bE op a b))) := by
  refine LCalls.intro Tryz.func17 rfl (n := 12) rfl rfl rfl ?_
  repeat first
    | refine LCode.seq ?_
    | refine LCode.region ?_
  refine LOps.step (S.box (cs := [str (exOp a), int .u32 (exNum a), str (exName a), .list (encArgs a)]) rfl fun b4 => ?_) rfl
  refine LOps.step (S.box (cs := [str (exOp b), int .u32 (exNum b), str (exName b), .list (encArgs b)]) rfl fun b5 => ?_) rfl
  refine LOps.step (S.alloc fun b6 => ?_) rfl
  repeat first
    | refine LOps.nil ?_
    | refine LCode.seq ?_
    | refine LCode.region ?_
    | refine QThen.normal ?_
    | refine LOps.pure (Pure.mv (lv := .atom _) rfl) rfl ?_
    | refine LOps.pure (Pure.ldHAgg (cs' := [_, _, _, _]) rfl (List.Mem.tail _ (List.Mem.head _)) rfl rfl) rfl ?_
    | refine LOps.pure (Pure.ldHAgg (cs' := [_, _, _, _]) rfl (List.Mem.tail _ (List.Mem.tail _ (List.Mem.head _))) rfl rfl) rfl ?_
  refine LOps.step (S.lit (es := [encE a, encE b]) [_, _] rfl (elemsOk.cons rfl rfl (elemsOk.cons rfl rfl elemsOk.nil)) rfl rfl rfl ?_) rfl
  repeat first
    | refine LOps.nil ?_
    | refine LCode.ret ?_
    | refine QThen.normal ?_
    | refine LOps.pure (Pure.bld _ (cs := [_, _, _, _]) rfl) rfl ?_
    | refine LOps.step (S.store (cs' := [_, _, _, _]) rfl Pick.here rfl rfl rfl rfl rfl ?_) rfl
  exact retRet rfl (AllRes.cons (ResIs.cellAgg rfl (List.Mem.head _) rfl (LV.Sub.refl _)) AllRes.nil) (by rw [encE_bE]; rfl)
theorem assigned_spec (x : Ex) : LCalls (KC B0 w0) 20 [encE x] [] (Ret (encPr (asP x))) := by
  refine LCalls.intro Tryz.func20 rfl (n := 10) rfl rfl rfl ?_
  repeat first
    | refine LCode.seq ?_
    | refine LCode.region ?_
  refine LOps.step (S.box (cs := [str (exOp x), int .u32 (exNum x), str (exName x), .list (encArgs x)]) rfl fun b1 => ?_) rfl
  refine LOps.step (S.alloc fun b2 => ?_) rfl
  repeat first
    | refine LOps.nil ?_
    | refine LCode.seq ?_
    | refine LCode.region ?_
    | refine QThen.normal ?_
    | refine LOps.pure (Pure.ldHAgg (cs' := [_, _, _, _]) rfl (List.Mem.tail _ (List.Mem.head _)) rfl rfl) rfl ?_
  refine LOps.step (S.lit (es := [encE x]) [_] rfl (elemsOk.cons rfl rfl elemsOk.nil) rfl rfl rfl ?_) rfl
  repeat first
    | refine LOps.pure (Pure.bld _ (cs := [_, _, _, _, _, _]) rfl) rfl ?_
  refine LOps.sub 5 (v' := .agg [int .i64 1, str [120], .list [], .list [encE x], .list [], .list []]) rfl (LV.Sub.agg ⟨LV.Sub.refl _, LV.Sub.refl _, LV.Sub.nil, LV.Sub.refl _, LV.Sub.nil, LV.Sub.nil, trivial⟩) ?_
  refine LOps.step (S.lit (es := [.agg [int .i64 1, str [120], .list [], .list [encE x], .list [], .list []]]) [_] rfl (elemsOk.cons rfl rfl elemsOk.nil) rfl rfl rfl ?_) rfl
  repeat first
    | refine LOps.pure (Pure.bld _ (cs := [_, _, _, _]) rfl) rfl ?_
  refine LOps.sub 7 (v' := .agg [str [109, 97, 105, 110], .list [], .list [], .list [.agg [int .i64 1, str [120], .list [], .list [encE x], .list [], .list []]]]) rfl (LV.Sub.agg ⟨LV.Sub.refl _, LV.Sub.nil, LV.Sub.nil, LV.Sub.refl _, trivial⟩) ?_
  refine LOps.step (S.lit (es := [.agg [str [109, 97, 105, 110], .list [], .list [], .list [.agg [int .i64 1, str [120], .list [], .list [encE x], .list [], .list []]]]]) [_] rfl (elemsOk.cons rfl rfl elemsOk.nil) rfl rfl rfl ?_) rfl
  repeat first
    | refine LOps.nil ?_
    | refine LCode.ret ?_
    | refine QThen.normal ?_
    | refine LOps.pure (Pure.bld _ (cs := [_, _, _]) rfl) rfl ?_
    | refine LOps.step (S.store (cs' := [_, _, _]) rfl Pick.here rfl rfl rfl rfl rfl ?_) rfl
  exact retRet rfl (AllRes.cons (ResIs.cellAgg (k := 3) rfl (List.Mem.head _) rfl (LV.Sub.agg (bs := [.list [], .list [], _]) ⟨LV.Sub.nil, LV.Sub.nil, LV.Sub.refl _, trivial⟩)) AllRes.nil) (by rw [encPr_asP]; rfl)
theorem asP_ok (x : Ex) (h : nEx x ≤ 1000) : PrOk (asP x) := ⟨by simp only [asP, nPr, nFns, nFn, nSms, nSm, nExs, List.length_nil]; omega, by intro a ha; cases ha⟩
theorem equal_true (a b : Pr) (ha : PrOk a) (hb : PrOk b) (h : eqPr a b = true) : LCalls (KC B0 w0) 14 [encPr a, encPr b] [] (Ret (bool true)) := by
  have := equal_spec (B0 := B0) (w0 := w0) a b ha hb
  rw [h] at this
  exact this
theorem alive_spec (hG : GW B0 w0) : LCalls (KC B0 w0) 11 [] [] (Ret (bool true)) := by
  have h1 := parse_spec hG (bodyOf aliveS1) (by decide)
  rw [alive1] at h1
  have h2 := parse_spec hG aliveS2 (by decide)
  rw [alive2] at h2
  refine LCalls.intro Tryz.func11 rfl (n := 44) rfl rfl rfl ?_
  repeat first
    | refine LOps.nil ?_
    | refine LCode.seq ?_
    | refine LCode.region ?_
    | refine QThen.normal ?_
    | refine LOps.pure (Pure.as (lv := .atom _) rfl) rfl ?_
  refine LOps.step (S.fn [_] rfl (body_spec aliveS1 (by decide)) ?_) rfl
  refine LOps.step (S.fn [_] rfl h1 ?_) rfl
  refine LOps.pure (Pure.mv rfl) rfl ?_
  refine LOps.pure (Pure.extract (vs := [encPr (asP aliveX), int .i64 0, int .i64 0]) rfl rfl) rfl ?_
  refine LOps.pure (Pure.extract (vs := [encPr (asP aliveX), int .i64 0, int .i64 0]) rfl rfl) rfl ?_
  refine LOps.pure (Pure.extract (vs := [encPr (asP aliveX), int .i64 0, int .i64 0]) rfl rfl) rfl ?_
  refine LOps.step (S.alloc fun b1 => ?_) rfl
  repeat first
    | refine LOps.nil ?_
    | refine LCode.seq ?_
    | refine LCode.region ?_
    | refine QThen.normal ?_
    | refine LOps.pure (Pure.as (lv := .atom _) rfl) rfl ?_
    | refine LOps.step (S.store (cs' := [_, _, _]) rfl Pick.here rfl rfl rfl rfl rfl ?_) rfl
  refine LOps.step (S.fn [_] rfl h2 ?_) rfl
  refine LOps.pure (Pure.mv rfl) rfl ?_
  refine LOps.pure (Pure.extract (vs := [encPr noPr, int .i64 3, int .i64 3]) rfl rfl) rfl ?_
  refine LOps.pure (Pure.extract (vs := [encPr noPr, int .i64 3, int .i64 3]) rfl rfl) rfl ?_
  refine LOps.pure (Pure.extract (vs := [encPr noPr, int .i64 3, int .i64 3]) rfl rfl) rfl ?_
  refine LOps.step (S.alloc fun b4 => ?_) rfl
  repeat first
    | refine LOps.nil ?_
    | refine LCode.seq ?_
    | refine LCode.region ?_
    | refine QThen.normal ?_
    | refine LOps.pure (Pure.as (lv := .atom _) rfl) rfl ?_
    | refine LOps.step (S.store (cs' := [_, _, _]) rfl Pick.here rfl rfl rfl rfl rfl ?_) rfl
  refine LOps.step (S.fn [_] rfl (variable_spec [97]) ?_) rfl
  refine LOps.step (S.fn [_] rfl (variable_spec [98]) ?_) rfl
  repeat first
    | refine LOps.pure (Pure.bld _ (cs := [_, _, _, _]) rfl) rfl ?_
  refine LOps.sub 21 (v' := encE (.mk nNum 2 [] [])) rfl (by rw [encE_mk]; exact LV.Sub.agg ⟨LV.Sub.refl _, LV.Sub.refl _, LV.Sub.refl _, LV.Sub.nil, trivial⟩) ?_
  refine LOps.step (S.fn [_, _, _] rfl (lbinary_spec [42] (vE [98]) (.mk nNum 2 [] [])) ?_) rfl
  refine LOps.step (S.fn [_, _, _] rfl (lbinary_spec [45] (vE [97]) (bE [42] (vE [98]) (.mk nNum 2 [] []))) ?_) rfl
  refine LOps.step (S.fn [_] rfl (assigned_spec aliveX) ?_) rfl
  refine LOps.step (S.alloc fun b7 => ?_) rfl
  repeat first
    | refine LOps.nil ?_
    | refine LCode.seq ?_
    | refine LCode.region ?_
    | refine QThen.normal ?_
    | refine LOps.pure (Pure.mv (lv := .atom _) rfl) rfl ?_
    | refine LOps.pure (Pure.eql rfl rfl) rfl ?_
    | refine LOps.pure (Pure.pickT (lv := .atom _) rfl rfl) rfl ?_
    | refine LOps.pure (Pure.ldHAgg (cs' := [_, _, _]) rfl (List.Mem.head _) rfl rfl) rfl ?_
    | refine LOps.pure (Pure.ldHAgg (cs' := [_, _, _]) rfl (List.Mem.tail _ (List.Mem.tail _ (List.Mem.head _))) rfl rfl) rfl ?_
    | refine LOps.want rfl rfl ?_
    | refine LOps.step (S.store (cs' := [_, _, _]) rfl Pick.here rfl rfl rfl rfl rfl ?_) rfl
  refine LOps.step (S.fn [_, _] rfl (equal_true (asP aliveX) (asP aliveX) (asP_ok _ (by decide)) (asP_ok _ (by decide)) ((eqPr_iff _ _).2 rfl)) ?_) rfl
  repeat first
    | refine LOps.nil ?_
    | refine LCode.ret ?_
    | refine QThen.normal ?_
    | refine LOps.pure (Pure.as (lv := .atom _) rfl) rfl ?_
    | refine LOps.pure (Pure.mv (lv := .atom _) rfl) rfl ?_
    | refine LOps.pure (Pure.eql rfl rfl) rfl ?_
    | refine LOps.pure (Pure.pickT (lv := .atom _) rfl rfl) rfl ?_
    | refine LOps.want rfl rfl ?_
  exact retRet rfl (AllRes.cons (ResIs.tmp (v := .atom _) rfl (LV.Sub.refl _)) AllRes.nil) rfl
end
end Go.Proofs.YtfodkbchknknjaaGreatDoor
set_option maxRecDepth 100000
namespace Go.Stele
/-- With enough fuel the step ends so. -/
def Evt {A : Type} (g : Nat → OR A) (r : Res A) : Prop := ∃ f0, ∀ f, f0 ≤ f → g f = some r
def tokIn (ks : List KT) (xs : List (List UInt8)) : Bool := match ks with
  | [] => false
  | t :: _ => (decide (t.1 = 3) || decide (t.1 = 4)) && xs.contains t.2
/-- From place i on stand these tokens, and no others. -/
def At (T : List Tok) (i : Nat) (ks : List KT) : Prop := (T.map kt).drop i = ks
section
variable {T : List Tok} {i op : Nat} {ks : List KT}
theorem At.get {t : KT} (h : At T i (t :: ks)) : ∃ t', T[i]? = some t' ∧ kt t' = t := by
  have h1 : ((T.map kt).drop i)[0]? = some t := by rw [show (T.map kt).drop i = t :: ks from h]; rfl
  rw [List.getElem?_drop, Nat.add_zero, List.getElem?_map] at h1
  cases h2 : T[i]? with
  | none => rw [h2] at h1; cases h1
  | some t' => rw [h2] at h1; exact ⟨t', rfl, by simpa using h1⟩
theorem At.none (h : At T i []) : T[i]? = none := by
  have h1 : ((T.map kt).drop i).length = 0 := by rw [show (T.map kt).drop i = [] from h]; rfl
  rw [List.length_drop, List.length_map] at h1
  exact List.getElem?_eq_none (by omega)
theorem At.tok (h : At T i ks) (xs : List (List UInt8)) : isTok T i xs = tokIn ks xs := by
  unfold isTok tokIn
  cases ks with
  | nil => rw [h.none]
  | cons t r =>
    obtain ⟨t', h1, h2⟩ := h.get
    rw [h1, ← h2]
    rfl
theorem At.one {t : KT} (h : At T i (t :: ks)) : At T (i + 1) ks := by
  show (T.map kt).drop (i + 1) = ks
  rw [← List.drop_drop, show (T.map kt).drop i = t :: ks from h]
  rfl
theorem At.skip {a : List KT} (h : At T i (a ++ ks)) : At T (i + a.length) ks := by
  show (T.map kt).drop (i + a.length) = ks
  rw [← List.drop_drop, show (T.map kt).drop i = a ++ ks from h, List.drop_left]
theorem At.text {k : Int} {x : List UInt8} (h : At T i ((k, x) :: ks)) : textAt T i = x := by
  obtain ⟨t', h1, h2⟩ := h.get
  unfold textAt
  rw [h1]
  exact congrArg Prod.snd h2
theorem At.kind {k : Int} {x : List UInt8} (h : At T i ((k, x) :: ks)) : kindAt T i = k := by
  obtain ⟨t', h1, h2⟩ := h.get
  unfold kindAt
  rw [h1]
  exact congrArg Prod.fst h2
theorem At.word {k : Int} {x : List UInt8} (h : At T i ((k, x) :: ks)) : sWord T k i op = .ok x (i + 1) op := by
  obtain ⟨t', h1, h2⟩ := h.get
  unfold sWord
  rw [h1]
  have hk : t'.kind = k := congrArg Prod.fst h2
  have hx : t'.text = x := congrArg Prod.snd h2
  show (if t'.kind = k then Res.ok t'.text (i + 1) op else _) = _
  rw [if_pos hk, hx]
theorem numOf_dec {n : Nat} (hn : n < 4294967296) : numOf (Go.Lib.decDigits n) = n := by
  unfold numOf
  rw [pu32_dec n hn]
theorem At.number {n : Nat} (h : At T i ((1, Go.Lib.decDigits n) :: ks)) (hn : n < 4294967296) : sNumber T i op = .ok n (i + 1) op := by
  unfold sNumber
  rw [h.word]
  show Res.ok (numOf (Go.Lib.decDigits n)) (i + 1) op = _
  rw [numOf_dec hn]
theorem tokIn_sg (c : UInt8) : tokIn (sg c :: ks) [[c]] = true := by simp [tokIn, sg]
theorem At.begin {c : UInt8} (h : At T i (sg c :: ks)) (ho : op < 100) : sBegin T [c] i op = .ok () (i + 1) (op + 1) := by
  unfold sBegin
  rw [if_pos (by rw [h.tok, tokIn_sg]), if_neg (by omega)]
theorem At.need {c : UInt8} (h : At T i (sg c :: ks)) : sNeed T [c] i op = .ok () (i + 1) op := by
  unfold sNeed
  rw [if_pos (by rw [h.tok, tokIn_sg])]
theorem At.fin {c : UInt8} (h : At T i (sg c :: ks)) : sEnd T [c] i op = .ok () (i + 1) (op - 1) := by
  unfold sEnd
  rw [h.need]
  rfl
end
/-- What stands behind an expression of this level. -/
structure Fol (ks : List KT) (k : Nat) : Prop where
  par : tokIn ks [[40]] = false
  brk : tokIn ks [[91]] = false
  ops : ∀ j, k ≤ j → j < 6 → tokIn ks (lvOps j) = false
theorem Fol.up {ks : List KT} {k k' : Nat} (h : Fol ks k) (hk : k ≤ k') : Fol ks k' := ⟨h.par, h.brk, fun j h1 h2 => h.ops j (by omega) h2⟩
theorem fol_sg {c : UInt8} (hc : c = 41 ∨ c = 93 ∨ c = 44 ∨ c = 59 ∨ c = 123) (ks : List KT) (k : Nat) : Fol (sg c :: ks) k := by
  have h : ∀ c ∈ ([41, 93, 44, 59, 123] : List UInt8), ([[40]] : List (List UInt8)).contains [c] = false ∧ ([[91]] : List (List UInt8)).contains [c] = false ∧ ∀ j, j < 6 → (lvOps j).contains [c] = false := by decide
  obtain ⟨h1, h2, h3⟩ := h c (by rcases hc with rfl | rfl | rfl | rfl | rfl <;> decide)
  refine ⟨?_, ?_, fun j _ hj => ?_⟩
  · simp only [tokIn, sg, h1, Bool.and_false]
  · simp only [tokIn, sg, h2, Bool.and_false]
  · simp only [tokIn, sg, h3 j hj, Bool.and_false]
theorem fol_op {s : Nat} {o : List UInt8} (hs : s < 6) (ho : o ∈ lvOps s) (ks : List KT) : Fol ((4, o) :: ks) (s + 1) := by
  have h : ∀ s, s < 6 → ∀ o ∈ lvOps s, ([[40]] : List (List UInt8)).contains o = false ∧ ([[91]] : List (List UInt8)).contains o = false ∧ ∀ j, j < 6 → s + 1 ≤ j → (lvOps j).contains o = false := by decide
  obtain ⟨h1, h2, h3⟩ := h s hs o ho
  refine ⟨?_, ?_, fun j hk hj => ?_⟩
  · simp only [tokIn, h1, Bool.and_false]
  · simp only [tokIn, h2, Bool.and_false]
  · simp only [tokIn, h3 j hj hk, Bool.and_false]
section
variable {T : List Tok}
theorem lev_unary {i op : Nat} {r : Res Ex} (h : Evt (fun f => eUnary T f i op) r) : Evt (fun f => eLev T f 6 i op) r := by
  obtain ⟨f0, h⟩ := h
  refine ⟨f0 + 1, fun f hf => ?_⟩
  obtain ⟨g, rfl⟩ : ∃ g, f = g + 1 := ⟨f - 1, by omega⟩
  show eLev T (g + 1) 6 i op = _
  rw [eLev, if_pos rfl]
  exact h g (by omega)
theorem unary_lev {i op : Nat} {r : Res Ex} (h : Evt (fun f => eLev T f 6 i op) r) : Evt (fun f => eUnary T f i op) r := by
  obtain ⟨f0, h⟩ := h
  refine ⟨f0, fun f hf => ?_⟩
  have := h (f + 1) (by omega)
  simp only [eLev, if_pos] at this
  exact this
theorem lev_down {i op i' op' : Nat} {e : Ex} {ks : List KT} (hA : At T i' ks) : ∀ (n k s : Nat), s = k + n → s ≤ 6 → Fol ks k → Evt (fun f => eLev T f s i op) (.ok e i' op') → Evt (fun f => eLev T f k i op) (.ok e i' op')
  | 0, k, s, h, _, _, he => by
    have : s = k := by omega
    subst this
    exact he
  | n + 1, k, s, h, h6, hF, he => by
    obtain ⟨f0, h1⟩ := lev_down hA n (k + 1) s (by omega) h6 (hF.up (by omega)) he
    refine ⟨f0 + 2, fun f hf => ?_⟩
    obtain ⟨g, rfl⟩ : ∃ g, f = g + 2 := ⟨f - 2, by omega⟩
    have h1' := h1 (g + 1) (by omega)
    simp only at h1'
    show eLev T (g + 1 + 1) k i op = _
    rw [eLev, if_neg (by omega), h1']
    show eLoop T (g + 1) k e i' op' = _
    rw [eLoop, if_neg (by rw [hA.tok, hF.ops k (Nat.le_refl _) (by omega)]; decide)]
/-- What is printed of e is read as e. -/
def QE (T : List Tok) (e : Ex) : Prop := ∀ (k : Nat) (ts : List KT) (d i op : Nat) (ks : List KT), k ≤ 6 → PE e k ts d → d ≤ 100 - op → At T i (ts ++ ks) → Fol ks k → Evt (fun f => eLev T f k i op) (.ok e (i + ts.length) op)
/-- What is printed of e at a level of chains begins a chain. -/
def CE (T : List Tok) (e : Ex) : Prop := ∀ (s : Nat) (ts : List KT) (d i op : Nat) (ks : List KT) (r : Res Ex), s < 6 → s ≠ 2 → PE e s ts d → d ≤ 100 - op → At T i (ts ++ ks) → Fol ks (s + 1) → Evt (fun f => eLoop T f s e (i + ts.length) op) r → Evt (fun f => eLev T f s i op) r
theorem bin_lev {s o1 : Nat} {o : List UInt8} {a b : Ex} {t1 t2 ks : List KT} {d1 d2 i op : Nat} (hs : s < 6) (ho : o ∈ lvOps s) (pa : PE a (leftLv s) t1 d1) (pb : PE b (s + 1) t2 d2) (hd : max d1 d2 ≤ 100 - op)
    (hA : At T i (t1 ++ (4, o) :: (t2 ++ ks))) (hF : Fol ks (s + 1)) (qa : QE T a) (ca : CE T a) (qb : QE T b) :
    (s ≠ 2 → ∀ r, Evt (fun f => eLoop T f s (.mk o 0 [] [a, b]) (i + (t1 ++ (4, o) :: t2).length) op) r → Evt (fun f => eLev T f s i op) r) ∧
    (s = 2 → Evt (fun f => eLev T f s i op) (.ok (.mk o 0 [] [a, b]) (i + (t1 ++ (4, o) :: t2).length) op)) := by
  have h1 := hA.skip
  have hlen : i + (t1 ++ (4, o) :: t2).length = i + t1.length + 1 + t2.length := by simp only [List.length_append, List.length_cons]; omega
  have ht : isTok T (i + t1.length) (lvOps s) = true := by
    rw [h1.tok]
    simp only [tokIn]
    simp [ho]
  obtain ⟨fb, hb⟩ := qb (s + 1) t2 d2 (i + t1.length + 1) op ks (by omega) pb (by omega) h1.one hF
  refine ⟨fun h2 r hr => ?_, fun h2 => ?_⟩
  · rw [leftLv, if_neg h2] at pa
    refine ca s t1 d1 i op _ r hs h2 pa (by omega) hA (fol_op hs ho _) ?_
    obtain ⟨fr, hr⟩ := hr
    refine ⟨fb + fr + 1, fun f hf => ?_⟩
    obtain ⟨g, rfl⟩ : ∃ g, f = g + 1 := ⟨f - 1, by omega⟩
    show eLoop T (g + 1) s a (i + t1.length) op = _
    have hb' := hb g (by omega)
    simp only at hb'
    rw [eLoop, if_pos ht, hb']
    show (if s = 2 then _ else eLoop T g s (.mk (textAt T (i + t1.length)) 0 [] [a, b]) (i + t1.length + 1 + t2.length) op) = _
    rw [if_neg h2, h1.text, ← hlen]
    exact hr g (by omega)
  · subst h2
    obtain ⟨fa, ha⟩ := qa 3 t1 d1 i op _ (by omega) pa (by omega) hA (fol_op hs ho _)
    refine ⟨fa + fb + 2, fun f hf => ?_⟩
    obtain ⟨g, rfl⟩ : ∃ g, f = g + 2 := ⟨f - 2, by omega⟩
    have ha' := ha (g + 1) (by omega)
    have hb' := hb g (by omega)
    simp only at ha' hb'
    show eLev T (g + 1 + 1) 2 i op = _
    rw [eLev, if_neg (by omega), ha']
    show eLoop T (g + 1) 2 a (i + t1.length) op = _
    rw [eLoop, if_pos ht, hb']
    show (if 2 = 2 then some (Res.ok (Ex.mk (textAt T (i + t1.length)) 0 [] [a, b]) (i + t1.length + 1 + t2.length) op) else eLoop T g 2 (Ex.mk (textAt T (i + t1.length)) 0 [] [a, b]) (i + t1.length + 1 + t2.length) op) = _
    rw [if_pos rfl, h1.text, hlen]
/-- An expression's first token. -/
def Fst (t : KT) : Prop := t.1 = 1 ∨ t.1 = 2 ∨ t = sg 40 ∨ t = sg 45 ∨ t = sg 33
theorem pe_first : ∀ (n : Nat) (e : Ex), nEx e ≤ n → ∀ (k : Nat) (ts : List KT) (d : Nat), PE e k ts d → ∃ t r, ts = t :: r ∧ Fst t
  | 0, .mk _ _ _ _, hn => by rw [nEx] at hn; omega
  | n + 1, e, hn => by
    intro k ts d h
    cases h with
    | num h => exact ⟨_, _, rfl, .inl rfl⟩
    | var h => exact ⟨_, _, rfl, .inr (.inl rfl)⟩
    | elem h ha => exact ⟨_, _, rfl, .inr (.inl rfl)⟩
    | call h ha => exact ⟨_, _, rfl, .inr (.inl rfl)⟩
    | neg ha => exact ⟨_, _, rfl, .inr (.inr (.inr (.inl rfl)))⟩
    | not ha => exact ⟨_, _, rfl, .inr (.inr (.inr (.inr rfl)))⟩
    | par hs ho hk2 ha hb => exact ⟨_, _, rfl, .inr (.inr (.inl rfl))⟩
    | bin hs ho hk2 ha hb =>
      simp only [nEx, nExs] at hn
      obtain ⟨t, r, rfl, h⟩ := pe_first n _ (by omega) _ _ _ ha
      exact ⟨t, _, rfl, h⟩
theorem PE.first {e : Ex} {k : Nat} {ts : List KT} {d : Nat} (h : PE e k ts d) : ∃ t r, ts = t :: r ∧ Fst t := pe_first _ e (Nat.le_refl _) _ _ _ h
theorem Fst.no41 {t : KT} (h : Fst t) (r : List KT) : tokIn (t :: r) [[41]] = false := by
  rcases h with h | h | rfl | rfl | rfl
  · simp [tokIn, h]
  · simp [tokIn, h]
  · simp [tokIn, sg]
  · simp [tokIn, sg]
  · simp [tokIn, sg]
theorem args_more : ∀ (l acc : List Ex) (ts ks : List KT) (d i op : Nat), (∀ x ∈ l, QE T x) → acc ≠ [] → l ≠ [] → PEs l ts d → d ≤ 100 - op → At T i (sg 44 :: (ts ++ sg 41 :: ks)) → Evt (fun f => eArgsLoop T f acc i op) (.ok (acc ++ l) (i + 1 + ts.length) op)
  | [], _, _, _, _, _, _, _, _, h, _, _, _ => absurd rfl h
  | a :: l, acc, ts, ks, d, i, op, hq, hacc, _, hp, hd, hA => by
    have hn41 : isTok T i [[41]] = false := by rw [hA.tok]; simp [tokIn, sg]
    cases hp with
    | one ha =>
      obtain ⟨f1, h1⟩ := hq a (List.mem_cons_self ..) 0 ts d (i + 1) op _ (by omega) ha hd hA.one (fol_sg (.inl rfl) _ _)
      have h41 : isTok T (i + 1 + ts.length) [[41]] = true := by rw [hA.one.skip.tok, tokIn_sg]
      refine ⟨f1 + 2, fun f hf => ?_⟩
      obtain ⟨g, rfl⟩ : ∃ g, f = g + 2 := ⟨f - 2, by omega⟩
      have h1' := h1 (g + 1) (by omega)
      simp only at h1'
      show eArgsLoop T (g + 1 + 1) acc i op = _
      rw [eArgsLoop, if_neg (by rw [hn41]; decide), if_neg hacc, hA.need]
      show obind (eLev T (g + 1) 0 (i + 1) op) _ = _
      rw [h1']
      show eArgsLoop T (g + 1) (acc ++ [a]) (i + 1 + ts.length) op = _
      rw [eArgsLoop, if_pos h41]
    | @more _ b l t1 t2 d1 d2 ha hl =>
      have hA1 : At T (i + 1) (t1 ++ sg 44 :: (t2 ++ sg 41 :: ks)) := by
        have := hA.one
        rw [List.append_assoc, List.cons_append] at this
        exact this
      obtain ⟨f1, h1⟩ := hq a (List.mem_cons_self ..) 0 t1 d1 (i + 1) op _ (by omega) ha (by omega) hA1 (fol_sg (.inr (.inr (.inl rfl))) _ _)
      obtain ⟨f2, h2⟩ := args_more (b :: l) (acc ++ [a]) t2 ks d2 (i + 1 + t1.length) op (fun x hx => hq x (List.mem_cons_of_mem _ hx)) (by simp) (by simp) hl (by omega) hA1.skip
      refine ⟨f1 + f2 + 1, fun f hf => ?_⟩
      obtain ⟨g, rfl⟩ : ∃ g, f = g + 1 := ⟨f - 1, by omega⟩
      have h1' := h1 g (by omega)
      simp only at h1'
      show eArgsLoop T (g + 1) acc i op = _
      rw [eArgsLoop, if_neg (by rw [hn41]; decide), if_neg hacc, hA.need]
      show obind (eLev T g 0 (i + 1) op) _ = _
      rw [h1']
      show eArgsLoop T g (acc ++ [a]) (i + 1 + t1.length) op = _
      have h2' := h2 g (by omega)
      simp only at h2'
      rw [h2', List.append_assoc]
      congr 2
      simp only [List.length_append, List.length_cons]
      omega
theorem args_parse {l : List Ex} {ts ks : List KT} {d i op : Nat} (hq : ∀ x ∈ l, QE T x) (hp : PEs l ts d) (hd : d + 1 ≤ 100 - op) (hA : At T i (sg 40 :: (ts ++ sg 41 :: ks))) : Evt (fun f => eArgs T f i op) (.ok l (i + 2 + ts.length) op) := by
  have key : Evt (fun f => eArgsLoop T f [] (i + 1) (op + 1)) (.ok l (i + 1 + ts.length) (op + 1)) := by
    cases hp with
    | nil =>
      refine ⟨1, fun f hf => ?_⟩
      obtain ⟨g, rfl⟩ : ∃ g, f = g + 1 := ⟨f - 1, by omega⟩
      show eArgsLoop T (g + 1) [] (i + 1) (op + 1) = _
      rw [eArgsLoop, if_pos (by rw [hA.one.tok]; exact tokIn_sg 41)]
      rfl
    | one ha =>
      rename_i a
      have hA1 := hA.one
      have hn41 : isTok T (i + 1) [[41]] = false := by
        obtain ⟨t, r, rfl, hf⟩ := ha.first
        rw [hA1.tok]
        exact hf.no41 _
      obtain ⟨f1, h1⟩ := hq a (List.mem_cons_self ..) 0 ts d (i + 1) (op + 1) _ (by omega) ha (by omega) hA1 (fol_sg (.inl rfl) _ _)
      have h41 : isTok T (i + 1 + ts.length) [[41]] = true := by rw [hA1.skip.tok, tokIn_sg]
      refine ⟨f1 + 2, fun f hf => ?_⟩
      obtain ⟨g, rfl⟩ : ∃ g, f = g + 2 := ⟨f - 2, by omega⟩
      have h1' := h1 (g + 1) (by omega)
      simp only at h1'
      show eArgsLoop T (g + 1 + 1) [] (i + 1) (op + 1) = _
      rw [eArgsLoop, if_neg (by rw [hn41]; decide), if_pos rfl]
      show obind (eLev T (g + 1) 0 (i + 1) (op + 1)) _ = _
      rw [h1']
      show eArgsLoop T (g + 1) ([] ++ [a]) (i + 1 + ts.length) (op + 1) = _
      rw [eArgsLoop, if_pos h41]
      rfl
    | @more a b l t1 t2 d1 d2 ha hl =>
      have hA1 : At T (i + 1) (t1 ++ sg 44 :: (t2 ++ sg 41 :: ks)) := by
        have := hA.one
        rw [List.append_assoc, List.cons_append] at this
        exact this
      have hn41 : isTok T (i + 1) [[41]] = false := by
        obtain ⟨t, r, rfl, hf⟩ := ha.first
        rw [hA1.tok]
        exact hf.no41 _
      obtain ⟨f1, h1⟩ := hq a (List.mem_cons_self ..) 0 t1 d1 (i + 1) (op + 1) _ (by omega) ha (by omega) hA1 (fol_sg (.inr (.inr (.inl rfl))) _ _)
      obtain ⟨f2, h2⟩ := args_more (b :: l) [a] t2 ks d2 (i + 1 + t1.length) (op + 1) (fun x hx => hq x (List.mem_cons_of_mem _ hx)) (by simp) (by simp) hl (by omega) hA1.skip
      refine ⟨f1 + f2 + 1, fun f hf => ?_⟩
      obtain ⟨g, rfl⟩ : ∃ g, f = g + 1 := ⟨f - 1, by omega⟩
      have h1' := h1 g (by omega)
      simp only at h1'
      show eArgsLoop T (g + 1) [] (i + 1) (op + 1) = _
      rw [eArgsLoop, if_neg (by rw [hn41]; decide), if_pos rfl]
      show obind (eLev T g 0 (i + 1) (op + 1)) _ = _
      rw [h1']
      show eArgsLoop T g ([] ++ [a]) (i + 1 + t1.length) (op + 1) = _
      have h2' := h2 g (by omega)
      simp only at h2'
      rw [List.nil_append, h2']
      congr 2
      simp only [List.length_append, List.length_cons]
      omega
  obtain ⟨f1, h1⟩ := key
  refine ⟨f1 + 1, fun f hf => ?_⟩
  obtain ⟨g, rfl⟩ : ∃ g, f = g + 1 := ⟨f - 1, by omega⟩
  have h1' := h1 g (by omega)
  simp only at h1'
  show eArgs T (g + 1) i op = _
  rw [eArgs, hA.begin (by omega)]
  show obind (eArgsLoop T g [] (i + 1) (op + 1)) _ = _
  rw [h1']
  show obind (some (sEnd T [41] (i + 1 + ts.length) (op + 1))) _ = _
  rw [hA.one.skip.fin]
  show some (Res.ok l (i + 1 + ts.length + 1) (op + 1 - 1)) = _
  congr 2
  omega
theorem unary_prim {i op : Nat} {ks : List KT} {r : Res Ex} (hA : At T i ks) (h1 : tokIn ks [[45]] = false) (h2 : tokIn ks [[33]] = false) (h : Evt (fun f => ePrim T f i op) r) : Evt (fun f => eUnary T f i op) r := by
  obtain ⟨f0, h⟩ := h
  refine ⟨f0 + 1, fun f hf => ?_⟩
  obtain ⟨g, rfl⟩ : ∃ g, f = g + 1 := ⟨f - 1, by omega⟩
  show eUnary T (g + 1) i op = _
  rw [eUnary, if_neg (by rw [hA.tok, h1]; decide), if_neg (by rw [hA.tok, h2]; decide)]
  exact h g (by omega)
theorem unary_op {c : UInt8} {nm : List UInt8} (hc : c = 45 ∧ nm = nNeg ∨ c = 33 ∧ nm = nNot) {i op i' : Nat} {e : Ex} {ks : List KT} (hA : At T i (sg c :: ks)) (ho : op < 100) (h : Evt (fun f => eUnary T f (i + 1) (op + 1)) (.ok e i' (op + 1))) :
    Evt (fun f => eUnary T f i op) (.ok (.mk nm 0 [] [e]) i' op) := by
  obtain ⟨f0, h⟩ := h
  refine ⟨f0 + 1, fun f hf => ?_⟩
  obtain ⟨g, rfl⟩ : ∃ g, f = g + 1 := ⟨f - 1, by omega⟩
  have h' := h g (by omega)
  simp only at h'
  show eUnary T (g + 1) i op = _
  rcases hc with ⟨rfl, rfl⟩ | ⟨rfl, rfl⟩
  · rw [eUnary, if_pos (by rw [hA.tok, tokIn_sg]), hA.begin ho]
    show obind (eUnary T g (i + 1) (op + 1)) _ = _
    rw [h']
    rfl
  · rw [eUnary, if_neg (by rw [hA.tok]; simp [tokIn, sg]), if_pos (by rw [hA.tok, tokIn_sg]), hA.begin ho]
    show obind (eUnary T g (i + 1) (op + 1)) _ = _
    rw [h']
    rfl
theorem prim_paren {i op i' : Nat} {e : Ex} {ks ks' : List KT} (hA : At T i (sg 40 :: ks)) (hA' : At T i' (sg 41 :: ks')) (ho : op < 100) (h : Evt (fun f => eLev T f 0 (i + 1) (op + 1)) (.ok e i' (op + 1))) : Evt (fun f => ePrim T f i op) (.ok e (i' + 1) op) := by
  obtain ⟨f0, h⟩ := h
  refine ⟨f0 + 1, fun f hf => ?_⟩
  obtain ⟨g, rfl⟩ : ∃ g, f = g + 1 := ⟨f - 1, by omega⟩
  have h' := h g (by omega)
  simp only at h'
  show ePrim T (g + 1) i op = _
  rw [ePrim, if_pos (by rw [hA.tok, tokIn_sg]), hA.begin ho]
  show obind (eLev T g 0 (i + 1) (op + 1)) _ = _
  rw [h']
  show obind (some (sEnd T [41] i' (op + 1))) _ = _
  rw [hA'.fin]
  rfl
theorem no_name (s : List UInt8) (ks : List KT) (xs : List (List UInt8)) : tokIn ((2, s) :: ks) xs = false := by simp [tokIn]
theorem no_num (s : List UInt8) (ks : List KT) (xs : List (List UInt8)) : tokIn ((1, s) :: ks) xs = false := by simp [tokIn]
theorem prim_name {i op i' : Nat} {s : List UInt8} {e : Ex} {ks : List KT} (hA : At T i ((2, s) :: ks))
    (h : Evt (fun f => if isTok T (i + 1) [[91]] then obind (eIndex T f (i + 1) op) fun e i' op' => some (.ok (.mk nElem 0 s [e]) i' op')
      else if isTok T (i + 1) [[40]] then obind (eArgs T f (i + 1) op) fun l i' op' => some (.ok (.mk nCall 0 s l) i' op')
      else some (.ok (.mk nVar 0 s []) (i + 1) op)) (.ok e i' op)) : Evt (fun f => ePrim T f i op) (.ok e i' op) := by
  obtain ⟨f0, h⟩ := h
  refine ⟨f0 + 1, fun f hf => ?_⟩
  obtain ⟨g, rfl⟩ : ∃ g, f = g + 1 := ⟨f - 1, by omega⟩
  show ePrim T (g + 1) i op = _
  rw [ePrim, if_neg (by rw [hA.tok, no_name]; decide), if_neg (by rw [hA.kind]; decide), hA.word]
  exact h g (by omega)
theorem index_parse {a : Ex} {ts ks : List KT} {d i op : Nat} (hq : QE T a) (hp : PE a 0 ts d) (hd : d + 1 ≤ 100 - op) (hA : At T i (sg 91 :: (ts ++ sg 93 :: ks))) : Evt (fun f => eIndex T f i op) (.ok a (i + 2 + ts.length) op) := by
  obtain ⟨f1, h1⟩ := hq 0 ts d (i + 1) (op + 1) _ (by omega) hp (by omega) hA.one (fol_sg (.inr (.inl rfl)) _ _)
  refine ⟨f1 + 1, fun f hf => ?_⟩
  obtain ⟨g, rfl⟩ : ∃ g, f = g + 1 := ⟨f - 1, by omega⟩
  have h1' := h1 g (by omega)
  simp only at h1'
  show eIndex T (g + 1) i op = _
  rw [eIndex, hA.begin (by omega)]
  show obind (eLev T g 0 (i + 1) (op + 1)) _ = _
  rw [h1']
  show obind (some (sEnd T [93] (i + 1 + ts.length) (op + 1))) _ = _
  rw [hA.one.skip.fin]
  show some (Res.ok a (i + 1 + ts.length + 1) (op + 1 - 1)) = _
  congr 2
  omega
theorem PE.more {e : Ex} {s : Nat} {ts : List KT} {d : Nat} (h : PE e s ts d) : PE e (s + 1) ts d ∨ ∃ o a b t1 t2 d1 d2, s < 6 ∧ o ∈ lvOps s ∧ e = .mk o 0 [] [a, b] ∧ ts = t1 ++ (4, o) :: t2 ∧ d = max d1 d2 ∧ PE a (leftLv s) t1 d1 ∧ PE b (s + 1) t2 d2 := by
  cases h with
  | num h => exact .inl (.num h)
  | var h => exact .inl (.var h)
  | elem h ha => exact .inl (.elem h ha)
  | call h ha => exact .inl (.call h ha)
  | neg ha => exact .inl (.neg ha)
  | not ha => exact .inl (.not ha)
  | par hs ho hk2 ha hb => exact .inl (.par hs ho (by omega) ha hb)
  | bin hs ho hk2 ha hb =>
    rename_i s0 o a b t1 t2 d1 d2
    by_cases h : s + 1 ≤ s0
    · exact .inl (.bin hs ho h ha hb)
    · have : s0 = s := by omega
      subst this
      exact .inr ⟨o, a, b, t1, t2, d1, d2, hs, ho, rfl, rfl, rfl, ha, hb⟩
theorem ex_parse : ∀ (n : Nat) (e : Ex), nEx e ≤ n → QE T e ∧ CE T e
  | 0, .mk _ _ _ _, hn => by rw [nEx] at hn; omega
  | n + 1, e, hn => by
    have hQ : QE T e := by
      intro k ts d i op ks hk hp hd hA hF
      have bin : ∀ {s k i op : Nat} {o : List UInt8} {a b : Ex} {t1 t2 ks : List KT} {d1 d2 : Nat}, nEx (.mk o 0 [] [a, b]) ≤ n + 1 → s < 6 → o ∈ lvOps s → k ≤ s → PE a (leftLv s) t1 d1 → PE b (s + 1) t2 d2 → max d1 d2 ≤ 100 - op → At T i (t1 ++ (4, o) :: (t2 ++ ks)) → Fol ks k →
          Evt (fun f => eLev T f k i op) (.ok (.mk o 0 [] [a, b]) (i + (t1 ++ (4, o) :: t2).length) op) := by
        intro s k i op o a b t1 t2 ks d1 d2 hn hs ho hk pa pb hd hA hF
        simp only [nEx, nExs] at hn
        obtain ⟨qa, ca⟩ := ex_parse n a (by omega)
        obtain ⟨qb, _⟩ := ex_parse n b (by omega)
        have hA2 : At T (i + (t1 ++ (4, o) :: t2).length) ks := by
          have h : At T i ((t1 ++ (4, o) :: t2) ++ ks) := by rw [List.append_assoc, List.cons_append]; exact hA
          exact h.skip
        obtain ⟨b1, b2⟩ := bin_lev (o1 := 0) hs ho pa pb hd hA (hF.up (by omega)) qa ca qb
        have h0 : Evt (fun f => eLev T f s i op) (.ok (.mk o 0 [] [a, b]) (i + (t1 ++ (4, o) :: t2).length) op) := by
          by_cases h2 : s = 2
          · exact b2 h2
          · refine b1 h2 _ ⟨1, fun f hf => ?_⟩
            obtain ⟨g, rfl⟩ : ∃ g, f = g + 1 := ⟨f - 1, by omega⟩
            show eLoop T (g + 1) s _ _ op = _
            rw [eLoop, if_neg (by rw [hA2.tok, hF.ops s hk hs]; decide)]
        exact lev_down hA2 (s - k) k s (by omega) (by omega) hF h0
      have un : Evt (fun f => eUnary T f i op) (.ok e (i + ts.length) op) → Evt (fun f => eLev T f k i op) (.ok e (i + ts.length) op) := fun h =>
        lev_down hA.skip (6 - k) k 6 (by omega) (by omega) hF (lev_unary h)
      cases hp with
      | num h =>
        refine un (unary_prim hA (no_num _ _ _) (no_num _ _ _) ⟨1, fun f hf => ?_⟩)
        obtain ⟨g, rfl⟩ : ∃ g, f = g + 1 := ⟨f - 1, by omega⟩
        show ePrim T (g + 1) i op = _
        rw [ePrim, if_neg (by rw [hA.tok]; simp [tokIn]), if_pos hA.kind, At.number hA h]
        rfl
      | var h =>
        refine un (unary_prim hA (no_name _ _ _) (no_name _ _ _) (prim_name hA ⟨0, fun f _ => ?_⟩))
        have hA1 : At T (i + 1) ks := hA.one
        simp only
        rw [if_neg (by rw [hA1.tok, hF.brk]; decide), if_neg (by rw [hA1.tok, hF.par]; decide)]
        rfl
      | elem h ha =>
        rename_i s a t1 d1
        simp only [nEx, nExs] at hn
        have hA1 : At T i ((2, s) :: sg 91 :: (t1 ++ sg 93 :: ks)) := by
          simpa only [List.cons_append, List.append_assoc, List.nil_append] using hA
        refine un (unary_prim hA1 (no_name _ _ _) (no_name _ _ _) (prim_name hA1 ?_))
        obtain ⟨f1, h1⟩ := index_parse (ex_parse n a (by omega)).1 ha hd hA1.one
        refine ⟨f1, fun f hf => ?_⟩
        have h1' := h1 f hf
        simp only at h1' ⊢
        rw [if_pos (by rw [hA1.one.tok, tokIn_sg]), h1']
        show some (Res.ok (Ex.mk nElem 0 s [a]) (i + 1 + 2 + t1.length) op) = _
        congr 2
        simp only [List.length_cons, List.length_append, List.length_nil]
        omega
      | call h hl =>
        rename_i s l t1 d1
        simp only [nEx] at hn
        have hA1 : At T i ((2, s) :: sg 40 :: (t1 ++ sg 41 :: ks)) := by
          simpa only [List.cons_append, List.append_assoc, List.nil_append] using hA
        refine un (unary_prim hA1 (no_name _ _ _) (no_name _ _ _) (prim_name hA1 ?_))
        obtain ⟨f1, h1⟩ := args_parse (fun x hx => (ex_parse n x (by have := nExs_mem hx; omega)).1) hl hd hA1.one
        refine ⟨f1, fun f hf => ?_⟩
        have h1' := h1 f hf
        simp only at h1' ⊢
        rw [if_neg (by rw [hA1.one.tok]; simp [tokIn, sg]), if_pos (by rw [hA1.one.tok, tokIn_sg]), h1']
        show some (Res.ok (Ex.mk nCall 0 s l) (i + 1 + 2 + t1.length) op) = _
        congr 2
        simp only [List.length_cons, List.length_append, List.length_nil]
        omega
      | neg ha =>
        rename_i a t1 d1
        simp only [nEx, nExs] at hn
        have h1 := (ex_parse n a (by omega)).1 6 t1 d1 (i + 1) (op + 1) ks (by omega) ha (by omega) hA.one (hF.up hk)
        have e1 : i + (sg 45 :: t1).length = i + 1 + t1.length := by simp only [List.length_cons]; omega
        rw [e1] at un ⊢
        exact un (unary_op (.inl ⟨rfl, rfl⟩) hA (by omega) (unary_lev h1))
      | not ha =>
        rename_i a t1 d1
        simp only [nEx, nExs] at hn
        have h1 := (ex_parse n a (by omega)).1 6 t1 d1 (i + 1) (op + 1) ks (by omega) ha (by omega) hA.one (hF.up hk)
        have e1 : i + (sg 33 :: t1).length = i + 1 + t1.length := by simp only [List.length_cons]; omega
        rw [e1] at un ⊢
        exact un (unary_op (.inr ⟨rfl, rfl⟩) hA (by omega) (unary_lev h1))
      | bin hs ho hk2 ha hb => exact bin hn hs ho hk2 ha hb hd (by simpa only [List.append_assoc, List.cons_append] using hA) hF
      | par hs ho hk2 ha hb =>
        rename_i s o a b t1 t2 d1 d2
        have hA1 : At T i (sg 40 :: (t1 ++ (4, o) :: (t2 ++ sg 41 :: ks))) := by
          simpa only [List.append_assoc, List.cons_append, List.nil_append] using hA
        have h1 := bin (k := 0) (op := op + 1) hn hs ho (by omega) ha hb (by omega) hA1.one (fol_sg (.inl rfl) _ _)
        have hA2 : At T (i + 1 + (t1 ++ (4, o) :: t2).length) (sg 41 :: ks) := by
          have h : At T (i + 1) ((t1 ++ (4, o) :: t2) ++ sg 41 :: ks) := by rw [List.append_assoc, List.cons_append]; exact hA1.one
          exact h.skip
        have e1 : i + (sg 40 :: ((t1 ++ (4, o) :: t2) ++ [sg 41])).length = i + 1 + (t1 ++ (4, o) :: t2).length + 1 := by simp only [List.length_cons, List.length_append, List.length_nil]; omega
        rw [e1] at un ⊢
        exact un (unary_prim hA1 (by simp [tokIn, sg]) (by simp [tokIn, sg]) (prim_paren hA1 hA2 (by omega) h1))
    refine ⟨hQ, ?_⟩
    intro s ts d i op ks r hs h2 hp hd hA hF hr
    rcases hp.more with hp' | ⟨o, a, b, t1, t2, d1, d2, _, ho, rfl, rfl, rfl, pa, pb⟩
    · obtain ⟨f1, h1⟩ := hQ (s + 1) ts d i op ks (by omega) hp' hd hA hF
      obtain ⟨f2, h2⟩ := hr
      refine ⟨f1 + f2 + 1, fun f hf => ?_⟩
      obtain ⟨g, rfl⟩ : ∃ g, f = g + 1 := ⟨f - 1, by omega⟩
      have h1' := h1 g (by omega)
      simp only at h1'
      show eLev T (g + 1) s i op = _
      rw [eLev, if_neg (by omega), h1']
      exact h2 g (by omega)
    · simp only [nEx, nExs] at hn
      obtain ⟨qa, ca⟩ := ex_parse n a (by omega)
      obtain ⟨qb, _⟩ := ex_parse n b (by omega)
      exact (bin_lev (o1 := 0) hs ho pa pb hd (by simpa only [List.append_assoc, List.cons_append] using hA) hF qa ca qb).1 h2 r hr
theorem qe (e : Ex) : QE T e := (ex_parse _ e (Nat.le_refl _)).1
end
end Go.Stele
set_option maxRecDepth 100000
namespace Go.Stele
section
variable {T : List Tok}
theorem At.kw {T : List Tok} {i : Nat} {x : List UInt8} {ks : List KT} (h : At T i ((3, x) :: ks)) (y : List UInt8) : isTok T i [y] = decide (x = y) := by
  rw [h.tok]
  simp [tokIn]
theorem At.nm {T : List Tok} {i : Nat} {x : List UInt8} {ks : List KT} (h : At T i ((2, x) :: ks)) (xs : List (List UInt8)) : isTok T i xs = false := by
  rw [h.tok, no_name]
theorem At.sgn {T : List Tok} {i : Nat} {c : UInt8} {ks : List KT} (h : At T i (sg c :: ks)) (y : List UInt8) : isTok T i [y] = decide ([c] = y) := by
  rw [h.tok]
  simp [tokIn, sg]
theorem expr0 {e : Ex} {ts ks : List KT} {d i op : Nat} {c : UInt8} (hc : c = 41 ∨ c = 93 ∨ c = 44 ∨ c = 59 ∨ c = 123) (hp : PE e 0 ts d) (hd : d ≤ 100 - op) (hA : At T i (ts ++ sg c :: ks)) : Evt (fun f => eLev T f 0 i op) (.ok e (i + ts.length) op) :=
  qe e 0 ts d i op _ (by omega) hp hd hA (fol_sg hc _ _)
/-- What is printed of a statement is read again. -/
def QS (T : List Tok) (s : Sm) : Prop := ∀ (ts : List KT) (d i op : Nat) (ks : List KT), PS s ts d → d ≤ 100 - op → At T i (ts ++ ks) → tokIn ks [kwElse] = false → Evt (fun f => sStmt T f i op) (.ok s (i + ts.length) op)
theorem ps_first {s : Sm} {ts : List KT} {d : Nat} (h : PS s ts d) : ∃ t r, ts = t :: r ∧ (t.1 = 2 ∨ t = (3, kwReturn) ∨ t = (3, kwHalt) ∨ t = (3, kwIf) ∨ t = (3, kwWhile)) := by
  cases h with
  | assign h he => exact ⟨_, _, rfl, .inl rfl⟩
  | store h hx he => exact ⟨_, _, rfl, .inl rfl⟩
  | call h hl => exact ⟨_, _, rfl, .inl rfl⟩
  | ret he => exact ⟨_, _, rfl, .inr (.inl rfl)⟩
  | halt => exact ⟨_, _, rfl, .inr (.inr (.inl rfl))⟩
  | ifElse he h1 h2 hne => exact ⟨_, _, rfl, .inr (.inr (.inr (.inl rfl)))⟩
  | ifThen he h1 => exact ⟨_, _, rfl, .inr (.inr (.inr (.inl rfl)))⟩
  | «while» he h1 => exact ⟨_, _, rfl, .inr (.inr (.inr (.inr rfl)))⟩
theorem ps_no {s : Sm} {ts ks : List KT} {d : Nat} (h : PS s ts d) {y : List UInt8} (hy : y = [125] ∨ y = kwElse ∨ y = kwVar) : tokIn (ts ++ ks) [y] = false := by
  obtain ⟨t, r, e, h⟩ := ps_first h
  rw [e]
  rcases h with h | rfl | rfl | rfl | rfl
  · simp [tokIn, h]
  all_goals rcases hy with rfl | rfl | rfl <;> exact rfl
theorem stmts_parse : ∀ (l acc : List Sm) (ts ks : List KT) (d i op : Nat), (∀ s ∈ l, QS T s) → PSs l ts d → d ≤ 100 - op → At T i (ts ++ sg 125 :: ks) → Evt (fun f => sStmts T f acc i op) (.ok (acc ++ l) (i + ts.length) op)
  | [], acc, ts, ks, d, i, op, hq, hp, hd, hA => by
    cases hp with
    | nil =>
      refine ⟨1, fun f hf => ?_⟩
      obtain ⟨g, rfl⟩ : ∃ g, f = g + 1 := ⟨f - 1, by omega⟩
      show sStmts T (g + 1) acc i op = _
      rw [sStmts, if_pos (by rw [hA.tok]; exact tokIn_sg 125), List.append_nil]
      rfl
  | s :: l, acc, ts, ks, d, i, op, hq, hp, hd, hA => by
    cases hp with
    | cons h hl =>
      rename_i t1 t2 d1 d2
      rw [List.append_assoc] at hA
      have he : tokIn (t2 ++ sg 125 :: ks) [kwElse] = false := by
        cases hl with
        | nil => rfl
        | cons h' hl' => rw [List.append_assoc]; exact ps_no h' (.inr (.inl rfl))
      obtain ⟨f1, h1⟩ := hq s (List.mem_cons_self ..) t1 d1 i op _ h (by omega) hA he
      obtain ⟨f2, h2⟩ := stmts_parse l (acc ++ [s]) t2 ks d2 (i + t1.length) op (fun x hx => hq x (List.mem_cons_of_mem _ hx)) hl (by omega) hA.skip
      refine ⟨f1 + f2 + 1, fun f hf => ?_⟩
      obtain ⟨g, rfl⟩ : ∃ g, f = g + 1 := ⟨f - 1, by omega⟩
      have h1' := h1 g (by omega)
      have h2' := h2 g (by omega)
      simp only at h1' h2'
      show sStmts T (g + 1) acc i op = _
      rw [sStmts, if_neg (by rw [hA.tok, ps_no h (.inl rfl)]; decide), h1']
      show sStmts T g (acc ++ [s]) (i + t1.length) op = _
      rw [h2', List.append_assoc, List.length_append, Nat.add_assoc]
      rfl
theorem block_parse {l : List Sm} {ts ks : List KT} {d i op : Nat} (hq : ∀ s ∈ l, QS T s) (hp : PSs l ts d) (hd : d + 1 ≤ 100 - op) (hA : At T i (sg 123 :: (ts ++ sg 125 :: ks))) : Evt (fun f => sBlock T f i op) (.ok l (i + 2 + ts.length) op) := by
  obtain ⟨f1, h1⟩ := stmts_parse l [] ts ks d (i + 1) (op + 1) hq hp (by omega) hA.one
  refine ⟨f1 + 1, fun f hf => ?_⟩
  obtain ⟨g, rfl⟩ : ∃ g, f = g + 1 := ⟨f - 1, by omega⟩
  have h1' := h1 g (by omega)
  simp only at h1'
  show sBlock T (g + 1) i op = _
  rw [sBlock, hA.begin (by omega)]
  show obind (sStmts T g [] (i + 1) (op + 1)) _ = _
  rw [h1']
  show obind (some (sEnd T [125] (i + 1 + ts.length) (op + 1))) _ = _
  rw [hA.one.skip.fin]
  show some (Res.ok l (i + 1 + ts.length + 1) (op + 1 - 1)) = _
  congr 2
  omega
theorem simple_parse {i op i' : Nat} {s : Sm} {ks ks' : List KT} (hA : At T i ks) (h1 : tokIn ks [kwIf] = false) (h2 : tokIn ks [kwWhile] = false) (hA' : At T i' (sg 59 :: ks')) (h : Evt (fun f => sSimple T f i op) (.ok s i' op)) : Evt (fun f => sStmt T f i op) (.ok s (i' + 1) op) := by
  obtain ⟨f0, h⟩ := h
  refine ⟨f0 + 1, fun f hf => ?_⟩
  obtain ⟨g, rfl⟩ : ∃ g, f = g + 1 := ⟨f - 1, by omega⟩
  have h' := h g (by omega)
  simp only at h'
  show sStmt T (g + 1) i op = _
  rw [sStmt, if_neg (by rw [hA.tok, h1]; decide), if_neg (by rw [hA.tok, h2]; decide), h']
  show obind (some (sNeed T [59] i' op)) _ = _
  rw [hA'.need]
  rfl
theorem st_parse : ∀ (n : Nat) (s : Sm), nSm s ≤ n → QS T s
  | 0, .mk _ _ _ _ _ _, hn => by rw [nSm] at hn; omega
  | n + 1, s, hn => by
    intro ts d i op ks hp hd hA hE
    cases hp with
    | assign h he =>
      rename_i s e t1
      have hA1 : At T i ((2, s) :: sg 61 :: (t1 ++ sg 59 :: ks)) := by simpa only [List.cons_append, List.append_assoc, List.nil_append] using hA
      obtain ⟨f1, h1⟩ := expr0 (op := op) (.inr (.inr (.inr (.inl rfl)))) he hd hA1.one.one
      have e1 : i + ((2, s) :: sg 61 :: (t1 ++ [sg 59])).length = i + 1 + 1 + t1.length + 1 := by simp only [List.length_cons, List.length_append, List.length_nil]; omega
      rw [e1]
      refine simple_parse hA1 (no_name _ _ _) (no_name _ _ _) hA1.one.one.skip ⟨f1 + 1, fun f hf => ?_⟩
      obtain ⟨g, rfl⟩ : ∃ g, f = g + 1 := ⟨f - 1, by omega⟩
      have h1' := h1 g (by omega)
      simp only at h1'
      show sSimple T (g + 1) i op = _
      rw [sSimple, if_neg (by rw [hA1.nm]; decide), if_neg (by rw [hA1.nm]; decide), hA1.word]
      show (if isTok T (i + 1) [[40]] then _ else if isTok T (i + 1) [[91]] then _ else obind (some (sNeed T [61] (i + 1) op)) _) = _
      rw [if_neg (by rw [hA1.one.sgn]; decide), if_neg (by rw [hA1.one.sgn]; decide), hA1.one.need]
      show obind (eLev T g 0 (i + 1 + 1) op) _ = _
      rw [h1']
      rfl
    | store h hx he =>
      rename_i s x e t1 t2 d1 d2
      have hA1 : At T i ((2, s) :: sg 91 :: (t1 ++ sg 93 :: sg 61 :: (t2 ++ sg 59 :: ks))) := by simpa only [List.cons_append, List.append_assoc, List.nil_append] using hA
      obtain ⟨f1, h1⟩ := index_parse (op := op) (qe x) hx (by omega) hA1.one
      have hA2 : At T (i + 1 + 2 + t1.length) (sg 61 :: (t2 ++ sg 59 :: ks)) := by
        have := hA1.one.one.skip.one
        rw [show i + 1 + 2 + t1.length = i + 1 + 1 + t1.length + 1 by omega]
        exact this
      obtain ⟨f2, h2⟩ := expr0 (op := op) (.inr (.inr (.inr (.inl rfl)))) he (by omega) hA2.one
      have e1 : i + ((2, s) :: sg 91 :: (t1 ++ sg 93 :: sg 61 :: (t2 ++ [sg 59]))).length = i + 1 + 2 + t1.length + 1 + t2.length + 1 := by simp only [List.length_cons, List.length_append, List.length_nil]; omega
      rw [e1]
      refine simple_parse hA1 (no_name _ _ _) (no_name _ _ _) hA2.one.skip ⟨f1 + f2 + 1, fun f hf => ?_⟩
      obtain ⟨g, rfl⟩ : ∃ g, f = g + 1 := ⟨f - 1, by omega⟩
      have h1' := h1 g (by omega)
      have h2' := h2 g (by omega)
      simp only at h1' h2'
      show sSimple T (g + 1) i op = _
      rw [sSimple, if_neg (by rw [hA1.nm]; decide), if_neg (by rw [hA1.nm]; decide), hA1.word]
      show (if isTok T (i + 1) [[40]] then _ else if isTok T (i + 1) [[91]] then obind (eIndex T g (i + 1) op) _ else _) = _
      rw [if_neg (by rw [hA1.one.sgn]; decide), if_pos (by rw [hA1.one.sgn]; decide), h1']
      show obind (some (sNeed T [61] (i + 1 + 2 + t1.length) op)) _ = _
      rw [hA2.need]
      show obind (eLev T g 0 (i + 1 + 2 + t1.length + 1) op) _ = _
      rw [h2']
      rfl
    | call h hl =>
      rename_i s l t1 d1
      have hA1 : At T i ((2, s) :: sg 40 :: (t1 ++ sg 41 :: sg 59 :: ks)) := by simpa only [List.cons_append, List.append_assoc, List.nil_append] using hA
      obtain ⟨f1, h1⟩ := args_parse (op := op) (fun x _ => qe x) hl (by omega) hA1.one
      have hA2 : At T (i + 1 + 2 + t1.length) (sg 59 :: ks) := by
        have := hA1.one.one.skip.one
        rw [show i + 1 + 2 + t1.length = i + 1 + 1 + t1.length + 1 by omega]
        exact this
      have e1 : i + ((2, s) :: sg 40 :: (t1 ++ [sg 41, sg 59])).length = i + 1 + 2 + t1.length + 1 := by simp only [List.length_cons, List.length_append, List.length_nil]; omega
      rw [e1]
      refine simple_parse hA1 (no_name _ _ _) (no_name _ _ _) hA2 ⟨f1 + 1, fun f hf => ?_⟩
      obtain ⟨g, rfl⟩ : ∃ g, f = g + 1 := ⟨f - 1, by omega⟩
      have h1' := h1 g (by omega)
      simp only at h1'
      show sSimple T (g + 1) i op = _
      rw [sSimple, if_neg (by rw [hA1.nm]; decide), if_neg (by rw [hA1.nm]; decide), hA1.word]
      show (if isTok T (i + 1) [[40]] then obind (eArgs T g (i + 1) op) _ else _) = _
      rw [if_pos (by rw [hA1.one.sgn]; decide), h1']
      rfl
    | ret he =>
      rename_i e t1
      have hA1 : At T i ((3, kwReturn) :: (t1 ++ sg 59 :: ks)) := by simpa only [List.cons_append, List.append_assoc, List.nil_append] using hA
      obtain ⟨f1, h1⟩ := expr0 (op := op) (.inr (.inr (.inr (.inl rfl)))) he hd hA1.one
      have e1 : i + ((3, kwReturn) :: (t1 ++ [sg 59])).length = i + 1 + t1.length + 1 := by simp only [List.length_cons, List.length_append, List.length_nil]; omega
      rw [e1]
      refine simple_parse hA1 rfl rfl hA1.one.skip ⟨f1 + 1, fun f hf => ?_⟩
      obtain ⟨g, rfl⟩ : ∃ g, f = g + 1 := ⟨f - 1, by omega⟩
      have h1' := h1 g (by omega)
      simp only at h1'
      show sSimple T (g + 1) i op = _
      rw [sSimple, if_pos (by rw [hA1.kw]; decide), h1']
      rfl
    | halt =>
      have hA1 : At T i ((3, kwHalt) :: sg 59 :: ks) := hA
      refine simple_parse hA1 rfl rfl hA1.one ⟨1, fun f hf => ?_⟩
      obtain ⟨g, rfl⟩ : ∃ g, f = g + 1 := ⟨f - 1, by omega⟩
      show sSimple T (g + 1) i op = _
      rw [sSimple, if_neg (by rw [hA1.kw]; decide), if_pos (by rw [hA1.kw]; decide)]
    | ifElse he h1 h2 hne =>
      rename_i e th el t0 t1 t2 d0 d1 d2
      simp only [nSm, nExs] at hn
      have hA1 : At T i ((3, kwIf) :: (t0 ++ sg 123 :: (t1 ++ sg 125 :: (3, kwElse) :: sg 123 :: (t2 ++ sg 125 :: ks)))) := by simpa only [List.cons_append, List.append_assoc, List.nil_append] using hA
      obtain ⟨f1, g1⟩ := expr0 (op := op) (.inr (.inr (.inr (.inr rfl)))) he (by omega) hA1.one
      obtain ⟨f2, g2⟩ := block_parse (op := op) (fun x hx => st_parse n x (by have := nSms_mem hx; omega)) h1 (by omega) hA1.one.skip
      have hA2 : At T (i + 1 + t0.length + 2 + t1.length) ((3, kwElse) :: sg 123 :: (t2 ++ sg 125 :: ks)) := by
        have := hA1.one.skip.one.skip.one
        rw [show i + 1 + t0.length + 2 + t1.length = i + 1 + t0.length + 1 + t1.length + 1 by omega]
        exact this
      obtain ⟨f3, g3⟩ := block_parse (op := op) (fun x hx => st_parse n x (by have := nSms_mem hx; omega)) h2 (by omega) hA2.one
      refine ⟨f1 + f2 + f3 + 1, fun f hf => ?_⟩
      obtain ⟨g, rfl⟩ : ∃ g, f = g + 1 := ⟨f - 1, by omega⟩
      have g1' := g1 g (by omega)
      have g2' := g2 g (by omega)
      have g3' := g3 g (by omega)
      simp only at g1' g2' g3'
      show sStmt T (g + 1) i op = _
      rw [sStmt, if_pos (by rw [hA1.kw]; decide), g1']
      show obind (sBlock T g (i + 1 + t0.length) op) _ = _
      rw [g2']
      show (if isTok T (i + 1 + t0.length + 2 + t1.length) [kwElse] then obind (sBlock T g (i + 1 + t0.length + 2 + t1.length + 1) op) _ else _) = _
      rw [if_pos (by rw [hA2.kw]; decide), g3']
      show some (Res.ok (Sm.mk 3 [] [] [e] th el) _ op) = _
      congr 2
      simp only [List.length_cons, List.length_append, List.length_nil]
      omega
    | ifThen he h1 =>
      rename_i e th t0 t1 d0 d1
      simp only [nSm, nExs] at hn
      have hA1 : At T i ((3, kwIf) :: (t0 ++ sg 123 :: (t1 ++ sg 125 :: ks))) := by simpa only [List.cons_append, List.append_assoc, List.nil_append] using hA
      obtain ⟨f1, g1⟩ := expr0 (op := op) (.inr (.inr (.inr (.inr rfl)))) he (by omega) hA1.one
      obtain ⟨f2, g2⟩ := block_parse (op := op) (fun x hx => st_parse n x (by have := nSms_mem hx; omega)) h1 (by omega) hA1.one.skip
      have hA2 : At T (i + 1 + t0.length + 2 + t1.length) ks := by
        have := hA1.one.skip.one.skip.one
        rw [show i + 1 + t0.length + 2 + t1.length = i + 1 + t0.length + 1 + t1.length + 1 by omega]
        exact this
      refine ⟨f1 + f2 + 1, fun f hf => ?_⟩
      obtain ⟨g, rfl⟩ : ∃ g, f = g + 1 := ⟨f - 1, by omega⟩
      have g1' := g1 g (by omega)
      have g2' := g2 g (by omega)
      simp only at g1' g2'
      show sStmt T (g + 1) i op = _
      rw [sStmt, if_pos (by rw [hA1.kw]; decide), g1']
      show obind (sBlock T g (i + 1 + t0.length) op) _ = _
      rw [g2']
      show (if isTok T (i + 1 + t0.length + 2 + t1.length) [kwElse] then _ else _) = _
      rw [if_neg (by rw [hA2.tok, hE]; decide)]
      congr 2
      simp only [List.length_cons, List.length_append, List.length_nil]
      omega
    | «while» he h1 =>
      rename_i e th t0 t1 d0 d1
      simp only [nSm, nExs] at hn
      have hA1 : At T i ((3, kwWhile) :: (t0 ++ sg 123 :: (t1 ++ sg 125 :: ks))) := by simpa only [List.cons_append, List.append_assoc, List.nil_append] using hA
      obtain ⟨f1, g1⟩ := expr0 (op := op) (.inr (.inr (.inr (.inr rfl)))) he (by omega) hA1.one
      obtain ⟨f2, g2⟩ := block_parse (op := op) (fun x hx => st_parse n x (by have := nSms_mem hx; omega)) h1 (by omega) hA1.one.skip
      refine ⟨f1 + f2 + 1, fun f hf => ?_⟩
      obtain ⟨g, rfl⟩ : ∃ g, f = g + 1 := ⟨f - 1, by omega⟩
      have g1' := g1 g (by omega)
      have g2' := g2 g (by omega)
      simp only at g1' g2'
      show sStmt T (g + 1) i op = _
      rw [sStmt, if_neg (by rw [hA1.kw]; decide), if_pos (by rw [hA1.kw]; decide), g1']
      show obind (sBlock T g (i + 1 + t0.length) op) _ = _
      rw [g2']
      show some (Res.ok (Sm.mk 4 [] [] [e] th []) _ op) = _
      congr 2
      simp only [List.length_cons, List.length_append, List.length_nil]
      omega
theorem qs (s : Sm) : QS T s := st_parse _ s (Nat.le_refl _)
/-! ### Declarations -/
theorem namesLoop_parse : ∀ (l acc : List (List UInt8)) (ks : List KT) (i op : Nat), l ≠ [] → tokIn ks [[44]] = false → At T i (sg 44 :: (commas l ++ ks)) → Evt (fun f => sNamesLoop T f acc i op) (.ok (acc ++ l) (i + 1 + (commas l).length) op)
  | [], _, _, _, _, h, _, _ => absurd rfl h
  | [a], acc, ks, i, op, _, hk, hA => by
    refine ⟨2, fun f hf => ?_⟩
    obtain ⟨g, rfl⟩ : ∃ g, f = g + 2 := ⟨f - 2, by omega⟩
    have hA1 : At T (i + 1) ((2, a) :: ks) := hA.one
    show sNamesLoop T (g + 1 + 1) acc i op = _
    rw [sNamesLoop, if_pos (by rw [hA.tok, tokIn_sg]), hA1.word]
    show sNamesLoop T (g + 1) (acc ++ [a]) (i + 1 + 1) op = _
    rw [sNamesLoop, if_neg (by rw [hA1.one.tok, hk]; decide)]
    rfl
  | a :: b :: l, acc, ks, i, op, _, hk, hA => by
    have hA1 : At T (i + 1) ((2, a) :: sg 44 :: (commas (b :: l) ++ ks)) := hA.one
    obtain ⟨f1, h1⟩ := namesLoop_parse (b :: l) (acc ++ [a]) ks (i + 1 + 1) op (by simp) hk hA1.one
    refine ⟨f1 + 1, fun f hf => ?_⟩
    obtain ⟨g, rfl⟩ : ∃ g, f = g + 1 := ⟨f - 1, by omega⟩
    have h1' := h1 g (by omega)
    simp only at h1'
    show sNamesLoop T (g + 1) acc i op = _
    rw [sNamesLoop, if_pos (by rw [hA.tok, tokIn_sg]), hA1.word]
    show sNamesLoop T g (acc ++ [a]) (i + 1 + 1) op = _
    rw [h1', List.append_assoc]
    congr 2
    simp only [commas, List.length_cons]
    omega
theorem names_parse {l : List (List UInt8)} {ks : List KT} {i op : Nat} (hl : l ≠ []) (hk : tokIn ks [[44]] = false) (hA : At T i (commas l ++ ks)) : Evt (fun f => sNames T f i op) (.ok l (i + (commas l).length) op) := by
  match l, hl, hA with
  | [a], _, hA =>
    have hA1 : At T i ((2, a) :: ks) := hA
    refine ⟨1, fun f hf => ?_⟩
    obtain ⟨g, rfl⟩ : ∃ g, f = g + 1 := ⟨f - 1, by omega⟩
    show sNames T (g + 1) i op = _
    unfold sNames
    rw [hA1.word]
    show sNamesLoop T (g + 1) [a] (i + 1) op = _
    rw [sNamesLoop, if_neg (by rw [hA1.one.tok, hk]; decide)]
    rfl
  | a :: b :: l, _, hA =>
    have hA1 : At T i ((2, a) :: sg 44 :: (commas (b :: l) ++ ks)) := hA
    obtain ⟨f1, h1⟩ := namesLoop_parse (b :: l) [a] ks (i + 1) op (by simp) hk hA1.one
    refine ⟨f1, fun f hf => ?_⟩
    have h1' := h1 f hf
    simp only at h1'
    show sNames T f i op = _
    unfold sNames
    rw [hA1.word]
    show sNamesLoop T f [a] (i + 1) op = _
    rw [h1']
    show some (Res.ok (a :: b :: l) _ op) = _
    congr 2
    simp only [commas, List.length_cons]
    omega
theorem vars_parse {l : List (List UInt8)} {ks : List KT} {i op : Nat} (hk : tokIn ks [kwVar] = false) (hA : At T i (varK l ++ ks)) : Evt (fun f => sVars T f [] i op) (.ok l (i + (varK l).length) op) := by
  unfold varK at hA ⊢
  by_cases hl : l = []
  · rw [if_pos hl] at hA ⊢
    subst hl
    refine ⟨1, fun f hf => ?_⟩
    obtain ⟨g, rfl⟩ : ∃ g, f = g + 1 := ⟨f - 1, by omega⟩
    show sVars T (g + 1) [] i op = _
    rw [sVars, if_neg (by rw [hA.tok]; rw [List.nil_append, hk]; decide)]
    rfl
  · rw [if_neg hl] at hA ⊢
    have hA1 : At T i ((3, kwVar) :: (commas l ++ sg 59 :: ks)) := by simpa only [List.cons_append, List.append_assoc, List.nil_append] using hA
    obtain ⟨f1, h1⟩ := names_parse (op := op) hl (by simp [tokIn, sg]) hA1.one
    refine ⟨f1 + 2, fun f hf => ?_⟩
    obtain ⟨g, rfl⟩ : ∃ g, f = g + 2 := ⟨f - 2, by omega⟩
    have h1' := h1 (g + 1) (by omega)
    simp only at h1'
    show sVars T (g + 1 + 1) [] i op = _
    rw [sVars, if_pos (by rw [hA1.kw]; decide), h1']
    show obind (some (sNeed T [59] (i + 1 + (commas l).length) op)) _ = _
    rw [hA1.one.skip.need]
    show sVars T (g + 1) ([] ++ l) (i + 1 + (commas l).length + 1) op = _
    rw [sVars, if_neg (by rw [hA1.one.skip.one.tok, hk]; decide), List.nil_append]
    congr 2
    simp only [List.length_cons, List.length_append, List.length_nil]
    omega
theorem func_parse {a : FnD} {ts ks : List KT} {d i : Nat} (hp : PF a ts d) (hd : d ≤ 100) (hA : At T i (ts ++ ks)) : isTok T i [kwFunc] = true ∧ isTok T i [kwArray] = false ∧ isTok T i [kwVar] = false ∧ Evt (fun f => sFunc T f (i + 1) 0) (.ok a (i + ts.length) 0) := by
  cases hp with
  | mk h hps hls hb =>
    rename_i nm ps ls b t1 d1
    have hA1 : At T i ((3, kwFunc) :: (2, nm) :: sg 40 :: (commas ps ++ sg 41 :: sg 123 :: (varK ls ++ (t1 ++ sg 125 :: ks)))) := by simpa only [List.cons_append, List.append_assoc, List.nil_append] using hA
    refine ⟨by rw [hA1.kw]; decide, by rw [hA1.kw]; decide, by rw [hA1.kw]; decide, ?_⟩
    have hA3 := hA1.one.one.one
    have key : Evt (fun f => if isTok T (i + 1 + 1 + 1) [[41]] then some (.ok [] (i + 1 + 1 + 1) 1) else sNames T f (i + 1 + 1 + 1) 1) (.ok ps (i + 1 + 1 + 1 + (commas ps).length) 1) := by
      by_cases hne : ps = []
      · subst hne
        refine ⟨0, fun f _ => ?_⟩
        simp only
        rw [if_pos (by rw [hA3.tok]; exact tokIn_sg 41)]
        rfl
      · obtain ⟨f1, h1⟩ := names_parse (op := 1) hne (by simp [tokIn, sg]) hA3
        refine ⟨f1, fun f hf => ?_⟩
        simp only
        rw [if_neg ?_]
        · exact h1 f hf
        · rw [hA3.tok]
          match ps, hne with
          | [x], _ => simp [tokIn, commas]
          | x :: y :: r, _ => simp [tokIn, commas]
    obtain ⟨f1, h1⟩ := key
    have hA4 := hA3.skip
    have hv : tokIn (t1 ++ sg 125 :: ks) [kwVar] = false := by
      cases hb with
      | nil => rfl
      | cons h' hl' => rw [List.append_assoc]; exact ps_no h' (.inr (.inr rfl))
    obtain ⟨f2, h2⟩ := vars_parse (op := 1) hv hA4.one.one
    obtain ⟨f3, h3⟩ := stmts_parse b [] t1 ks d1 _ 1 (fun x _ => qs x) hb (by omega) hA4.one.one.skip
    refine ⟨f1 + f2 + f3, fun f hf => ?_⟩
    have h1' := h1 f (by omega)
    have h2' := h2 f (by omega)
    have h3' := h3 f (by omega)
    simp only at h1' h2' h3'
    show sFunc T f (i + 1) 0 = _
    unfold sFunc
    rw [hA1.one.word]
    show obind (some (sBegin T [40] (i + 1 + 1) 0)) _ = _
    rw [hA1.one.one.begin (by omega)]
    show obind (if isTok T (i + 1 + 1 + 1) [[41]] then some (.ok [] (i + 1 + 1 + 1) 1) else sNames T f (i + 1 + 1 + 1) 1) _ = _
    rw [h1']
    show obind (some (sEnd T [41] (i + 1 + 1 + 1 + (commas ps).length) 1)) _ = _
    rw [hA4.fin]
    show obind (some (sBegin T [123] (i + 1 + 1 + 1 + (commas ps).length + 1) 0)) _ = _
    rw [hA4.one.begin (by omega)]
    show obind (sVars T f [] (i + 1 + 1 + 1 + (commas ps).length + 1 + 1) 1) _ = _
    rw [h2']
    show obind (sStmts T f [] (i + 1 + 1 + 1 + (commas ps).length + 1 + 1 + (varK ls).length) 1) _ = _
    rw [h3']
    show obind (some (sEnd T [125] (i + 1 + 1 + 1 + (commas ps).length + 1 + 1 + (varK ls).length + t1.length) 1)) _ = _
    rw [hA4.one.one.skip.skip.fin]
    show some (Res.ok (FnD.mk nm ps ls b) _ 0) = _
    congr 2
    simp only [List.length_cons, List.length_append, List.length_nil]
    omega
theorem array_parse {a : Ar} {ks : List KT} {i : Nat} (h : NameOk a.name ∧ a.size < 4294967296) (hA : At T i (arK a ++ ks)) : isTok T i [kwArray] = true ∧ isTok T i [kwVar] = false ∧ sArray T (i + 1) 0 = some (.ok a (i + 6) 0) := by
  have hA1 : At T i ((3, kwArray) :: (2, a.name) :: sg 91 :: (1, Go.Lib.decDigits a.size) :: sg 93 :: sg 59 :: ks) := hA
  refine ⟨by rw [hA1.kw]; decide, by rw [hA1.kw]; decide, ?_⟩
  unfold sArray
  rw [hA1.one.word]
  show obind (some (sBegin T [91] (i + 1 + 1) 0)) _ = _
  rw [hA1.one.one.begin (by omega)]
  show obind (some (sNumber T (i + 1 + 1 + 1) 1)) _ = _
  rw [hA1.one.one.one.number h.2]
  show obind (some (sEnd T [93] (i + 1 + 1 + 1 + 1) 1)) _ = _
  rw [hA1.one.one.one.one.fin]
  show obind (some (sNeed T [59] (i + 1 + 1 + 1 + 1 + 1) 0)) _ = _
  rw [hA1.one.one.one.one.one.need]
  rfl
theorem At.lt {i : Nat} {t : KT} {ks : List KT} (h : At T i (t :: ks)) : i < T.length := by
  obtain ⟨t', h1, _⟩ := h.get
  exact get_lt h1
theorem At.len {i : Nat} (h : At T i []) : T.length ≤ i := by
  have h1 : ((T.map kt).drop i).length = 0 := by rw [show (T.map kt).drop i = [] from h]; rfl
  rw [List.length_drop, List.length_map] at h1
  omega
theorem funcs_parse : ∀ (l : List FnD) (ts : List KT) (p : Pr) (i : Nat), PFs l ts → At T i ts → ∃ j, Evt (fun f => sProg T f p i 0) (.ok { p with funcs := p.funcs ++ l } j 0)
  | [], ts, p, i, h, hA => by
    cases h with
    | nil =>
      refine ⟨i, 1, fun f hf => ?_⟩
      obtain ⟨g, rfl⟩ : ∃ g, f = g + 1 := ⟨f - 1, by omega⟩
      show sProg T (g + 1) p i 0 = _
      rw [sProg, if_pos hA.len, List.append_nil]
  | a :: l, ts, p, i, h, hA => by
    cases h with
    | cons hf hd hl =>
      obtain ⟨e1, e2, e3, f1, h1⟩ := func_parse hf hd hA
      obtain ⟨j, f2, h2⟩ := funcs_parse l _ { p with funcs := p.funcs ++ [a] } _ hl hA.skip
      refine ⟨j, f1 + f2 + 1, fun f hf => ?_⟩
      obtain ⟨g, rfl⟩ : ∃ g, f = g + 1 := ⟨f - 1, by omega⟩
      have h1' := h1 g (by omega)
      have h2' := h2 g (by omega)
      simp only at h1' h2'
      show sProg T (g + 1) p i 0 = _
      rw [sProg, if_neg (by have := isTok_lt e1; omega), if_neg (by rw [e3]; decide), if_neg (by rw [e2]; decide), if_pos e1, h1']
      show sProg T g { p with funcs := p.funcs ++ [a] } _ 0 = _
      rw [h2', List.append_assoc]
      rfl
theorem arrays_parse : ∀ (l : List Ar) (fs : List FnD) (ts : List KT) (p : Pr) (i : Nat), ArsOk l → PFs fs ts → At T i ((l.map arK).flatten ++ ts) → ∃ j, Evt (fun f => sProg T f p i 0) (.ok ⟨p.vars, p.arrays ++ l, p.funcs ++ fs⟩ j 0)
  | [], fs, ts, p, i, _, hf, hA => by
    rw [List.append_nil]
    exact funcs_parse fs ts p i hf hA
  | a :: l, fs, ts, p, i, hl, hf, hA => by
    rw [List.map_cons, List.flatten_cons, List.append_assoc] at hA
    obtain ⟨e1, e2, h1⟩ := array_parse (hl a (List.mem_cons_self ..)) hA
    obtain ⟨j, f2, h2⟩ := arrays_parse l fs ts { p with arrays := p.arrays ++ [a] } _ (fun x hx => hl x (List.mem_cons_of_mem _ hx)) hf hA.skip
    refine ⟨j, f2 + 1, fun f hf => ?_⟩
    obtain ⟨g, rfl⟩ : ∃ g, f = g + 1 := ⟨f - 1, by omega⟩
    have h2' := h2 g (by omega)
    simp only at h2'
    show sProg T (g + 1) p i 0 = _
    rw [sProg, if_neg (by have := isTok_lt e1; omega), if_neg (by rw [e2]; decide), if_pos e1, h1]
    show sProg T g { p with arrays := p.arrays ++ [a] } (i + 6) 0 = _
    have e6 : (arK a).length = 6 := rfl
    rw [e6] at h2'
    rw [h2', List.append_assoc]
    rfl
theorem prog_parse {p : Pr} {ts : List KT} (hp : PP p ts) (hA : At T 0 ts) : ∃ j, Evt (fun f => sProg T f ⟨[], [], []⟩ 0 0) (.ok p j 0) := by
  cases hp with
  | mk hv ha hf =>
    rename_i v a fs t1
    have hno : tokIn ((a.map arK).flatten ++ t1) [kwVar] = false := by
      match a, hf with
      | x :: r, _ => simp [tokIn, arK, kwArray, kwVar]
      | [], hf =>
        cases hf with
        | nil => rfl
        | cons h _ _ =>
          cases h with
          | mk _ _ _ _ => simp [tokIn, kwFunc, kwVar]
    by_cases hne : v = []
    · subst hne
      exact arrays_parse a fs t1 ⟨[], [], []⟩ 0 ha hf hA
    · obtain ⟨f1, h1⟩ := vars_parse (op := 0) hno hA
      obtain ⟨j, f2, h2⟩ := arrays_parse a fs t1 ⟨v, [], []⟩ _ ha hf hA.skip
      have hA1 : At T 0 ((3, kwVar) :: (commas v ++ [sg 59] ++ ((a.map arK).flatten ++ t1))) := by
        unfold varK at hA
        rw [if_neg hne] at hA
        exact hA
      refine ⟨j, f1 + f2 + 1, fun f hf => ?_⟩
      obtain ⟨g, rfl⟩ : ∃ g, f = g + 1 := ⟨f - 1, by omega⟩
      have h1' := h1 g (by omega)
      have h2' := h2 g (by omega)
      simp only at h1' h2'
      show sProg T (g + 1) ⟨[], [], []⟩ 0 0 = _
      rw [sProg, if_neg (by have := hA1.lt; omega), if_pos (by rw [hA1.kw]; decide), h1']
      exact h2'
/-- The tokens of a printed program are read as that program. -/
theorem print_read {p : Pr} {ts : List KT} {T : List Tok} (hp : PP p ts) (hT : T.map kt = ts) {F : Nat} {r : Res Pr} (hr : sProg T F ⟨[], [], []⟩ 0 0 = some r) : ∃ j, r = .ok p j 0 := by
  obtain ⟨j, f0, h⟩ := prog_parse (T := T) hp (by show (T.map kt).drop 0 = ts; rw [hT]; rfl)
  have h1 := prog_le T F (F + f0) _ 0 0 (by omega) _ hr
  have h2 := h (F + f0) (by omega)
  simp only at h2
  rw [h1] at h2
  injection h2 with h2
  exact ⟨j, h2⟩
end
end Go.Stele
namespace Go.Proofs.YtfodkbchknknjaaGreatDoor
open Go.GL Go.RowKit Go.Stele
set_option maxRecDepth 100000
set_option maxHeartbeats 4000000
theorem PP.none : PP noPr [] := by
  have := PP.mk (v := []) (a := []) (f := []) (ts := []) (fun x hx => by cases hx) (fun x hx => by cases hx) PFs.nil
  exact this
/-- Whatever is parsed, rightly or not, can be printed with no more tokens. -/
theorem parse_print {s : List UInt8} (hs : s.length ≤ 1500) : ∃ ts, PP (parseP s).1 ts ∧ ts.length ≤ 1500 ∧ ((parseP s).2.2 = 0 → ∃ T, lexAllP s = .ok T ∧ ts.length ≤ T.length) := by
  unfold parseP
  split
  · rename_i l e he
    exact ⟨[], PP.none, by simp, fun h => absurd h (lexAllP_err he)⟩
  · rename_i T hT
    have hT' := hT
    unfold lexAllP at hT'
    rw [if_neg (by omega)] at hT'
    have hag := lexP_again _ _ _ _ hT'
    have hTl := (lexP_ok _ _ _ _ hT').1
    split
    · rename_i p i op hp
      obtain ⟨ts, h1, h2⟩ := src_print hag hp
      exact ⟨ts, h1, by omega, fun _ => ⟨T, hT, h2⟩⟩
    · rename_i l e he
      exact ⟨[], PP.none, by simp, fun h => absurd h (prog_en _ _ _ _ _ _ _ he)⟩
    · exact ⟨[], PP.none, by simp, fun _ => ⟨T, hT, Nat.zero_le _⟩⟩
/-- A printed program is read again. -/
theorem print_parse {p : Pr} {ts : List KT} (hp : PP p ts) (hl : (formatP p).length ≤ 60000) : (∃ B, lexAllP (formatP p) = .ok B ∧ B.length = ts.length) ∧ parseP (formatP p) = (p, 0, 0) := by
  obtain ⟨B, h1, h2⟩ := print_lex hp 1
  have h3 : lexAllP (formatP p) = .ok B := by
    unfold lexAllP
    rw [if_neg (by omega)]
    exact h1
  refine ⟨⟨B, h3, by rw [← h2, List.length_map]⟩, ?_⟩
  unfold parseP
  rw [h3]
  obtain ⟨q, hq⟩ := sProg_ends B (10 * B.length + 20) noPr 0 0 (Nat.zero_le _) (by omega)
  obtain ⟨j, hj⟩ := print_read hp h2 hq
  simp only
  rw [hq, hj]
end Go.Proofs.YtfodkbchknknjaaGreatDoor
namespace Go.Proofs.YtfodkbchknknjaaGreatDoor
open Go.GL Go.RowKit Go.Stele
set_option maxRecDepth 100000
set_option maxHeartbeats 4000000
theorem parseP_lexErr {s : List UInt8} {l e : Int} (h : lexAllP s = .error (l, e)) : parseP s = (noPr, l, e) := by
  unfold parseP
  rw [h]
theorem pfs_nth : ∀ (l : List FnD) (ts : List KT), PFs l ts → ∀ f ∈ l, ∃ t d, PF f t d ∧ t.length ≤ ts.length
  | [], _, _, _, h => by cases h
  | a :: l, ts, hp, f, h => by
    cases hp with
    | cons hf hd hl =>
      rcases List.mem_cons.1 h with rfl | h
      · exact ⟨_, _, hf, by simp only [List.length_append]; omega⟩
      · obtain ⟨t, d, h1, h2⟩ := pfs_nth l _ hl f h
        exact ⟨t, d, h1, by simp only [List.length_append]; omega⟩
theorem names_count (l : List (List UInt8)) : l.length ≤ (commas l).length + 1 := by
  rw [commas_len]
  omega
theorem varK_count (l : List (List UInt8)) : l.length ≤ (varK l).length := by
  rw [varK_len]
  split
  · rename_i h; subst h; simp
  · omega
/-- A printed program can be formatted. -/
theorem fmt_ok {p : Pr} {ts : List KT} (hp : PP p ts) (hz : ts.length ≤ 1500) (hn : nPr p ≤ 1000000000) : FmtOk p := by
  have hsz := print_size hp
  cases hp with
  | mk hv ha hf =>
    rename_i v a f t
    simp only [List.length_append, arK_len] at hz
    have h1 := varK_count v
    unfold nPr at hn
    simp only at hn
    have h2 := nFns_len f
    refine ⟨by simp only; omega, by simp only; omega, fun x hx => (ha x hx).2, by simp only; omega, fun x hx => ?_, ?_⟩
    · simp only at hx
      have h3 := nFns_mem hx
      obtain ⟨t', d, h4, h5⟩ := pfs_nth f t hf x hx
      unfold nFn at h3
      refine ⟨by omega, by omega, by omega, ?_⟩
      cases h4 with
      | mk k1 k2 k3 k4 =>
        simp only [List.length_append, List.length_cons] at h5
        exact pssOk k4 (by omega)
    · simp only [List.length_append, arK_len] at hsz
      omega
attribute [local irreducible] LOps LCode LStep LCalls Go.GL.Pure QThen QBlock RetPost LQ LAny LLate LLateOp
section
variable {B0 : Nat} {w0 : World}
theorem tokens_law (hG : GW B0 w0) (s : List UInt8) : LCalls (KC B0 w0) 7 [str s] [] (Ret (bool true)) := by
  refine LCalls.intro Tryz.func7 rfl (n := 58) rfl rfl rfl ?_
  repeat first
    | refine LOps.nil ?_
    | refine LCode.seq ?_
    | refine LCode.region ?_
    | refine QThen.normal ?_
    | refine LOps.pure (Pure.as (lv := .atom _) rfl) rfl ?_
  refine LOps.step (S.fn [] rfl (alive_spec hG) ?_) rfl
  repeat first
    | refine LOps.nil ?_
    | refine QThen.normal ?_
    | refine LOps.pure (Pure.not rfl) rfl ?_
  refine LCode.cond rfl (fun h0 => ?_) (fun h0 => ?_)
  · cases h0
  repeat first
    | refine LOps.nil ?_
    | refine LCode.seq ?_
    | refine LCode.region ?_
    | refine LCode.skip ?_
    | refine QThen.normal ?_
    | refine LOps.pure (Pure.mv (lv := .atom _) rfl) rfl ?_
    | refine LOps.pure (Pure.slen rfl) rfl ?_
    | refine LOps.pure (Pure.gtr rfl rfl) rfl ?_
  refine LCode.cond rfl (fun h1 => ?_) (fun h1 => ?_)
  · repeat first
      | refine LOps.nil ?_
      | refine LCode.seq ?_
      | refine LCode.region ?_
      | refine LCode.ret ?_
      | refine QThen.normal ?_
      | refine QThen.ret ?_
      | refine LOps.pure (Pure.as (lv := .atom _) rfl) rfl ?_
    exact retRet rfl (AllRes.cons (ResIs.tmp (v := .atom _) rfl (LV.Sub.refl _)) AllRes.nil) rfl
  have hlen : s.length ≤ 1500 := by have := of_decide_eq_false h1; omega
  have hp := parse_spec hG s (by omega)
  have htok := Tokens_spec hG s (by omega)
  have hpo := parseP_ok s
  obtain ⟨ts, hpp, hts, hle⟩ := parse_print hlen
  cases hT : lexAllP s with
  | error le =>
    obtain ⟨l, e⟩ := le
    rw [hT] at htok
    have he := lexAllP_err hT
    rw [parseP_lexErr hT] at hp
    repeat first
      | refine LCode.seq ?_
      | refine LCode.region ?_
      | refine LCode.skip ?_
      | refine QThen.normal ?_
      | refine LOps.pure (Pure.mv (lv := .atom _) rfl) rfl ?_
    refine LOps.step (S.fn [_] rfl hp ?_) rfl
    refine LOps.pure (Pure.mv rfl) rfl ?_
    refine LOps.pure (Pure.extract (vs := [encPr noPr, int .i64 l, int .i64 e]) rfl rfl) rfl ?_
    refine LOps.pure (Pure.extract (vs := [encPr noPr, int .i64 l, int .i64 e]) rfl rfl) rfl ?_
    refine LOps.pure (Pure.extract (vs := [encPr noPr, int .i64 l, int .i64 e]) rfl rfl) rfl ?_
    refine LOps.step (S.alloc fun b3 => ?_) rfl
    repeat first
      | refine LOps.nil ?_
      | refine LCode.seq ?_
      | refine LCode.region ?_
      | refine QThen.normal ?_
      | refine LOps.pure (Pure.as (lv := .atom _) rfl) rfl ?_
      | refine LOps.pure (Pure.mv (lv := .atom _) rfl) rfl ?_
      | refine LOps.step (S.store (cs' := [_, _, _]) rfl Pick.here rfl rfl rfl rfl rfl ?_) rfl
    refine LOps.step (S.fn [_] rfl htok ?_) rfl
    refine LOps.pure (Pure.mv rfl) rfl ?_
    refine LOps.pure (Pure.extract (vs := [.list [], int .i64 l, int .i64 e]) rfl rfl) rfl ?_
    refine LOps.pure (Pure.extract (vs := [.list [], int .i64 l, int .i64 e]) rfl rfl) rfl ?_
    refine LOps.pure (Pure.extract (vs := [.list [], int .i64 l, int .i64 e]) rfl rfl) rfl ?_
    repeat first
      | refine LOps.nil ?_
      | refine LCode.seq ?_
      | refine LCode.region ?_
      | refine QThen.normal ?_
      | refine LOps.pure (Pure.as (lv := .atom _) rfl) rfl ?_
      | refine LOps.pure (Pure.mv (lv := .atom _) rfl) rfl ?_
      | refine LOps.pure (Pure.as (lv := .list _) rfl) rfl ?_
      | refine LOps.pure (Pure.neq rfl rfl) rfl ?_
    refine LOps.bcase 32 rfl (fun hh => ?_) (fun hh => absurd hh (by simpa using he))
    repeat first
      | refine LOps.nil ?_
      | refine QThen.normal ?_
      | refine LOps.pure (Pure.pickT (lv := .atom _) rfl rfl) rfl ?_
      | refine LOps.skip rfl rfl rfl rfl ?_
    refine LCode.cond rfl (fun h2 => ?_) (fun h2 => ?_)
    · repeat first
        | refine LOps.nil ?_
        | refine LCode.seq ?_
        | refine LCode.region ?_
        | refine LCode.ret ?_
        | refine QThen.normal ?_
        | refine QThen.ret ?_
        | refine LOps.pure (Pure.as (lv := .atom _) rfl) rfl ?_
        | refine LOps.pure (Pure.mv (lv := .atom _) rfl) rfl ?_
        | refine LOps.pure (Pure.neq rfl rfl) rfl ?_
      exact retRet rfl (AllRes.cons (ResIs.tmp (v := .atom _) rfl (LV.Sub.refl _)) AllRes.nil) (bool_eq (by simpa using he))
    · cases h2
  | ok T =>
    rw [hT] at htok
    generalize hr : parseP s = r at hp hpo hpp hle
    obtain ⟨p, l, e⟩ := r
    simp only at hpo hpp hle
    repeat first
      | refine LCode.seq ?_
      | refine LCode.region ?_
      | refine LCode.skip ?_
      | refine QThen.normal ?_
      | refine LOps.pure (Pure.mv (lv := .atom _) rfl) rfl ?_
    refine LOps.step (S.fn [_] rfl hp ?_) rfl
    refine LOps.pure (Pure.mv rfl) rfl ?_
    refine LOps.pure (Pure.extract (vs := [encPr p, int .i64 l, int .i64 e]) rfl rfl) rfl ?_
    refine LOps.pure (Pure.extract (vs := [encPr p, int .i64 l, int .i64 e]) rfl rfl) rfl ?_
    refine LOps.pure (Pure.extract (vs := [encPr p, int .i64 l, int .i64 e]) rfl rfl) rfl ?_
    refine LOps.step (S.alloc fun b3 => ?_) rfl
    repeat first
      | refine LOps.nil ?_
      | refine LCode.seq ?_
      | refine LCode.region ?_
      | refine QThen.normal ?_
      | refine LOps.pure (Pure.as (lv := .atom _) rfl) rfl ?_
      | refine LOps.pure (Pure.mv (lv := .atom _) rfl) rfl ?_
      | refine LOps.step (S.store (cs' := [_, _, _]) rfl Pick.here rfl rfl rfl rfl rfl ?_) rfl
    refine LOps.step (S.fn [_] rfl htok ?_) rfl
    refine LOps.pure (Pure.mv rfl) rfl ?_
    refine LOps.pure (Pure.extract (vs := [.list (T.map encTok), int .i64 0, int .i64 0]) rfl rfl) rfl ?_
    refine LOps.pure (Pure.extract (vs := [.list (T.map encTok), int .i64 0, int .i64 0]) rfl rfl) rfl ?_
    refine LOps.pure (Pure.extract (vs := [.list (T.map encTok), int .i64 0, int .i64 0]) rfl rfl) rfl ?_
    repeat first
      | refine LOps.nil ?_
      | refine LCode.seq ?_
      | refine LCode.region ?_
      | refine QThen.normal ?_
      | refine LOps.pure (Pure.as (lv := .atom _) rfl) rfl ?_
      | refine LOps.pure (Pure.mv (lv := .atom _) rfl) rfl ?_
      | refine LOps.pure (Pure.as (lv := .list _) rfl) rfl ?_
      | refine LOps.pure (Pure.neq rfl rfl) rfl ?_
    refine LOps.bcase 32 rfl (fun hh => ?_) (fun hh => ?_)
    · have he : ¬ e = 0 := by simpa using hh
      repeat first
        | refine LOps.nil ?_
        | refine QThen.normal ?_
        | refine LOps.pure (Pure.pickT (lv := .atom _) rfl rfl) rfl ?_
        | refine LOps.skip rfl rfl rfl rfl ?_
      refine LCode.cond rfl (fun h2 => ?_) (fun h2 => ?_)
      · repeat first
          | refine LOps.nil ?_
          | refine LCode.seq ?_
          | refine LCode.region ?_
          | refine LCode.ret ?_
          | refine QThen.normal ?_
          | refine QThen.ret ?_
          | refine LOps.pure (Pure.as (lv := .atom _) rfl) rfl ?_
          | refine LOps.pure (Pure.mv (lv := .atom _) rfl) rfl ?_
          | refine LOps.pure (Pure.neq rfl rfl) rfl ?_
        exact retRet rfl (AllRes.cons (ResIs.tmp (v := .atom _) rfl (LV.Sub.refl _)) AllRes.nil) (bool_eq (by simpa using he))
      · cases h2
    have he : e = 0 := by simpa using hh
    subst he
    obtain ⟨T', hT', hle'⟩ := hle rfl
    obtain rfl : T = T' := by
      rw [hT] at hT'
      injection hT'
    have hfo := fmt_ok hpp hts hpo.size
    have hfl := print_size hpp
    repeat first
      | refine LOps.nil ?_
      | refine QThen.normal ?_
      | refine LOps.pure (Pure.mv (lv := .atom _) rfl) rfl ?_
      | refine LOps.pure (Pure.neq rfl rfl) rfl ?_
      | refine LOps.pure (Pure.pickF (lv := .atom _) rfl rfl) rfl ?_
      | refine LOps.want rfl rfl ?_
    refine LCode.cond rfl (fun h2 => ?_) (fun h2 => ?_)
    · cases h2
    repeat first
      | refine LCode.seq ?_
      | refine LCode.region ?_
      | refine LCode.skip ?_
      | refine QThen.normal ?_
      | refine LOps.pure (Pure.ldHAgg (cs' := [_, _, _]) rfl (List.Mem.head _) rfl rfl) rfl ?_
    refine LOps.step (S.fn [_] rfl (Format_spec hG p hfo) ?_) rfl
    repeat first
      | refine LOps.nil ?_
      | refine LCode.seq ?_
      | refine LCode.region ?_
      | refine QThen.normal ?_
      | refine LOps.pure (Pure.as (lv := .atom _) rfl) rfl ?_
      | refine LOps.pure (Pure.mv (lv := .atom _) rfl) rfl ?_
      | refine LOps.pure (Pure.slen rfl) rfl ?_
      | refine LOps.pure (Pure.gtr rfl rfl) rfl ?_
    refine LCode.cond rfl (fun h3 => ?_) (fun h3 => ?_)
    · repeat first
        | refine LOps.nil ?_
        | refine LCode.seq ?_
        | refine LCode.region ?_
        | refine LCode.ret ?_
        | refine QThen.normal ?_
        | refine QThen.ret ?_
        | refine LOps.pure (Pure.as (lv := .atom _) rfl) rfl ?_
      exact retRet rfl (AllRes.cons (ResIs.tmp (v := .atom _) rfl (LV.Sub.refl _)) AllRes.nil) rfl
    have hl6 : (formatP p).length ≤ 60000 := by have := of_decide_eq_false h3; omega
    obtain ⟨⟨B, hB, hBl⟩, _⟩ := print_parse hpp hl6
    have htok2 := Tokens_spec hG (formatP p) (by omega)
    rw [hB] at htok2
    have hlT : (T.map encTok).length = T.length := List.length_map _
    have hlB : (B.map encTok).length = B.length := List.length_map _
    repeat first
      | refine LCode.seq ?_
      | refine LCode.region ?_
      | refine LCode.skip ?_
      | refine QThen.normal ?_
      | refine LOps.pure (Pure.mv (lv := .atom _) rfl) rfl ?_
    refine LOps.step (S.fn [_] rfl htok2 ?_) rfl
    refine LOps.pure (Pure.mv rfl) rfl ?_
    refine LOps.pure (Pure.extract (vs := [.list (B.map encTok), int .i64 0, int .i64 0]) rfl rfl) rfl ?_
    refine LOps.pure (Pure.extract (vs := [.list (B.map encTok), int .i64 0, int .i64 0]) rfl rfl) rfl ?_
    refine LOps.pure (Pure.extract (vs := [.list (B.map encTok), int .i64 0, int .i64 0]) rfl rfl) rfl ?_
    repeat first
      | refine LOps.nil ?_
      | refine LCode.seq ?_
      | refine LCode.region ?_
      | refine LCode.ret ?_
      | refine QThen.normal ?_
      | refine LOps.pure (Pure.as (lv := .atom _) rfl) rfl ?_
      | refine LOps.pure (Pure.mv (lv := .atom _) rfl) rfl ?_
      | refine LOps.pure (Pure.as (lv := .list _) rfl) rfl ?_
      | refine LOps.pure (Pure.pickT (lv := .atom _) rfl rfl) rfl ?_
      | refine LOps.pure (Pure.eql rfl rfl) rfl ?_
      | refine LOps.pure (Pure.mv (lv := .list _) rfl) rfl ?_
      | refine LOps.pure (Pure.llen rfl) rfl ?_
      | refine LOps.pure (Pure.leq rfl rfl) rfl ?_
      | refine LOps.want rfl rfl ?_
    exact retRet rfl (AllRes.cons (ResIs.tmp (v := .atom _) rfl (LV.Sub.refl _)) AllRes.nil) (bool_eq (by
      rw [decide_eq_true_eq]
      omega))
end
end Go.Proofs.YtfodkbchknknjaaGreatDoor
namespace Go.Proofs.YtfodkbchknknjaaGreatDoor
open Go.GL Go.RowKit Go.Stele
set_option maxRecDepth 100000
set_option maxHeartbeats 4000000
attribute [local irreducible] LOps LCode LStep LCalls Go.GL.Pure QThen QBlock RetPost LQ LAny LLate LLateOp
section
variable {B0 : Nat} {w0 : World}
theorem round_law (hG : GW B0 w0) (s : List UInt8) : LCalls (KC B0 w0) 10 [str s] [] (Ret (bool true)) := by
  refine LCalls.intro Tryz.func10 rfl (n := 47) rfl rfl rfl ?_
  repeat first
    | refine LOps.nil ?_
    | refine LCode.seq ?_
    | refine LCode.region ?_
    | refine QThen.normal ?_
    | refine LOps.pure (Pure.as (lv := .atom _) rfl) rfl ?_
  refine LOps.step (S.fn [] rfl (alive_spec hG) ?_) rfl
  repeat first
    | refine LOps.nil ?_
    | refine QThen.normal ?_
    | refine LOps.pure (Pure.not rfl) rfl ?_
  refine LCode.cond rfl (fun h0 => ?_) (fun h0 => ?_)
  · cases h0
  repeat first
    | refine LOps.nil ?_
    | refine LCode.seq ?_
    | refine LCode.region ?_
    | refine LCode.skip ?_
    | refine QThen.normal ?_
    | refine LOps.pure (Pure.mv (lv := .atom _) rfl) rfl ?_
    | refine LOps.pure (Pure.slen rfl) rfl ?_
    | refine LOps.pure (Pure.gtr rfl rfl) rfl ?_
  refine LCode.cond rfl (fun h1 => ?_) (fun h1 => ?_)
  · repeat first
      | refine LOps.nil ?_
      | refine LCode.seq ?_
      | refine LCode.region ?_
      | refine LCode.ret ?_
      | refine QThen.normal ?_
      | refine QThen.ret ?_
      | refine LOps.pure (Pure.as (lv := .atom _) rfl) rfl ?_
    exact retRet rfl (AllRes.cons (ResIs.tmp (v := .atom _) rfl (LV.Sub.refl _)) AllRes.nil) rfl
  have hlen : s.length ≤ 1500 := by have := of_decide_eq_false h1; omega
  have hp := parse_spec hG s (by omega)
  have hpo := parseP_ok s
  obtain ⟨ts, hpp, hts, _⟩ := parse_print hlen
  generalize parseP s = r at hp hpo hpp
  obtain ⟨p, l, e⟩ := r
  simp only at hpo hpp
  have hfo := fmt_ok hpp hts hpo.size
  have hfl := print_size hpp
  repeat first
    | refine LCode.seq ?_
    | refine LCode.region ?_
    | refine LCode.skip ?_
    | refine QThen.normal ?_
    | refine LOps.pure (Pure.mv (lv := .atom _) rfl) rfl ?_
  refine LOps.step (S.fn [_] rfl hp ?_) rfl
  refine LOps.pure (Pure.mv rfl) rfl ?_
  refine LOps.pure (Pure.extract (vs := [encPr p, int .i64 l, int .i64 e]) rfl rfl) rfl ?_
  refine LOps.pure (Pure.extract (vs := [encPr p, int .i64 l, int .i64 e]) rfl rfl) rfl ?_
  refine LOps.pure (Pure.extract (vs := [encPr p, int .i64 l, int .i64 e]) rfl rfl) rfl ?_
  refine LOps.step (S.alloc fun b3 => ?_) rfl
  repeat first
    | refine LOps.nil ?_
    | refine LCode.seq ?_
    | refine LCode.region ?_
    | refine QThen.normal ?_
    | refine LOps.pure (Pure.as (lv := .atom _) rfl) rfl ?_
    | refine LOps.pure (Pure.mv (lv := .atom _) rfl) rfl ?_
    | refine LOps.pure (Pure.neq rfl rfl) rfl ?_
    | refine LOps.step (S.store (cs' := [_, _, _]) rfl Pick.here rfl rfl rfl rfl rfl ?_) rfl
  refine LCode.cond rfl (fun h2 => ?_) (fun h2 => ?_)
  · repeat first
      | refine LOps.nil ?_
      | refine LCode.seq ?_
      | refine LCode.region ?_
      | refine LCode.ret ?_
      | refine QThen.normal ?_
      | refine QThen.ret ?_
      | refine LOps.pure (Pure.as (lv := .atom _) rfl) rfl ?_
    exact retRet rfl (AllRes.cons (ResIs.tmp (v := .atom _) rfl (LV.Sub.refl _)) AllRes.nil) rfl
  repeat first
    | refine LCode.seq ?_
    | refine LCode.region ?_
    | refine LCode.skip ?_
    | refine QThen.normal ?_
    | refine LOps.pure (Pure.ldHAgg (cs' := [_, _, _]) rfl (List.Mem.head _) rfl rfl) rfl ?_
  refine LOps.step (S.fn [_] rfl (Format_spec hG p hfo) ?_) rfl
  repeat first
    | refine LOps.nil ?_
    | refine LCode.seq ?_
    | refine LCode.region ?_
    | refine QThen.normal ?_
    | refine LOps.pure (Pure.as (lv := .atom _) rfl) rfl ?_
    | refine LOps.pure (Pure.mv (lv := .atom _) rfl) rfl ?_
    | refine LOps.pure (Pure.slen rfl) rfl ?_
    | refine LOps.pure (Pure.gtr rfl rfl) rfl ?_
  refine LCode.cond rfl (fun h3 => ?_) (fun h3 => ?_)
  · repeat first
      | refine LOps.nil ?_
      | refine LCode.seq ?_
      | refine LCode.region ?_
      | refine LCode.ret ?_
      | refine QThen.normal ?_
      | refine QThen.ret ?_
      | refine LOps.pure (Pure.as (lv := .atom _) rfl) rfl ?_
    exact retRet rfl (AllRes.cons (ResIs.tmp (v := .atom _) rfl (LV.Sub.refl _)) AllRes.nil) rfl
  have hl6 : (formatP p).length ≤ 60000 := by have := of_decide_eq_false h3; omega
  obtain ⟨_, hq⟩ := print_parse hpp hl6
  have hp2 := parse_spec hG (formatP p) (by omega)
  rw [hq] at hp2
  repeat first
    | refine LCode.seq ?_
    | refine LCode.region ?_
    | refine LCode.skip ?_
    | refine QThen.normal ?_
    | refine LOps.pure (Pure.mv (lv := .atom _) rfl) rfl ?_
  refine LOps.step (S.fn [_] rfl hp2 ?_) rfl
  refine LOps.pure (Pure.mv rfl) rfl ?_
  refine LOps.pure (Pure.extract (vs := [encPr p, int .i64 0, int .i64 0]) rfl rfl) rfl ?_
  refine LOps.pure (Pure.extract (vs := [encPr p, int .i64 0, int .i64 0]) rfl rfl) rfl ?_
  refine LOps.pure (Pure.extract (vs := [encPr p, int .i64 0, int .i64 0]) rfl rfl) rfl ?_
  refine LOps.step (S.alloc fun b7 => ?_) rfl
  repeat first
    | refine LOps.nil ?_
    | refine LCode.seq ?_
    | refine LCode.region ?_
    | refine QThen.normal ?_
    | refine LOps.pure (Pure.as (lv := .atom _) rfl) rfl ?_
    | refine LOps.pure (Pure.mv (lv := .atom _) rfl) rfl ?_
    | refine LOps.pure (Pure.ldHAgg (cs' := [_, _, _]) rfl (List.Mem.head _) rfl rfl) rfl ?_
    | refine LOps.pure (Pure.ldHAgg (cs' := [_, _, _]) rfl (List.Mem.tail _ (List.Mem.head _)) rfl rfl) rfl ?_
    | refine LOps.pure (Pure.eql rfl rfl) rfl ?_
    | refine LOps.want rfl rfl ?_
    | refine LOps.step (S.store (cs' := [_, _, _]) rfl Pick.here rfl rfl rfl rfl rfl ?_) rfl
  refine LOps.step (S.fn [_, _] rfl (by
    have := pequal_spec (B0 := B0) (w0 := w0) p p hpo hpo
    rw [(eqPr_iff _ _).2 rfl] at this
    exact this) ?_) rfl
  repeat first
    | refine LOps.pure (Pure.mv (lv := .atom _) rfl) rfl ?_
    | refine LOps.pure (Pure.ldHAgg (cs' := [_, _, _]) rfl (List.Mem.head _) rfl rfl) rfl ?_
    | refine LOps.pure (Pure.pickT (lv := .atom _) rfl rfl) rfl ?_
    | refine LOps.want rfl rfl ?_
  refine LOps.step (S.fn [_] rfl (Format_spec hG p hfo) ?_) rfl
  repeat first
    | refine LOps.nil ?_
    | refine LCode.ret ?_
    | refine QThen.normal ?_
    | refine LOps.pure (Pure.as (lv := .atom _) rfl) rfl ?_
    | refine LOps.pure (Pure.mv (lv := .atom _) rfl) rfl ?_
    | refine LOps.pure (Pure.pickT (lv := .atom _) rfl rfl) rfl ?_
    | refine LOps.pure (Pure.seq rfl rfl) rfl ?_
    | refine LOps.want rfl rfl ?_
  exact retRet rfl (AllRes.cons (ResIs.tmp (v := .atom _) rfl (LV.Sub.refl _)) AllRes.nil) (bool_eq (by simp))
end
end Go.Proofs.YtfodkbchknknjaaGreatDoor
