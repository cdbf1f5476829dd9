/- The parser's closures for the levels of operators, walked. -/
import Derived.Test.YtfodkbchknknjaaDoorParP5
set_option linter.unusedVariables false
set_option linter.unusedSimpArgs false
namespace Go.Proofs.YtfodkbchknknjaaDoor
open Go.GL Go.RowKit Go.Stele
set_option maxRecDepth 100000
set_option maxHeartbeats 4000000
/-- The function value of a level, and the boxes that it holds. -/
inductive Clo (sb : Nat) : Nat → FuncId → Array Value → Array Value → Heap → Prop
  | un : Clo sb 6 80 #[.pointer (some ⟨sb, 0, none⟩)] #[] []
  | bin {k bo bs bp bn : Nat} {f : FuncId} {first caps : Array Value} {H : Heap} (h : Clo sb (k + 1) f first caps H) : Clo sb k 95 #[] #[.pointer (some ⟨bo, 0, none⟩), .pointer (some ⟨bs, 0, none⟩), .pointer (some ⟨bp, 0, none⟩), .pointer (some ⟨bn, 0, none⟩)]
      ((bo, .cells 94 [.atom (.func (.func f) first caps)]) :: (bs, .cells 49 [ptr sb 0]) :: (bp, .cells 25 [.list ((lvOps k).map str)]) :: (bn, .cells 4 [bool (decide ((k : Int) = 2))]) :: H)
def PostH {A : Type} (sb : Nat) (T : List Tok) (enc : A → LV) (Hc : Heap) (res : Res A) (r : LRes) (H : Heap) : Prop := match res with
  | .ok v i op => r = .ret (enc v) ∧ H = srcH sb T i op :: Hc
  | .err l e => r = .panic (pan l e) ∧ ∃ i op : Nat, H = srcH sb T i op :: Hc
def CloC (B0 : Nat) (w0 : World) (sb : Nat) (T : List Tok) (f : Nat) : Prop :=
  ∀ k fn first caps Hc i op r, Clo sb k fn first caps Hc → i ≤ T.length → op ≤ 100 → eLev T f k i op = some r →
    LCalls (KC B0 w0) fn (first.toList.map .atom ++ caps.toList.map .atom) (srcH sb T i op :: Hc) (PostH sb T encE Hc r)
section steps
variable {C : Ctx} {e : Env} {H : Heap} {dst : Option Nat} {ty : TypeId} {pos : String} {aft : Array Edge} {g : Option (Nat × Bool)} {K : LV → Heap → Prop} {X : List PanicEntry → Heap → Prop}
theorem av_nil (a b : List LV) {e : Env} : a ++ ([] : List Operand).map e.ev ++ b = a ++ b := by simp
theorem S.callClo {A : Type} {enc : A → LV} {res : Res A} {sb i op : Nat} {T : List Tok} {fo : Operand} {f : FuncId} [TEnter C.P f] {first caps : Array Value} {ats : Array TypeId} {Hc F : Heap} (hf : e.ev fo = .atom (.func (.func f) first caps)) (hp : Pick (srcH sb T i op) H (F ++ Hc))
    (hc : LCalls C f (first.toList.map .atom ++ caps.toList.map .atom) (srcH sb T i op :: Hc) (PostH sb T enc Hc res)) (hk : ∀ v i' op', res = .ok v i' op' → K (enc v) (srcH sb T i' op' :: (F ++ Hc))) (hx : ∀ l er i' op', res = .err l er → X (pan l er) (srcH sb T i' op' :: Hc ++ F)) :
    LStep C ⟨dst, .call { callee := .value fo, args := #[], argTypes := ats }, ty, pos, aft, g⟩ e H K X := by
  have hp' : H.Perm ((srcH sb T i op :: Hc) ++ F) := hp.trans (List.Perm.cons _ List.perm_append_comm)
  refine LStep.conseq (K := fun v H' => ∃ u i' op', res = .ok u i' op' ∧ v = enc u ∧ H' = srcH sb T i' op' :: Hc ++ F) (S.callV (H1 := srcH sb T i op :: Hc) (F := F) [] hf (av_nil _ _) hp' hc ?_ ?_) ?_
  · intro v H' h
    cases hr : res with
    | ok u i' op' => rw [hr] at h; obtain ⟨h1, rfl⟩ := h; cases h1; exact ⟨u, i', op', rfl, rfl, rfl⟩
    | err l er => rw [hr] at h; obtain ⟨h1, _⟩ := h; cases h1
  · intro ch H' h
    cases hr : res with
    | ok u i' op' => rw [hr] at h; obtain ⟨h1, _⟩ := h; cases h1
    | err l er => rw [hr] at h; obtain ⟨h1, i', op', rfl⟩ := h; cases h1; exact hx _ _ _ _ hr
  · rintro v H' ⟨u, i', op', h1, rfl, rfl⟩
    exact ⟨_, _, LV.Sub.refl _, ⟨[], by simpa using List.perm_append_comm⟩, hk u i' op' h1⟩
end steps
theorem Clo.enter {sb k : Nat} {f : FuncId} {first caps : Array Value} {H : Heap} (h : Clo sb k f first caps H) : TEnter Tryd.prog f := by
  cases h <;> infer_instance
theorem Clo.le {sb k : Nat} {f : FuncId} {first caps : Array Value} {H : Heap} (h : Clo sb k f first caps H) : k ≤ 6 := by
  induction h with
  | un => exact Nat.le_refl _
  | bin _ ih => omega
attribute [local irreducible] LOps LCode LStep LCalls Go.GL.Pure QThen QBlock RetPost LQ LAny LLate LLateOp
theorem hsub_clo {s : Nat × LObj} {A B Hc : Heap} : HSub (s :: (B ++ Hc)) ((s :: Hc ++ []) ++ (A ++ B)) := by
  refine ⟨A, ?_⟩
  have h1 : (Hc ++ (A ++ B)).Perm ((B ++ Hc) ++ A) := List.perm_append_comm.trans (by rw [List.append_assoc]; exact List.perm_append_comm)
  simpa using List.Perm.cons s h1
theorem hsub_clo2 {s u : Nat × LObj} {A Hc : Heap} : HSub (u :: s :: (A ++ Hc)) (u :: ((s :: ([] ++ Hc)) ++ A)) := by
  refine ⟨[], ?_⟩
  have h1 : (Hc ++ A).Perm (A ++ Hc) := List.perm_append_comm
  simpa using List.Perm.cons u (List.Perm.cons s h1)
theorem HSub.appR {H' l1 l2 : Heap} (h : HSub H' l2) : HSub H' (l1 ++ l2) := by
  obtain ⟨G, hG⟩ := h
  refine ⟨G ++ l1, ?_⟩
  have h1 : (l1 ++ l2).Perm (l2 ++ l1) := List.perm_append_comm
  have h2 : (l2 ++ l1).Perm ((H' ++ G) ++ l1) := hG.append_right l1
  simpa using h1.trans h2
theorem perm_mid {a : Nat × LObj} {l1 l2 : Heap} : ([] ++ (l1 ++ a :: l2)).Perm ([a] ++ (l1 ++ l2)) := by
  exact (List.nil_append _).symm ▸ List.perm_middle
theorem lvOps_le (k : Nat) : (lvOps k).length ≤ 1000 := by
  unfold lvOps
  split <;> simp
theorem textAt_eq {T : List Tok} {i : Nat} (h : i < T.length) : textAt T i = T[i].text := by rw [textAt, List.getElem?_eq_getElem h]
section
variable {B0 : Nat} {w0 : World}
theorem bin_spec (hG : GW B0 w0) (sb : Nat) (T : List Tok) (hT : TOK T) (f : Nat) (hC : ∀ g, g < f → CloC B0 w0 sb T g) (k bo bs bp bn : Nat) (fn : FuncId) (first caps : Array Value) (Hc : Heap) (hclo : Clo sb (k + 1) fn first caps Hc) (i op : Nat) (r : Res Ex)
    (hi : i ≤ T.length) (ho : op ≤ 100) (hr : eLev T f k i op = some r) :
    LCalls (KC B0 w0) 95 [ptr bo 0, ptr bs 0, ptr bp 0, ptr bn 0] (srcH sb T i op :: (bo, .cells 94 [.atom (.func (.func fn) first caps)]) :: (bs, .cells 49 [ptr sb 0]) :: (bp, .cells 25 [.list ((lvOps k).map str)]) :: (bn, .cells 4 [bool (decide ((k : Int) = 2))]) :: Hc)
      (PostH sb T encE ((bo, .cells 94 [.atom (.func (.func fn) first caps)]) :: (bs, .cells 49 [ptr sb 0]) :: (bp, .cells 25 [.list ((lvOps k).map str)]) :: (bn, .cells 4 [bool (decide ((k : Int) = 2))]) :: Hc) r) := by
  have hl := hT.len
  have hk6 := hclo.le
  have hen := hclo.enter
  obtain ⟨f, rfl⟩ : ∃ g, f = g + 1 := by
    cases f with
    | zero => rw [eLev] at hr; cases hr
    | succ g => exact ⟨g, rfl⟩
  rw [eLev, if_neg (by omega)] at hr
  obtain ⟨r1, hr1⟩ := obind_is hr
  refine LCalls.intro Tryd.func95 rfl (n := 38) rfl rfl rfl ?_
  repeat first
    | refine LCode.seq ?_
    | refine LCode.region ?_
  refine LOps.step (S.alloc fun b => ?_) rfl
  repeat first
    | refine LOps.nil ?_
    | refine LCode.seq ?_
    | refine LCode.region ?_
    | refine QThen.normal ?_
    | refine LOps.pure (Pure.loadH (c := .atom _) rfl (List.Mem.tail _ (List.Mem.tail _ (List.Mem.head _))) rfl) rfl ?_
  refine LOps.step (S.callClo (F := [(b, _), (bo, _), (bs, _), (bp, _), (bn, _)]) (Hc := Hc) rfl (Pick.there Pick.here) (hC f (by omega) _ _ _ _ _ _ _ r1 hclo hi ho hr1) (fun v i1 op1 h1 => ?_) (fun l er i1 op1 h1 e' he' => ?_)) rfl
  · rw [hr1, h1, obind_ok] at hr
    obtain ⟨g1, _, g3, rfl⟩ := (ex_good T f).1 _ _ _ _ (hr1.trans (congrArg some h1))
    have g4 := g3 hi
    refine LOps.step (S.alloc fun b5 => ?_) rfl
    repeat first
      | refine LOps.nil ?_
      | refine LCode.seq ?_
      | refine LCode.block ?_
      | refine QThen.normal ?_
      | refine LOps.step (S.store (cs' := [_, _, _, _]) rfl Pick.here rfl rfl rfl rfl rfl ?_) rfl
    refine LCode.loopI (fun q ls H => ∃ (ex : Ex) (i2 : Nat), q ≤ f ∧ ls = [(0, ptr bo 0), (1, ptr bs 0), (2, ptr bp 0), (3, ptr bn 0), (4, ptr b 0), (5, ptr b5 0)] ∧
        H = (b5, .cells 39 [str (exOp ex), int .u32 (exNum ex), str (exName ex), .list (encArgs ex)]) :: srcH sb T i2 op1 :: (b, .cells 39 [str [], int .u32 0, str [], nilSlice]) :: ([(bo, .cells 94 [.atom (.func (.func fn) first caps)]), (bs, .cells 49 [ptr sb 0]), (bp, .cells 25 [.list ((lvOps k).map str)]), (bn, .cells 4 [bool (decide ((k : Int) = 2))])] ++ Hc) ∧ i2 ≤ T.length ∧ eLoop T q k ex i2 op1 = some r)
      ⟨f, _, _, ⟨v, i1, Nat.le_refl _, rfl, rfl, g4, hr⟩, ⟨rfl, rfl, rfl, rfl, rfl, rfl, trivial⟩, HSub.refl _⟩ ?_
    rintro q ls H ⟨ex, i2, hqf, rfl, rfl, hi2, hI⟩ j hj
    obtain ⟨q, rfl⟩ : ∃ q', q = q' + 1 := by
      cases q with
      | zero => rw [eLoop] at hI; cases hI
      | succ q => exact ⟨q, rfl⟩
    rw [eLoop] at hI
    repeat first
      | refine LCode.seq ?_
      | refine LCode.region ?_
      | refine LOps.pure (Pure.loadH (c := .atom _) rfl (List.Mem.tail _ (List.Mem.tail _ (List.Mem.tail _ (List.Mem.tail _ (List.Mem.head _))))) rfl) rfl ?_
      | refine LOps.pure (Pure.loadH (c := .list _) rfl (List.Mem.tail _ (List.Mem.tail _ (List.Mem.tail _ (List.Mem.tail _ (List.Mem.tail _ (List.Mem.head _)))))) rfl) rfl ?_
    refine LOps.step (S.fnH [_, _] rfl (Pick.there Pick.here) (is_spec sb T i2 op1 (lvOps k) hl (by omega) (lvOps_le k)) ?_) rfl
    repeat first
      | refine LOps.nil ?_
      | refine QThen.normal ?_
    refine LCode.cond rfl (fun hc => ?_) (fun hc => ?_)
    · have hlt := isTok_lt hc
      rw [if_pos hc] at hI
      repeat first
        | refine LCode.seq ?_
        | refine LCode.skip ?_
        | refine LCode.block ?_
        | refine QThen.normal ?_
      refine LCode.cut [(0, ptr bo 0), (1, ptr bs 0), (2, ptr bp 0), (3, ptr bn 0), (4, ptr b 0), (5, ptr b5 0), (6, str (textAt T i2))] ?_ (fun j2 hj2 => ?_)
      · refine LCode.quiet (by kernel_rfl) ?_
        repeat first
          | refine LQ.pure (Pure.loadH (c := .atom _) rfl (List.Mem.head _) rfl) rfl ?_
          | refine LQ.pure (Pure.loadH (c := .atom _) rfl (List.Mem.tail _ (List.Mem.tail _ (List.Mem.tail _ (List.Mem.tail _ (List.Mem.head _))))) rfl) rfl ?_
          | refine LQ.pure (Pure.loadH (c := .list _) rfl (List.Mem.head _) rfl) rfl ?_
          | refine LQ.pure (Pure.nilCheckH rfl) rfl ?_
          | refine LQ.pure (Pure.fieldH rfl) rfl ?_
        refine LQ.pure (Pure.ixRef (el' := encTok T[i2]) (cs := [_, _, _]) rfl rfl (by omega) (map_get _ _ _ hlt) rfl rfl) rfl ?_
        repeat first
          | refine LQ.pure (Pure.loadRef (c := .atom _) rfl rfl) rfl ?_
          | refine LQ.pure (Pure.field1 rfl rfl) rfl ?_
          | refine LQ.pure (Pure.as (lv := .atom _) rfl) rfl ?_
          | refine LQ.nil ?_
          | refine QThen.normal ?_
        exact ⟨⟨rfl, rfl, rfl, rfl, rfl, rfl, str_eq (textAt_eq hlt).symm, trivial⟩, rfl, rfl⟩
      · obtain ⟨r2, hr2⟩ := obind_is hI
        repeat first
          | refine LOps.nil ?_
          | refine LCode.seq ?_
          | refine LCode.region ?_
          | refine QThen.normal ?_
          | refine LOps.pure (Pure.loadH (c := .atom _) rfl (List.Mem.head _) rfl) rfl ?_
          | refine LOps.pure (Pure.loadH (c := .atom _) rfl (List.Mem.tail _ (List.Mem.tail _ (List.Mem.tail _ (List.Mem.tail _ (List.Mem.head _))))) rfl) rfl ?_
          | refine LOps.pure (Pure.nilCheckH rfl) rfl ?_
          | refine LOps.pure (Pure.fieldH rfl) rfl ?_
          | refine LOps.pure (Pure.add rfl rfl (by omega)) rfl ?_
          | refine LOps.step (S.store (cs' := [_, _, _]) rfl Pick.here rfl rfl rfl rfl rfl ?_) rfl
        refine LCode.draw (m := 7) rfl [(bo, .cells 94 [.atom (.func (.func fn) first caps)])] ?_
        have hHF : HSub [(bo, .cells 94 [.atom (.func (.func fn) first caps)])] (srcH sb T (i2 + 1) op1 :: (b5, .cells 39 [str (exOp ex), int .u32 (exNum ex), str (exName ex), .list (encArgs ex)]) :: (b, .cells 39 [str [], int .u32 0, str [], nilSlice]) :: (bo, .cells 94 [.atom (.func (.func fn) first caps)]) :: [(bs, .cells 49 [ptr sb 0]), (bp, .cells 25 [.list ((lvOps k).map str)]), (bn, .cells 4 [bool (decide ((k : Int) = 2))])] ++ Hc) := HSub.pick (Pick.there (Pick.there (Pick.there Pick.here))) (HSub.nil _)
        refine LAny.take (i := 0) hHF rfl (by kernel_rfl) (by kernel_rfl) (by kernel_rfl) rfl (Pure.mv (lv := .atom _) rfl) ?_
        refine LAny.take (i := 2) hHF rfl (by kernel_rfl) (by kernel_rfl) (by kernel_rfl) rfl (Pure.loadH (c := .atom _) rfl (List.Mem.head _) rfl) ?_
        refine LAny.late ?_ hHF
        refine LLate.two (i := 1) (j := 3) (by kernel_rfl) ?_ ?_
        · have hperm : (srcH sb T (i2 + 1) op1 :: (b5, LObj.cells 39 [str (exOp ex), int .u32 (exNum ex), str (exName ex), .list (encArgs ex)]) :: (b, LObj.cells 39 [str [], int .u32 0, str [], nilSlice]) :: ([(bo, LObj.cells 94 [.atom (.func (.func fn) first caps)]), (bs, LObj.cells 49 [ptr sb 0]), (bp, LObj.cells 25 [.list ((lvOps k).map str)]), (bn, LObj.cells 4 [bool (decide ((k : Int) = 2))])] ++ Hc)).Perm ((srcH sb T (i2 + 1) op1 :: Hc) ++ [(b5, LObj.cells 39 [str (exOp ex), int .u32 (exNum ex), str (exName ex), .list (encArgs ex)]), (b, LObj.cells 39 [str [], int .u32 0, str [], nilSlice]), (bo, LObj.cells 94 [.atom (.func (.func fn) first caps)]), (bs, LObj.cells 49 [ptr sb 0]), (bp, LObj.cells 25 [.list ((lvOps k).map str)]), (bn, LObj.cells 4 [bool (decide ((k : Int) = 2))])]) := List.Perm.cons _ (show ([(b5, LObj.cells 39 [str (exOp ex), int .u32 (exNum ex), str (exName ex), .list (encArgs ex)]), (b, LObj.cells 39 [str [], int .u32 0, str [], nilSlice]), (bo, LObj.cells 94 [.atom (.func (.func fn) first caps)]), (bs, LObj.cells 49 [ptr sb 0]), (bp, LObj.cells 25 [.list ((lvOps k).map str)]), (bn, LObj.cells 4 [bool (decide ((k : Int) = 2))])] ++ Hc).Perm (Hc ++ [(b5, LObj.cells 39 [str (exOp ex), int .u32 (exNum ex), str (exName ex), .list (encArgs ex)]), (b, LObj.cells 39 [str [], int .u32 0, str [], nilSlice]), (bo, LObj.cells 94 [.atom (.func (.func fn) first caps)]), (bs, LObj.cells 49 [ptr sb 0]), (bp, LObj.cells 25 [.list ((lvOps k).map str)]), (bn, LObj.cells 4 [bool (decide ((k : Int) = 2))])]) from List.perm_append_comm)
          refine LLateOp.pureH rfl rfl (Pure.ldHAgg (cs' := [_, _, _, _]) rfl (List.Mem.tail _ (List.Mem.head _)) rfl rfl) ?_
          refine LLate.one (i := 3) (by kernel_rfl) (LLateOp.step (H1 := srcH sb T (i2 + 1) op1 :: Hc) (F := [(b5, LObj.cells 39 [str (exOp ex), int .u32 (exNum ex), str (exName ex), .list (encArgs ex)]), (b, LObj.cells 39 [str [], int .u32 0, str [], nilSlice]), (bo, LObj.cells 94 [.atom (.func (.func fn) first caps)]), (bs, LObj.cells 49 [ptr sb 0]), (bp, LObj.cells 25 [.list ((lvOps k).map str)]), (bn, LObj.cells 4 [bool (decide ((k : Int) = 2))])]) rfl (.inl rfl) rfl (hperm) (HSub.pick (Pick.there (Pick.there Pick.here)) (HSub.nil _)) (S.callClo (F := []) (Hc := Hc) rfl Pick.here (hC q (by omega) _ _ _ _ _ _ _ r2 hclo (by omega) ho hr2) (fun e2 i3 op3 h3 => ?_) (fun l er i3 op3 h3 e' he' => ?_)))
          · rw [hr2, h3, obind_ok] at hI
            obtain ⟨q1, q2, q3, rfl⟩ := (ex_good T q).1 _ _ _ _ (hr2.trans (congrArg some h3))
            have q4 := q3 (by omega)
            refine LLate.one (i := 4) (by kernel_rfl) (LLateOp.step (H1 := []) (F := (srcH sb T i3 op3 :: ([] ++ Hc)) ++ [(b5, LObj.cells 39 [str (exOp ex), int .u32 (exNum ex), str (exName ex), .list (encArgs ex)]), (b, LObj.cells 39 [str [], int .u32 0, str [], nilSlice]), (bo, LObj.cells 94 [.atom (.func (.func fn) first caps)]), (bs, LObj.cells 49 [ptr sb 0]), (bp, LObj.cells 25 [.list ((lvOps k).map str)]), (bn, LObj.cells 4 [bool (decide ((k : Int) = 2))])]) rfl (.inl rfl) rfl (List.Perm.refl _) (HSub.appR (HSub.pick (Pick.there (Pick.there Pick.here)) (HSub.nil _))) (S.lit (es := [encE ex, encE e2]) [_, _] rfl (elemsOk.cons rfl rfl (elemsOk.cons rfl rfl elemsOk.nil)) rfl rfl rfl ?_))
            refine LLate.one (i := 5) (by kernel_rfl) (LLateOp.pureH rfl rfl (Pure.bld _ (cs := [_, _, _, _]) rfl) ?_)
            refine LLate.one (i := 6) (by kernel_rfl) (LLateOp.step (H1 := [(b5, LObj.cells 39 [str (exOp ex), int .u32 (exNum ex), str (exName ex), .list (encArgs ex)])]) (F := (srcH sb T i3 op3 :: ([] ++ Hc)) ++ [(b, LObj.cells 39 [str [], int .u32 0, str [], nilSlice]), (bo, LObj.cells 94 [.atom (.func (.func fn) first caps)]), (bs, LObj.cells 49 [ptr sb 0]), (bp, LObj.cells 25 [.list ((lvOps k).map str)]), (bn, LObj.cells 4 [bool (decide ((k : Int) = 2))])]) rfl (.inl rfl) rfl perm_mid (HSub.appR (HSub.pick (Pick.there Pick.here) (HSub.nil _))) (S.store (cs' := [_, _, _, _]) rfl Pick.here rfl rfl rfl rfl rfl ?_))
            refine LLate.done (by kernel_rfl) ?_
            refine QThen.normal ?_
            refine LCode.weak (H' := (b5, LObj.cells 39 [str (textAt T i2), int .u32 0, str [], .list [encE ex, encE e2]]) :: srcH sb T i3 op3 :: (b, LObj.cells 39 [str [], int .u32 0, str [], nilSlice]) :: ([(bo, LObj.cells 94 [.atom (.func (.func fn) first caps)]), (bs, LObj.cells 49 [ptr sb 0]), (bp, LObj.cells 25 [.list ((lvOps k).map str)]), (bn, LObj.cells 4 [bool (decide ((k : Int) = 2))])] ++ Hc)) (hsub_clo2 (A := [(b, LObj.cells 39 [str [], int .u32 0, str [], nilSlice]), (bo, LObj.cells 94 [.atom (.func (.func fn) first caps)]), (bs, LObj.cells 49 [ptr sb 0]), (bp, LObj.cells 25 [.list ((lvOps k).map str)]), (bn, LObj.cells 4 [bool (decide ((k : Int) = 2))])])) ?_
            repeat first
              | refine LOps.nil ?_
              | refine LCode.seq ?_
              | refine LCode.region ?_
              | refine QThen.normal ?_
              | refine LOps.pure (Pure.loadH (c := .atom _) rfl (List.Mem.tail _ (List.Mem.tail _ (List.Mem.tail _ (List.Mem.tail _ (List.Mem.tail _ (List.Mem.tail _ (List.Mem.head _))))))) rfl) rfl ?_
            refine LCode.cond rfl (fun hk2 => ?_) (fun hk2 => ?_)
            · have hk : k = 2 := by have := of_decide_eq_true hk2; omega
              rw [if_pos hk] at hI
              repeat first
                | refine LOps.nil ?_
                | refine LCode.seq ?_
                | refine LCode.region ?_
                | refine LCode.ret ?_
                | refine LCode.exit ?_
                | refine QThen.normal ?_
                | refine QThen.exit ?_
                | refine QBlock.hit ?_
                | refine QBlock.miss (by decide) ?_
                | refine LOps.pure (Pure.ldHAgg (cs' := [_, _, _, _]) rfl (List.Mem.head _) rfl rfl) rfl ?_
                | refine LOps.step (S.store (cs' := [_, _, _, _]) rfl (Pick.there (Pick.there Pick.here)) rfl rfl rfl rfl rfl ?_) rfl
              exact RetPost.ret (hj2.trans hj) (AllRes.cons (ResIs.cellAgg rfl (List.Mem.head _) rfl (LV.Sub.refl _)) AllRes.nil) (HSub.drop (HSub.drop (HSub.refl _))) (by cases hI; exact ⟨by rw [encE_mk]; rfl, rfl⟩)
            · have hk : ¬ k = 2 := by have := of_decide_eq_false hk2; omega
              rw [if_neg hk] at hI
              repeat first
                | refine LCode.skip ?_
                | refine QThen.normal ?_
                | refine QBlock.normal ?_
              exact ⟨q, _, _, by omega, ⟨.mk (textAt T i2) 0 [] [ex, e2], i3, by omega, rfl, rfl, q4, hI⟩, ⟨rfl, rfl, rfl, rfl, rfl, rfl, trivial⟩, (by rw [encArgs_map]; exact HSub.refl _), hj2.trans hj⟩
          · rw [hr2, h3, obind_err] at hI
            repeat first
              | refine QThen.panic ?_
              | refine QBlock.panic ?_
            exact RetPost.panic (he'.trans (hj2.trans hj)) (hsub_clo (A := [(b5, LObj.cells 39 [str (exOp ex), int .u32 (exNum ex), str (exName ex), .list (encArgs ex)]), (b, LObj.cells 39 [str [], int .u32 0, str [], nilSlice])]) (B := [(bo, LObj.cells 94 [.atom (.func (.func fn) first caps)]), (bs, LObj.cells 49 [ptr sb 0]), (bp, LObj.cells 25 [.list ((lvOps k).map str)]), (bn, LObj.cells 4 [bool (decide ((k : Int) = 2))])])) (by cases hI; exact ⟨rfl, i3, op3, rfl⟩)
        · have hperm : (srcH sb T (i2 + 1) op1 :: (b5, LObj.cells 39 [str (exOp ex), int .u32 (exNum ex), str (exName ex), .list (encArgs ex)]) :: (b, LObj.cells 39 [str [], int .u32 0, str [], nilSlice]) :: ([(bo, LObj.cells 94 [.atom (.func (.func fn) first caps)]), (bs, LObj.cells 49 [ptr sb 0]), (bp, LObj.cells 25 [.list ((lvOps k).map str)]), (bn, LObj.cells 4 [bool (decide ((k : Int) = 2))])] ++ Hc)).Perm ((srcH sb T (i2 + 1) op1 :: Hc) ++ [(b5, LObj.cells 39 [str (exOp ex), int .u32 (exNum ex), str (exName ex), .list (encArgs ex)]), (b, LObj.cells 39 [str [], int .u32 0, str [], nilSlice]), (bo, LObj.cells 94 [.atom (.func (.func fn) first caps)]), (bs, LObj.cells 49 [ptr sb 0]), (bp, LObj.cells 25 [.list ((lvOps k).map str)]), (bn, LObj.cells 4 [bool (decide ((k : Int) = 2))])]) := List.Perm.cons _ (show ([(b5, LObj.cells 39 [str (exOp ex), int .u32 (exNum ex), str (exName ex), .list (encArgs ex)]), (b, LObj.cells 39 [str [], int .u32 0, str [], nilSlice]), (bo, LObj.cells 94 [.atom (.func (.func fn) first caps)]), (bs, LObj.cells 49 [ptr sb 0]), (bp, LObj.cells 25 [.list ((lvOps k).map str)]), (bn, LObj.cells 4 [bool (decide ((k : Int) = 2))])] ++ Hc).Perm (Hc ++ [(b5, LObj.cells 39 [str (exOp ex), int .u32 (exNum ex), str (exName ex), .list (encArgs ex)]), (b, LObj.cells 39 [str [], int .u32 0, str [], nilSlice]), (bo, LObj.cells 94 [.atom (.func (.func fn) first caps)]), (bs, LObj.cells 49 [ptr sb 0]), (bp, LObj.cells 25 [.list ((lvOps k).map str)]), (bn, LObj.cells 4 [bool (decide ((k : Int) = 2))])]) from List.perm_append_comm)
          refine (LLateOp.step (H1 := srcH sb T (i2 + 1) op1 :: Hc) (F := [(b5, LObj.cells 39 [str (exOp ex), int .u32 (exNum ex), str (exName ex), .list (encArgs ex)]), (b, LObj.cells 39 [str [], int .u32 0, str [], nilSlice]), (bo, LObj.cells 94 [.atom (.func (.func fn) first caps)]), (bs, LObj.cells 49 [ptr sb 0]), (bp, LObj.cells 25 [.list ((lvOps k).map str)]), (bn, LObj.cells 4 [bool (decide ((k : Int) = 2))])]) rfl (.inl rfl) rfl (hperm) (HSub.pick (Pick.there (Pick.there Pick.here)) (HSub.nil _)) (S.callClo (F := []) (Hc := Hc) rfl Pick.here (hC q (by omega) _ _ _ _ _ _ _ r2 hclo (by omega) ho hr2) (fun e2 i3 op3 h3 => ?_) (fun l er i3 op3 h3 e' he' => ?_)))
          · rw [hr2, h3, obind_ok] at hI
            obtain ⟨q1, q2, q3, rfl⟩ := (ex_good T q).1 _ _ _ _ (hr2.trans (congrArg some h3))
            have q4 := q3 (by omega)
            refine LLate.one (i := 1) (by kernel_rfl) (LLateOp.pureH rfl rfl (Pure.ldHAgg (cs' := [_, _, _, _]) rfl (List.mem_append_right _ (List.Mem.head _)) rfl rfl) ?_)
            refine LLate.one (i := 4) (by kernel_rfl) (LLateOp.step (H1 := []) (F := (srcH sb T i3 op3 :: ([] ++ Hc)) ++ [(b5, LObj.cells 39 [str (exOp ex), int .u32 (exNum ex), str (exName ex), .list (encArgs ex)]), (b, LObj.cells 39 [str [], int .u32 0, str [], nilSlice]), (bo, LObj.cells 94 [.atom (.func (.func fn) first caps)]), (bs, LObj.cells 49 [ptr sb 0]), (bp, LObj.cells 25 [.list ((lvOps k).map str)]), (bn, LObj.cells 4 [bool (decide ((k : Int) = 2))])]) rfl (.inl rfl) rfl (List.Perm.refl _) (HSub.appR (HSub.pick (Pick.there (Pick.there Pick.here)) (HSub.nil _))) (S.lit (es := [encE ex, encE e2]) [_, _] rfl (elemsOk.cons rfl rfl (elemsOk.cons rfl rfl elemsOk.nil)) rfl rfl rfl ?_))
            refine LLate.one (i := 5) (by kernel_rfl) (LLateOp.pureH rfl rfl (Pure.bld _ (cs := [_, _, _, _]) rfl) ?_)
            refine LLate.one (i := 6) (by kernel_rfl) (LLateOp.step (H1 := [(b5, LObj.cells 39 [str (exOp ex), int .u32 (exNum ex), str (exName ex), .list (encArgs ex)])]) (F := (srcH sb T i3 op3 :: ([] ++ Hc)) ++ [(b, LObj.cells 39 [str [], int .u32 0, str [], nilSlice]), (bo, LObj.cells 94 [.atom (.func (.func fn) first caps)]), (bs, LObj.cells 49 [ptr sb 0]), (bp, LObj.cells 25 [.list ((lvOps k).map str)]), (bn, LObj.cells 4 [bool (decide ((k : Int) = 2))])]) rfl (.inl rfl) rfl perm_mid (HSub.appR (HSub.pick (Pick.there Pick.here) (HSub.nil _))) (S.store (cs' := [_, _, _, _]) rfl Pick.here rfl rfl rfl rfl rfl ?_))
            refine LLate.done (by kernel_rfl) ?_
            refine QThen.normal ?_
            refine LCode.weak (H' := (b5, LObj.cells 39 [str (textAt T i2), int .u32 0, str [], .list [encE ex, encE e2]]) :: srcH sb T i3 op3 :: (b, LObj.cells 39 [str [], int .u32 0, str [], nilSlice]) :: ([(bo, LObj.cells 94 [.atom (.func (.func fn) first caps)]), (bs, LObj.cells 49 [ptr sb 0]), (bp, LObj.cells 25 [.list ((lvOps k).map str)]), (bn, LObj.cells 4 [bool (decide ((k : Int) = 2))])] ++ Hc)) (hsub_clo2 (A := [(b, LObj.cells 39 [str [], int .u32 0, str [], nilSlice]), (bo, LObj.cells 94 [.atom (.func (.func fn) first caps)]), (bs, LObj.cells 49 [ptr sb 0]), (bp, LObj.cells 25 [.list ((lvOps k).map str)]), (bn, LObj.cells 4 [bool (decide ((k : Int) = 2))])])) ?_
            repeat first
              | refine LOps.nil ?_
              | refine LCode.seq ?_
              | refine LCode.region ?_
              | refine QThen.normal ?_
              | refine LOps.pure (Pure.loadH (c := .atom _) rfl (List.Mem.tail _ (List.Mem.tail _ (List.Mem.tail _ (List.Mem.tail _ (List.Mem.tail _ (List.Mem.tail _ (List.Mem.head _))))))) rfl) rfl ?_
            refine LCode.cond rfl (fun hk2 => ?_) (fun hk2 => ?_)
            · have hk : k = 2 := by have := of_decide_eq_true hk2; omega
              rw [if_pos hk] at hI
              repeat first
                | refine LOps.nil ?_
                | refine LCode.seq ?_
                | refine LCode.region ?_
                | refine LCode.ret ?_
                | refine LCode.exit ?_
                | refine QThen.normal ?_
                | refine QThen.exit ?_
                | refine QBlock.hit ?_
                | refine QBlock.miss (by decide) ?_
                | refine LOps.pure (Pure.ldHAgg (cs' := [_, _, _, _]) rfl (List.Mem.head _) rfl rfl) rfl ?_
                | refine LOps.step (S.store (cs' := [_, _, _, _]) rfl (Pick.there (Pick.there Pick.here)) rfl rfl rfl rfl rfl ?_) rfl
              exact RetPost.ret (hj2.trans hj) (AllRes.cons (ResIs.cellAgg rfl (List.Mem.head _) rfl (LV.Sub.refl _)) AllRes.nil) (HSub.drop (HSub.drop (HSub.refl _))) (by cases hI; exact ⟨by rw [encE_mk]; rfl, rfl⟩)
            · have hk : ¬ k = 2 := by have := of_decide_eq_false hk2; omega
              rw [if_neg hk] at hI
              repeat first
                | refine LCode.skip ?_
                | refine QThen.normal ?_
                | refine QBlock.normal ?_
              exact ⟨q, _, _, by omega, ⟨.mk (textAt T i2) 0 [] [ex, e2], i3, by omega, rfl, rfl, q4, hI⟩, ⟨rfl, rfl, rfl, rfl, rfl, rfl, trivial⟩, (by rw [encArgs_map]; exact HSub.refl _), hj2.trans hj⟩
          · rw [hr2, h3, obind_err] at hI
            repeat first
              | refine QThen.panic ?_
              | refine QBlock.panic ?_
            exact RetPost.panic (he'.trans (hj2.trans hj)) (hsub_clo (A := [(b5, LObj.cells 39 [str (exOp ex), int .u32 (exNum ex), str (exName ex), .list (encArgs ex)]), (b, LObj.cells 39 [str [], int .u32 0, str [], nilSlice])]) (B := [(bo, LObj.cells 94 [.atom (.func (.func fn) first caps)]), (bs, LObj.cells 49 [ptr sb 0]), (bp, LObj.cells 25 [.list ((lvOps k).map str)]), (bn, LObj.cells 4 [bool (decide ((k : Int) = 2))])])) (by cases hI; exact ⟨rfl, i3, op3, rfl⟩)
    · have hc' : isTok T i2 (lvOps k) = false := hc
      rw [if_neg (by rw [hc']; decide)] at hI
      repeat first
        | refine LOps.nil ?_
        | refine LCode.seq ?_
        | refine LCode.region ?_
        | refine LCode.ret ?_
        | refine LCode.exit ?_
        | refine QThen.normal ?_
        | refine QThen.exit ?_
        | refine QBlock.hit ?_
        | refine LOps.pure (Pure.ldHAgg (cs' := [_, _, _, _]) rfl (List.Mem.tail _ (List.Mem.head _)) rfl rfl) rfl ?_
        | refine LOps.step (S.store (cs' := [_, _, _, _]) rfl (Pick.there (Pick.there Pick.here)) rfl rfl rfl rfl rfl ?_) rfl
      exact RetPost.ret hj (AllRes.cons (ResIs.cellAgg rfl (List.Mem.head _) rfl (LV.Sub.refl _)) AllRes.nil) (HSub.drop (HSub.pick Pick.here (HSub.drop (HSub.refl _)))) (by cases hI; exact ⟨rfl, rfl⟩)
  · rw [hr1, h1, obind_err] at hr
    repeat first
      | refine QThen.panic ?_
    refine RetPost.panic (he'.trans rfl) (H' := srcH sb T i1 op1 :: (bo, .cells 94 [.atom (.func (.func fn) first caps)]) :: (bs, .cells 49 [ptr sb 0]) :: (bp, .cells 25 [.list ((lvOps k).map str)]) :: (bn, .cells 4 [bool (decide ((k : Int) = 2))]) :: Hc) ?_ (by cases hr; exact ⟨rfl, i1, op1, rfl⟩)
    exact HSub.pick Pick.here ⟨[(b, _)], List.perm_append_comm.trans (by exact List.Perm.refl _ |>.trans (List.perm_append_singleton _ _).symm)⟩
end
end Go.Proofs.YtfodkbchknknjaaDoor
