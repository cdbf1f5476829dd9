/- The parser's steps that may fail, walked. -/
import Derived.Test.YtfodkbchknknjaaDoorParP1
import Derived.Test.YtfodkbchknknjaaDoorParSpec2
set_option linter.unusedVariables false
set_option linter.unusedSimpArgs false
namespace Go.Proofs.YtfodkbchknknjaaDoor
open Go.GL Go.RowKit Go.Stele
set_option maxRecDepth 100000
set_option maxHeartbeats 4000000
section steps
variable {C : Ctx} {e : Env} {H : Heap} {dst : Option Nat} {ty : TypeId} {pos : String} {aft : Array Edge} {g : Option (Nat × Bool)} {K : LV → Heap → Prop} {X : List PanicEntry → Heap → Prop}
theorem S.fnH {f : FuncId} [TEnter C.P f] (args : List Operand) {ats : Array TypeId} {av : List LV} {lv : LV} {p p' : Nat × LObj} {F : Heap} (has : args.map e.ev = av) (hp : Pick p H F) (hc : LCalls C f av [p] (fun r H => r = .ret lv ∧ H = [p'])) (hk : K lv (p' :: F)) :
    LStep C ⟨dst, .call { callee := .value (.func f), args := args.toArray, argTypes := ats }, ty, pos, aft, g⟩ e H K X :=
  S.call1 args has hp hc (by rintro v H' ⟨h, rfl⟩; cases h; exact hk) (by rintro ch H' ⟨h, _⟩; cases h)
theorem S.callP {A : Type} {enc : A → LV} {res : Res A} {sb i op : Nat} {T : List Tok} {f : FuncId} [TEnter C.P f] (args : List Operand) {ats : Array TypeId} {av : List LV} {F : Heap} (has : args.map e.ev = av) (hp : Pick (srcH sb T i op) H F)
    (hc : LCalls C f av [srcH sb T i op] (PostP sb T enc res)) (hk : ∀ v i' op', res = .ok v i' op' → K (enc v) (srcH sb T i' op' :: F)) (hx : ∀ l er i' op', res = .err l er → X (pan l er) (srcH sb T i' op' :: F)) :
    LStep C ⟨dst, .call { callee := .value (.func f), args := args.toArray, argTypes := ats }, ty, pos, aft, g⟩ e H K X := by
  refine S.call1 args has hp hc ?_ ?_
  · intro v H' h
    cases hr : res with
    | ok u i' op' =>
      rw [hr] at h
      obtain ⟨h1, rfl⟩ := h
      cases h1
      exact hk _ _ _ hr
    | err l er =>
      rw [hr] at h
      obtain ⟨h1, _⟩ := h
      cases h1
  · intro ch H' h
    cases hr : res with
    | ok u i' op' =>
      rw [hr] at h
      obtain ⟨h1, _⟩ := h
      cases h1
    | err l er =>
      rw [hr] at h
      obtain ⟨h1, i', op', rfl⟩ := h
      cases h1
      exact hx _ _ _ _ hr
theorem retP {A : Type} {enc : A → LV} {res : Res A} {sb : Nat} {T : List Tok} {n : Nat} {rs : List ResultVar} {vs : List LV} {v : A} {i op : Nat} (hd : e.ds = []) (h : AllRes C n e H rs vs) (hr : res = .ok v i op) (hv : resLV vs = enc v) (hH : HSub [srcH sb T i op] H) :
    RetPost C n rs (PostP sb T enc res) .ret e H := RetPost.ret hd h hH (by rw [hr]; exact ⟨by rw [hv], rfl⟩)
theorem retPn {A : Type} {enc : A → LV} {res : Res A} {sb : Nat} {T : List Tok} {n : Nat} {rs : List ResultVar} {vs : List LV} {v : A} {i op : Nat} (hd : e.ds = []) (h : AllRes C n e H rs vs) (hr : res = .ok v i op) (hv : resLV vs = enc v) (hH : HSub [srcH sb T i op] H) :
    RetPost C n rs (PostP sb T enc res) .normal e H := RetPost.normal hd h hH (by rw [hr]; exact ⟨by rw [hv], rfl⟩)
theorem panP {A : Type} {enc : A → LV} {res : Res A} {sb : Nat} {T : List Tok} {n : Nat} {rs : List ResultVar} {i op : Nat} {l er : Int} (hd : e.ds = []) (hr : res = .err l er) (hH : HSub [srcH sb T i op] H) :
    RetPost C n rs (PostP sb T enc res) (.panic (pan l er)) e H := RetPost.panic hd hH (by rw [hr]; exact ⟨rfl, i, op, rfl⟩)
end steps
attribute [local irreducible] LOps LCode LStep LCalls Go.GL.Pure QThen QBlock RetPost LQ LAny LLate LLateOp
section
variable {B0 : Nat} {w0 : World}
theorem fail_spec {A : Type} (enc : A → LV) (sb : Nat) (T : List Tok) (i op : Nat) (er : Int) (hT : T.length ≤ 100000) (hi : i ≤ 1000000) :
    LCalls (KC B0 w0) 24 [ptr sb 0, int .i64 er] [srcH sb T i op] (PostP sb T enc (.err (failLine T i) er)) := by
  have hml : (T.map encTok).length = T.length := List.length_map _
  refine LCalls.intro Tryd.func24 rfl (n := 31) rfl rfl rfl ?_
  repeat first
    | refine LOps.nil ?_
    | refine LCode.seq ?_
    | refine LCode.region ?_
    | refine QThen.normal ?_
    | refine LOps.pure (Pure.as (lv := .atom _) rfl) rfl ?_
    | refine LOps.pure (Pure.mv (lv := .atom _) rfl) rfl ?_
    | refine LOps.pure (Pure.nilCheckH rfl) rfl ?_
    | refine LOps.pure (Pure.fieldH rfl) rfl ?_
    | refine LOps.pure (Pure.loadH (c := .list _) rfl (List.Mem.head _) rfl) rfl ?_
    | refine LOps.pure (Pure.llen rfl) rfl ?_
    | refine LOps.pure (Pure.gtr rfl rfl) rfl ?_
  refine LCode.cut [(0, ptr sb 0), (1, int .i64 er), (4, int .i64 (failLine T i))] ?_ (fun j hj => ?_)
  · refine LCode.cond rfl (fun hc => ?_) (fun hc => ?_)
    · have hpos : 0 < T.length := by have := of_decide_eq_true hc; simp at this; omega
      have hmin : min i (T.length - 1) < T.length := by omega
      have hmv : (if ((T.map encTok).length : Int) - 1 < (i : Int) then ((T.map encTok).length : Int) - 1 else (i : Int)) = ((min i (T.length - 1) : Nat) : Int) := by
        rw [List.length_map]
        split <;> omega
      refine LCode.quiet (by kernel_rfl) ?_
      repeat first
        | refine LQ.pure (Pure.mv (lv := .atom _) rfl) rfl ?_
        | refine LQ.pure (Pure.nilCheckH rfl) rfl ?_
        | refine LQ.pure (Pure.fieldH rfl) rfl ?_
        | refine LQ.pure (Pure.loadH (c := .list _) rfl (List.Mem.head _) rfl) rfl ?_
        | refine LQ.pure (Pure.loadH (c := .atom _) rfl (List.Mem.head _) rfl) rfl ?_
        | refine LQ.pure (Pure.sub rfl rfl (by omega)) rfl ?_
        | refine LQ.pure (Pure.minI rfl rfl) rfl ?_
      refine LQ.pure (Pure.ixRef (n := ((min i (T.length - 1) : Nat) : Int)) (el' := encTok T[min i (T.length - 1)]) (cs := [_, _, _]) rfl (congrArg (int .i64) hmv) (by omega) (map_get _ _ _ hmin) rfl rfl) rfl ?_
      repeat first
        | refine LQ.pure (Pure.as (lv := .atom _) rfl) rfl ?_
        | refine LQ.pure (Pure.field1 rfl rfl) rfl ?_
        | refine LQ.pure (Pure.loadRef (c := .atom _) rfl rfl) rfl ?_
        | refine LQ.nil ?_
        | refine QThen.normal ?_
      exact ⟨⟨rfl, rfl, int_eq (by rw [failLine, List.getElem?_eq_getElem hmin]), trivial⟩, rfl, rfl⟩
    · have hz : T = [] := by
        have := of_decide_eq_false hc
        exact List.length_eq_zero_iff.1 (by omega)
      repeat first
        | refine LCode.skip ?_
        | refine QThen.normal ?_
      exact ⟨⟨rfl, rfl, int_eq (by rw [failLine, hz]; rfl), trivial⟩, rfl, rfl⟩
  · repeat first
      | refine LCode.region ?_
      | refine LOps.pure (Pure.mv (lv := .atom _) rfl) rfl ?_
      | refine LOps.pure (Pure.bld _ (cs := [_, _]) rfl) rfl ?_
      | refine LOps.pure (Pure.makeInterfaceAgg (vs := [_, _]) rfl) rfl ?_
    refine LOps.step (LStep.panic rfl fun e' he' => ?_) rfl
    exact panP (he'.trans hj) rfl (HSub.refl _)
theorem take_spec (sb : Nat) (T : List Tok) (i op : Nat) (x : List UInt8) (hT : T.length ≤ 100000) (hi : i ≤ 1000000) :
    LCalls (KC B0 w0) 21 [ptr sb 0, str x] [srcH sb T i op] (fun r H => r = .ret (bool (isTok T i [x])) ∧ H = [srcH sb T (if isTok T i [x] then i + 1 else i) op]) := by
  refine LCalls.intro Tryd.func21 rfl (n := 17) rfl rfl rfl ?_
  repeat first
    | refine LOps.nil ?_
    | refine LCode.seq ?_
    | refine LCode.region ?_
    | refine QThen.normal ?_
    | refine LOps.pure (Pure.as (lv := .atom _) rfl) rfl ?_
    | refine LOps.pure (Pure.mv (lv := .atom _) rfl) rfl ?_
  refine LOps.step (S.lit [_] rfl (elemsOk.cons rfl rfl elemsOk.nil) rfl rfl rfl ?_) rfl
  refine LOps.step (S.fnH [_, _] rfl Pick.here (is_spec sb T i op [x] hT hi (by simp)) ?_) rfl
  repeat first
    | refine LOps.nil ?_
    | refine QThen.normal ?_
    | refine LOps.pure (Pure.not rfl) rfl ?_
  refine LCode.cond rfl (fun hc => ?_) (fun hc => ?_)
  · have h : isTok T i [x] = false := by simpa using hc
    repeat first
      | refine LOps.nil ?_
      | refine LCode.seq ?_
      | refine LCode.region ?_
      | refine LCode.ret ?_
      | refine QThen.normal ?_
      | refine QThen.ret ?_
      | refine LOps.pure (Pure.as (lv := .atom _) rfl) rfl ?_
    exact RetPost.ret rfl (AllRes.cons (ResIs.tmp (v := .atom _) rfl (LV.Sub.refl _)) AllRes.nil) (HSub.refl _) ⟨by rw [h]; rfl, by rw [h]; rfl⟩
  · have h : isTok T i [x] = true := by simpa using hc
    repeat first
      | refine LOps.nil ?_
      | refine LCode.seq ?_
      | refine LCode.region ?_
      | refine LCode.skip ?_
      | refine LCode.ret ?_
      | refine QThen.normal ?_
      | refine LOps.pure (Pure.as (lv := .atom _) rfl) rfl ?_
      | refine LOps.pure (Pure.mv (lv := .atom _) rfl) rfl ?_
      | refine LOps.pure (Pure.nilCheckH rfl) rfl ?_
      | refine LOps.pure (Pure.fieldH rfl) rfl ?_
      | refine LOps.pure (Pure.loadH (c := .atom _) rfl (List.Mem.head _) rfl) rfl ?_
      | refine LOps.pure (Pure.add rfl rfl (by omega)) rfl ?_
      | refine LOps.step (S.store (cs' := [_, _, _]) rfl Pick.here rfl rfl rfl rfl rfl ?_) rfl
    exact RetPost.ret rfl (AllRes.cons (ResIs.tmp (v := .atom _) rfl (LV.Sub.refl _)) AllRes.nil) (HSub.refl _) ⟨by rw [h]; rfl, by rw [h]; rfl⟩
theorem need_spec (sb : Nat) (T : List Tok) (i op : Nat) (x : List UInt8) (hT : T.length ≤ 100000) (hi : i ≤ 1000000) :
    LCalls (KC B0 w0) 41 [ptr sb 0, str x] [srcH sb T i op] (PostP sb T encU (sNeed T x i op)) := by
  refine LCalls.intro Tryd.func41 rfl (n := 10) rfl rfl rfl ?_
  repeat first
    | refine LCode.seq ?_
    | refine LCode.region ?_
    | refine LOps.pure (Pure.mv (lv := .atom _) rfl) rfl ?_
  refine LOps.step (S.fnH [_, _] rfl Pick.here (take_spec sb T i op x hT hi) ?_) rfl
  repeat first
    | refine LOps.nil ?_
    | refine QThen.normal ?_
    | refine LOps.pure (Pure.not rfl) rfl ?_
  refine LCode.cond rfl (fun hc => ?_) (fun hc => ?_)
  · have h : isTok T i [x] = false := by simpa using hc
    simp only [h, Bool.false_eq_true, if_false]
    repeat first
      | refine LCode.region ?_
      | refine LOps.pure (Pure.mv (lv := .atom _) rfl) rfl ?_
    refine LOps.step (S.callP [_, _] rfl Pick.here (fail_spec encU sb T i op 3 hT hi) (fun _ _ _ h => by cases h) (fun l er i' op' h e' he' => ?_)) rfl
    cases h
    exact panP (he'.trans rfl) (by rw [sNeed, h, if_neg (by decide)]; rfl) (HSub.refl _)
  · have h : isTok T i [x] = true := by simpa using hc
    simp only [h, if_true]
    repeat first
      | refine LCode.skip ?_
    exact retPn rfl AllRes.nil (by rw [sNeed, h, if_pos rfl]) rfl (HSub.refl _)
theorem word_spec (sb : Nat) (T : List Tok) (i op : Nat) (k : Int) (hT : T.length ≤ 100000) (hi : i ≤ 1000000) :
    LCalls (KC B0 w0) 42 [ptr sb 0, int .i64 k] [srcH sb T i op] (PostP sb T str (sWord T k i op)) := by
  have hml : (T.map encTok).length = T.length := List.length_map _
  refine LCalls.intro Tryd.func42 rfl (n := 51) rfl rfl rfl ?_
  repeat first
    | refine LOps.nil ?_
    | refine LCode.seq ?_
    | refine LCode.region ?_
    | refine QThen.normal ?_
    | refine LOps.pure (Pure.as (lv := .atom _) rfl) rfl ?_
  refine LCode.cut [(0, ptr sb 0), (1, int .i64 k), (29, bool (match T[i]? with | some t => !decide (t.kind = k) | none => true))] ?_ (fun j hj => ?_)
  · refine LCode.quiet (by kernel_rfl) ?_
    repeat first
      | refine LQ.pure (Pure.mv (lv := .atom _) rfl) rfl ?_
      | refine LQ.pure (Pure.nilCheckH rfl) rfl ?_
      | refine LQ.pure (Pure.fieldH rfl) rfl ?_
      | refine LQ.pure (Pure.loadH (c := .atom _) rfl (List.Mem.head _) rfl) rfl ?_
      | refine LQ.pure (Pure.loadH (c := .list _) rfl (List.Mem.head _) rfl) rfl ?_
      | refine LQ.pure (Pure.llen rfl) rfl ?_
      | refine LQ.pure (Pure.geq rfl rfl) rfl ?_
    refine LQ.bcase 15 rfl (fun h => ?_) (fun h => ?_)
    · have hge : T.length ≤ i := by have := of_decide_eq_true h; omega
      repeat first
        | refine LQ.pure (Pure.pickT (lv := .atom _) rfl rfl) rfl ?_
        | refine LQ.skip rfl rfl rfl rfl ?_
        | refine LQ.nil ?_
        | refine QThen.normal ?_
      exact ⟨⟨rfl, rfl, bool_eq (by rw [List.getElem?_eq_none hge]), trivial⟩, rfl, rfl⟩
    · have hlt : i < T.length := by have := of_decide_eq_false h; omega
      repeat first
        | refine LQ.pure (Pure.mv (lv := .atom _) rfl) rfl ?_
        | refine LQ.pure (Pure.nilCheckH rfl) rfl ?_
        | refine LQ.pure (Pure.fieldH rfl) rfl ?_
        | refine LQ.pure (Pure.loadH (c := .atom _) rfl (List.Mem.head _) rfl) rfl ?_
        | refine LQ.pure (Pure.loadH (c := .list _) rfl (List.Mem.head _) rfl) rfl ?_
        | refine LQ.want rfl rfl ?_
      refine LQ.pure (Pure.ixRef (el' := encTok T[i]) (cs := [_, _, _]) rfl rfl (by omega) (map_get _ _ _ hlt) rfl rfl) rfl ?_
      repeat first
        | refine LQ.pure (Pure.mv (lv := .atom _) rfl) rfl ?_
        | refine LQ.pure (Pure.field1 rfl rfl) rfl ?_
        | refine LQ.pure (Pure.loadRef (c := .atom _) rfl rfl) rfl ?_
        | refine LQ.pure (Pure.neq rfl rfl) rfl ?_
        | refine LQ.pure (Pure.pickF (lv := .atom _) rfl rfl) rfl ?_
        | refine LQ.want rfl rfl ?_
        | refine LQ.nil ?_
        | refine QThen.normal ?_
      exact ⟨⟨rfl, rfl, bool_eq (by rw [List.getElem?_eq_getElem hlt]), trivial⟩, rfl, rfl⟩
  · skip
    refine LCode.cond rfl (fun hc => ?_) (fun hc => ?_)
    · have hs : sWord T k i op = synErr T i := by
        unfold sWord
        cases hg : T[i]? with
        | none => rfl
        | some t =>
          rw [hg] at hc
          have : ¬ t.kind = k := by simpa using hc
          simp only
          rw [if_neg this]
      repeat first
        | refine LCode.region ?_
        | refine LOps.pure (Pure.mv (lv := .atom _) rfl) rfl ?_
      refine LOps.step (S.callP [_, _] rfl Pick.here (fail_spec str sb T i op 3 hT hi) (fun _ _ _ h => by cases h) (fun l er i' op' h e' he' => ?_)) rfl
      cases h
      repeat first
        | refine QThen.panic ?_
      exact panP (he'.trans hj) hs (HSub.refl _)
    · have hlt : i < T.length := by
        rcases Nat.lt_or_ge i T.length with h | h
        · exact h
        · rw [List.getElem?_eq_none h] at hc; cases hc
      rw [List.getElem?_eq_getElem hlt] at hc
      have hk : T[i].kind = k := by simpa using hc
      have hs : sWord T k i op = .ok T[i].text (i + 1) op := by rw [sWord, List.getElem?_eq_getElem hlt]; simp only; rw [if_pos hk]
      repeat first
        | refine LOps.nil ?_
        | refine LCode.seq ?_
        | refine LCode.region ?_
        | refine LCode.skip ?_
        | refine QThen.normal ?_
        | refine LOps.pure (Pure.mv (lv := .atom _) rfl) rfl ?_
        | refine LOps.pure (Pure.nilCheckH rfl) rfl ?_
        | refine LOps.pure (Pure.fieldH rfl) rfl ?_
        | refine LOps.pure (Pure.loadH (c := .atom _) rfl (List.Mem.head _) rfl) rfl ?_
        | refine LOps.pure (Pure.add rfl rfl (by omega)) rfl ?_
        | refine LOps.step (S.store (cs' := [_, _, _]) rfl Pick.here rfl rfl rfl rfl rfl ?_) rfl
      refine LCode.cut [(0, ptr sb 0), (4, str T[i].text)] ?_ (fun j2 hj2 => ?_)
      · refine LCode.quiet (by kernel_rfl) ?_
        repeat first
          | refine LQ.pure (Pure.mv (lv := .atom _) rfl) rfl ?_
          | refine LQ.pure (Pure.nilCheckH rfl) rfl ?_
          | refine LQ.pure (Pure.fieldH rfl) rfl ?_
          | refine LQ.pure (Pure.loadH (c := .atom _) rfl (List.Mem.head _) rfl) rfl ?_
          | refine LQ.pure (Pure.loadH (c := .list _) rfl (List.Mem.head _) rfl) rfl ?_
          | refine LQ.pure (Pure.sub rfl rfl (by omega)) rfl ?_
        refine LQ.pure (Pure.ixRef (n := ((i : Nat) : Int)) (el' := encTok T[i]) (cs := [_, _, _]) rfl (int_eq (by omega)) (by omega) (map_get _ _ _ hlt) rfl rfl) rfl ?_
        repeat first
          | refine LQ.pure (Pure.as (lv := .atom _) rfl) rfl ?_
          | refine LQ.pure (Pure.field1 rfl rfl) rfl ?_
          | refine LQ.pure (Pure.loadRef (c := .atom _) rfl rfl) rfl ?_
          | refine LQ.nil ?_
          | refine QThen.normal ?_
        exact ⟨⟨rfl, rfl, trivial⟩, rfl, rfl⟩
      · repeat first
          | refine LCode.ret ?_
        exact retP (hj2.trans hj) (AllRes.cons (ResIs.tmp (v := .atom _) rfl (LV.Sub.refl _)) AllRes.nil) hs rfl (HSub.refl _)
theorem begin_spec (sb : Nat) (T : List Tok) (i op : Nat) (x : List UInt8) (hT : T.length ≤ 100000) (hi : i ≤ 1000000) (ho : op ≤ 1000000) :
    LCalls (KC B0 w0) 43 [ptr sb 0, str x] [srcH sb T i op] (PostP sb T encU (sBegin T x i op)) := by
  refine LCalls.intro Tryd.func43 rfl (n := 32) rfl rfl rfl ?_
  repeat first
    | refine LCode.seq ?_
    | refine LCode.region ?_
    | refine LOps.pure (Pure.mv (lv := .atom _) rfl) rfl ?_
  refine LOps.step (S.lit [_] rfl (elemsOk.cons rfl rfl elemsOk.nil) rfl rfl rfl ?_) rfl
  refine LOps.step (S.fnH [_, _] rfl Pick.here (is_spec sb T i op [x] hT hi (by simp)) ?_) rfl
  repeat first
    | refine LOps.nil ?_
    | refine QThen.normal ?_
    | refine LOps.pure (Pure.not rfl) rfl ?_
  refine LCode.cond rfl (fun hc => ?_) (fun hc => ?_)
  · have h : isTok T i [x] = false := by simpa using hc
    repeat first
      | refine LCode.region ?_
      | refine LOps.pure (Pure.mv (lv := .atom _) rfl) rfl ?_
    refine LOps.step (S.callP [_, _] rfl Pick.here (fail_spec encU sb T i op 3 hT hi) (fun _ _ _ h => by cases h) (fun l er i' op' h' e' he' => ?_)) rfl
    cases h'
    repeat first
      | refine QThen.panic ?_
    exact panP (he'.trans rfl) (by rw [sBegin, h, if_neg (by decide)]; rfl) (HSub.refl _)
  · have h : isTok T i [x] = true := by simpa using hc
    repeat first
      | refine LOps.nil ?_
      | refine LCode.seq ?_
      | refine LCode.region ?_
      | refine LCode.skip ?_
      | refine QThen.normal ?_
      | refine LOps.pure (Pure.mv (lv := .atom _) rfl) rfl ?_
      | refine LOps.pure (Pure.nilCheckH rfl) rfl ?_
      | refine LOps.pure (Pure.fieldH rfl) rfl ?_
      | refine LOps.pure (Pure.loadH (c := .atom _) rfl (List.Mem.head _) rfl) rfl ?_
      | refine LOps.pure (Pure.geq rfl rfl) rfl ?_
    refine LCode.cond rfl (fun hd => ?_) (fun hd => ?_)
    · have hd' : 100 ≤ op := by have := of_decide_eq_true hd; omega
      repeat first
        | refine LCode.region ?_
        | refine LOps.pure (Pure.mv (lv := .atom _) rfl) rfl ?_
      refine LOps.step (S.callP [_, _] rfl Pick.here (fail_spec encU sb T i op 6 hT hi) (fun _ _ _ h => by cases h) (fun l er i' op' h' e' he' => ?_)) rfl
      cases h'
      repeat first
        | refine QThen.panic ?_
      exact panP (he'.trans rfl) (by rw [sBegin, h, if_pos rfl, if_pos hd']) (HSub.refl _)
    · have hd' : ¬ 100 ≤ op := by have := of_decide_eq_false hd; omega
      repeat first
        | refine LOps.nil ?_
        | refine LCode.seq ?_
        | refine LCode.region ?_
        | refine LCode.skip ?_
        | refine QThen.normal ?_
        | refine LOps.pure (Pure.mv (lv := .atom _) rfl) rfl ?_
        | refine LOps.pure (Pure.nilCheckH rfl) rfl ?_
        | refine LOps.pure (Pure.fieldH rfl) rfl ?_
        | refine LOps.pure (Pure.loadH (c := .atom _) rfl (List.Mem.head _) rfl) rfl ?_
        | refine LOps.pure (Pure.add rfl rfl (by omega)) rfl ?_
        | refine LOps.step (S.store (cs' := [_, _, _]) rfl Pick.here rfl rfl rfl rfl rfl ?_) rfl
      exact retPn rfl AllRes.nil (by rw [sBegin, h, if_pos rfl, if_neg hd']) rfl (HSub.refl _)
theorem end_spec (sb : Nat) (T : List Tok) (i op : Nat) (x : List UInt8) (hT : T.length ≤ 100000) (hi : i ≤ 1000000) (ho : op ≤ 1000000) (h1 : 1 ≤ op) :
    LCalls (KC B0 w0) 45 [ptr sb 0, str x] [srcH sb T i op] (PostP sb T encU (sEnd T x i op)) := by
  refine LCalls.intro Tryd.func45 rfl (n := 14) rfl rfl rfl ?_
  repeat first
    | refine LCode.seq ?_
    | refine LCode.region ?_
    | refine LOps.pure (Pure.mv (lv := .atom _) rfl) rfl ?_
  refine LOps.step (S.callP [_, _] rfl Pick.here (need_spec sb T i op x hT hi) (fun v i' op' h => ?_) (fun l er i' op' h e' he' => ?_)) rfl
  · have hop : op' = op := by
      unfold sNeed at h
      split at h
      · cases h; rfl
      · cases h
    subst hop
    repeat first
      | refine LOps.nil ?_
      | refine LCode.region ?_
      | refine QThen.normal ?_
      | refine LOps.pure (Pure.mv (lv := .atom _) rfl) rfl ?_
      | refine LOps.pure (Pure.nilCheckH rfl) rfl ?_
      | refine LOps.pure (Pure.fieldH rfl) rfl ?_
      | refine LOps.pure (Pure.loadH (c := .atom _) rfl (List.Mem.head _) rfl) rfl ?_
      | refine LOps.pure (Pure.sub rfl rfl (by omega)) rfl ?_
      | refine LOps.step (S.store (cs' := [_, _, _]) rfl Pick.here rfl rfl rfl rfl rfl ?_) rfl
    rw [show ((op' : Int) - 1) = ((op' - 1 : Nat) : Int) by omega]
    exact retPn rfl AllRes.nil (by rw [sEnd, h]; rfl) rfl (HSub.refl _)
  · repeat first
      | refine QThen.panic ?_
    exact panP (he'.trans rfl) (by rw [sEnd, h]; rfl) (HSub.refl _)
end
end Go.Proofs.YtfodkbchknknjaaDoor
