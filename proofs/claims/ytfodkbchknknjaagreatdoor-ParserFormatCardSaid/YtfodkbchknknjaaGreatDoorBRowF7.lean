/- Texts joined: LawT, RPar1, RPar2, RPar3, RFmt1, RFmt2, RFmt3. -/
import Derived.Test.YtfodkbchknknjaaGreatDoorBRowF2
import Derived.Test.YtfodkbchknknjaaGreatDoorBRowF4
import Derived.Test.YtfodkbchknknjaaGreatDoorBRowF5
import Derived.Test.YtfodkbchknknjaaGreatDoorBRowF6
set_option linter.unusedVariables false
set_option linter.unusedSimpArgs false
namespace Go.Proofs.YtfodkbchknknjaaGreatDoor
open Go.GL Go.RowKit Go.Stele
set_option maxRecDepth 100000
set_option maxHeartbeats 4000000
theorem pfs_nth : ∀ (l : List FnD) (ts : List KT), PFs l ts → ∀ f ∈ l, ∃ t d, PF f t d ∧ t.length ≤ ts.length
 | [], _, _, _, h => by cases h
 | a :: l, ts, hp, f, h => by
  cases hp with
  | cons hf hd hl =>
   rcases List.mem_cons.1 h with rfl | h
   ·exact ⟨_, _, hf, by simp only [List.length_append]; omega⟩
   ·obtain ⟨t, d, h1, h2⟩ := pfs_nth l _ hl f h
    exact ⟨t, d, h1, by simp only [List.length_append]; omega⟩
theorem varK_count (l : List (List UInt8)) : l.length ≤ (varK l).length := by
 rw [varK_len]
 split
 ·rename_i h; subst h; simp
 ·omega
/-- A printed program can be formatted. -/
theorem fmt_ok {p : Pr} {ts : List KT} (hp : PP p ts) (hz : ts.length ≤ 1500) (hn : nPr p ≤ 1000000000) : FmtOk p := by
 have hsz := print_size hp
 cases hp with
 | mk hv ha hf =>
  rename_i v a f t
  simp only [List.length_append, arK_len] at hz
  have h1 := varK_count v
  unfold nPr at hn
  simp only at hn
  have h2 := nFns_len f
  refine ⟨by simp only; omega, by simp only; omega, fun x hx => (ha x hx).2, by simp only; omega, fun x hx => ?_, ?_⟩
  ·simp only at hx
   have h3 := nFns_mem hx
   obtain ⟨t', d, h4, h5⟩ := pfs_nth f t hf x hx
   unfold nFn at h3
   refine ⟨by omega, by omega, by omega, ?_⟩
   cases h4 with
   | mk k1 k2 k3 k4 =>
    simp only [List.length_append, List.length_cons] at h5
    exact pssOk k4 (by omega)
  ·simp only [List.length_append, arK_len] at hsz
   omega
attribute [local irreducible] LOps LCode LStep LCalls Go.GL.Pure QThen QBlock RetPost LQ LAny LLate LLateOp
section
variable {B0 : Nat} {w0 : World}
end
end Go.Proofs.YtfodkbchknknjaaGreatDoor
namespace Go.Proofs.YtfodkbchknknjaaGreatDoor
open Go.GL Go.RowKit Go.Stele
set_option maxRecDepth 100000
set_option maxHeartbeats 4000000
/-- The reader's state: the place, the open constructs, the line and the error. -/
@[reducible] def rdH (rb : Nat) (T : List Tok) (i : Nat) (op ln er : Int) : Nat × LObj := (rb, .cells 65 [.list (T.map encTok), int .i64 i, int .i64 op, int .i64 ln, int .i64 er])
/-- Without an error the state is that of the plain parser. -/
def Wf (T : List Tok) (o i : Nat) (op ln er : Int) : Prop := er = 0 → ln = 0 ∧ i ≤ T.length ∧ op = (o : Int) ∧ o ≤ 100
/-- What the plain parser makes of a state: an error stays. -/
def stO {A : Type} (o i : Nat) (ln er : Int) (g : Nat → Nat → OR A) : OR A := if er = 0 then g i o else some (.err ln er)
def PostB {A : Type} (B : A → Prop) (rb : Nat) (T : List Tok) (o : Nat) (enc : A → LV) (r : Res A) : LRes → Heap → Prop := fun res H =>
 ∃ v i op ln er, B v ∧ Wf T o i op ln er ∧ stO o i ln er (fun i o => some (.ok v i o)) = some r ∧ res = .ret (enc v) ∧ H = [rdH rb T i op ln er]
@[reducible] def PostQ {A : Type} (rb : Nat) (T : List Tok) (o : Nat) (enc : A → LV) (r : Res A) : LRes → Heap → Prop := PostB (fun _ => True) rb T o enc r
theorem stO_dead {A : Type} {o i : Nat} {ln er : Int} {g : Nat → Nat → OR A} (h : er ≠ 0) : stO o i ln er g = some (.err ln er) := if_neg h
theorem stO_ok {A : Type} {o i : Nat} {ln : Int} {g : Nat → Nat → OR A} : stO o i ln 0 g = g i o := rfl
theorem stO_t {A : Type} {T : List Tok} {o i : Nat} {ln : Int} {xs : List (List UInt8)} {g h : Nat → Nat → OR A} {r : Res A} (ht : isTok T i xs = true) (hr : stO o i ln 0 (fun i o => if isTok T i xs then g i o else h i o) = some r) : stO o i ln 0 g = some r := by
 rw [stO_ok, ht] at hr
 exact hr
theorem stO_f {A : Type} {T : List Tok} {o i : Nat} {ln er : Int} {xs : List (List UInt8)} {g h : Nat → Nat → OR A} {r : Res A} (ht : (decide (er = 0) && isTok T i xs) = false) (hr : stO o i ln er (fun i o => if isTok T i xs then g i o else h i o) = some r) : stO o i ln er h = some r := by
 by_cases he : er = 0
 ·subst he
  have : isTok T i xs = false := by simpa using ht
  rw [stO_ok, this] at hr
  exact hr
 ·rw [stO_dead he] at hr ⊢
  exact hr
theorem stO_go {A B : Type} {o o' i i' : Nat} {ln er ln' er' : Int} {g : Nat → Nat → OR A} {k : A → Nat → Nat → OR B} {r1 : Res A} {r : Res B} {v : A} (h1 : stO o i ln er g = some r1) (hr : stO o i ln er (fun i o => obind (g i o) k) = some r)
  (h2 : stO o' i' ln' er' (fun i o => some (.ok v i o)) = some r1) : stO o' i' ln' er' (k v) = some r := by
 by_cases he : er = 0
 ·subst he
  rw [stO_ok] at h1 hr
  rw [h1] at hr
  by_cases he' : er' = 0
  ·subst he'
   rw [stO_ok] at h2 ⊢
   cases h2
   exact hr
  ·rw [stO_dead he'] at h2 ⊢
   cases h2
   exact hr
 ·rw [stO_dead he] at h1 hr
  cases h1
  by_cases he' : er' = 0
  ·subst he'
   rw [stO_ok] at h2
   cases h2
  ·rw [stO_dead he'] at h2 ⊢
   cases h2
   exact hr
theorem stO_some {A B : Type} {o i : Nat} {ln er : Int} {g : Nat → Nat → OR A} {k : A → Nat → Nat → OR B} {r : Res B} (hr : stO o i ln er (fun i o => obind (g i o) k) = some r) : ∃ r1, stO o i ln er g = some r1 := by
 by_cases he : er = 0
 ·subst he
  rw [stO_ok] at hr
  rcases obind_some hr with ⟨v, i1, o1, h, _⟩ | ⟨l, e, h, _⟩
  ·exact ⟨_, h⟩
  ·exact ⟨_, h⟩
 ·exact ⟨_, stO_dead he⟩
section steps
variable {C : Ctx} {e : Env} {H : Heap} {dst : Option Nat} {ty : TypeId} {pos : String} {aft : Array Edge} {gd : Option (Nat × Bool)} {K : LV → Heap → Prop} {X : List PanicEntry → Heap → Prop}
theorem stO_alive {A : Type} {o o' i i' : Nat} {ln er ln' er' : Int} {g : Nat → Nat → OR A} {r1 : Res A} {v : A} (h1 : stO o i ln er g = some r1) (h2 : stO o' i' ln' er' (fun i o => some (.ok v i o)) = some r1) (h : er' = 0) : er = 0 ∧ g i o = some (.ok v i' o') := by
 subst h
 rw [stO_ok] at h2
 cases h2
 by_cases he : er = 0
 ·subst he
  exact ⟨rfl, h1⟩
 ·rw [stO_dead he] at h1
  cases h1
theorem S.callB {A B : Type} {enc : A → LV} {P : A → Prop} {rb o o' i : Nat} {op ln er : Int} {T : List Tok} {f : FuncId} [TEnter C.P f] {g : Nat → Nat → OR A} {k : A → Nat → Nat → OR B} {r : Res B} (args : List Operand) {ats : Array TypeId} {av : List LV} {F : Heap} (has : args.map e.ev = av) (hp : Pick (rdH rb T i op ln er) H F)
  (hr : stO o i ln er (fun i o => obind (g i o) k) = some r) (hc : ∀ r1, stO o i ln er g = some r1 → LCalls C f av [rdH rb T i op ln er] (PostB P rb T o' enc r1))
  (hk : ∀ v i' op' ln' er', P v → Wf T o' i' op' ln' er' → (er' = 0 → er = 0 ∧ g i o = some (.ok v i' o')) → stO o' i' ln' er' (k v) = some r → K (enc v) (rdH rb T i' op' ln' er' :: F)) :
  LStep C ⟨dst, .call { callee := .value (.func f), args := args.toArray, argTypes := ats }, ty, pos, aft, gd⟩ e H K X := by
 obtain ⟨r1, h1⟩ := stO_some hr
 refine S.call1 args has hp (hc r1 h1) ?_ ?_
 ·rintro v H' ⟨u, i', op', ln', er', hb, hw, h2, h3, rfl⟩
  cases h3
  exact hk _ _ _ _ _ hb hw (stO_alive h1 h2) (stO_go h1 hr h2)
 ·rintro ch H' ⟨u, i', op', ln', er', hb, hw, h2, h3, _⟩
  cases h3
theorem S.callQ {A B : Type} {enc : A → LV} {rb o o' i : Nat} {op ln er : Int} {T : List Tok} {f : FuncId} [TEnter C.P f] {g : Nat → Nat → OR A} {k : A → Nat → Nat → OR B} {r : Res B} (args : List Operand) {ats : Array TypeId} {av : List LV} {F : Heap} (has : args.map e.ev = av) (hp : Pick (rdH rb T i op ln er) H F)
  (hr : stO o i ln er (fun i o => obind (g i o) k) = some r) (hc : ∀ r1, stO o i ln er g = some r1 → LCalls C f av [rdH rb T i op ln er] (PostQ rb T o' enc r1))
  (hk : ∀ v i' op' ln' er', Wf T o' i' op' ln' er' → (er' = 0 → er = 0 ∧ g i o = some (.ok v i' o')) → stO o' i' ln' er' (k v) = some r → K (enc v) (rdH rb T i' op' ln' er' :: F)) :
  LStep C ⟨dst, .call { callee := .value (.func f), args := args.toArray, argTypes := ats }, ty, pos, aft, gd⟩ e H K X :=
 S.callB args has hp hr hc fun v i' op' ln' er' _ => hk v i' op' ln' er'
theorem retQ {A : Type} {enc : A → LV} {r : Res A} {rb o i : Nat} {op ln er : Int} {T : List Tok} {n : Nat} {rs : List ResultVar} {vs : List LV} {v : A} (hd : e.ds = []) (h : AllRes C n e H rs vs) (hw : Wf T o i op ln er) (hr : stO o i ln er (fun i o => some (.ok v i o)) = some r) (hv : resLV vs = enc v) (hH : HSub [rdH rb T i op ln er] H) :
  RetPost C n rs (PostQ rb T o enc r) .ret e H := RetPost.ret hd h hH ⟨v, i, op, ln, er, trivial, hw, hr, by rw [hv], rfl⟩
theorem retQn {A : Type} {enc : A → LV} {r : Res A} {rb o i : Nat} {op ln er : Int} {T : List Tok} {n : Nat} {rs : List ResultVar} {vs : List LV} {v : A} (hd : e.ds = []) (h : AllRes C n e H rs vs) (hw : Wf T o i op ln er) (hr : stO o i ln er (fun i o => some (.ok v i o)) = some r) (hv : resLV vs = enc v) (hH : HSub [rdH rb T i op ln er] H) :
  RetPost C n rs (PostQ rb T o enc r) .normal e H := RetPost.normal hd h hH ⟨v, i, op, ln, er, trivial, hw, hr, by rw [hv], rfl⟩
theorem retB {A : Type} {enc : A → LV} {P : A → Prop} {r : Res A} {rb o i : Nat} {op ln er : Int} {T : List Tok} {n : Nat} {rs : List ResultVar} {vs : List LV} {v : A} (hd : e.ds = []) (h : AllRes C n e H rs vs) (hb : P v) (hw : Wf T o i op ln er) (hr : stO o i ln er (fun i o => some (.ok v i o)) = some r) (hv : resLV vs = enc v) (hH : HSub [rdH rb T i op ln er] H) :
  RetPost C n rs (PostB P rb T o enc r) .ret e H := RetPost.ret hd h hH ⟨v, i, op, ln, er, hb, hw, hr, by rw [hv], rfl⟩
end steps
theorem wf_dead {T : List Tok} {o i : Nat} {op ln er : Int} (h : er ≠ 0) : Wf T o i op ln er := fun h' => absurd h' h
theorem tok_none {T : List Tok} {i : Nat} (h : T.length ≤ i) (xs : List (List UInt8)) : isTok T i xs = false := by rw [isTok, List.getElem?_eq_none h]
theorem tok_at {T : List Tok} {i : Nat} (h : i < T.length) (xs : List (List UInt8)) : isTok T i xs = ((decide (T[i].kind = 3) || decide (T[i].kind = 4)) && xs.contains T[i].text) := by rw [isTok, List.getElem?_eq_getElem h]
theorem kind_at {T : List Tok} {i : Nat} (h : i < T.length) : kindAt T i = T[i].kind := by rw [kindAt, List.getElem?_eq_getElem h]
theorem kind_none {T : List Tok} {i : Nat} (h : T.length ≤ i) : kindAt T i = 0 := by rw [kindAt, List.getElem?_eq_none h]
attribute [local irreducible] LOps LCode LStep LCalls Go.GL.Pure QThen QBlock RetPost LQ LAny LLate LLateOp
section
variable {B0 : Nat} {w0 : World}
theorem qnext_spec (rb : Nat) (T : List Tok) (i : Nat) (op ln er : Int) (x : List UInt8) (hT : T.length ≤ 100000) :
  LCalls (KC B0 w0) 30 [ptr rb 0, str x] [rdH rb T i op ln er] (fun r H => r = .ret (bool (decide (er = 0) && isTok T i [x])) ∧ H = [rdH rb T i op ln er]) := by
 refine LCalls.intro Tryz.func30 rfl (n := 65) rfl rfl rfl ?_
 repeat first | refine LOps.nil ?_ | refine LCode.seq ?_ | refine LCode.region ?_ | refine QThen.normal ?_ | refine LOps.pure (Pure.as (lv := .atom _) rfl) rfl ?_
 refine LCode.cut [(4, bool (decide (er = 0) && isTok T i [x]))] ?_ (fun j hj => ?_)
 ·refine LCode.quiet (by kernel_rfl) ?_
  repeat first | refine LQ.pure (Pure.mv (lv := .atom _) rfl) rfl ?_ | refine LQ.pure (Pure.nilCheckH rfl) rfl ?_ | refine LQ.pure (Pure.fieldH rfl) rfl ?_ | refine LQ.pure (Pure.loadH (c := .atom _) rfl (List.Mem.head _) rfl) rfl ?_ | refine LQ.pure (Pure.eql rfl rfl) rfl ?_
  refine LQ.bcase 10 rfl (fun h => ?_) (fun h => ?_)
  ·rw [h]
   repeat first | refine LQ.pure (Pure.mv (lv := .atom _) rfl) rfl ?_ | refine LQ.pure (Pure.nilCheckH rfl) rfl ?_ | refine LQ.pure (Pure.fieldH rfl) rfl ?_ | refine LQ.pure (Pure.loadH (c := .atom _) rfl (List.Mem.head _) rfl) rfl ?_ | refine LQ.pure (Pure.loadH (c := .list _) rfl (List.Mem.head _) rfl) rfl ?_ | refine LQ.pure (Pure.llen rfl) rfl ?_ | refine LQ.pure (Pure.lss rfl rfl) rfl ?_ | refine LQ.pure (Pure.pickT (lv := .atom _) rfl rfl) rfl ?_ | refine LQ.want rfl rfl ?_
   refine LQ.bcase 22 rfl (fun h1 => ?_) (fun h1 => ?_)
   ·have hlt : i < T.length := by have := of_decide_eq_true h1; simp only [List.length_map] at this; omega
    rw [tok_at hlt]
    repeat first | refine LQ.pure (Pure.mv (lv := .atom _) rfl) rfl ?_ | refine LQ.pure (Pure.nilCheckH rfl) rfl ?_ | refine LQ.pure (Pure.fieldH rfl) rfl ?_ | refine LQ.pure (Pure.loadH (c := .atom _) rfl (List.Mem.head _) rfl) rfl ?_ | refine LQ.pure (Pure.loadH (c := .list _) rfl (List.Mem.head _) rfl) rfl ?_ | refine LQ.want rfl rfl ?_
    refine LQ.pure (Pure.ixRef (el' := encTok T[i]) (cs := [_, _, _]) rfl rfl (by omega) (map_get _ _ _ hlt) rfl rfl) rfl ?_
    repeat first | refine LQ.pure (Pure.mv (lv := .atom _) rfl) rfl ?_ | refine LQ.pure (Pure.field1 rfl rfl) rfl ?_ | refine LQ.pure (Pure.loadRef (c := .atom _) rfl rfl) rfl ?_ | refine LQ.pure (Pure.eql rfl rfl) rfl ?_ | refine LQ.want rfl rfl ?_
    refine LQ.bcase 35 rfl (fun h2 => ?_) (fun h2 => ?_)
    ·repeat first | refine LQ.pure (Pure.mv (lv := .atom _) rfl) rfl ?_ | refine LQ.pure (Pure.nilCheckH rfl) rfl ?_ | refine LQ.pure (Pure.fieldH rfl) rfl ?_ | refine LQ.pure (Pure.loadH (c := .atom _) rfl (List.Mem.head _) rfl) rfl ?_ | refine LQ.pure (Pure.loadH (c := .list _) rfl (List.Mem.head _) rfl) rfl ?_ | refine LQ.pure (Pure.pickT (lv := .atom _) rfl rfl) rfl ?_ | refine LQ.want rfl rfl ?_ | refine LQ.skip rfl rfl rfl rfl ?_
     refine LQ.pure (Pure.ixRef (el' := encTok T[i]) (cs := [_, _, _]) rfl rfl (by omega) (map_get _ _ _ hlt) rfl rfl) rfl ?_
     repeat first | refine LQ.pure (Pure.as (lv := .atom _) rfl) rfl ?_ | refine LQ.pure (Pure.mv (lv := .atom _) rfl) rfl ?_ | refine LQ.pure (Pure.field1 rfl rfl) rfl ?_ | refine LQ.pure (Pure.loadRef (c := .atom _) rfl rfl) rfl ?_ | refine LQ.pure (Pure.pickT (lv := .atom _) rfl rfl) rfl ?_ | refine LQ.pure (Pure.seq rfl rfl) rfl ?_ | refine LQ.want rfl rfl ?_ | refine LQ.nil ?_ | refine QThen.normal ?_
     exact ⟨⟨bool_eq (by rw [h2]; simp), trivial⟩, rfl, rfl⟩
    ·repeat first | refine LQ.pure (Pure.mv (lv := .atom _) rfl) rfl ?_ | refine LQ.pure (Pure.nilCheckH rfl) rfl ?_ | refine LQ.pure (Pure.fieldH rfl) rfl ?_ | refine LQ.pure (Pure.loadH (c := .atom _) rfl (List.Mem.head _) rfl) rfl ?_ | refine LQ.pure (Pure.loadH (c := .list _) rfl (List.Mem.head _) rfl) rfl ?_ | refine LQ.want rfl rfl ?_
     refine LQ.pure (Pure.ixRef (el' := encTok T[i]) (cs := [_, _, _]) rfl rfl (by omega) (map_get _ _ _ hlt) rfl rfl) rfl ?_
     repeat first | refine LQ.pure (Pure.mv (lv := .atom _) rfl) rfl ?_ | refine LQ.pure (Pure.field1 rfl rfl) rfl ?_ | refine LQ.pure (Pure.loadRef (c := .atom _) rfl rfl) rfl ?_ | refine LQ.pure (Pure.eql rfl rfl) rfl ?_ | refine LQ.pure (Pure.pickT (lv := .atom _) rfl rfl) rfl ?_ | refine LQ.pure (Pure.pickF (lv := .atom _) rfl rfl) rfl ?_ | refine LQ.want rfl rfl ?_
     refine LQ.bcase 50 rfl (fun h3 => ?_) (fun h3 => ?_)
     ·repeat first | refine LQ.pure (Pure.mv (lv := .atom _) rfl) rfl ?_ | refine LQ.pure (Pure.nilCheckH rfl) rfl ?_ | refine LQ.pure (Pure.fieldH rfl) rfl ?_ | refine LQ.pure (Pure.loadH (c := .atom _) rfl (List.Mem.head _) rfl) rfl ?_ | refine LQ.pure (Pure.loadH (c := .list _) rfl (List.Mem.head _) rfl) rfl ?_ | refine LQ.want rfl rfl ?_
      refine LQ.pure (Pure.ixRef (el' := encTok T[i]) (cs := [_, _, _]) rfl rfl (by omega) (map_get _ _ _ hlt) rfl rfl) rfl ?_
      repeat first | refine LQ.pure (Pure.as (lv := .atom _) rfl) rfl ?_ | refine LQ.pure (Pure.mv (lv := .atom _) rfl) rfl ?_ | refine LQ.pure (Pure.field1 rfl rfl) rfl ?_ | refine LQ.pure (Pure.loadRef (c := .atom _) rfl rfl) rfl ?_ | refine LQ.pure (Pure.pickT (lv := .atom _) rfl rfl) rfl ?_ | refine LQ.pure (Pure.seq rfl rfl) rfl ?_ | refine LQ.want rfl rfl ?_ | refine LQ.nil ?_ | refine QThen.normal ?_
      exact ⟨⟨bool_eq (by rw [h3]; simp), trivial⟩, rfl, rfl⟩
     ·repeat first | refine LQ.pure (Pure.as (lv := .atom _) rfl) rfl ?_ | refine LQ.pure (Pure.pickF (lv := .atom _) rfl rfl) rfl ?_ | refine LQ.skip rfl rfl rfl rfl ?_ | refine LQ.nil ?_ | refine QThen.normal ?_
      exact ⟨⟨bool_eq (by rw [h2, h3]; rfl), trivial⟩, rfl, rfl⟩
   ·have hge : T.length ≤ i := by have := of_decide_eq_false h1; simp only [List.length_map] at this; omega
    rw [tok_none hge]
    repeat first | refine LQ.pure (Pure.as (lv := .atom _) rfl) rfl ?_ | refine LQ.pure (Pure.mv (lv := .atom _) rfl) rfl ?_ | refine LQ.pure (Pure.pickF (lv := .atom _) rfl rfl) rfl ?_ | refine LQ.skip rfl rfl rfl rfl ?_ | refine LQ.skipU rfl rfl rfl ?_ | refine LQ.nil ?_ | refine QThen.normal ?_
    exact ⟨⟨rfl, trivial⟩, rfl, rfl⟩
  ·rw [h]
   repeat first | refine LQ.pure (Pure.as (lv := .atom _) rfl) rfl ?_ | refine LQ.pure (Pure.mv (lv := .atom _) rfl) rfl ?_ | refine LQ.pure (Pure.pickF (lv := .atom _) rfl rfl) rfl ?_ | refine LQ.skip rfl rfl rfl rfl ?_ | refine LQ.skipU rfl rfl rfl ?_ | refine LQ.nil ?_ | refine QThen.normal ?_
   exact ⟨⟨rfl, trivial⟩, rfl, rfl⟩
 ·repeat first | refine LCode.ret ?_
  exact RetPost.ret hj (AllRes.cons (ResIs.tmp (v := .atom _) rfl (LV.Sub.refl _)) AllRes.nil) (HSub.refl _) ⟨rfl, rfl⟩
theorem qkind_spec (rb : Nat) (T : List Tok) (i : Nat) (op ln er : Int) (k : Int) (hk : k ≠ 0) (hT : T.length ≤ 100000) :
  LCalls (KC B0 w0) 66 [ptr rb 0, int .i64 k] [rdH rb T i op ln er] (fun r H => r = .ret (bool (decide (er = 0) && decide (kindAt T i = k))) ∧ H = [rdH rb T i op ln er]) := by
 refine LCalls.intro Tryz.func66 rfl (n := 37) rfl rfl rfl ?_
 repeat first | refine LOps.nil ?_ | refine LCode.seq ?_ | refine LCode.region ?_ | refine QThen.normal ?_ | refine LOps.pure (Pure.as (lv := .atom _) rfl) rfl ?_
 refine LCode.cut [(4, bool (decide (er = 0) && decide (kindAt T i = k)))] ?_ (fun j hj => ?_)
 ·refine LCode.quiet (by kernel_rfl) ?_
  repeat first | refine LQ.pure (Pure.mv (lv := .atom _) rfl) rfl ?_ | refine LQ.pure (Pure.nilCheckH rfl) rfl ?_ | refine LQ.pure (Pure.fieldH rfl) rfl ?_ | refine LQ.pure (Pure.loadH (c := .atom _) rfl (List.Mem.head _) rfl) rfl ?_ | refine LQ.pure (Pure.eql rfl rfl) rfl ?_
  refine LQ.bcase 10 rfl (fun h => ?_) (fun h => ?_)
  ·rw [h]
   repeat first | refine LQ.pure (Pure.mv (lv := .atom _) rfl) rfl ?_ | refine LQ.pure (Pure.nilCheckH rfl) rfl ?_ | refine LQ.pure (Pure.fieldH rfl) rfl ?_ | refine LQ.pure (Pure.loadH (c := .atom _) rfl (List.Mem.head _) rfl) rfl ?_ | refine LQ.pure (Pure.loadH (c := .list _) rfl (List.Mem.head _) rfl) rfl ?_ | refine LQ.pure (Pure.llen rfl) rfl ?_ | refine LQ.pure (Pure.lss rfl rfl) rfl ?_ | refine LQ.pure (Pure.pickT (lv := .atom _) rfl rfl) rfl ?_ | refine LQ.want rfl rfl ?_
   refine LQ.bcase 22 rfl (fun h1 => ?_) (fun h1 => ?_)
   ·have hlt : i < T.length := by have := of_decide_eq_true h1; simp only [List.length_map] at this; omega
    rw [kind_at hlt]
    repeat first | refine LQ.pure (Pure.mv (lv := .atom _) rfl) rfl ?_ | refine LQ.pure (Pure.nilCheckH rfl) rfl ?_ | refine LQ.pure (Pure.fieldH rfl) rfl ?_ | refine LQ.pure (Pure.loadH (c := .atom _) rfl (List.Mem.head _) rfl) rfl ?_ | refine LQ.pure (Pure.loadH (c := .list _) rfl (List.Mem.head _) rfl) rfl ?_ | refine LQ.want rfl rfl ?_
    refine LQ.pure (Pure.ixRef (el' := encTok T[i]) (cs := [_, _, _]) rfl rfl (by omega) (map_get _ _ _ hlt) rfl rfl) rfl ?_
    repeat first | refine LQ.pure (Pure.as (lv := .atom _) rfl) rfl ?_ | refine LQ.pure (Pure.mv (lv := .atom _) rfl) rfl ?_ | refine LQ.pure (Pure.field1 rfl rfl) rfl ?_ | refine LQ.pure (Pure.loadRef (c := .atom _) rfl rfl) rfl ?_ | refine LQ.pure (Pure.eql rfl rfl) rfl ?_ | refine LQ.pure (Pure.pickT (lv := .atom _) rfl rfl) rfl ?_ | refine LQ.want rfl rfl ?_ | refine LQ.nil ?_ | refine QThen.normal ?_
    exact ⟨⟨rfl, trivial⟩, rfl, rfl⟩
   ·have hge : T.length ≤ i := by have := of_decide_eq_false h1; simp only [List.length_map] at this; omega
    rw [kind_none hge]
    repeat first | refine LQ.pure (Pure.as (lv := .atom _) rfl) rfl ?_ | refine LQ.pure (Pure.pickF (lv := .atom _) rfl rfl) rfl ?_ | refine LQ.skip rfl rfl rfl rfl ?_ | refine LQ.nil ?_ | refine QThen.normal ?_
    exact ⟨⟨bool_eq (by simp [hk.symm]), trivial⟩, rfl, rfl⟩
  ·rw [h]
   repeat first | refine LQ.pure (Pure.as (lv := .atom _) rfl) rfl ?_ | refine LQ.pure (Pure.mv (lv := .atom _) rfl) rfl ?_ | refine LQ.pure (Pure.pickF (lv := .atom _) rfl rfl) rfl ?_ | refine LQ.skip rfl rfl rfl rfl ?_ | refine LQ.nil ?_ | refine QThen.normal ?_
   exact ⟨⟨rfl, trivial⟩, rfl, rfl⟩
 ·repeat first | refine LCode.ret ?_
  exact RetPost.ret hj (AllRes.cons (ResIs.tmp (v := .atom _) rfl (LV.Sub.refl _)) AllRes.nil) (HSub.refl _) ⟨rfl, rfl⟩
theorem qfail_dead (rb : Nat) (T : List Tok) (i : Nat) (op ln er x : Int) (he : er ≠ 0) :
  LCalls (KC B0 w0) 38 [ptr rb 0, int .i64 x] [rdH rb T i op ln er] (fun r H => r = .ret (.tuple []) ∧ H = [rdH rb T i op ln er]) := by
 refine LCalls.intro Tryz.func38 rfl (n := 53) rfl rfl rfl ?_
 repeat first | refine LOps.nil ?_ | refine LCode.seq ?_ | refine LCode.region ?_ | refine QThen.normal ?_ | refine LOps.pure (Pure.mv (lv := .atom _) rfl) rfl ?_ | refine LOps.pure (Pure.nilCheckH rfl) rfl ?_ | refine LOps.pure (Pure.fieldH rfl) rfl ?_ | refine LOps.pure (Pure.loadH (c := .atom _) rfl (List.Mem.head _) rfl) rfl ?_ | refine LOps.pure (Pure.neq rfl rfl) rfl ?_
 refine LCode.cond rfl (fun hc => ?_) (fun hc => ?_)
 ·repeat first | refine LCode.ret ?_ | refine QThen.ret ?_
  exact RetPost.ret rfl AllRes.nil (HSub.refl _) ⟨rfl, rfl⟩
 ·exact absurd (by simpa using hc) he
theorem qfail_alive (rb : Nat) (T : List Tok) (i : Nat) (op : Int) (x : Int) (hT : T.length ≤ 100000) (h0 : 0 < T.length) (hi : i ≤ 1000000) :
  LCalls (KC B0 w0) 38 [ptr rb 0, int .i64 x] [rdH rb T i op 0 0] (fun r H => r = .ret (.tuple []) ∧ H = [rdH rb T i op (failLine T i) x]) := by
 have hml : (T.map encTok).length = T.length := List.length_map _
 have hlast : T.length - 1 < T.length := by omega
 refine LCalls.intro Tryz.func38 rfl (n := 53) rfl rfl rfl ?_
 repeat first | refine LOps.nil ?_ | refine LCode.seq ?_ | refine LCode.region ?_ | refine QThen.normal ?_ | refine LOps.pure (Pure.mv (lv := .atom _) rfl) rfl ?_ | refine LOps.pure (Pure.nilCheckH rfl) rfl ?_ | refine LOps.pure (Pure.fieldH rfl) rfl ?_ | refine LOps.pure (Pure.loadH (c := .atom _) rfl (List.Mem.head _) rfl) rfl ?_ | refine LOps.pure (Pure.neq rfl rfl) rfl ?_
 refine LCode.cond rfl (fun hc => ?_) (fun hc => ?_)
 ·cases hc
 repeat first | refine LOps.nil ?_ | refine LCode.seq ?_ | refine LCode.region ?_ | refine LCode.skip ?_ | refine QThen.normal ?_ | refine LOps.pure (Pure.mv (lv := .atom _) rfl) rfl ?_ | refine LOps.pure (Pure.nilCheckH rfl) rfl ?_ | refine LOps.pure (Pure.fieldH rfl) rfl ?_ | refine LOps.step (S.store (cs' := [_, _, _, _, _]) rfl Pick.here rfl rfl rfl rfl rfl ?_) rfl
 refine LCode.tail 16 (by kernel_rfl) ?_
 repeat first | refine LS.pure (Pure.mv (lv := .atom _) rfl) rfl ?_ | refine LS.pure (Pure.nilCheckH rfl) rfl ?_ | refine LS.pure (Pure.fieldH rfl) rfl ?_ | refine LS.pure (Pure.loadH (c := .list _) rfl (List.Mem.head _) rfl) rfl ?_ | refine LS.pure (Pure.llen rfl) rfl ?_ | refine LS.pure (Pure.sub rfl rfl (by omega)) rfl ?_
 refine LS.pure (Pure.ixRef (n := ((T.length - 1 : Nat) : Int)) (el' := encTok T[T.length - 1]) (cs := [_, _, _]) rfl (int_eq (by rw [hml]; omega)) (by omega) (map_get _ _ _ hlast) rfl rfl) rfl ?_
 repeat first | refine LS.pure (Pure.nilCheckH rfl) rfl ?_ | refine LS.pure (Pure.fieldH rfl) rfl ?_ | refine LS.pure (Pure.field1 rfl rfl) rfl ?_ | refine LS.pure (Pure.loadRef (c := .atom _) rfl rfl) rfl ?_ | refine LS.nil ?_
 repeat first | refine LOps.nil ?_ | refine LCode.seq ?_ | refine QThen.normal ?_ | refine LOps.step (S.store (cs' := [_, _, _, _, _]) rfl Pick.here rfl rfl rfl rfl rfl ?_) rfl
 refine LCode.quiet (by kernel_rfl) ?_
 repeat first | refine LQ.pure (Pure.mv (lv := .atom _) rfl) rfl ?_ | refine LQ.pure (Pure.nilCheckH rfl) rfl ?_ | refine LQ.pure (Pure.fieldH rfl) rfl ?_ | refine LQ.pure (Pure.loadH (c := .atom _) rfl (List.Mem.head _) rfl) rfl ?_ | refine LQ.pure (Pure.loadH (c := .list _) rfl (List.Mem.head _) rfl) rfl ?_ | refine LQ.pure (Pure.llen rfl) rfl ?_ | refine LQ.pure (Pure.lss rfl rfl) rfl ?_ | refine LQ.nil ?_ | refine QThen.normal ?_
 refine LCode.cond rfl (fun h1 => ?_) (fun h1 => ?_)
 ·have hlt : i < T.length := by have := of_decide_eq_true h1; simp only [List.length_map] at this; omega
  refine LCode.tail 14 (by kernel_rfl) ?_
  repeat first | refine LS.pure (Pure.mv (lv := .atom _) rfl) rfl ?_ | refine LS.pure (Pure.nilCheckH rfl) rfl ?_ | refine LS.pure (Pure.fieldH rfl) rfl ?_ | refine LS.pure (Pure.loadH (c := .atom _) rfl (List.Mem.head _) rfl) rfl ?_ | refine LS.pure (Pure.loadH (c := .list _) rfl (List.Mem.head _) rfl) rfl ?_
  refine LS.pure (Pure.ixRef (el' := encTok T[i]) (cs := [_, _, _]) rfl rfl (by omega) (map_get _ _ _ hlt) rfl rfl) rfl ?_
  repeat first | refine LS.pure (Pure.nilCheckH rfl) rfl ?_ | refine LS.pure (Pure.fieldH rfl) rfl ?_ | refine LS.pure (Pure.field1 rfl rfl) rfl ?_ | refine LS.pure (Pure.loadRef (c := .atom _) rfl rfl) rfl ?_ | refine LS.nil ?_
  repeat first | refine LOps.nil ?_ | refine LOps.step (S.store (cs' := [_, _, _, _, _]) rfl Pick.here rfl rfl rfl rfl rfl ?_) rfl
  exact RetPost.normal rfl AllRes.nil (HSub.refl _) ⟨rfl, by rw [failLine, Nat.min_eq_left (by omega), List.getElem?_eq_getElem hlt]⟩
 ·have hge : T.length ≤ i := by have := of_decide_eq_false h1; simp only [List.length_map] at this; omega
  repeat first | refine LCode.skip ?_
  exact RetPost.normal rfl AllRes.nil (HSub.refl _) ⟨rfl, by rw [failLine, Nat.min_eq_right (by omega), List.getElem?_eq_getElem hlast]⟩
end
end Go.Proofs.YtfodkbchknknjaaGreatDoor
namespace Go.Proofs.YtfodkbchknknjaaGreatDoor
open Go.GL Go.RowKit Go.Stele
set_option maxRecDepth 100000
set_option maxHeartbeats 4000000
attribute [local irreducible] LOps LCode LStep LCalls Go.GL.Pure QThen QBlock RetPost LQ LAny LLate LLateOp LS
section
variable {B0 : Nat} {w0 : World}
theorem qwant_spec (rb : Nat) (T : List Tok) (o i : Nat) (op ln er : Int) (x : List UInt8) (hT : T.length ≤ 100000) (h0 : 0 < T.length) (hw : Wf T o i op ln er) (r : Res Unit) (hr : stO o i ln er (fun i o => some (sNeed T x i o)) = some r) :
  LCalls (KC B0 w0) 32 [ptr rb 0, str x] [rdH rb T i op ln er] (PostQ rb T o encU r) := by
 refine LCalls.intro Tryz.func32 rfl (n := 16) rfl rfl rfl ?_
 repeat first | refine LCode.seq ?_ | refine LCode.region ?_ | refine LOps.pure (Pure.mv (lv := .atom _) rfl) rfl ?_
 refine LOps.step (S.fnH [_, _] rfl Pick.here (qnext_spec rb T i op ln er x hT) ?_) rfl
 repeat first | refine LOps.nil ?_ | refine QThen.normal ?_
 refine LCode.cond rfl (fun hc => ?_) (fun hc => ?_)
 ·obtain ⟨he, ht⟩ := Bool.and_eq_true_iff.1 hc
  obtain rfl := of_decide_eq_true he
  obtain ⟨rfl, hi, rfl, ho⟩ := hw rfl
  have hlt := isTok_lt ht
  rw [stO_ok, sNeed, if_pos ht] at hr
  repeat first | refine LOps.nil ?_ | refine LCode.seq ?_ | refine LCode.region ?_ | refine LCode.ret ?_ | refine QThen.normal ?_ | refine QThen.ret ?_ | refine LOps.pure (Pure.mv (lv := .atom _) rfl) rfl ?_ | refine LOps.pure (Pure.nilCheckH rfl) rfl ?_ | refine LOps.pure (Pure.fieldH rfl) rfl ?_ | refine LOps.pure (Pure.loadH (c := .atom _) rfl (List.Mem.head _) rfl) rfl ?_ | refine LOps.pure (Pure.add rfl rfl (by omega)) rfl ?_ | refine LOps.step (S.store (cs' := [_, _, _, _, _]) rfl Pick.here rfl rfl rfl rfl rfl ?_) rfl
  exact retQ (v := ()) (i := i + 1) (ln := 0) (er := 0) rfl AllRes.nil (fun _ => ⟨rfl, hlt, rfl, ho⟩) hr rfl (HSub.refl _)
 ·by_cases he : er = 0
  ·subst he
   obtain ⟨rfl, hi, rfl, ho⟩ := hw rfl
   have ht : isTok T i [x] = false := by simpa using hc
   rw [stO_ok, sNeed, if_neg (by rw [ht]; decide)] at hr
   repeat first | refine LCode.region ?_ | refine LCode.skip ?_ | refine QThen.normal ?_ | refine LOps.pure (Pure.mv (lv := .atom _) rfl) rfl ?_
   refine LOps.step (S.fnH [_, _] rfl Pick.here (qfail_alive rb T i o 3 hT h0 (by omega)) ?_) rfl
   repeat first | refine LOps.nil ?_
   exact retQn (v := ()) rfl AllRes.nil (wf_dead (by decide)) (by rw [stO_dead (by decide)]; exact hr) rfl (HSub.refl _)
  ·rw [stO_dead he] at hr
   repeat first | refine LCode.region ?_ | refine LCode.skip ?_ | refine QThen.normal ?_ | refine LOps.pure (Pure.mv (lv := .atom _) rfl) rfl ?_
   refine LOps.step (S.fnH [_, _] rfl Pick.here (qfail_dead rb T i op ln er 3 he) ?_) rfl
   repeat first | refine LOps.nil ?_
   exact retQn (v := ()) rfl AllRes.nil (wf_dead he) (by rw [stO_dead he]; exact hr) rfl (HSub.refl _)
theorem qenter_spec (rb : Nat) (T : List Tok) (o i : Nat) (op ln er : Int) (x : List UInt8) (hT : T.length ≤ 100000) (h0 : 0 < T.length) (hw : Wf T o i op ln er) (r : Res Unit) (hr : stO o i ln er (fun i o => some (sBegin T x i o)) = some r) :
  LCalls (KC B0 w0) 34 [ptr rb 0, str x] [rdH rb T i op ln er] (PostQ rb T (o + 1) encU r) := by
 refine LCalls.intro Tryz.func34 rfl (n := 31) rfl rfl rfl ?_
 repeat first | refine LCode.seq ?_ | refine LCode.region ?_ | refine LOps.pure (Pure.mv (lv := .atom _) rfl) rfl ?_
 refine LOps.step (S.fnH [_, _] rfl Pick.here (qnext_spec rb T i op ln er x hT) ?_) rfl
 repeat first | refine LOps.nil ?_ | refine QThen.normal ?_ | refine LOps.pure (Pure.not rfl) rfl ?_
 refine LCode.cond rfl (fun hc => ?_) (fun hc => ?_)
 ·have hc' : (decide (er = 0) && isTok T i [x]) = false := by simpa only [Bool.not_eq_true'] using hc
  by_cases he : er = 0
  ·subst he
   obtain ⟨rfl, hi, rfl, ho⟩ := hw rfl
   have ht : isTok T i [x] = false := by simpa using hc'
   rw [stO_ok, sBegin, if_neg (by rw [ht]; decide)] at hr
   repeat first | refine LCode.seq ?_ | refine LCode.region ?_ | refine LOps.pure (Pure.mv (lv := .atom _) rfl) rfl ?_
   refine LOps.step (S.fnH [_, _] rfl Pick.here (qfail_alive rb T i o 3 hT h0 (by omega)) ?_) rfl
   repeat first | refine LOps.nil ?_ | refine LCode.ret ?_ | refine QThen.normal ?_ | refine QThen.ret ?_
   exact retQ (v := ()) rfl AllRes.nil (wf_dead (by decide)) (by rw [stO_dead (by decide)]; exact hr) rfl (HSub.refl _)
  ·rw [stO_dead he] at hr
   repeat first | refine LCode.seq ?_ | refine LCode.region ?_ | refine LOps.pure (Pure.mv (lv := .atom _) rfl) rfl ?_
   refine LOps.step (S.fnH [_, _] rfl Pick.here (qfail_dead rb T i op ln er 3 he) ?_) rfl
   repeat first | refine LOps.nil ?_ | refine LCode.ret ?_ | refine QThen.normal ?_ | refine QThen.ret ?_
   exact retQ (v := ()) rfl AllRes.nil (wf_dead he) (by rw [stO_dead he]; exact hr) rfl (HSub.refl _)
 ·have hc' : (decide (er = 0) && isTok T i [x]) = true := by simpa only [Bool.not_eq_false'] using hc
  obtain ⟨he, ht⟩ := Bool.and_eq_true_iff.1 hc'
  obtain rfl := of_decide_eq_true he
  obtain ⟨rfl, hi, rfl, ho⟩ := hw rfl
  have hlt := isTok_lt ht
  rw [stO_ok, sBegin, if_pos ht] at hr
  repeat first | refine LOps.nil ?_ | refine LCode.seq ?_ | refine LCode.region ?_ | refine LCode.skip ?_ | refine QThen.normal ?_ | refine LOps.pure (Pure.mv (lv := .atom _) rfl) rfl ?_ | refine LOps.pure (Pure.nilCheckH rfl) rfl ?_ | refine LOps.pure (Pure.fieldH rfl) rfl ?_ | refine LOps.pure (Pure.loadH (c := .atom _) rfl (List.Mem.head _) rfl) rfl ?_ | refine LOps.pure (Pure.eql rfl rfl) rfl ?_
  refine LCode.cond rfl (fun h1 => ?_) (fun h1 => ?_)
  ·have h1' : (o : Int) = 100 := of_decide_eq_true h1
   rw [if_pos (by omega)] at hr
   repeat first | refine LCode.seq ?_ | refine LCode.region ?_ | refine LOps.pure (Pure.mv (lv := .atom _) rfl) rfl ?_
   refine LOps.step (S.fnH [_, _] rfl Pick.here (qfail_alive rb T i o 6 hT h0 (by omega)) ?_) rfl
   repeat first | refine LOps.nil ?_ | refine LCode.ret ?_ | refine QThen.normal ?_ | refine QThen.ret ?_
   exact retQ (v := ()) rfl AllRes.nil (wf_dead (by decide)) (by rw [stO_dead (by decide)]; exact hr) rfl (HSub.refl _)
  ·have h1' : ¬ (o : Int) = 100 := of_decide_eq_false h1
   rw [if_neg (by omega)] at hr
   repeat first | refine LOps.nil ?_ | refine LCode.seq ?_ | refine LCode.region ?_ | refine LCode.skip ?_ | refine QThen.normal ?_ | refine LOps.pure (Pure.mv (lv := .atom _) rfl) rfl ?_ | refine LOps.pure (Pure.nilCheckH rfl) rfl ?_ | refine LOps.pure (Pure.fieldH rfl) rfl ?_ | refine LOps.pure (Pure.loadH (c := .atom _) rfl (List.Mem.head _) rfl) rfl ?_ | refine LOps.pure (Pure.add rfl rfl (by omega)) rfl ?_ | refine LOps.step (S.store (cs' := [_, _, _, _, _]) rfl Pick.here rfl rfl rfl rfl rfl ?_) rfl
   exact retQn (v := ()) (i := i + 1) (ln := 0) (er := 0) rfl AllRes.nil (fun _ => ⟨rfl, hlt, by omega, by omega⟩) hr rfl (HSub.refl _)
theorem qleave_spec (rb : Nat) (T : List Tok) (o i : Nat) (op ln er : Int) (x : List UInt8) (hT : T.length ≤ 100000) (h0 : 0 < T.length) (hw : Wf T (o + 1) i op ln er) (r : Res Unit) (hr : stO (o + 1) i ln er (fun i o => some (sEnd T x i o)) = some r) :
  LCalls (KC B0 w0) 36 [ptr rb 0, str x] [rdH rb T i op ln er] (PostQ rb T o encU r) := by
 refine LCalls.intro Tryz.func36 rfl (n := 14) rfl rfl rfl ?_
 repeat first | refine LCode.seq ?_ | refine LCode.region ?_ | refine LOps.pure (Pure.mv (lv := .atom _) rfl) rfl ?_
 have hr' : stO (o + 1) i ln er (fun i o => obind (some (sNeed T x i o)) fun _ i o => some (.ok () i (o - 1))) = some r := by
  rw [← hr]
  congr 1
  funext i o
  unfold sEnd
  cases sNeed T x i o <;> rfl
 refine LOps.step (S.callQ (rb := rb) (T := T) (o := o + 1) (o' := o + 1) [_, _] rfl Pick.here hr' (fun r1 h1 => qwant_spec rb T (o + 1) i op ln er x hT h0 hw r1 h1) fun v i' op' ln' er' hw' _ hr' => ?_) rfl
 repeat first | refine LOps.nil ?_ | refine LCode.region ?_ | refine QThen.normal ?_ | refine LOps.pure (Pure.mv (lv := .atom _) rfl) rfl ?_ | refine LOps.pure (Pure.nilCheckH rfl) rfl ?_ | refine LOps.pure (Pure.fieldH rfl) rfl ?_ | refine LOps.pure (Pure.loadH (c := .atom _) rfl (List.Mem.head _) rfl) rfl ?_
 by_cases he : er' = 0
 ·subst he
  obtain ⟨rfl, hi, rfl, ho⟩ := hw' rfl
  refine LOps.pure (Pure.sub rfl rfl (by omega)) rfl ?_
  repeat first | refine LOps.nil ?_ | refine LOps.pure (Pure.nilCheckH rfl) rfl ?_ | refine LOps.pure (Pure.fieldH rfl) rfl ?_ | refine LOps.step (S.store (cs' := [_, _, _, _, _]) rfl Pick.here rfl rfl rfl rfl rfl ?_) rfl
  exact retQn (v := ()) (ln := 0) (er := 0) rfl AllRes.nil (fun _ => ⟨rfl, hi, by omega, by omega⟩) hr' rfl (HSub.refl _)
 ·refine LOps.pure (Pure.subW rfl rfl) rfl ?_
  repeat first | refine LOps.nil ?_ | refine LOps.pure (Pure.nilCheckH rfl) rfl ?_ | refine LOps.pure (Pure.fieldH rfl) rfl ?_ | refine LOps.step (S.store (cs' := [_, _, _, _, _]) rfl Pick.here rfl rfl rfl rfl rfl ?_) rfl
  exact retQn (v := ()) rfl AllRes.nil (wf_dead he) ((stO_dead he).trans ((stO_dead he).symm.trans hr')) rfl (HSub.refl _)
theorem qname_spec (rb : Nat) (T : List Tok) (o i : Nat) (op ln er : Int) (hT : T.length ≤ 100000) (h0 : 0 < T.length) (hw : Wf T o i op ln er) (r : Res (List UInt8)) (hr : stO o i ln er (fun i o => some (sWord T 2 i o)) = some r) :
  LCalls (KC B0 w0) 33 [ptr rb 0] [rdH rb T i op ln er] (PostQ rb T o str r) := by
 refine LCalls.intro Tryz.func33 rfl (n := 27) rfl rfl rfl ?_
 repeat first | refine LOps.nil ?_ | refine LCode.seq ?_ | refine LCode.region ?_ | refine QThen.normal ?_ | refine LOps.pure (Pure.as (lv := .atom _) rfl) rfl ?_ | refine LOps.pure (Pure.mv (lv := .atom _) rfl) rfl ?_
 refine LOps.step (S.fnH [_, _] rfl Pick.here (qkind_spec rb T i op ln er 2 (by decide) hT) ?_) rfl
 repeat first | refine LOps.nil ?_ | refine QThen.normal ?_ | refine LOps.pure (Pure.not rfl) rfl ?_
 refine LCode.cond rfl (fun hc => ?_) (fun hc => ?_)
 ·have hc' : (decide (er = 0) && decide (kindAt T i = 2)) = false := by simpa only [Bool.not_eq_true'] using hc
  by_cases he : er = 0
  ·subst he
   obtain ⟨rfl, hi, rfl, ho⟩ := hw rfl
   have hk : ¬ kindAt T i = 2 := by simpa using hc'
   have hs : sWord T 2 i o = synErr T i := by
    unfold sWord
    unfold kindAt at hk
    split
    ·rename_i t ht
     rw [ht] at hk
     rw [if_neg hk]
    ·rfl
   rw [stO_ok, hs] at hr
   repeat first | refine LCode.seq ?_ | refine LCode.region ?_ | refine LOps.pure (Pure.mv (lv := .atom _) rfl) rfl ?_
   refine LOps.step (S.fnH [_, _] rfl Pick.here (qfail_alive rb T i o 3 hT h0 (by omega)) ?_) rfl
   repeat first | refine LOps.nil ?_ | refine LCode.seq ?_ | refine LCode.region ?_ | refine LCode.ret ?_ | refine QThen.normal ?_ | refine QThen.ret ?_ | refine LOps.pure (Pure.as (lv := .atom _) rfl) rfl ?_
   exact retQ (v := []) rfl (AllRes.cons (ResIs.tmp (v := .atom _) rfl (LV.Sub.refl _)) AllRes.nil) (wf_dead (by decide)) (by rw [stO_dead (by decide)]; exact hr) rfl (HSub.refl _)
  ·rw [stO_dead he] at hr
   repeat first | refine LCode.seq ?_ | refine LCode.region ?_ | refine LOps.pure (Pure.mv (lv := .atom _) rfl) rfl ?_
   refine LOps.step (S.fnH [_, _] rfl Pick.here (qfail_dead rb T i op ln er 3 he) ?_) rfl
   repeat first | refine LOps.nil ?_ | refine LCode.seq ?_ | refine LCode.region ?_ | refine LCode.ret ?_ | refine QThen.normal ?_ | refine QThen.ret ?_ | refine LOps.pure (Pure.as (lv := .atom _) rfl) rfl ?_
   exact retQ (v := []) rfl (AllRes.cons (ResIs.tmp (v := .atom _) rfl (LV.Sub.refl _)) AllRes.nil) (wf_dead he) (by rw [stO_dead he]; exact hr) rfl (HSub.refl _)
 ·have hc' : (decide (er = 0) && decide (kindAt T i = 2)) = true := by simpa only [Bool.not_eq_false'] using hc
  obtain ⟨he, hk⟩ := Bool.and_eq_true_iff.1 hc'
  obtain rfl := of_decide_eq_true he
  obtain ⟨rfl, hi, rfl, ho⟩ := hw rfl
  have hk := of_decide_eq_true hk
  have hlt : i < T.length := by
   rcases Nat.lt_or_ge i T.length with h | h
   ·exact h
   ·rw [kind_none h] at hk; cases hk
  rw [kind_at hlt] at hk
  have hs : sWord T 2 i o = .ok T[i].text (i + 1) o := by rw [sWord, List.getElem?_eq_getElem hlt]; simp only; rw [if_pos hk]
  rw [stO_ok, hs] at hr
  repeat first | refine LOps.nil ?_ | refine LCode.seq ?_ | refine LCode.region ?_ | refine LCode.skip ?_ | refine QThen.normal ?_ | refine LOps.pure (Pure.mv (lv := .atom _) rfl) rfl ?_ | refine LOps.pure (Pure.nilCheckH rfl) rfl ?_ | refine LOps.pure (Pure.fieldH rfl) rfl ?_ | refine LOps.pure (Pure.loadH (c := .atom _) rfl (List.Mem.head _) rfl) rfl ?_ | refine LOps.pure (Pure.add rfl rfl (by omega)) rfl ?_ | refine LOps.step (S.store (cs' := [_, _, _, _, _]) rfl Pick.here rfl rfl rfl rfl rfl ?_) rfl
  refine LCode.cutTo [(2, str T[i].text)] [rdH rb T (i + 1) o 0 0] ?_ (fun j hj => ?_)
  ·refine LCode.quiet (by kernel_rfl) ?_
   repeat first | refine LQ.pure (Pure.mv (lv := .atom _) rfl) rfl ?_ | refine LQ.pure (Pure.nilCheckH rfl) rfl ?_ | refine LQ.pure (Pure.fieldH rfl) rfl ?_ | refine LQ.pure (Pure.loadH (c := .atom _) rfl (List.Mem.head _) rfl) rfl ?_ | refine LQ.pure (Pure.loadH (c := .list _) rfl (List.Mem.head _) rfl) rfl ?_ | refine LQ.pure (Pure.sub rfl rfl (by omega)) rfl ?_
   refine LQ.pure (Pure.ixRef (n := ((i : Nat) : Int)) (el' := encTok T[i]) (cs := [_, _, _]) rfl (int_eq (by omega)) (by omega) (map_get _ _ _ hlt) rfl rfl) rfl ?_
   repeat first | refine LQ.pure (Pure.as (lv := .atom _) rfl) rfl ?_ | refine LQ.pure (Pure.field1 rfl rfl) rfl ?_ | refine LQ.pure (Pure.loadRef (c := .atom _) rfl rfl) rfl ?_ | refine LQ.nil ?_ | refine QThen.normal ?_
   exact ⟨⟨rfl, trivial⟩, rfl, rfl⟩
  ·repeat first | refine LCode.ret ?_
   exact retQ (v := T[i].text) (i := i + 1) (ln := 0) (er := 0) hj (AllRes.cons (ResIs.tmp (v := .atom _) rfl (LV.Sub.refl _)) AllRes.nil) (fun _ => ⟨rfl, hlt, rfl, ho⟩) hr rfl (HSub.refl _)
end
end Go.Proofs.YtfodkbchknknjaaGreatDoor
namespace Go.Proofs.YtfodkbchknknjaaGreatDoor
open Go.GL Go.RowKit Go.Stele
set_option maxRecDepth 100000
set_option maxHeartbeats 4000000
/-- The tokens that the reference works on. -/
structure RTOK (T : List Tok) : Prop where
 len : T.length ≤ 100000
 pos : 0 < T.length
 ok : ∀ t ∈ T, TokOk t
 kw : ∀ t ∈ T, t.kind = 3 → keywords.contains t.text = true
def pv (a : Nat) (l : List UInt8) : Nat := l.foldl (fun a c => 10 * a + (c.toNat - 48)) a
theorem pv_append (a : Nat) (l m : List UInt8) : pv a (l ++ m) = pv (pv a l) m := List.foldl_append ..
theorem pv_ge : ∀ (l : List UInt8) (a : Nat), a ≤ pv a l
 | [], a => Nat.le_refl _
 | c :: l, a => by
  have := pv_ge l (10 * a + (c.toNat - 48))
  show a ≤ pv (10 * a + (c.toNat - 48)) l
  omega
theorem pv_dec (u : Nat) : pv 0 (Go.Lib.decDigits u) = u := by
 induction u using Nat.strongRecOn with
 | ind u ih =>
  by_cases h : u < 10
  ·rw [Go.Lib.decDigits_one h]
   show 10 * 0 + ((UInt8.ofNat (48 + u)).toNat - 48) = u
   rw [digit_toNat h]
   omega
  ·rw [Go.Lib.decDigits, dif_neg h, pv_append, ih (u / 10) (by omega)]
   show 10 * (u / 10) + ((UInt8.ofNat (48 + u % 10)).toNat - 48) = u
   rw [digit_toNat (by omega)]
   omega
theorem pv_take (l : List UInt8) (i : Nat) : pv 0 (l.take i) ≤ pv 0 l := by
 have : pv 0 l = pv (pv 0 (l.take i)) (l.drop i) := by rw [← pv_append, List.take_append_drop]
 rw [this]
 exact pv_ge _ _
theorem wrapU (x : Int) : IntKind.u32.wrap x = x % 4294967296 := by
 simp only [IntKind.wrap, IntKind.bits, IntKind.signed, Bool.false_and]
 simp
def refLevel (op : List UInt8) : Int :=
 if op = [124, 124] then 1 else if op = [38, 38] then 2 else if op = [61, 61] ∨ op = [33, 61] ∨ op = [60] ∨ op = [62] ∨ op = [60, 61] ∨ op = [62, 61] then 3 else if op = [94] then 4 else if op = [43] ∨ op = [45] then 5 else if op = [42] ∨ op = [47] ∨ op = [37] then 6 else 0
def allOps : List (List UInt8) := [[124, 124], [38, 38], [61, 61], [33, 61], [60], [62], [60, 61], [62, 61], [94], [43], [45], [42], [47], [37]]
theorem refLevel_in : ∀ op ∈ allOps, ∀ k ∈ List.range 6, decide (refLevel op = (k : Int) + 1) = (lvOps k).contains op := by decide +kernel
theorem lv_sub : ∀ k ∈ List.range 6, ∀ op ∈ lvOps k, op ∈ allOps := by decide +kernel
theorem refLevel_out {op : List UInt8} (h : op ∉ allOps) : refLevel op = 0 := by
 simp only [allOps, List.mem_cons, List.not_mem_nil, or_false, not_or] at h
 obtain ⟨h1, h2, h3, h4, h5, h6, h7, h8, h9, h10, h11, h12, h13, h14⟩ := h
 unfold refLevel
 rw [if_neg h1, if_neg h2, if_neg (by simp [*]), if_neg h9, if_neg (by simp [*]), if_neg (by simp [*])]
theorem refLevel_eq (op : List UInt8) {k : Nat} (hk : k ≤ 5) : decide (refLevel op = (k : Int) + 1) = (lvOps k).contains op := by
 have hm : k ∈ List.range 6 := List.mem_range.2 (by omega)
 by_cases h : op ∈ allOps
 ·exact refLevel_in op h k hm
 ·rw [refLevel_out h]
  have h1 : (lvOps k).contains op = false := by
   cases hc : (lvOps k).contains op with
   | false => rfl
   | true => exact absurd (lv_sub k hm op (List.contains_iff_mem.1 hc)) h
  rw [h1]
  simp
  omega
theorem kw_noop : ∀ x ∈ keywords, ∀ k ∈ List.range 6, (lvOps k).contains x = false := by decide +kernel
theorem ops_ne : ∀ k ∈ List.range 6, ∀ op ∈ lvOps k, op ≠ [] := by decide +kernel
/-- An operator of a level is a sign. -/
theorem op_sign {T : List Tok} (hT : RTOK T) {i k : Nat} (hk : k ≤ 5) : isTok T i (lvOps k) = (decide (kindAt T i = 4) && decide (refLevel (textAt T i) = (k : Int) + 1)) := by
 have hm : k ∈ List.range 6 := List.mem_range.2 (by omega)
 rcases Nat.lt_or_ge i T.length with hi | hi
 ·rw [tok_at hi, kind_at hi, textAt, List.getElem?_eq_getElem hi, refLevel_eq _ hk]
  cases h3 : decide (T[i].kind = 3) with
  | false => rfl
  | true =>
   have h3' := of_decide_eq_true h3
   have := kw_noop _ (List.contains_iff_mem.1 (hT.kw _ (List.getElem_mem hi) h3')) k hm
   rw [this]
   simp
 ·rw [tok_none hi, kind_none hi]
  rfl
attribute [local irreducible] LOps LCode LStep LCalls Go.GL.Pure QThen QBlock RetPost LQ LAny LLate LLateOp LS
section
variable {B0 : Nat} {w0 : World}
theorem qnumber_specB (rb : Nat) (T : List Tok) (hT : RTOK T) (o i : Nat) (op ln er : Int) (hw : Wf T o i op ln er) (r : Res Nat) (hr : stO o i ln er (fun i o => some (sNumber T i o)) = some r) :
  LCalls (KC B0 w0) 35 [ptr rb 0] [rdH rb T i op ln er] (PostB (fun n : Nat => n < 4294967296) rb T o (fun n : Nat => int .u32 n) r) := by
 have hl := hT.len
 refine LCalls.intro Tryz.func35 rfl (n := 44) rfl rfl rfl ?_
 repeat first | refine LOps.nil ?_ | refine LCode.seq ?_ | refine LCode.region ?_ | refine QThen.normal ?_ | refine LOps.pure (Pure.as (lv := .atom _) rfl) rfl ?_ | refine LOps.pure (Pure.mv (lv := .atom _) rfl) rfl ?_
 refine LOps.step (S.fnH [_, _] rfl Pick.here (qkind_spec rb T i op ln er 1 (by decide) hl) ?_) rfl
 repeat first | refine LOps.nil ?_ | refine QThen.normal ?_ | refine LOps.pure (Pure.not rfl) rfl ?_
 refine LCode.cond rfl (fun hc => ?_) (fun hc => ?_)
 ·have hc' : (decide (er = 0) && decide (kindAt T i = 1)) = false := by simpa only [Bool.not_eq_true'] using hc
  by_cases he : er = 0
  ·subst he
   obtain ⟨rfl, hi, rfl, ho⟩ := hw rfl
   have hk : ¬ kindAt T i = 1 := by simpa using hc'
   have hs : sNumber T i o = synErr T i := by
    unfold sNumber sWord
    unfold kindAt at hk
    split
    ·rename_i t ht
     rw [ht] at hk
     rw [if_neg hk]
     rfl
    ·rfl
   rw [stO_ok, hs] at hr
   repeat first | refine LCode.seq ?_ | refine LCode.region ?_ | refine LOps.pure (Pure.mv (lv := .atom _) rfl) rfl ?_
   refine LOps.step (S.fnH [_, _] rfl Pick.here (qfail_alive rb T i o 3 hl hT.pos (by omega)) ?_) rfl
   repeat first | refine LOps.nil ?_ | refine LCode.seq ?_ | refine LCode.region ?_ | refine LCode.ret ?_ | refine QThen.normal ?_ | refine QThen.ret ?_ | refine LOps.pure (Pure.as (lv := .atom _) rfl) rfl ?_
   exact retB (v := 0) rfl (AllRes.cons (ResIs.tmp (v := .atom _) rfl (LV.Sub.refl _)) AllRes.nil) (by decide) (wf_dead (by decide)) (by rw [stO_dead (by decide)]; exact hr) rfl (HSub.refl _)
  ·rw [stO_dead he] at hr
   repeat first | refine LCode.seq ?_ | refine LCode.region ?_ | refine LOps.pure (Pure.mv (lv := .atom _) rfl) rfl ?_
   refine LOps.step (S.fnH [_, _] rfl Pick.here (qfail_dead rb T i op ln er 3 he) ?_) rfl
   repeat first | refine LOps.nil ?_ | refine LCode.seq ?_ | refine LCode.region ?_ | refine LCode.ret ?_ | refine QThen.normal ?_ | refine QThen.ret ?_ | refine LOps.pure (Pure.as (lv := .atom _) rfl) rfl ?_
   exact retB (v := 0) rfl (AllRes.cons (ResIs.tmp (v := .atom _) rfl (LV.Sub.refl _)) AllRes.nil) (by decide) (wf_dead he) (by rw [stO_dead he]; exact hr) rfl (HSub.refl _)
 ·have hc' : (decide (er = 0) && decide (kindAt T i = 1)) = true := by simpa only [Bool.not_eq_false'] using hc
  obtain ⟨he, hk⟩ := Bool.and_eq_true_iff.1 hc'
  obtain rfl := of_decide_eq_true he
  obtain ⟨rfl, hi, rfl, ho⟩ := hw rfl
  have hk := of_decide_eq_true hk
  have hlt : i < T.length := by
   rcases Nat.lt_or_ge i T.length with h | h
   ·exact h
   ·rw [kind_none h] at hk; cases hk
  rw [kind_at hlt] at hk
  obtain ⟨htl, htn⟩ := hT.ok _ (List.getElem_mem hlt)
  obtain ⟨u, hu, hp, htx⟩ := htn hk
  have hs : sNumber T i o = .ok u (i + 1) o := by
   unfold sNumber sWord
   rw [List.getElem?_eq_getElem hlt]
   simp only
   rw [if_pos hk]
   show Res.ok (numOf T[i].text) (i + 1) o = _
   rw [numOf, hp]
  rw [stO_ok, hs] at hr
  repeat first | refine LCode.seq ?_ | refine LCode.skip ?_ | refine QThen.normal ?_
  refine LCode.cut [(0, ptr rb 0), (3, str T[i].text)] ?_ (fun j hj => ?_)
  ·refine LCode.quiet (by kernel_rfl) ?_
   repeat first | refine LQ.pure (Pure.mv (lv := .atom _) rfl) rfl ?_ | refine LQ.pure (Pure.nilCheckH rfl) rfl ?_ | refine LQ.pure (Pure.fieldH rfl) rfl ?_ | refine LQ.pure (Pure.loadH (c := .list _) rfl (List.Mem.head _) rfl) rfl ?_ | refine LQ.pure (Pure.loadH (c := .atom _) rfl (List.Mem.head _) rfl) rfl ?_
   refine LQ.pure (Pure.ixRef (el' := encTok T[i]) (cs := [_, _, _]) rfl rfl (by omega) (map_get _ _ _ hlt) rfl rfl) rfl ?_
   repeat first | refine LQ.pure (Pure.as (lv := .atom _) rfl) rfl ?_ | refine LQ.pure (Pure.field1 rfl rfl) rfl ?_ | refine LQ.pure (Pure.loadRef (c := .atom _) rfl rfl) rfl ?_ | refine LQ.nil ?_ | refine QThen.normal ?_
   exact ⟨⟨rfl, rfl, trivial⟩, rfl, rfl⟩
  have hpu : pv 0 T[i].text = u := by rw [htx, pv_dec]
  have hdig : ∀ c ∈ T[i].text, 48 ≤ c.toNat ∧ c.toNat ≤ 57 := fun c hc => by
   rw [htx] at hc
   have := dec_digits u c hc
   unfold isDigit cv at this
   rw [Bool.and_eq_true, decide_eq_true_eq, decide_eq_true_eq] at this
   omega
  generalize T[i].text = s at hpu hdig htl
  repeat first | refine LOps.nil ?_ | refine LCode.seq ?_ | refine LCode.region ?_ | refine LCode.block ?_ | refine QThen.normal ?_ | refine LOps.pure (Pure.as (lv := .atom _) rfl) rfl ?_ | refine LOps.pure (Pure.mv (lv := .atom _) rfl) rfl ?_ | refine LOps.pure (Pure.nilCheckH rfl) rfl ?_ | refine LOps.pure (Pure.fieldH rfl) rfl ?_ | refine LOps.pure (Pure.loadH (c := .atom _) rfl (List.Mem.head _) rfl) rfl ?_ | refine LOps.pure (Pure.add rfl rfl (by omega)) rfl ?_ | refine LOps.step (S.store (cs' := [_, _, _, _, _]) rfl Pick.here rfl rfl rfl rfl rfl ?_) rfl
  refine LCode.loopI (fun k ls H => ∃ m : Nat, m ≤ s.length ∧ k = s.length - m ∧ ls = [(3, str s), (4, int .u32 (pv 0 (s.take m))), (5, int .i64 m)] ∧ H = [rdH rb T (i + 1) o 0 0])
   ⟨_, _, _, ⟨0, Nat.zero_le _, rfl, rfl, rfl⟩, ⟨rfl, rfl, rfl, trivial⟩, HSub.refl _⟩ ?_
  rintro k ls H ⟨m, hm, rfl, rfl, rfl⟩ j2 hj2
  repeat first | refine LOps.nil ?_ | refine LCode.seq ?_ | refine LCode.region ?_ | refine QThen.normal ?_ | refine LOps.pure (Pure.mv (lv := .atom _) rfl) rfl ?_ | refine LOps.pure (Pure.slen rfl) rfl ?_ | refine LOps.pure (Pure.lss rfl rfl) rfl ?_
  refine LCode.cond rfl (fun h1 => ?_) (fun h1 => ?_)
  ·have hmlt : m < s.length := by have := of_decide_eq_true h1; omega
   obtain ⟨hd1, hd2⟩ := hdig _ (List.getElem_mem hmlt)
   have hstep : pv 0 (s.take (m + 1)) = 10 * pv 0 (s.take m) + (s[m].toNat - 48) := by
    rw [List.take_succ_eq_append_getElem hmlt, pv_append]
    rfl
   have hle := pv_take s (m + 1)
   repeat first | refine LCode.seq ?_ | refine LCode.region ?_ | refine LCode.skip ?_ | refine LCode.block ?_ | refine QThen.normal ?_ | refine LOps.pure (Pure.mv (lv := .atom _) rfl) rfl ?_
   refine LOps.pure (Pure.mulW rfl rfl) rfl ?_
   repeat first | refine LOps.pure (Pure.mv (lv := .atom _) rfl) rfl ?_
   refine LOps.pure (Pure.sindex (c := s[m]) rfl rfl (by omega) (by simp)) rfl ?_
   repeat first | refine LOps.pure (Pure.cvt rfl) rfl ?_
   refine LOps.pure (Pure.addW rfl rfl) rfl ?_
   refine LOps.pure (Pure.subW rfl rfl) rfl ?_
   repeat first | refine LOps.nil ?_ | refine LCode.region ?_ | refine QThen.normal ?_ | refine QBlock.normal ?_ | refine LOps.pure (Pure.as (lv := .atom _) rfl) rfl ?_ | refine LOps.pure (Pure.mv (lv := .atom _) rfl) rfl ?_ | refine LOps.pure (Pure.add rfl rfl (by omega)) rfl ?_
   exact ⟨_, _, _, by omega, ⟨m + 1, by omega, rfl, rfl, rfl⟩, ⟨rfl, int_eq (by simp only [wrapU]; rw [hstep]; omega), int_eq (by omega), trivial⟩, HSub.refl _, hj2⟩
  ·have hm' : m = s.length := by have := of_decide_eq_false h1; omega
   subst hm'
   rw [List.take_length, hpu]
   repeat first | refine LOps.nil ?_ | refine LCode.seq ?_ | refine LCode.region ?_ | refine LCode.ret ?_ | refine LCode.exit ?_ | refine QThen.normal ?_ | refine QThen.exit ?_ | refine QBlock.hit ?_ | refine LOps.pure (Pure.as (lv := .atom _) rfl) rfl ?_ | refine LOps.pure (Pure.mv (lv := .atom _) rfl) rfl ?_
   exact retB (v := u) (ln := 0) (er := 0) (hj2.trans hj) (AllRes.cons (ResIs.tmp (v := .atom _) rfl (LV.Sub.refl _)) AllRes.nil) hu (fun _ => ⟨rfl, hlt, rfl, ho⟩) hr rfl (HSub.refl _)
theorem qnumber_spec (rb : Nat) (T : List Tok) (hT : RTOK T) (o i : Nat) (op ln er : Int) (hw : Wf T o i op ln er) (r : Res Nat) (hr : stO o i ln er (fun i o => some (sNumber T i o)) = some r) :
  LCalls (KC B0 w0) 35 [ptr rb 0] [rdH rb T i op ln er] (PostQ rb T o (fun n : Nat => int .u32 n) r) :=
 LCalls.mono (qnumber_specB rb T hT o i op ln er hw r hr) fun _ _ ⟨v, i, op, ln, er, _, h⟩ => ⟨v, i, op, ln, er, trivial, h⟩
theorem Level_spec (op : List UInt8) : LCalls (KC B0 w0) 122 [str op] [] (Ret (int .i64 (refLevel op))) := by
 refine LCalls.intro Tryz.func122 rfl (n := 24) rfl rfl rfl ?_
 unfold refLevel
 repeat first | refine LOps.nil ?_ | refine LCode.seq ?_ | refine LCode.region ?_ | refine LCode.block ?_ | refine QThen.normal ?_ | refine LOps.pure (Pure.as (lv := .atom _) rfl) rfl ?_ | refine LOps.pure (Pure.mv (lv := .atom _) rfl) rfl ?_ | refine LOps.pure (Pure.seq rfl rfl) rfl ?_
 refine LCode.cond rfl (fun h1 => ?_) (fun h1 => ?_)
 ·repeat first | refine LOps.nil ?_ | refine LCode.seq ?_ | refine LCode.region ?_ | refine LCode.ret ?_ | refine QThen.normal ?_ | refine QThen.ret ?_ | refine QBlock.ret ?_ | refine LOps.pure (Pure.as (lv := .atom _) rfl) rfl ?_
  exact retRet rfl (AllRes.cons (ResIs.tmp (v := .atom _) rfl (LV.Sub.refl _)) AllRes.nil) (by rw [if_pos (of_decide_eq_true h1)]; rfl)
 rw [if_neg (of_decide_eq_false h1)]
 repeat first | refine LOps.nil ?_ | refine LCode.seq ?_ | refine LCode.region ?_ | refine QThen.normal ?_ | refine LOps.pure (Pure.as (lv := .atom _) rfl) rfl ?_ | refine LOps.pure (Pure.seq rfl rfl) rfl ?_
 refine LCode.cond rfl (fun h2 => ?_) (fun h2 => ?_)
 ·repeat first | refine LOps.nil ?_ | refine LCode.seq ?_ | refine LCode.region ?_ | refine LCode.ret ?_ | refine QThen.normal ?_ | refine QThen.ret ?_ | refine QBlock.ret ?_ | refine LOps.pure (Pure.as (lv := .atom _) rfl) rfl ?_
  exact retRet rfl (AllRes.cons (ResIs.tmp (v := .atom _) rfl (LV.Sub.refl _)) AllRes.nil) (by rw [if_pos (of_decide_eq_true h2)]; rfl)
 rw [if_neg (of_decide_eq_false h2)]
 repeat first | refine LOps.nil ?_ | refine LCode.seq ?_ | refine LCode.region ?_ | refine QThen.normal ?_ | refine LOps.pure (Pure.as (lv := .atom _) rfl) rfl ?_ | refine LOps.pure (Pure.seq rfl rfl) rfl ?_
 refine LCode.cut [(3, str op), (8, bool (decide (op = [61, 61] ∨ op = [33, 61] ∨ op = [60] ∨ op = [62] ∨ op = [60, 61] ∨ op = [62, 61])))] ?_ (fun j hj => ?_)
 ·refine LCode.cond rfl (fun h3 => ?_) (fun h3 => ?_)
  ·repeat first | refine LCode.skip ?_ | refine QThen.normal ?_
   exact ⟨⟨rfl, bool_eq (by simp [of_decide_eq_true h3]), trivial⟩, rfl, rfl⟩
  repeat first | refine LOps.nil ?_ | refine LCode.seq ?_ | refine LCode.region ?_ | refine QThen.normal ?_ | refine LOps.pure (Pure.as (lv := .atom _) rfl) rfl ?_ | refine LOps.pure (Pure.seq rfl rfl) rfl ?_
  refine LCode.cond rfl (fun h4 => ?_) (fun h4 => ?_)
  ·repeat first | refine LCode.skip ?_ | refine QThen.normal ?_
   exact ⟨⟨rfl, bool_eq (by simp [of_decide_eq_true h4]), trivial⟩, rfl, rfl⟩
  repeat first | refine LOps.nil ?_ | refine LCode.seq ?_ | refine LCode.region ?_ | refine QThen.normal ?_ | refine LOps.pure (Pure.as (lv := .atom _) rfl) rfl ?_ | refine LOps.pure (Pure.seq rfl rfl) rfl ?_
  refine LCode.cond rfl (fun h5 => ?_) (fun h5 => ?_)
  ·repeat first | refine LCode.skip ?_ | refine QThen.normal ?_
   exact ⟨⟨rfl, bool_eq (by simp [of_decide_eq_true h5]), trivial⟩, rfl, rfl⟩
  repeat first | refine LOps.nil ?_ | refine LCode.seq ?_ | refine LCode.region ?_ | refine QThen.normal ?_ | refine LOps.pure (Pure.as (lv := .atom _) rfl) rfl ?_ | refine LOps.pure (Pure.seq rfl rfl) rfl ?_
  refine LCode.cond rfl (fun h6 => ?_) (fun h6 => ?_)
  ·repeat first | refine LCode.skip ?_ | refine QThen.normal ?_
   exact ⟨⟨rfl, bool_eq (by simp [of_decide_eq_true h6]), trivial⟩, rfl, rfl⟩
  repeat first | refine LOps.nil ?_ | refine LCode.seq ?_ | refine LCode.region ?_ | refine QThen.normal ?_ | refine LOps.pure (Pure.as (lv := .atom _) rfl) rfl ?_ | refine LOps.pure (Pure.seq rfl rfl) rfl ?_
  refine LCode.cond rfl (fun h7 => ?_) (fun h7 => ?_)
  ·repeat first | refine LCode.skip ?_ | refine QThen.normal ?_
   exact ⟨⟨rfl, bool_eq (by simp [of_decide_eq_true h7]), trivial⟩, rfl, rfl⟩
  repeat first | refine LOps.nil ?_ | refine LCode.region ?_ | refine QThen.normal ?_ | refine LOps.pure (Pure.as (lv := .atom _) rfl) rfl ?_ | refine LOps.pure (Pure.seq rfl rfl) rfl ?_
  exact ⟨⟨rfl, bool_eq (by simp [of_decide_eq_false h3, of_decide_eq_false h4, of_decide_eq_false h5, of_decide_eq_false h6, of_decide_eq_false h7]), trivial⟩, rfl, rfl⟩
 refine LCode.cond rfl (fun h3 => ?_) (fun h3 => ?_)
 ·repeat first | refine LOps.nil ?_ | refine LCode.seq ?_ | refine LCode.region ?_ | refine LCode.ret ?_ | refine QThen.normal ?_ | refine QThen.ret ?_ | refine QBlock.ret ?_ | refine LOps.pure (Pure.as (lv := .atom _) rfl) rfl ?_
  exact retRet hj (AllRes.cons (ResIs.tmp (v := .atom _) rfl (LV.Sub.refl _)) AllRes.nil) (by rw [if_pos (of_decide_eq_true h3)]; rfl)
 rw [if_neg (of_decide_eq_false h3)]
 repeat first | refine LOps.nil ?_ | refine LCode.seq ?_ | refine LCode.region ?_ | refine QThen.normal ?_ | refine LOps.pure (Pure.as (lv := .atom _) rfl) rfl ?_ | refine LOps.pure (Pure.seq rfl rfl) rfl ?_
 refine LCode.cond rfl (fun h4 => ?_) (fun h4 => ?_)
 ·repeat first | refine LOps.nil ?_ | refine LCode.seq ?_ | refine LCode.region ?_ | refine LCode.ret ?_ | refine QThen.normal ?_ | refine QThen.ret ?_ | refine QBlock.ret ?_ | refine LOps.pure (Pure.as (lv := .atom _) rfl) rfl ?_
  exact retRet hj (AllRes.cons (ResIs.tmp (v := .atom _) rfl (LV.Sub.refl _)) AllRes.nil) (by rw [if_pos (of_decide_eq_true h4)]; rfl)
 rw [if_neg (of_decide_eq_false h4)]
 repeat first | refine LOps.nil ?_ | refine LCode.seq ?_ | refine LCode.region ?_ | refine QThen.normal ?_ | refine LOps.pure (Pure.as (lv := .atom _) rfl) rfl ?_ | refine LOps.pure (Pure.seq rfl rfl) rfl ?_
 refine LCode.cut [(3, str op), (17, bool (decide (op = [43] ∨ op = [45])))] ?_ (fun j2 hj2 => ?_)
 ·refine LCode.cond rfl (fun h5 => ?_) (fun h5 => ?_)
  ·repeat first | refine LCode.skip ?_ | refine QThen.normal ?_
   exact ⟨⟨rfl, bool_eq (by simp [of_decide_eq_true h5]), trivial⟩, rfl, rfl⟩
  repeat first | refine LOps.nil ?_ | refine LCode.region ?_ | refine QThen.normal ?_ | refine LOps.pure (Pure.as (lv := .atom _) rfl) rfl ?_ | refine LOps.pure (Pure.seq rfl rfl) rfl ?_
  exact ⟨⟨rfl, bool_eq (by simp [of_decide_eq_false h5]), trivial⟩, rfl, rfl⟩
 refine LCode.cond rfl (fun h5 => ?_) (fun h5 => ?_)
 ·repeat first | refine LOps.nil ?_ | refine LCode.seq ?_ | refine LCode.region ?_ | refine LCode.ret ?_ | refine QThen.normal ?_ | refine QThen.ret ?_ | refine QBlock.ret ?_ | refine LOps.pure (Pure.as (lv := .atom _) rfl) rfl ?_
  exact retRet (hj2.trans hj) (AllRes.cons (ResIs.tmp (v := .atom _) rfl (LV.Sub.refl _)) AllRes.nil) (by rw [if_pos (of_decide_eq_true h5)]; rfl)
 rw [if_neg (of_decide_eq_false h5)]
 repeat first | refine LOps.nil ?_ | refine LCode.seq ?_ | refine LCode.region ?_ | refine QThen.normal ?_ | refine LOps.pure (Pure.as (lv := .atom _) rfl) rfl ?_ | refine LOps.pure (Pure.seq rfl rfl) rfl ?_
 refine LCode.cut [(3, str op), (20, bool (decide (op = [42] ∨ op = [47] ∨ op = [37])))] ?_ (fun j3 hj3 => ?_)
 ·refine LCode.cond rfl (fun h6 => ?_) (fun h6 => ?_)
  ·repeat first | refine LCode.skip ?_ | refine QThen.normal ?_
   exact ⟨⟨rfl, bool_eq (by simp [of_decide_eq_true h6]), trivial⟩, rfl, rfl⟩
  repeat first | refine LOps.nil ?_ | refine LCode.seq ?_ | refine LCode.region ?_ | refine QThen.normal ?_ | refine LOps.pure (Pure.as (lv := .atom _) rfl) rfl ?_ | refine LOps.pure (Pure.seq rfl rfl) rfl ?_
  refine LCode.cond rfl (fun h7 => ?_) (fun h7 => ?_)
  ·repeat first | refine LCode.skip ?_ | refine QThen.normal ?_
   exact ⟨⟨rfl, bool_eq (by simp [of_decide_eq_true h7]), trivial⟩, rfl, rfl⟩
  repeat first | refine LOps.nil ?_ | refine LCode.region ?_ | refine QThen.normal ?_ | refine LOps.pure (Pure.as (lv := .atom _) rfl) rfl ?_ | refine LOps.pure (Pure.seq rfl rfl) rfl ?_
  exact ⟨⟨rfl, bool_eq (by simp [of_decide_eq_false h6, of_decide_eq_false h7]), trivial⟩, rfl, rfl⟩
 refine LCode.cond rfl (fun h6 => ?_) (fun h6 => ?_)
 ·repeat first | refine LOps.nil ?_ | refine LCode.seq ?_ | refine LCode.region ?_ | refine LCode.ret ?_ | refine QThen.normal ?_ | refine QThen.ret ?_ | refine QBlock.ret ?_ | refine LOps.pure (Pure.as (lv := .atom _) rfl) rfl ?_
  exact retRet (hj3.trans (hj2.trans hj)) (AllRes.cons (ResIs.tmp (v := .atom _) rfl (LV.Sub.refl _)) AllRes.nil) (by rw [if_pos (of_decide_eq_true h6)]; rfl)
 rw [if_neg (of_decide_eq_false h6)]
 repeat first | refine LOps.nil ?_ | refine LCode.seq ?_ | refine LCode.region ?_ | refine LCode.skip ?_ | refine LCode.ret ?_ | refine QThen.normal ?_ | refine QBlock.normal ?_ | refine LOps.pure (Pure.as (lv := .atom _) rfl) rfl ?_
 exact retRet (hj3.trans (hj2.trans hj)) (AllRes.cons (ResIs.tmp (v := .atom _) rfl (LV.Sub.refl _)) AllRes.nil) rfl
end
end Go.Proofs.YtfodkbchknknjaaGreatDoor
namespace Go.Proofs.YtfodkbchknknjaaGreatDoor
open Go.GL Go.RowKit Go.Stele
set_option maxRecDepth 100000
set_option maxHeartbeats 4000000
theorem strength_in : ∀ op ∈ allOps, (strengthP op : Int) + 1 = if op = nNeg ∨ op = nNot then 7 else if 0 < refLevel op then refLevel op else 8 := by decide +kernel
theorem strength_lev (op : List UInt8) : (strengthP op : Int) + 1 = if op = nNeg ∨ op = nNot then 7 else if 0 < refLevel op then refLevel op else 8 := by
 by_cases h : op ∈ allOps
 ·exact strength_in op h
 ·have hc : ∀ k ∈ List.range 6, (lvOps k).contains op = false := fun k hk => Bool.eq_false_iff.2 fun hm => h (lv_sub k hk op (by simpa using hm))
  have hs : strengthP op = if op = nNeg ∨ op = nNot then 6 else 7 := by
   unfold strengthP
   simp only [hc 0 (by decide), hc 1 (by decide), hc 2 (by decide), hc 3 (by decide), hc 4 (by decide), hc 5 (by decide), Bool.false_eq_true, if_false]
  have hl : refLevel op = 0 := by
   simp only [allOps, List.mem_cons, List.not_mem_nil, or_false, not_or] at h
   unfold refLevel
   simp only [h, if_false, or_self]
  rw [hs, hl]
  split <;> rfl
theorem refLevel_lv : ∀ s, s < 6 → ∀ o ∈ lvOps s, refLevel o = (s : Int) + 1 := by decide +kernel
theorem join_snoc (sep : List UInt8) : ∀ (l : List (List UInt8)) (x : List UInt8), l ≠ [] → Go.Lib.join (l ++ [x]) sep = Go.Lib.join l sep ++ (sep ++ x)
 | [], _, h => absurd rfl h
 | [a], x, _ => by simp [Go.Lib.join]
 | a :: b :: r, x, _ => by
  have h := join_snoc sep (b :: r) x (by simp)
  have e1 : ∀ q : List (List UInt8), Go.Lib.join (a :: b :: q) sep = a ++ sep ++ Go.Lib.join (b :: q) sep := fun q => by simp [Go.Lib.join]
  rw [List.cons_append, List.cons_append, e1, e1, ← List.cons_append, h]
  simp only [List.append_assoc]
theorem join_take {l : List (List UInt8)} {i : Nat} (h : i < l.length) : Go.Lib.join (l.take (i + 1)) comSp = if 0 < i then Go.Lib.join (l.take i) comSp ++ (comSp ++ l[i]) else l[i] := by
 rw [List.take_succ_eq_append_getElem h]
 split
 ·exact join_snoc _ _ _ (by intro h0; have := congrArg List.length h0; rw [List.length_take, List.length_nil] at this; omega)
 ·have h0 : i = 0 := by omega
  subst h0
  simp [Go.Lib.join]
theorem join_take_len {l : List (List UInt8)} {i : Nat} : (Go.Lib.join (l.take i) comSp).length ≤ (Go.Lib.join l comSp).length := by
 induction l generalizing i with
 | nil => simp
 | cons a l ih =>
  cases i with
  | zero => exact Nat.zero_le _
  | succ i =>
   cases l with
   | nil => simp
   | cons b l =>
    have e1 : ∀ c (q : List (List UInt8)), Go.Lib.join (a :: c :: q) comSp = a ++ comSp ++ Go.Lib.join (c :: q) comSp := fun c q => by simp [Go.Lib.join]
    cases i with
    | zero =>
     rw [e1]
     simp [Go.Lib.join]
    | succ i =>
     have := ih (i := i + 1)
     rw [List.take_succ_cons, List.take_succ_cons] at *
     rw [e1, e1]
     simp only [List.length_append] at *
     omega
attribute [local irreducible] LOps LCode LStep LCalls Go.GL.Pure QThen QBlock RetPost LQ LAny LLate LLateOp
section
variable {B0 : Nat} {w0 : World}
theorem rstrength_spec (e : Ex) : LCalls (KC B0 w0) 143 [encE e] [] (Ret (int .i64 ((strengthP (exOp e) : Int) + 1))) := by
 obtain ⟨op, num, name, args⟩ := e
 rw [encE_mk]
 simp only [exOp]
 have hS := strength_lev op
 refine LCalls.intro Tryz.func143 rfl (n := 18) rfl rfl rfl ?_
 repeat first | refine LCode.seq ?_ | refine LCode.region ?_
 refine LOps.step (S.box (cs := [str op, int .u32 num, str name, .list (args.map encE)]) rfl fun b1 => ?_) rfl
 repeat first | refine LOps.nil ?_ | refine LCode.seq ?_ | refine LCode.region ?_ | refine QThen.normal ?_ | refine LOps.pure (Pure.as (lv := .atom _) rfl) rfl ?_ | refine LOps.pure (Pure.fieldH rfl) rfl ?_ | refine LOps.pure (Pure.loadH (c := .atom _) rfl (List.Mem.head _) rfl) rfl ?_ | refine LOps.pure (Pure.seq rfl rfl) rfl ?_ | refine LOps.pure (Pure.mv (lv := .atom _) rfl) rfl ?_
 refine LOps.bcase 7 rfl (fun h1 => ?_) (fun h1 => ?_)
 ·have e1 : op = nNeg := of_decide_eq_true h1
  rw [if_pos (Or.inl e1)] at hS
  repeat first | refine LOps.nil ?_ | refine QThen.normal ?_ | refine LOps.pure (Pure.pickT (lv := .atom _) rfl rfl) rfl ?_ | refine LOps.skip rfl rfl rfl rfl ?_
  refine LCode.cond rfl (fun hd => ?_) (fun hd => ?_)
  ·repeat first | refine LOps.nil ?_ | refine LCode.seq ?_ | refine LCode.region ?_ | refine LCode.ret ?_ | refine QThen.normal ?_ | refine QThen.ret ?_ | refine LOps.pure (Pure.as (lv := .atom _) rfl) rfl ?_
   exact retRet rfl (AllRes.cons (ResIs.tmp (v := .atom _) rfl (LV.Sub.refl _)) AllRes.nil) (int_eq hS.symm)
  ·cases hd
 ·have e1 : ¬ op = nNeg := of_decide_eq_false h1
  repeat first | refine LOps.nil ?_ | refine QThen.normal ?_ | refine LOps.pure (Pure.fieldH rfl) rfl ?_ | refine LOps.pure (Pure.loadH (c := .atom _) rfl (List.Mem.head _) rfl) rfl ?_ | refine LOps.pure (Pure.seq rfl rfl) rfl ?_ | refine LOps.pure (Pure.pickF (lv := .atom _) rfl rfl) rfl ?_ | refine LOps.want rfl rfl ?_
  refine LCode.cond rfl (fun hd => ?_) (fun hd => ?_)
  ·have e2 : op = nNot := of_decide_eq_true hd
   rw [if_pos (Or.inr e2)] at hS
   repeat first | refine LOps.nil ?_ | refine LCode.seq ?_ | refine LCode.region ?_ | refine LCode.ret ?_ | refine QThen.normal ?_ | refine QThen.ret ?_ | refine LOps.pure (Pure.as (lv := .atom _) rfl) rfl ?_
   exact retRet rfl (AllRes.cons (ResIs.tmp (v := .atom _) rfl (LV.Sub.refl _)) AllRes.nil) (int_eq hS.symm)
  ·have e2 : ¬ op = nNot := of_decide_eq_false hd
   rw [if_neg (fun h => h.elim e1 e2)] at hS
   repeat first | refine LCode.seq ?_ | refine LCode.region ?_ | refine LCode.skip ?_ | refine QThen.normal ?_ | refine LOps.pure (Pure.fieldH rfl) rfl ?_ | refine LOps.pure (Pure.loadH (c := .atom _) rfl (List.Mem.head _) rfl) rfl ?_
   refine LOps.step (S.fn [_] rfl (Level_spec op) ?_) rfl
   repeat first | refine LOps.nil ?_ | refine LCode.seq ?_ | refine LCode.region ?_ | refine QThen.normal ?_ | refine LOps.pure (Pure.as (lv := .atom _) rfl) rfl ?_ | refine LOps.pure (Pure.mv (lv := .atom _) rfl) rfl ?_ | refine LOps.pure (Pure.gtr rfl rfl) rfl ?_
   refine LCode.cond rfl (fun hq => ?_) (fun hq => ?_)
   ·have hq' : 0 < refLevel op := by have := of_decide_eq_true hq; omega
    rw [if_pos hq'] at hS
    repeat first | refine LOps.nil ?_ | refine LCode.seq ?_ | refine LCode.region ?_ | refine LCode.ret ?_ | refine QThen.normal ?_ | refine QThen.ret ?_ | refine LOps.pure (Pure.as (lv := .atom _) rfl) rfl ?_ | refine LOps.pure (Pure.mv (lv := .atom _) rfl) rfl ?_
    exact retRet rfl (AllRes.cons (ResIs.tmp (v := .atom _) rfl (LV.Sub.refl _)) AllRes.nil) (int_eq hS.symm)
   ·have hq' : ¬ 0 < refLevel op := by have := of_decide_eq_false hq; omega
    rw [if_neg hq'] at hS
    repeat first | refine LOps.nil ?_ | refine LCode.seq ?_ | refine LCode.region ?_ | refine LCode.skip ?_ | refine LCode.ret ?_ | refine QThen.normal ?_ | refine LOps.pure (Pure.as (lv := .atom _) rfl) rfl ?_
    exact retRet rfl (AllRes.cons (ResIs.tmp (v := .atom _) rfl (LV.Sub.refl _)) AllRes.nil) (int_eq hS.symm)
theorem roperand_spec (e : Ex) (least : Nat) (hl : (fE e).length ≤ 1000000000) (he : LCalls (KC B0 w0) 91 [encE e] [] (Ret (str (fE e)))) :
  LCalls (KC B0 w0) 121 [encE e, int .i64 ((least : Int) + 1)] [] (Ret (str (opnd (exOp e, fE e) least))) := by
 have hs := rstrength_spec (B0 := B0) (w0 := w0) e
 obtain ⟨op, num, name, args⟩ := e
 simp only [exOp] at hs ⊢
 rw [encE_mk] at he hs ⊢
 refine LCalls.intro Tryz.func121 rfl (n := 15) rfl rfl rfl ?_
 repeat first | refine LCode.seq ?_ | refine LCode.region ?_
 refine LOps.step (S.box (cs := [str op, int .u32 num, str name, .list (args.map encE)]) rfl fun b1 => ?_) rfl
 repeat first | refine LOps.nil ?_ | refine LCode.seq ?_ | refine LCode.region ?_ | refine QThen.normal ?_ | refine LOps.pure (Pure.as (lv := .atom _) rfl) rfl ?_ | refine LOps.pure (Pure.ldHAgg (cs' := [_, _, _, _]) rfl (List.Mem.head _) rfl rfl) rfl ?_
 refine LOps.step (S.fn [_] rfl hs ?_) rfl
 repeat first | refine LOps.nil ?_ | refine QThen.normal ?_ | refine LOps.pure (Pure.mv (lv := .atom _) rfl) rfl ?_ | refine LOps.pure (Pure.lss rfl rfl) rfl ?_
 refine LCode.cond rfl (fun hd => ?_) (fun hd => ?_)
 ·have hd' : strengthP op < least := by have := of_decide_eq_true hd; omega
  repeat first | refine LCode.seq ?_ | refine LCode.region ?_ | refine LOps.pure (Pure.ldHAgg (cs' := [_, _, _, _]) rfl (List.Mem.head _) rfl rfl) rfl ?_
  refine LOps.step (S.fn [_] rfl he ?_) rfl
  repeat first | refine LOps.nil ?_ | refine LCode.ret ?_ | refine QThen.normal ?_ | refine QThen.ret ?_ | refine LOps.pure (Pure.as (lv := .atom _) rfl) rfl ?_ | refine LOps.pure (Pure.sadd rfl rfl (by first | omega | (simp only [List.length_append, List.length_cons, List.length_nil]; omega))) rfl ?_
  exact retRet rfl (AllRes.cons (ResIs.tmp (v := .atom _) rfl (LV.Sub.refl _)) AllRes.nil) (str_eq (by simp only [opnd]; rw [if_pos hd']))
 ·have hd' : ¬ strengthP op < least := by have := of_decide_eq_false hd; omega
  repeat first | refine LCode.seq ?_ | refine LCode.region ?_ | refine LCode.skip ?_ | refine QThen.normal ?_ | refine LOps.pure (Pure.ldHAgg (cs' := [_, _, _, _]) rfl (List.Mem.head _) rfl rfl) rfl ?_
  refine LOps.step (S.fn [_] rfl he ?_) rfl
  repeat first | refine LOps.nil ?_ | refine LCode.ret ?_ | refine QThen.normal ?_ | refine LOps.pure (Pure.as (lv := .atom _) rfl) rfl ?_
  exact retRet rfl (AllRes.cons (ResIs.tmp (v := .atom _) rfl (LV.Sub.refl _)) AllRes.nil) (str_eq (by simp only [opnd]; rw [if_neg hd']))
theorem arg_spec (e : Ex) (i : Nat) (a : Ex) (h : (exArgs e)[i]? = some a) (hn : (exArgs e).length ≤ 1000000000) : LCalls (KC B0 w0) 119 [encE e, int .i64 i] [] (Ret (encE a)) := by
 obtain ⟨op, num, name, args⟩ := e
 simp only [exArgs] at h hn
 have hlt : i < args.length := (List.getElem?_eq_some_iff.1 h).1
 have hla : (args.map encE).length = args.length := List.length_map _
 have hg : (args.map encE)[i]? = some (encE a) := by rw [List.getElem?_map, h]; rfl
 obtain ⟨o2, n2, m2, r2⟩ := a
 rw [encE_mk] at hg ⊢
 rw [encE_mk]
 refine LCalls.intro Tryz.func119 rfl (n := 16) rfl rfl rfl ?_
 repeat first | refine LCode.seq ?_ | refine LCode.region ?_
 refine LOps.step (S.box (cs := [str op, int .u32 num, str name, .list (args.map encE)]) rfl fun b1 => ?_) rfl
 refine LOps.step (S.alloc fun b4 => ?_) rfl
 repeat first | refine LOps.nil ?_ | refine LCode.seq ?_ | refine LCode.region ?_ | refine QThen.normal ?_ | refine LOps.pure (Pure.mv (lv := .atom _) rfl) rfl ?_ | refine LOps.pure (Pure.fieldH rfl) rfl ?_ | refine LOps.pure (Pure.loadH (c := .list _) rfl (List.Mem.tail _ (List.Mem.head _)) rfl) rfl ?_ | refine LOps.pure (Pure.llen rfl) rfl ?_ | refine LOps.pure (Pure.lss rfl rfl) rfl ?_
 refine LCode.cond rfl (fun hd => ?_) (fun hd => ?_)
 ·repeat first | refine LCode.seq ?_ | refine LCode.region ?_ | refine LOps.pure (Pure.mv (lv := .atom _) rfl) rfl ?_ | refine LOps.pure (Pure.fieldH rfl) rfl ?_ | refine LOps.pure (Pure.loadH (c := .list _) rfl (List.Mem.tail _ (List.Mem.head _)) rfl) rfl ?_
  refine LOps.pure (Pure.ixRef (el' := .agg [str o2, int .u32 n2, str m2, .list (r2.map encE)]) (cs := [_, _, _, _]) rfl rfl (by omega) hg rfl rfl) rfl ?_
  repeat first | refine LOps.nil ?_ | refine LCode.ret ?_ | refine QThen.normal ?_ | refine QThen.ret ?_ | refine LOps.pure (Pure.ldRefAgg (cs' := [_, _, _, _]) rfl rfl rfl) rfl ?_ | refine LOps.step (S.store (cs' := [_, _, _, _]) rfl Pick.here rfl rfl rfl rfl rfl ?_) rfl
  exact retRet rfl (AllRes.cons (ResIs.cellAgg rfl (List.Mem.head _) rfl (LV.Sub.refl _)) AllRes.nil) rfl
 ·have := of_decide_eq_false hd
  omega
theorem rlist_spec (l : List Ex) (hn : l.length ≤ 1000000000) (hl : (Go.Lib.join (l.map fE) comSp).length ≤ 1000000000) (he : ∀ e ∈ l, LCalls (KC B0 w0) 91 [encE e] [] (Ret (str (fE e)))) :
  LCalls (KC B0 w0) 120 [.list (l.map encE)] [] (Ret (str (Go.Lib.join (l.map fE) comSp))) := by
 have hla : (l.map encE).length = l.length := List.length_map _
 refine LCalls.intro Tryz.func120 rfl (n := 23) rfl rfl rfl ?_
 repeat first | refine LOps.nil ?_ | refine LCode.seq ?_ | refine LCode.region ?_ | refine LCode.block ?_ | refine QThen.normal ?_ | refine LOps.pure (Pure.as (lv := .atom _) rfl) rfl ?_
 refine LCode.loopI (fun k ls H => ∃ (i : Nat), i ≤ l.length ∧ k = l.length - i ∧ ls = [(0, .list (l.map encE)), (3, str (Go.Lib.join ((l.map fE).take i) comSp)), (4, int .i64 i)] ∧ H = [])
  ⟨_, _, _, ⟨0, Nat.zero_le _, rfl, rfl, rfl⟩, ⟨rfl, rfl, rfl, trivial⟩, HSub.refl _⟩ ?_
 rintro k ls H ⟨i, hi, rfl, rfl, rfl⟩ j hj
 repeat first | refine LOps.nil ?_ | refine LCode.seq ?_ | refine LCode.region ?_ | refine QThen.normal ?_ | refine LOps.pure (Pure.mv (lv := .atom _) rfl) rfl ?_ | refine LOps.pure (Pure.mv (lv := .list _) rfl) rfl ?_ | refine LOps.pure (Pure.llen rfl) rfl ?_ | refine LOps.pure (Pure.lss rfl rfl) rfl ?_
 refine LCode.cond rfl (fun hc => ?_) (fun hc => ?_)
 ·have hlt : i < l.length := by have := of_decide_eq_true hc; omega
  have hlt2 : i < (l.map fE).length := by rw [List.length_map]; exact hlt
  have hjt := join_take hlt2
  have hjl := join_take_len (l := l.map fE) (i := i)
  have hjl2 := join_take_len (l := l.map fE) (i := i + 1)
  rw [List.getElem_map] at hjt
  repeat first | refine LOps.nil ?_ | refine LCode.seq ?_ | refine LCode.region ?_ | refine LCode.skip ?_ | refine LCode.block ?_ | refine QThen.normal ?_ | refine LOps.pure (Pure.mv (lv := .atom _) rfl) rfl ?_ | refine LOps.pure (Pure.gtr rfl rfl) rfl ?_
  refine LCode.cut [(0, .list (l.map encE)), (3, str (if 0 < i then Go.Lib.join ((l.map fE).take i) comSp ++ comSp else [])), (4, int .i64 i)] ?_ (fun j2 hj2 => ?_)
  ·refine LCode.cond rfl (fun h1 => ?_) (fun h1 => ?_)
   ·have h1' : 0 < i := by have := of_decide_eq_true h1; omega
    repeat first | refine LOps.nil ?_ | refine LCode.region ?_ | refine QThen.normal ?_ | refine LOps.pure (Pure.as (lv := .atom _) rfl) rfl ?_ | refine LOps.pure (Pure.mv (lv := .atom _) rfl) rfl ?_ | refine LOps.pure (Pure.sadd rfl rfl (by first | omega | (simp only [List.length_append, List.length_cons, List.length_nil]; omega))) rfl ?_
    exact ⟨⟨rfl, str_eq (by rw [if_pos h1']; rfl), rfl, trivial⟩, rfl, rfl⟩
   ·have h1' : ¬ 0 < i := by have := of_decide_eq_false h1; omega
    repeat first | refine LCode.skip ?_ | refine QThen.normal ?_
    have h0 : i = 0 := by omega
    subst h0
    exact ⟨⟨rfl, str_eq (by rw [if_neg h1']; rfl), rfl, trivial⟩, rfl, rfl⟩
  have hsz : (if 0 < i then Go.Lib.join ((l.map fE).take i) comSp ++ comSp else []).length + (fE l[i]).length = (Go.Lib.join ((l.map fE).take (i + 1)) comSp).length := by
   rw [hjt]
   split
   ·simp only [List.length_append]; omega
   ·simp
  generalize hw : (if 0 < i then Go.Lib.join ((l.map fE).take i) comSp ++ comSp else []) = w at hsz
  repeat first | refine LCode.region ?_ | refine LOps.pure (Pure.mv (lv := .atom _) rfl) rfl ?_ | refine LOps.pure (Pure.mv (lv := .list _) rfl) rfl ?_
  refine LOps.pure (Pure.ixRef (el' := encE l[i]) (cs := [_, _, _, _]) rfl rfl (by omega) (map_get _ _ _ hlt) rfl rfl) rfl ?_
  repeat first | refine LOps.pure (Pure.ldRefAgg (cs' := [_, _, _, _]) rfl rfl rfl) rfl ?_
  refine LOps.step (S.fn [_] rfl (he l[i] (List.getElem_mem hlt)) ?_) rfl
  repeat first | refine LOps.nil ?_ | refine LCode.region ?_ | refine QThen.normal ?_ | refine QBlock.normal ?_ | refine LOps.pure (Pure.as (lv := .atom _) rfl) rfl ?_ | refine LOps.pure (Pure.mv (lv := .atom _) rfl) rfl ?_ | refine LOps.pure (Pure.sadd rfl rfl (by first | omega | (simp only [List.length_append, List.length_cons, List.length_nil]; omega))) rfl ?_ | refine LOps.pure (Pure.add rfl rfl (by omega)) rfl ?_
  exact ⟨_, _, _, by omega, ⟨i + 1, by omega, rfl, rfl, rfl⟩, ⟨rfl, str_eq (by
   rw [hjt, ← hw]
   split
   ·rw [List.append_assoc]
   ·rfl), int_eq (by omega), trivial⟩, HSub.refl _, hj2.trans hj⟩
 ·have hi' : i = l.length := by have := of_decide_eq_false hc; omega
  subst hi'
  rw [List.take_of_length_le (by rw [List.length_map]; omega)]
  repeat first | refine LOps.nil ?_ | refine LCode.seq ?_ | refine LCode.region ?_ | refine LCode.ret ?_ | refine LCode.exit ?_ | refine QThen.normal ?_ | refine QThen.exit ?_ | refine QBlock.hit ?_ | refine LOps.pure (Pure.as (lv := .atom _) rfl) rfl ?_ | refine LOps.pure (Pure.mv (lv := .atom _) rfl) rfl ?_
  exact retRet hj (AllRes.cons (ResIs.tmp (v := .atom _) rfl (LV.Sub.refl _)) AllRes.nil) rfl
end
end Go.Proofs.YtfodkbchknknjaaGreatDoor
namespace Go.Proofs.YtfodkbchknknjaaGreatDoor
open Go.GL Go.RowKit Go.Stele
set_option maxRecDepth 100000
set_option maxHeartbeats 4000000
attribute [local irreducible] LOps LCode LStep LCalls Go.GL.Pure QThen QBlock RetPost LQ LAny LLate LLateOp
section
variable {B0 : Nat} {w0 : World}
theorem sub_lt {a : Nat} (ha : a < 10) : (([48, 49, 50, 51, 52, 53, 54, 55, 56, 57] : List UInt8).take ((a : Int) + 1).toNat).drop (a : Int).toNat = [UInt8.ofNat (48 + a)] := by
 have : ∀ a : Nat, a < 10 → (([48, 49, 50, 51, 52, 53, 54, 55, 56, 57] : List UInt8).take (a + 1)).drop a = [UInt8.ofNat (48 + a)] := by decide
 exact this a ha
theorem wrap_u32' {n : Int} (h : 0 ≤ n ∧ n ≤ 4294967295) : IntKind.u32.wrap n = n := by
 simp only [IntKind.wrap, IntKind.bits, IntKind.signed, Bool.false_and]
 simp
 omega
theorem dec_spec : ∀ (m n : Nat), n ≤ m → n < 4294967296 → LCalls (KC B0 w0) 57 [int .u32 n] [] (Ret (str (Go.Lib.decDigits n))) := by
 intro m
 induction m with
 | zero =>
  intro n hn _
  have h0 : n = 0 := by omega
  subst h0
  refine LCalls.intro Tryz.func57 rfl (n := 16) rfl rfl rfl ?_
  repeat first | refine LOps.nil ?_ | refine LCode.seq ?_ | refine LCode.region ?_ | refine QThen.normal ?_ | refine LOps.pure (Pure.as (lv := .atom _) rfl) rfl ?_ | refine LOps.pure (Pure.mv (lv := .atom _) rfl) rfl ?_ | refine LOps.pure (Pure.lss rfl rfl) rfl ?_
  refine LCode.cond rfl (fun hc => ?_) (fun hc => ?_)
  ·repeat first | refine LCode.seq ?_ | refine LCode.region ?_ | refine LOps.pure (Pure.mv (lv := .atom _) rfl) rfl ?_
   refine LOps.pure (Pure.addW rfl rfl) rfl ?_
   refine LOps.pure (Pure.sslice (i := 0) (j := 1) rfl ⟨_, rfl⟩ ⟨_, rfl⟩ (by decide) (by decide) (by decide)) rfl ?_
   repeat first | refine LOps.nil ?_ | refine LCode.ret ?_ | refine QThen.normal ?_ | refine QThen.ret ?_ | refine LOps.pure (Pure.as (lv := .atom _) rfl) rfl ?_
   exact retRet rfl (AllRes.cons (ResIs.tmp (v := .atom _) rfl (LV.Sub.refl _)) AllRes.nil) (str_eq (by rw [Go.Lib.decDigits]; rfl))
  ·exact absurd hc (by decide)
 | succ m ih =>
  intro n hn hlt
  refine LCalls.intro Tryz.func57 rfl (n := 16) rfl rfl rfl ?_
  repeat first | refine LOps.nil ?_ | refine LCode.seq ?_ | refine LCode.region ?_ | refine QThen.normal ?_ | refine LOps.pure (Pure.as (lv := .atom _) rfl) rfl ?_ | refine LOps.pure (Pure.mv (lv := .atom _) rfl) rfl ?_ | refine LOps.pure (Pure.lss rfl rfl) rfl ?_
  refine LCode.cond rfl (fun hc => ?_) (fun hc => ?_)
  ·have h10 : n < 10 := by have := of_decide_eq_true hc; omega
   have hw : int .u32 (IntKind.u32.wrap ((n : Int) + 1)) = int .u32 ((n : Int) + 1) := by rw [wrap_u32' (by omega)]
   repeat first | refine LCode.seq ?_ | refine LCode.region ?_ | refine LOps.pure (Pure.mv (lv := .atom _) rfl) rfl ?_
   refine LOps.pure (Pure.addW rfl rfl) rfl ?_
   refine LOps.pure (Pure.sslice (i := n) (j := (n : Int) + 1) rfl ⟨_, rfl⟩ ⟨_, hw⟩ (by omega) (by omega) (by simp; omega)) rfl ?_
   repeat first | refine LOps.nil ?_ | refine LCode.ret ?_ | refine QThen.normal ?_ | refine QThen.ret ?_ | refine LOps.pure (Pure.as (lv := .atom _) rfl) rfl ?_
   exact retRet rfl (AllRes.cons (ResIs.tmp (v := .atom _) rfl (LV.Sub.refl _)) AllRes.nil) (str_eq (by rw [Go.Lib.decDigits, dif_pos h10]; exact sub_lt h10))
  ·have h10 : ¬ n < 10 := by have := of_decide_eq_false hc; omega
   have hq : IntKind.u32.wrap ((n : Int).tdiv 10) = ((n / 10 : Nat) : Int) := by
    rw [Int.tdiv_eq_ediv_of_nonneg (by omega), wrap_u32' (by omega)]
    omega
   have hr : (n : Int).tmod 10 = ((n % 10 : Nat) : Int) := by
    rw [Int.tmod_eq_emod_of_nonneg (by omega)]
    omega
   have hd1 := dec_len (u := n / 10) (by omega)
   have hd2 := dec_len (u := n % 10) (by omega)
   repeat first | refine LCode.seq ?_ | refine LCode.region ?_ | refine LCode.skip ?_ | refine QThen.normal ?_ | refine LOps.pure (Pure.mv (lv := .atom _) rfl) rfl ?_
   refine LOps.pure (Pure.quoW rfl rfl (by decide)) rfl ?_
   refine LOps.step (S.fn [_] rfl (by rw [hq]; exact ih (n / 10) (by omega) (by omega)) ?_) rfl
   repeat first | refine LOps.pure (Pure.mv (lv := .atom _) rfl) rfl ?_
   refine LOps.pure (Pure.remW rfl rfl (by decide)) rfl ?_
   refine LOps.step (S.fn [_] rfl (by rw [hr]; exact ih (n % 10) (by omega) (by omega)) ?_) rfl
   refine LOps.pure (Pure.sadd rfl rfl (by omega)) rfl ?_
   repeat first | refine LOps.nil ?_ | refine LCode.ret ?_ | refine QThen.normal ?_ | refine LOps.pure (Pure.as (lv := .atom _) rfl) rfl ?_
   exact retRet rfl (AllRes.cons (ResIs.tmp (v := .atom _) rfl (LV.Sub.refl _)) AllRes.nil) (str_eq (by
    rw [show Go.Lib.decDigits n = Go.Lib.decDigits (n / 10) ++ [UInt8.ofNat (48 + n % 10)] by conv => lhs; rw [Go.Lib.decDigits, dif_neg h10]]
    congr 1
    rw [Go.Lib.decDigits, dif_pos (by omega)]))
/-- Text's switch passes an operator over. -/
theorem pe_len {e : Ex} {k : Nat} {ts : List KT} {d : Nat} (hk : k ≤ 6) (hp : PE e k ts d) (hs : ts.length ≤ 100000) : (fE e).length ≤ 2600000 ∧ (opnd (exOp e, fE e) k).length ≤ 2600000 := by
 have h1 := ze e k ts d hk hp
 have h2 := opnd_ge (exOp e) (fE e) k
 omega
theorem Text_spec : ∀ (n : Nat) (e : Ex), nEx e ≤ n → ∀ (k : Nat) (ts : List KT) (d : Nat), k ≤ 6 → PE e k ts d → ts.length ≤ 100000 → LCalls (KC B0 w0) 91 [encE e] [] (Ret (str (fE e)))
 | 0, .mk _ _ _ _, hn => by rw [nEx] at hn; omega
 | n + 1, e, hn => by
  intro k ts d hk hp hsz
  have bin : ∀ {s : Nat} {o : List UInt8} {a b : Ex} {t1 t2 : List KT} {d1 d2 : Nat}, nEx (.mk o 0 [] [a, b]) ≤ n + 1 → s < 6 → o ∈ lvOps s → PE a (leftLv s) t1 d1 → PE b (s + 1) t2 d2 → t1.length ≤ 100000 → t2.length ≤ 100000 →
    LCalls (KC B0 w0) 91 [encE (.mk o 0 [] [a, b])] [] (Ret (str (fE (.mk o 0 [] [a, b])))) := by
   intro s o a b t1 t2 d1 d2 hn hs ho pa pb z1 z2
   obtain ⟨h1, h2, h3, h4, h5, h6, h7, h8⟩ := op_facts s hs o ho
   have hlev := refLevel_lv s hs o ho
   have h9 : o.length ≤ 24 := (again_sg h8).1
   simp only [nEx, nExs] at hn
   have hll : leftLv s ≤ 6 := by unfold leftLv; split <;> omega
   obtain ⟨la1, la2⟩ := pe_len hll pa z1
   obtain ⟨lb1, lb2⟩ := pe_len (by omega) pb z2
   have sa := roperand_spec (B0 := B0) (w0 := w0) a (leftLv s) (by omega) (Text_spec n a (by omega) _ _ _ hll pa z1)
   have sb := roperand_spec (B0 := B0) (w0 := w0) b (s + 1) (by omega) (Text_spec n b (by omega) _ _ _ (by omega) pb z2)
   have ga := arg_spec (B0 := B0) (w0 := w0) (.mk o 0 [] [a, b]) 0 a rfl (by simp [exArgs])
   have gb := arg_spec (B0 := B0) (w0 := w0) (.mk o 0 [] [a, b]) 1 b rfl (by simp [exArgs])
   have hF := fE_bin hs ho a b
   have eb : ((s : Int) + 1 + 1) = (((s + 1 : Nat) : Int) + 1) := by omega
   rw [← eb] at sb
   have hL := Level_spec (B0 := B0) (w0 := w0) o
   rw [hlev] at hL
   rw [encE_mk] at ga gb ⊢
   refine LCalls.intro Tryz.func91 rfl (n := 69) rfl rfl rfl ?_
   repeat first | refine LCode.seq ?_ | refine LCode.region ?_
   refine LOps.step (S.box (cs := [str o, int .u32 0, str [], .list ([a, b].map encE)]) rfl fun b1 => ?_) rfl
   repeat first | refine LOps.nil ?_ | refine LCode.seq ?_ | refine LCode.region ?_ | refine LCode.block ?_ | refine QThen.normal ?_ | refine LOps.pure (Pure.as (lv := .atom _) rfl) rfl ?_ | refine LOps.pure (Pure.fieldH rfl) rfl ?_ | refine LOps.pure (Pure.loadH (c := .atom _) rfl (List.Mem.head _) rfl) rfl ?_ | refine LOps.pure (Pure.seq rfl rfl) rfl ?_
   refine LCode.cond rfl (fun h => absurd (of_decide_eq_true h) h1) (fun _ => ?_)
   repeat first | refine LOps.nil ?_ | refine LCode.seq ?_ | refine LCode.region ?_ | refine QThen.normal ?_ | refine LOps.pure (Pure.as (lv := .atom _) rfl) rfl ?_ | refine LOps.pure (Pure.seq rfl rfl) rfl ?_
   refine LCode.cond rfl (fun h => absurd (of_decide_eq_true h) h3) (fun _ => ?_)
   repeat first | refine LOps.nil ?_ | refine LCode.seq ?_ | refine LCode.region ?_ | refine QThen.normal ?_ | refine LOps.pure (Pure.as (lv := .atom _) rfl) rfl ?_ | refine LOps.pure (Pure.seq rfl rfl) rfl ?_
   refine LCode.cond rfl (fun h => absurd (of_decide_eq_true h) h4) (fun _ => ?_)
   repeat first | refine LOps.nil ?_ | refine LCode.seq ?_ | refine LCode.region ?_ | refine QThen.normal ?_ | refine LOps.pure (Pure.as (lv := .atom _) rfl) rfl ?_ | refine LOps.pure (Pure.seq rfl rfl) rfl ?_
   refine LCode.cond rfl (fun h => absurd (of_decide_eq_true h) h5) (fun _ => ?_)
   repeat first | refine LOps.nil ?_ | refine LCode.seq ?_ | refine LCode.region ?_ | refine QThen.normal ?_ | refine LOps.pure (Pure.as (lv := .atom _) rfl) rfl ?_ | refine LOps.pure (Pure.seq rfl rfl) rfl ?_
   refine LCode.cond rfl (fun h => absurd (of_decide_eq_true h) h6) (fun _ => ?_)
   repeat first | refine LCode.seq ?_ | refine LCode.region ?_ | refine LCode.skip ?_ | refine QThen.normal ?_ | refine QBlock.normal ?_ | refine LOps.pure (Pure.fieldH rfl) rfl ?_ | refine LOps.pure (Pure.loadH (c := .atom _) rfl (List.Mem.head _) rfl) rfl ?_
   refine LOps.step (S.fn [_] rfl hL ?_) rfl
   repeat first | refine LOps.nil ?_ | refine LCode.seq ?_ | refine LCode.region ?_ | refine QThen.normal ?_ | refine LOps.pure (Pure.as (lv := .atom _) rfl) rfl ?_ | refine LOps.pure (Pure.mv (lv := .atom _) rfl) rfl ?_ | refine LOps.pure (Pure.eql rfl rfl) rfl ?_
   refine LCode.cond rfl (fun h => absurd (of_decide_eq_true h) (by omega)) (fun _ => ?_)
   repeat first | refine LOps.nil ?_ | refine LCode.seq ?_ | refine LCode.region ?_ | refine LCode.skip ?_ | refine QThen.normal ?_ | refine LOps.pure (Pure.as (lv := .atom _) rfl) rfl ?_ | refine LOps.pure (Pure.mv (lv := .atom _) rfl) rfl ?_ | refine LOps.pure (Pure.eql rfl rfl) rfl ?_
   refine LCode.cut [(1, ptr b1 0), (2, str []), (3, int .i64 ((s : Int) + 1)), (4, int .i64 ((leftLv s : Int) + 1))] ?_ (fun j hj => ?_)
   ·refine LCode.cond rfl (fun h => ?_) (fun h => ?_)
    ·have h2' : s = 2 := by have := of_decide_eq_true h; omega
     repeat first | refine LOps.nil ?_ | refine LCode.region ?_ | refine QThen.normal ?_ | refine LOps.pure (Pure.as (lv := .atom _) rfl) rfl ?_
     exact ⟨⟨rfl, rfl, rfl, int_eq (by rw [leftLv, if_pos h2']; omega), trivial⟩, rfl, rfl⟩
    ·have h2' : ¬ s = 2 := by have := of_decide_eq_false h; omega
     repeat first | refine LCode.skip ?_ | refine QThen.normal ?_
     exact ⟨⟨rfl, rfl, rfl, int_eq (by rw [leftLv, if_neg h2']), trivial⟩, rfl, rfl⟩
   repeat first | refine LCode.seq ?_
   refine LCode.draw (m := 16) rfl [(b1, .cells 38 [str o, int .u32 0, str [], .list ([a, b].map encE)])] ?_
   refine LAny.tk 0 rfl rfl (Pure.ldHAgg (cs' := [_, _, _, _]) rfl (List.Mem.head _) rfl rfl) ?_
   refine LAny.tk 2 rfl rfl (Pure.mv (lv := .atom _) rfl) ?_
   refine LAny.tk 5 rfl rfl (Pure.fieldH rfl) ?_
   refine LAny.tk 6 rfl rfl (Pure.loadH (c := .atom _) rfl (List.Mem.head _) rfl) ?_
   refine LAny.tk 9 rfl rfl (Pure.ldHAgg (cs' := [_, _, _, _]) rfl (List.Mem.head _) rfl rfl) ?_
   refine LAny.tk 11 rfl rfl (Pure.mv (lv := .atom _) rfl) ?_
   refine LAny.tk 12 rfl rfl (Pure.add rfl rfl (by omega)) ?_
   refine LAny.late ?_ (HSub.pick Pick.here (HSub.nil _))
   refine LLate.o 1 (LLateOp.step (H1 := []) rfl (.inl rfl) rfl (List.Perm.refl _) (HSub.pick Pick.here (HSub.nil _)) (S.fn [_, _] rfl ga ?_))
   refine LLate.o 3 (LLateOp.step (H1 := []) rfl (.inl rfl) rfl (List.Perm.refl _) (HSub.pick Pick.here (HSub.nil _)) (S.fn [_, _] rfl sa ?_))
   refine LLate.any [(b1, .cells 38 [str o, int .u32 0, str [], .list ([a, b].map encE)])] (fun _ h => h) ?_
   refine LAny.tk 4 rfl rfl (Pure.sadd rfl rfl (by first | omega | (simp only [List.length_append, List.length_cons, List.length_nil]; omega))) ?_
   refine LAny.tk 7 rfl rfl (Pure.sadd rfl rfl (by first | omega | (simp only [List.length_append, List.length_cons, List.length_nil]; omega))) ?_
   refine LAny.tk 8 rfl rfl (Pure.sadd rfl rfl (by first | omega | (simp only [List.length_append, List.length_cons, List.length_nil]; omega))) ?_
   refine LAny.late ?_ (HSub.pick Pick.here (HSub.nil _))
   refine LLate.o 10 (LLateOp.step (H1 := []) rfl (.inl rfl) rfl (List.Perm.refl _) (HSub.pick Pick.here (HSub.nil _)) (S.fn [_, _] rfl gb ?_))
   refine LLate.o 13 (LLateOp.step (H1 := []) rfl (.inl rfl) rfl (List.Perm.refl _) (HSub.pick Pick.here (HSub.nil _)) (S.fn [_, _] rfl sb ?_))
   refine LLate.o 14 (LLateOp.pureH rfl rfl (Pure.sadd rfl rfl (by simp only [List.length_append, List.length_cons, List.length_nil]; omega)) ?_)
   refine LLate.o 15 (LLateOp.pureH rfl rfl (Pure.as (lv := .atom _) rfl) ?_)
   refine LLate.done (by kernel_rfl) ?_
   repeat first | refine LCode.ret ?_ | refine QThen.normal ?_
   exact retRet hj (AllRes.cons (ResIs.tmp (v := .atom _) rfl (LV.Sub.refl _)) AllRes.nil) (str_eq hF.symm)
  cases hp with
  | num h =>
   rename_i m
   rw [encE_mk, fE_num]
   refine LCalls.intro Tryz.func91 rfl (n := 69) rfl rfl rfl ?_
   repeat first | refine LCode.seq ?_ | refine LCode.region ?_
   refine LOps.step (S.box (cs := [str nNum, int .u32 m, str [], .list []]) rfl fun b1 => ?_) rfl
   repeat first | refine LOps.nil ?_ | refine LCode.seq ?_ | refine LCode.region ?_ | refine LCode.block ?_ | refine QThen.normal ?_ | refine LOps.pure (Pure.as (lv := .atom _) rfl) rfl ?_ | refine LOps.pure (Pure.fieldH rfl) rfl ?_ | refine LOps.pure (Pure.loadH (c := .atom _) rfl (List.Mem.head _) rfl) rfl ?_ | refine LOps.pure (Pure.seq rfl rfl) rfl ?_
   refine LCode.cond rfl (fun _ => ?_) (fun h => absurd h (by decide))
   repeat first | refine LCode.seq ?_ | refine LCode.region ?_ | refine LOps.pure (Pure.fieldH rfl) rfl ?_ | refine LOps.pure (Pure.loadH (c := .atom _) rfl (List.Mem.head _) rfl) rfl ?_
   refine LOps.step (S.fn [_] rfl (dec_spec m m (Nat.le_refl _) h) ?_) rfl
   repeat first | refine LOps.nil ?_ | refine LCode.ret ?_ | refine QThen.normal ?_ | refine QThen.ret ?_ | refine QBlock.ret ?_ | refine LOps.pure (Pure.as (lv := .atom _) rfl) rfl ?_
   exact retRet rfl (AllRes.cons (ResIs.tmp (v := .atom _) rfl (LV.Sub.refl _)) AllRes.nil) rfl
  | var h =>
   rename_i s
   rw [encE_mk, fE_var]
   refine LCalls.intro Tryz.func91 rfl (n := 69) rfl rfl rfl ?_
   repeat first | refine LCode.seq ?_ | refine LCode.region ?_
   refine LOps.step (S.box (cs := [str nVar, int .u32 0, str s, .list []]) rfl fun b1 => ?_) rfl
   repeat first | refine LOps.nil ?_ | refine LCode.seq ?_ | refine LCode.region ?_ | refine LCode.block ?_ | refine QThen.normal ?_ | refine LOps.pure (Pure.as (lv := .atom _) rfl) rfl ?_ | refine LOps.pure (Pure.fieldH rfl) rfl ?_ | refine LOps.pure (Pure.loadH (c := .atom _) rfl (List.Mem.head _) rfl) rfl ?_ | refine LOps.pure (Pure.seq rfl rfl) rfl ?_
   refine LCode.cond rfl (fun h => absurd h (by decide)) (fun _ => ?_)
   repeat first | refine LOps.nil ?_ | refine LCode.seq ?_ | refine LCode.region ?_ | refine QThen.normal ?_ | refine LOps.pure (Pure.as (lv := .atom _) rfl) rfl ?_ | refine LOps.pure (Pure.seq rfl rfl) rfl ?_
   refine LCode.cond rfl (fun h => absurd h (by decide)) (fun _ => ?_)
   repeat first | refine LOps.nil ?_ | refine LCode.seq ?_ | refine LCode.region ?_ | refine QThen.normal ?_ | refine LOps.pure (Pure.as (lv := .atom _) rfl) rfl ?_ | refine LOps.pure (Pure.seq rfl rfl) rfl ?_
   refine LCode.cond rfl (fun h => absurd h (by decide)) (fun _ => ?_)
   repeat first | refine LOps.nil ?_ | refine LCode.seq ?_ | refine LCode.region ?_ | refine QThen.normal ?_ | refine LOps.pure (Pure.as (lv := .atom _) rfl) rfl ?_ | refine LOps.pure (Pure.seq rfl rfl) rfl ?_
   refine LCode.cond rfl (fun h => absurd h (by decide)) (fun _ => ?_)
   repeat first | refine LOps.nil ?_ | refine LCode.seq ?_ | refine LCode.region ?_ | refine QThen.normal ?_ | refine LOps.pure (Pure.as (lv := .atom _) rfl) rfl ?_ | refine LOps.pure (Pure.seq rfl rfl) rfl ?_
   refine LCode.cond rfl (fun h => absurd h (by decide)) (fun _ => ?_)
   repeat first | refine LCode.seq ?_ | refine LCode.region ?_ | refine LCode.skip ?_ | refine QThen.normal ?_ | refine QBlock.normal ?_ | refine LOps.pure (Pure.fieldH rfl) rfl ?_ | refine LOps.pure (Pure.loadH (c := .atom _) rfl (List.Mem.head _) rfl) rfl ?_
   refine LOps.step (S.fn [_] rfl (Level_spec nVar) ?_) rfl
   repeat first | refine LOps.nil ?_ | refine LCode.seq ?_ | refine LCode.region ?_ | refine QThen.normal ?_ | refine LOps.pure (Pure.as (lv := .atom _) rfl) rfl ?_ | refine LOps.pure (Pure.mv (lv := .atom _) rfl) rfl ?_ | refine LOps.pure (Pure.eql rfl rfl) rfl ?_
   refine LCode.cond rfl (fun _ => ?_) (fun h => absurd h (by decide))
   repeat first | refine LOps.nil ?_ | refine LCode.seq ?_ | refine LCode.region ?_ | refine LCode.ret ?_ | refine QThen.normal ?_ | refine QThen.ret ?_ | refine LOps.pure (Pure.as (lv := .atom _) rfl) rfl ?_ | refine LOps.pure (Pure.fieldH rfl) rfl ?_ | refine LOps.pure (Pure.loadH (c := .atom _) rfl (List.Mem.head _) rfl) rfl ?_
   exact retRet rfl (AllRes.cons (ResIs.tmp (v := .atom _) rfl (LV.Sub.refl _)) AllRes.nil) rfl
  | elem h ha =>
   rename_i s a t1 d1
   simp only [nEx, nExs] at hn
   simp only [List.length_cons, List.length_append, List.length_nil] at hsz
   have hln := h.len
   obtain ⟨la1, _⟩ := pe_len (by omega) ha (by omega)
   have hT := Text_spec n a (by omega) _ _ _ (by omega) ha (by omega)
   have ga := arg_spec (B0 := B0) (w0 := w0) (.mk nElem 0 s [a]) 0 a rfl (by simp [exArgs])
   rw [encE_mk] at ga
   rw [encE_mk, fE_elem]
   refine LCalls.intro Tryz.func91 rfl (n := 69) rfl rfl rfl ?_
   repeat first | refine LCode.seq ?_ | refine LCode.region ?_
   refine LOps.step (S.box (cs := [str nElem, int .u32 0, str s, .list ([a].map encE)]) rfl fun b1 => ?_) rfl
   repeat first | refine LOps.nil ?_ | refine LCode.seq ?_ | refine LCode.region ?_ | refine LCode.block ?_ | refine QThen.normal ?_ | refine LOps.pure (Pure.as (lv := .atom _) rfl) rfl ?_ | refine LOps.pure (Pure.fieldH rfl) rfl ?_ | refine LOps.pure (Pure.loadH (c := .atom _) rfl (List.Mem.head _) rfl) rfl ?_ | refine LOps.pure (Pure.seq rfl rfl) rfl ?_
   refine LCode.cond rfl (fun h => absurd h (by decide)) (fun _ => ?_)
   repeat first | refine LOps.nil ?_ | refine LCode.seq ?_ | refine LCode.region ?_ | refine QThen.normal ?_ | refine LOps.pure (Pure.as (lv := .atom _) rfl) rfl ?_ | refine LOps.pure (Pure.seq rfl rfl) rfl ?_
   refine LCode.cond rfl (fun _ => ?_) (fun h => absurd h (by decide))
   repeat first | refine LCode.seq ?_
   refine LCode.draw (m := 9) rfl [(b1, .cells 38 [str nElem, int .u32 0, str s, .list ([a].map encE)])] ?_
   refine LAny.tk 0 rfl rfl (Pure.fieldH rfl) ?_
   refine LAny.tk 1 rfl rfl (Pure.loadH (c := .atom _) rfl (List.Mem.head _) rfl) ?_
   refine LAny.tk 2 rfl rfl (Pure.sadd rfl rfl (by first | omega | (simp only [List.length_append, List.length_cons, List.length_nil]; omega))) ?_
   refine LAny.tk 3 rfl rfl (Pure.ldHAgg (cs' := [_, _, _, _]) rfl (List.Mem.head _) rfl rfl) ?_
   refine LAny.late ?_ (HSub.pick Pick.here (HSub.nil _))
   refine LLate.o 4 (LLateOp.step (H1 := []) rfl (.inl rfl) rfl (List.Perm.refl _) (HSub.pick Pick.here (HSub.nil _)) (S.fn [_, _] rfl ga ?_))
   refine LLate.o 5 (LLateOp.step (H1 := []) rfl (.inl rfl) rfl (List.Perm.refl _) (HSub.pick Pick.here (HSub.nil _)) (S.fn [_] rfl hT ?_))
   refine LLate.o 6 (LLateOp.pureH rfl rfl (Pure.sadd rfl rfl (by simp only [List.length_append, List.length_cons, List.length_nil]; omega)) ?_)
   refine LLate.o 7 (LLateOp.pureH rfl rfl (Pure.sadd rfl rfl (by simp only [List.length_append, List.length_cons, List.length_nil]; omega)) ?_)
   refine LLate.o 8 (LLateOp.pureH rfl rfl (Pure.as (lv := .atom _) rfl) ?_)
   refine LLate.done (by kernel_rfl) ?_
   repeat first | refine LCode.ret ?_ | refine QThen.normal ?_ | refine QThen.ret ?_ | refine QBlock.ret ?_
   exact retRet rfl (AllRes.cons (ResIs.tmp (v := .atom _) rfl (LV.Sub.refl _)) AllRes.nil) rfl
  | call h ha =>
   rename_i s l t1 d1
   simp only [nEx] at hn
   simp only [List.length_cons, List.length_append, List.length_nil] at hsz
   have hln := h.len
   have hjl := list_size l t1 d1 (fun x _ => ze x) ha
   have hll := pes_len l t1 d1 ha
   have hT := rlist_spec (B0 := B0) (w0 := w0) l (by omega) (by omega) fun x hx => by
    obtain ⟨t, d', h1, h2⟩ := pes_mem l t1 d1 ha x hx
    exact Text_spec n x (by have := nExs_mem hx; omega) _ _ _ (by omega) h1 (by omega)
   rw [encE_mk, fE_call]
   refine LCalls.intro Tryz.func91 rfl (n := 69) rfl rfl rfl ?_
   repeat first | refine LCode.seq ?_ | refine LCode.region ?_
   refine LOps.step (S.box (cs := [str nCall, int .u32 0, str s, .list (l.map encE)]) rfl fun b1 => ?_) rfl
   repeat first | refine LOps.nil ?_ | refine LCode.seq ?_ | refine LCode.region ?_ | refine LCode.block ?_ | refine QThen.normal ?_ | refine LOps.pure (Pure.as (lv := .atom _) rfl) rfl ?_ | refine LOps.pure (Pure.fieldH rfl) rfl ?_ | refine LOps.pure (Pure.loadH (c := .atom _) rfl (List.Mem.head _) rfl) rfl ?_ | refine LOps.pure (Pure.seq rfl rfl) rfl ?_
   refine LCode.cond rfl (fun h => absurd h (by decide)) (fun _ => ?_)
   repeat first | refine LOps.nil ?_ | refine LCode.seq ?_ | refine LCode.region ?_ | refine QThen.normal ?_ | refine LOps.pure (Pure.as (lv := .atom _) rfl) rfl ?_ | refine LOps.pure (Pure.seq rfl rfl) rfl ?_
   refine LCode.cond rfl (fun h => absurd h (by decide)) (fun _ => ?_)
   repeat first | refine LOps.nil ?_ | refine LCode.seq ?_ | refine LCode.region ?_ | refine QThen.normal ?_ | refine LOps.pure (Pure.as (lv := .atom _) rfl) rfl ?_ | refine LOps.pure (Pure.seq rfl rfl) rfl ?_
   refine LCode.cond rfl (fun _ => ?_) (fun h => absurd h (by decide))
   repeat first | refine LCode.seq ?_
   refine LCode.draw (m := 9) rfl [(b1, .cells 38 [str nCall, int .u32 0, str s, .list (l.map encE)])] ?_
   refine LAny.tk 0 rfl rfl (Pure.fieldH rfl) ?_
   refine LAny.tk 1 rfl rfl (Pure.loadH (c := .atom _) rfl (List.Mem.head _) rfl) ?_
   refine LAny.tk 2 rfl rfl (Pure.sadd rfl rfl (by first | omega | (simp only [List.length_append, List.length_cons, List.length_nil]; omega))) ?_
   refine LAny.tk 3 rfl rfl (Pure.fieldH rfl) ?_
   refine LAny.tk 4 rfl rfl (Pure.loadH (c := .list _) rfl (List.Mem.head _) rfl) ?_
   refine LAny.late ?_ (HSub.pick Pick.here (HSub.nil _))
   refine LLate.o 5 (LLateOp.step (H1 := []) rfl (.inl rfl) rfl (List.Perm.refl _) (HSub.pick Pick.here (HSub.nil _)) (S.fn [_] rfl hT ?_))
   refine LLate.o 6 (LLateOp.pureH rfl rfl (Pure.sadd rfl rfl (by simp only [List.length_append, List.length_cons, List.length_nil]; omega)) ?_)
   refine LLate.o 7 (LLateOp.pureH rfl rfl (Pure.sadd rfl rfl (by simp only [List.length_append, List.length_cons, List.length_nil]; omega)) ?_)
   refine LLate.o 8 (LLateOp.pureH rfl rfl (Pure.as (lv := .atom _) rfl) ?_)
   refine LLate.done (by kernel_rfl) ?_
   repeat first | refine LCode.ret ?_ | refine QThen.normal ?_ | refine QThen.ret ?_ | refine QBlock.ret ?_
   exact retRet rfl (AllRes.cons (ResIs.tmp (v := .atom _) rfl (LV.Sub.refl _)) AllRes.nil) rfl
  | neg ha =>
   rename_i a t1 d1
   simp only [nEx, nExs] at hn
   simp only [List.length_cons] at hsz
   obtain ⟨la1, la2⟩ := pe_len (by omega) ha (by omega)
   have sa := roperand_spec (B0 := B0) (w0 := w0) a 6 (by omega) (Text_spec n a (by omega) _ _ _ (by omega) ha (by omega))
   have ga := arg_spec (B0 := B0) (w0 := w0) (.mk nNeg 0 [] [a]) 0 a rfl (by simp [exArgs])
   rw [encE_mk] at ga
   rw [encE_mk, fE_neg]
   refine LCalls.intro Tryz.func91 rfl (n := 69) rfl rfl rfl ?_
   repeat first | refine LCode.seq ?_ | refine LCode.region ?_
   refine LOps.step (S.box (cs := [str nNeg, int .u32 0, str [], .list ([a].map encE)]) rfl fun b1 => ?_) rfl
   repeat first | refine LOps.nil ?_ | refine LCode.seq ?_ | refine LCode.region ?_ | refine LCode.block ?_ | refine QThen.normal ?_ | refine LOps.pure (Pure.as (lv := .atom _) rfl) rfl ?_ | refine LOps.pure (Pure.fieldH rfl) rfl ?_ | refine LOps.pure (Pure.loadH (c := .atom _) rfl (List.Mem.head _) rfl) rfl ?_ | refine LOps.pure (Pure.seq rfl rfl) rfl ?_
   refine LCode.cond rfl (fun h => absurd h (by decide)) (fun _ => ?_)
   repeat first | refine LOps.nil ?_ | refine LCode.seq ?_ | refine LCode.region ?_ | refine QThen.normal ?_ | refine LOps.pure (Pure.as (lv := .atom _) rfl) rfl ?_ | refine LOps.pure (Pure.seq rfl rfl) rfl ?_
   refine LCode.cond rfl (fun h => absurd h (by decide)) (fun _ => ?_)
   repeat first | refine LOps.nil ?_ | refine LCode.seq ?_ | refine LCode.region ?_ | refine QThen.normal ?_ | refine LOps.pure (Pure.as (lv := .atom _) rfl) rfl ?_ | refine LOps.pure (Pure.seq rfl rfl) rfl ?_
   refine LCode.cond rfl (fun h => absurd h (by decide)) (fun _ => ?_)
   repeat first | refine LOps.nil ?_ | refine LCode.seq ?_ | refine LCode.region ?_ | refine QThen.normal ?_ | refine LOps.pure (Pure.as (lv := .atom _) rfl) rfl ?_ | refine LOps.pure (Pure.seq rfl rfl) rfl ?_
   refine LCode.cond rfl (fun _ => ?_) (fun h => absurd h (by decide))
   repeat first | refine LCode.seq ?_ | refine LCode.region ?_ | refine LOps.pure (Pure.ldHAgg (cs' := [_, _, _, _]) rfl (List.Mem.head _) rfl rfl) rfl ?_
   refine LOps.step (S.fn [_, _] rfl ga ?_) rfl
   refine LOps.step (S.fn [_, _] rfl sa ?_) rfl
   repeat first | refine LOps.nil ?_ | refine LCode.ret ?_ | refine QThen.normal ?_ | refine QThen.ret ?_ | refine QBlock.ret ?_ | refine LOps.pure (Pure.as (lv := .atom _) rfl) rfl ?_ | refine LOps.pure (Pure.sadd rfl rfl (by first | omega | (simp only [List.length_append, List.length_cons, List.length_nil]; omega))) rfl ?_
   exact retRet rfl (AllRes.cons (ResIs.tmp (v := .atom _) rfl (LV.Sub.refl _)) AllRes.nil) rfl
  | not ha =>
   rename_i a t1 d1
   simp only [nEx, nExs] at hn
   simp only [List.length_cons] at hsz
   obtain ⟨la1, la2⟩ := pe_len (by omega) ha (by omega)
   have sa := roperand_spec (B0 := B0) (w0 := w0) a 6 (by omega) (Text_spec n a (by omega) _ _ _ (by omega) ha (by omega))
   have ga := arg_spec (B0 := B0) (w0 := w0) (.mk nNot 0 [] [a]) 0 a rfl (by simp [exArgs])
   rw [encE_mk] at ga
   rw [encE_mk, fE_not]
   refine LCalls.intro Tryz.func91 rfl (n := 69) rfl rfl rfl ?_
   repeat first | refine LCode.seq ?_ | refine LCode.region ?_
   refine LOps.step (S.box (cs := [str nNot, int .u32 0, str [], .list ([a].map encE)]) rfl fun b1 => ?_) rfl
   repeat first | refine LOps.nil ?_ | refine LCode.seq ?_ | refine LCode.region ?_ | refine LCode.block ?_ | refine QThen.normal ?_ | refine LOps.pure (Pure.as (lv := .atom _) rfl) rfl ?_ | refine LOps.pure (Pure.fieldH rfl) rfl ?_ | refine LOps.pure (Pure.loadH (c := .atom _) rfl (List.Mem.head _) rfl) rfl ?_ | refine LOps.pure (Pure.seq rfl rfl) rfl ?_
   refine LCode.cond rfl (fun h => absurd h (by decide)) (fun _ => ?_)
   repeat first | refine LOps.nil ?_ | refine LCode.seq ?_ | refine LCode.region ?_ | refine QThen.normal ?_ | refine LOps.pure (Pure.as (lv := .atom _) rfl) rfl ?_ | refine LOps.pure (Pure.seq rfl rfl) rfl ?_
   refine LCode.cond rfl (fun h => absurd h (by decide)) (fun _ => ?_)
   repeat first | refine LOps.nil ?_ | refine LCode.seq ?_ | refine LCode.region ?_ | refine QThen.normal ?_ | refine LOps.pure (Pure.as (lv := .atom _) rfl) rfl ?_ | refine LOps.pure (Pure.seq rfl rfl) rfl ?_
   refine LCode.cond rfl (fun h => absurd h (by decide)) (fun _ => ?_)
   repeat first | refine LOps.nil ?_ | refine LCode.seq ?_ | refine LCode.region ?_ | refine QThen.normal ?_ | refine LOps.pure (Pure.as (lv := .atom _) rfl) rfl ?_ | refine LOps.pure (Pure.seq rfl rfl) rfl ?_
   refine LCode.cond rfl (fun h => absurd h (by decide)) (fun _ => ?_)
   repeat first | refine LOps.nil ?_ | refine LCode.seq ?_ | refine LCode.region ?_ | refine QThen.normal ?_ | refine LOps.pure (Pure.as (lv := .atom _) rfl) rfl ?_ | refine LOps.pure (Pure.seq rfl rfl) rfl ?_
   refine LCode.cond rfl (fun _ => ?_) (fun h => absurd h (by decide))
   repeat first | refine LCode.seq ?_ | refine LCode.region ?_ | refine LOps.pure (Pure.ldHAgg (cs' := [_, _, _, _]) rfl (List.Mem.head _) rfl rfl) rfl ?_
   refine LOps.step (S.fn [_, _] rfl ga ?_) rfl
   refine LOps.step (S.fn [_, _] rfl sa ?_) rfl
   repeat first | refine LOps.nil ?_ | refine LCode.ret ?_ | refine QThen.normal ?_ | refine QThen.ret ?_ | refine QBlock.ret ?_ | refine LOps.pure (Pure.as (lv := .atom _) rfl) rfl ?_ | refine LOps.pure (Pure.sadd rfl rfl (by first | omega | (simp only [List.length_append, List.length_cons, List.length_nil]; omega))) rfl ?_
   exact retRet rfl (AllRes.cons (ResIs.tmp (v := .atom _) rfl (LV.Sub.refl _)) AllRes.nil) rfl
  | par hs ho hk2 ha hb =>
   simp only [List.length_append, List.length_cons, List.length_nil] at hsz
   exact bin hn hs ho ha hb (by omega) (by omega)
  | bin hs ho hk2 ha hb =>
   simp only [List.length_append, List.length_cons, List.length_nil] at hsz
   exact bin hn hs ho ha hb (by omega) (by omega)
end
end Go.Proofs.YtfodkbchknknjaaGreatDoor
namespace Go.Proofs.YtfodkbchknknjaaGreatDoor
open Go.GL Go.RowKit Go.Stele
set_option maxRecDepth 100000
set_option maxHeartbeats 4000000
theorem pss_get : ∀ (l : List Sm) (ts : List KT) (d : Nat), PSs l ts d → ∀ (i : Nat) (h : i < l.length), ∃ t d', PS l[i] t d' ∧ t.length ≤ ts.length
 | [], _, _, _, i, h => absurd h (Nat.not_lt_zero _)
 | a :: l, ts, d, hp, i, h => by
  cases hp with
  | cons h1 h2 =>
   cases i with
   | zero => exact ⟨_, _, h1, by simp only [List.length_append]; omega⟩
   | succ i =>
    obtain ⟨t, d', g1, g2⟩ := pss_get l _ _ h2 i (by simpa using h)
    exact ⟨t, d', g1, by simp only [List.length_append]; omega⟩
attribute [local irreducible] LOps LCode LStep LCalls Go.GL.Pure QThen QBlock RetPost LQ LAny LLate LLateOp
section
variable {B0 : Nat} {w0 : World}
theorem rjoin_spec (l : List (List UInt8)) (hn : l.length ≤ 1000000000) (hl : (Go.Lib.join l comSp).length ≤ 1000000000) : LCalls (KC B0 w0) 56 [.list (l.map str)] [] (Ret (str (Go.Lib.join l comSp))) := by
 have hla : (l.map str).length = l.length := List.length_map _
 refine LCalls.intro Tryz.func56 rfl (n := 22) rfl rfl rfl ?_
 repeat first | refine LOps.nil ?_ | refine LCode.seq ?_ | refine LCode.region ?_ | refine LCode.block ?_ | refine QThen.normal ?_ | refine LOps.pure (Pure.as (lv := .atom _) rfl) rfl ?_
 refine LCode.loopI (fun k ls H => ∃ (i : Nat), i ≤ l.length ∧ k = l.length - i ∧ ls = [(0, .list (l.map str)), (3, str (Go.Lib.join (l.take i) comSp)), (4, int .i64 i)] ∧ H = [])
  ⟨_, _, _, ⟨0, Nat.zero_le _, rfl, rfl, rfl⟩, ⟨rfl, rfl, rfl, trivial⟩, HSub.refl _⟩ ?_
 rintro k ls H ⟨i, hi, rfl, rfl, rfl⟩ j hj
 repeat first | refine LOps.nil ?_ | refine LCode.seq ?_ | refine LCode.region ?_ | refine QThen.normal ?_ | refine LOps.pure (Pure.mv (lv := .atom _) rfl) rfl ?_ | refine LOps.pure (Pure.mv (lv := .list _) rfl) rfl ?_ | refine LOps.pure (Pure.llen rfl) rfl ?_ | refine LOps.pure (Pure.lss rfl rfl) rfl ?_
 refine LCode.cond rfl (fun hc => ?_) (fun hc => ?_)
 ·have hlt : i < l.length := by have := of_decide_eq_true hc; omega
  have hjt := join_take hlt
  have hjl := join_take_len (l := l) (i := i)
  have hjl2 := join_take_len (l := l) (i := i + 1)
  repeat first | refine LOps.nil ?_ | refine LCode.seq ?_ | refine LCode.region ?_ | refine LCode.skip ?_ | refine LCode.block ?_ | refine QThen.normal ?_ | refine LOps.pure (Pure.mv (lv := .atom _) rfl) rfl ?_ | refine LOps.pure (Pure.gtr rfl rfl) rfl ?_
  refine LCode.cut [(0, .list (l.map str)), (3, str (if 0 < i then Go.Lib.join (l.take i) comSp ++ comSp else [])), (4, int .i64 i)] ?_ (fun j2 hj2 => ?_)
  ·refine LCode.cond rfl (fun h1 => ?_) (fun h1 => ?_)
   ·have h1' : 0 < i := by have := of_decide_eq_true h1; omega
    repeat first | refine LOps.nil ?_ | refine LCode.region ?_ | refine QThen.normal ?_ | refine LOps.pure (Pure.as (lv := .atom _) rfl) rfl ?_ | refine LOps.pure (Pure.mv (lv := .atom _) rfl) rfl ?_ | refine LOps.pure (Pure.sadd rfl rfl (by first | omega | (simp only [List.length_append, List.length_cons, List.length_nil]; omega))) rfl ?_
    exact ⟨⟨rfl, str_eq (by rw [if_pos h1']; rfl), rfl, trivial⟩, rfl, rfl⟩
   ·have h1' : ¬ 0 < i := by have := of_decide_eq_false h1; omega
    repeat first | refine LCode.skip ?_ | refine QThen.normal ?_
    have h0 : i = 0 := by omega
    subst h0
    exact ⟨⟨rfl, str_eq (by rw [if_neg h1']; rfl), rfl, trivial⟩, rfl, rfl⟩
  have hsz : (if 0 < i then Go.Lib.join (l.take i) comSp ++ comSp else []).length + (l[i]).length = (Go.Lib.join (l.take (i + 1)) comSp).length := by
   rw [hjt]
   split
   ·simp only [List.length_append]; omega
   ·simp
  generalize hw : (if 0 < i then Go.Lib.join (l.take i) comSp ++ comSp else []) = w at hsz
  repeat first | refine LCode.region ?_ | refine LOps.pure (Pure.mv (lv := .atom _) rfl) rfl ?_ | refine LOps.pure (Pure.mv (lv := .list _) rfl) rfl ?_
  refine LOps.pure (Pure.ixRef (el' := str l[i]) (cs := [str l[i]]) rfl rfl (by omega) (map_get _ _ _ hlt) rfl rfl) rfl ?_
  repeat first | refine LOps.nil ?_ | refine LCode.region ?_ | refine QThen.normal ?_ | refine QBlock.normal ?_ | refine LOps.pure (Pure.as (lv := .atom _) rfl) rfl ?_ | refine LOps.pure (Pure.mv (lv := .atom _) rfl) rfl ?_ | refine LOps.pure (Pure.sadd rfl rfl (by first | omega | (simp only [List.length_append, List.length_cons, List.length_nil]; omega))) rfl ?_ | refine LOps.pure (Pure.loadRef (c := .atom _) rfl rfl) rfl ?_ | refine LOps.pure (Pure.add rfl rfl (by omega)) rfl ?_
  exact ⟨_, _, _, by omega, ⟨i + 1, by omega, rfl, rfl, rfl⟩, ⟨rfl, str_eq (by
   rw [hjt, ← hw]
   split
   ·rw [List.append_assoc]
   ·rfl), int_eq (by omega), trivial⟩, HSub.refl _, hj2.trans hj⟩
 ·have hi' : i = l.length := by have := of_decide_eq_false hc; omega
  subst hi'
  rw [List.take_length]
  repeat first | refine LOps.nil ?_ | refine LCode.seq ?_ | refine LCode.region ?_ | refine LCode.ret ?_ | refine LCode.exit ?_ | refine QThen.normal ?_ | refine QThen.exit ?_ | refine QBlock.hit ?_ | refine LOps.pure (Pure.as (lv := .atom _) rfl) rfl ?_ | refine LOps.pure (Pure.mv (lv := .atom _) rfl) rfl ?_
  exact retRet hj (AllRes.cons (ResIs.tmp (v := .atom _) rfl (LV.Sub.refl _)) AllRes.nil) rfl
theorem first_spec (a : Ex) (r : List Ex) (hn : r.length ≤ 1000000000) : LCalls (KC B0 w0) 92 [.list ((a :: r).map encE)] [] (Ret (encE a)) := by
 have hl : ((a :: r).map encE).length = r.length + 1 := by simp
 have hg : ((a :: r).map encE)[0]? = some (encE a) := rfl
 obtain ⟨o2, n2, m2, r2⟩ := a
 rw [encE_mk] at hg ⊢
 generalize ((Ex.mk o2 n2 m2 r2 :: r).map encE) = L at hl hg ⊢
 refine LCalls.intro Tryz.func92 rfl (n := 10) rfl rfl rfl ?_
 repeat first | refine LCode.seq ?_ | refine LCode.region ?_
 refine LOps.step (S.alloc fun b2 => ?_) rfl
 repeat first | refine LOps.nil ?_ | refine LCode.seq ?_ | refine LCode.region ?_ | refine QThen.normal ?_ | refine LOps.pure (Pure.mv (lv := .list _) rfl) rfl ?_ | refine LOps.pure (Pure.llen rfl) rfl ?_ | refine LOps.pure (Pure.gtr rfl rfl) rfl ?_
 refine LCode.cond rfl (fun hd => ?_) (fun hd => ?_)
 ·repeat first | refine LCode.seq ?_ | refine LCode.region ?_ | refine LOps.pure (Pure.mv (lv := .list _) rfl) rfl ?_
  refine LOps.pure (Pure.ixRef (el' := .agg [str o2, int .u32 n2, str m2, .list (r2.map encE)]) (cs := [_, _, _, _]) rfl rfl (by omega) hg rfl rfl) rfl ?_
  repeat first | refine LOps.nil ?_ | refine LCode.ret ?_ | refine QThen.normal ?_ | refine QThen.ret ?_ | refine LOps.pure (Pure.ldRefAgg (cs' := [_, _, _, _]) rfl rfl rfl) rfl ?_ | refine LOps.step (S.store (cs' := [_, _, _, _]) rfl Pick.here rfl rfl rfl rfl rfl ?_) rfl
  exact retRet rfl (AllRes.cons (ResIs.cellAgg rfl (List.Mem.head _) rfl (LV.Sub.refl _)) AllRes.nil) rfl
 ·have := of_decide_eq_false hd
  omega
theorem first_none : LCalls (KC B0 w0) 92 [.list []] [] (Ret (.agg [str [], int .u32 0, str [], nilSlice])) := by
 refine LCalls.intro Tryz.func92 rfl (n := 10) rfl rfl rfl ?_
 repeat first | refine LCode.seq ?_ | refine LCode.region ?_
 refine LOps.step (S.alloc fun b2 => ?_) rfl
 repeat first | refine LOps.nil ?_ | refine LCode.seq ?_ | refine LCode.region ?_ | refine QThen.normal ?_ | refine LOps.pure (Pure.mv (lv := .list _) rfl) rfl ?_ | refine LOps.pure (Pure.llen rfl) rfl ?_ | refine LOps.pure (Pure.gtr rfl rfl) rfl ?_
 refine LCode.cond rfl (fun hd => absurd hd (by decide)) (fun hd => ?_)
 repeat first | refine LOps.nil ?_ | refine LCode.seq ?_ | refine LCode.region ?_ | refine LCode.skip ?_ | refine LCode.ret ?_ | refine QThen.normal ?_ | refine LOps.pure (Pure.bld _ (cs := [_, _, _, _]) rfl) rfl ?_ | refine LOps.step (S.store (cs' := [_, _, _, _]) rfl Pick.here rfl rfl rfl rfl rfl ?_) rfl
 exact retRet rfl (AllRes.cons (ResIs.cellAgg rfl (List.Mem.head _) rfl (LV.Sub.refl _)) AllRes.nil) rfl
theorem Text_none : LCalls (KC B0 w0) 91 [.agg [str [], int .u32 0, str [], nilSlice]] [] (Ret (str [])) := by
 refine LCalls.intro Tryz.func91 rfl (n := 69) rfl rfl rfl ?_
 repeat first | refine LCode.seq ?_ | refine LCode.region ?_
 refine LOps.step (S.box (cs := [str [], int .u32 0, str [], nilSlice]) rfl fun b1 => ?_) rfl
 repeat first | refine LOps.nil ?_ | refine LCode.seq ?_ | refine LCode.region ?_ | refine LCode.block ?_ | refine QThen.normal ?_ | refine LOps.pure (Pure.as (lv := .atom _) rfl) rfl ?_ | refine LOps.pure (Pure.fieldH rfl) rfl ?_ | refine LOps.pure (Pure.loadH (c := .atom _) rfl (List.Mem.head _) rfl) rfl ?_ | refine LOps.pure (Pure.seq rfl rfl) rfl ?_
 refine LCode.cond rfl (fun h => absurd h (by decide)) (fun _ => ?_)
 repeat first | refine LOps.nil ?_ | refine LCode.seq ?_ | refine LCode.region ?_ | refine QThen.normal ?_ | refine LOps.pure (Pure.as (lv := .atom _) rfl) rfl ?_ | refine LOps.pure (Pure.seq rfl rfl) rfl ?_
 refine LCode.cond rfl (fun h => absurd h (by decide)) (fun _ => ?_)
 repeat first | refine LOps.nil ?_ | refine LCode.seq ?_ | refine LCode.region ?_ | refine QThen.normal ?_ | refine LOps.pure (Pure.as (lv := .atom _) rfl) rfl ?_ | refine LOps.pure (Pure.seq rfl rfl) rfl ?_
 refine LCode.cond rfl (fun h => absurd h (by decide)) (fun _ => ?_)
 repeat first | refine LOps.nil ?_ | refine LCode.seq ?_ | refine LCode.region ?_ | refine QThen.normal ?_ | refine LOps.pure (Pure.as (lv := .atom _) rfl) rfl ?_ | refine LOps.pure (Pure.seq rfl rfl) rfl ?_
 refine LCode.cond rfl (fun h => absurd h (by decide)) (fun _ => ?_)
 repeat first | refine LOps.nil ?_ | refine LCode.seq ?_ | refine LCode.region ?_ | refine QThen.normal ?_ | refine LOps.pure (Pure.as (lv := .atom _) rfl) rfl ?_ | refine LOps.pure (Pure.seq rfl rfl) rfl ?_
 refine LCode.cond rfl (fun h => absurd h (by decide)) (fun _ => ?_)
 repeat first | refine LCode.seq ?_ | refine LCode.region ?_ | refine LCode.skip ?_ | refine QThen.normal ?_ | refine QBlock.normal ?_ | refine LOps.pure (Pure.fieldH rfl) rfl ?_ | refine LOps.pure (Pure.loadH (c := .atom _) rfl (List.Mem.head _) rfl) rfl ?_
 refine LOps.step (S.fn [_] rfl (Level_spec []) ?_) rfl
 repeat first | refine LOps.nil ?_ | refine LCode.seq ?_ | refine LCode.region ?_ | refine QThen.normal ?_ | refine LOps.pure (Pure.as (lv := .atom _) rfl) rfl ?_ | refine LOps.pure (Pure.mv (lv := .atom _) rfl) rfl ?_ | refine LOps.pure (Pure.eql rfl rfl) rfl ?_
 refine LCode.cond rfl (fun _ => ?_) (fun h => absurd h (by decide))
 repeat first | refine LOps.nil ?_ | refine LCode.seq ?_ | refine LCode.region ?_ | refine LCode.ret ?_ | refine QThen.normal ?_ | refine QThen.ret ?_ | refine LOps.pure (Pure.as (lv := .atom _) rfl) rfl ?_ | refine LOps.pure (Pure.fieldH rfl) rfl ?_ | refine LOps.pure (Pure.loadH (c := .atom _) rfl (List.Mem.head _) rfl) rfl ?_
 exact retRet rfl (AllRes.cons (ResIs.tmp (v := .atom _) rfl (LV.Sub.refl _)) AllRes.nil) rfl
theorem text_of {e : Ex} {k : Nat} {ts : List KT} {d : Nat} (hk : k ≤ 6) (hp : PE e k ts d) (hs : ts.length ≤ 100000) : LCalls (KC B0 w0) 91 [encE e] [] (Ret (str (fE e))) := Text_spec _ e (Nat.le_refl _) k ts d hk hp hs
theorem rlines_step (n : Nat) (ih : ∀ (l : List Sm) (ts : List KT) (d : Nat) (ind : List UInt8), nSms l < n → PSs l ts d → ts.length ≤ 100000 → (fSs ind l).length ≤ 1000000000 → LCalls (KC B0 w0) 58 [.list (l.map encS), str ind] [] (Ret (str (fSs ind l))))
  (l : List Sm) (ts : List KT) (d : Nat) (ind : List UInt8) (hn : nSms l ≤ n) (hn2 : n ≤ 1000000000) (hp : PSs l ts d) (hz : ts.length ≤ 100000) (hl : (fSs ind l).length ≤ 1000000000) :
  LCalls (KC B0 w0) 58 [.list (l.map encS), str ind] [] (Ret (str (fSs ind l))) := by
 have hla : (l.map encS).length = l.length := List.length_map _
 have hlen := nSms_lens l
 refine LCalls.intro Tryz.func58 rfl (n := 130) rfl rfl rfl ?_
 repeat first | refine LOps.nil ?_ | refine LCode.seq ?_ | refine LCode.region ?_ | refine LCode.block ?_ | refine QThen.normal ?_ | refine LOps.pure (Pure.as (lv := .atom _) rfl) rfl ?_
 refine LCode.loopI (fun k ls H => ∃ i, i ≤ l.length ∧ k = l.length - i ∧ ls = [(0, .list (l.map encS)), (1, str ind), (5, str (fSs ind (l.take i))), (6, int .i64 i)] ∧ H = [])
  ⟨_, _, _, ⟨0, Nat.zero_le _, rfl, rfl, rfl⟩, ⟨rfl, rfl, rfl, rfl, trivial⟩, HSub.refl _⟩ ?_
 rintro k ls H ⟨i, hi, rfl, rfl, rfl⟩ j hj
 repeat first | refine LOps.nil ?_ | refine LCode.seq ?_ | refine LCode.region ?_ | refine QThen.normal ?_ | refine LOps.pure (Pure.mv (lv := .atom _) rfl) rfl ?_ | refine LOps.pure (Pure.mv (lv := .list _) rfl) rfl ?_ | refine LOps.pure (Pure.llen rfl) rfl ?_ | refine LOps.pure (Pure.lss rfl rfl) rfl ?_
 refine LCode.cond rfl (fun hc => ?_) (fun hc => ?_)
 ·have hlt : i < l.length := by have := of_decide_eq_true hc; omega
  have hm := fSs_mem ind hlt
  have hne := nSms_mem (List.getElem_mem hlt)
  have hta := fSs_take ind hlt
  obtain ⟨t0, d0, hps, hzt⟩ := pss_get l ts d hp i hlt
  repeat first | refine LCode.seq ?_ | refine LCode.region ?_ | refine LCode.skip ?_ | refine LCode.block ?_ | refine QThen.normal ?_ | refine LOps.pure (Pure.mv (lv := .atom _) rfl) rfl ?_ | refine LOps.pure (Pure.mv (lv := .list _) rfl) rfl ?_
  refine LOps.pure (Pure.ixRef (el' := encS l[i]) (cs := [_, _, _, _, _, _]) rfl rfl (by omega) (map_get _ _ _ hlt) rfl rfl) rfl ?_
  repeat first | refine LOps.pure (Pure.ldRefAgg (cs' := [_, _, _, _, _, _]) rfl rfl rfl) rfl ?_
  refine LOps.step (S.alloc fun b7 => ?_) rfl
  repeat first | refine LOps.nil ?_ | refine LCode.seq ?_ | refine LCode.region ?_ | refine QThen.normal ?_ | refine LOps.pure (Pure.fieldH rfl) rfl ?_ | refine LOps.pure (Pure.loadH (c := .list _) rfl (List.Mem.head _) rfl) rfl ?_ | refine LOps.step (S.store (cs' := [_, _, _, _, _, _]) rfl Pick.here rfl rfl rfl rfl rfl ?_) rfl
  generalize l[i] = st at hm hne hta hps ⊢
  generalize fSs ind (l.take i) = out at hm hta ⊢
  cases hps with
  | assign hs he =>
   rename_i s e t1
   simp only [List.length_cons, List.length_append, List.length_nil] at hzt
   have hT := text_of (B0 := B0) (w0 := w0) (by omega) he (by omega)
   rw [fS_mk, fLine, if_pos rfl, fOne_one] at hm hta
   simp only [List.length_append, List.length_cons, List.length_nil] at hm
   have hnm : (smName (.mk 1 s [] [e] [] [])).length = s.length := rfl
   refine LOps.step (S.fn [_] rfl (first_spec e [] (by simp)) ?_) rfl
   refine LOps.step (S.fn [_] rfl hT ?_) rfl
   repeat first | refine LOps.nil ?_ | refine LCode.seq ?_ | refine LCode.region ?_ | refine LCode.block ?_ | refine QThen.normal ?_ | refine LOps.pure (Pure.as (lv := .atom _) rfl) rfl ?_ | refine LOps.pure (Pure.fieldH rfl) rfl ?_ | refine LOps.pure (Pure.loadH (c := .atom _) rfl (List.Mem.head _) rfl) rfl ?_ | refine LOps.pure (Pure.eql rfl rfl) rfl ?_
   refine LCode.cond rfl (fun _ => ?_) (fun h => by simp [smKind] at h)
   repeat first | refine LOps.nil ?_ | refine LCode.region ?_ | refine QThen.normal ?_ | refine QBlock.normal ?_ | refine LOps.pure (Pure.as (lv := .atom _) rfl) rfl ?_ | refine LOps.pure (Pure.mv (lv := .atom _) rfl) rfl ?_ | refine LOps.pure (Pure.fieldH rfl) rfl ?_ | refine LOps.pure (Pure.loadH (c := .atom _) rfl (List.Mem.head _) rfl) rfl ?_ | refine LOps.pure (Pure.sadd rfl rfl (by first | omega | (simp only [List.length_append, List.length_cons, List.length_nil]; omega))) rfl ?_ | refine LOps.pure (Pure.add rfl rfl (by omega)) rfl ?_
   exact ⟨_, _, _, by omega, ⟨i + 1, by omega, rfl, rfl, rfl⟩, ⟨rfl, rfl, str_eq (by rw [hta]; simp only [smName, List.append_assoc, List.cons_append, List.nil_append]), int_eq (by omega), trivial⟩, HSub.nil _, hj⟩
  | store hs hx he =>
   rename_i s x e t1 t2 d1 d2
   simp only [List.length_cons, List.length_append, List.length_nil] at hzt
   have hT := text_of (B0 := B0) (w0 := w0) (by omega) he (by omega)
   have hT2 := text_of (B0 := B0) (w0 := w0) (by omega) hx (by omega)
   rw [fS_mk, fLine, if_neg (by decide), if_pos rfl, fOne_one, fOne_one] at hm hta
   simp only [List.length_append, List.length_cons, List.length_nil] at hm
   have hnm : (smName (.mk 2 s [x] [e] [] [])).length = s.length := rfl
   refine LOps.step (S.fn [_] rfl (first_spec e [] (by simp)) ?_) rfl
   refine LOps.step (S.fn [_] rfl hT ?_) rfl
   repeat first | refine LOps.nil ?_ | refine LCode.seq ?_ | refine LCode.region ?_ | refine LCode.block ?_ | refine QThen.normal ?_ | refine LOps.pure (Pure.as (lv := .atom _) rfl) rfl ?_ | refine LOps.pure (Pure.fieldH rfl) rfl ?_ | refine LOps.pure (Pure.loadH (c := .atom _) rfl (List.Mem.head _) rfl) rfl ?_ | refine LOps.pure (Pure.eql rfl rfl) rfl ?_
   refine LCode.cond rfl (fun h => by simp [smKind] at h) (fun _ => ?_)
   repeat first | refine LOps.nil ?_ | refine LCode.seq ?_ | refine LCode.region ?_ | refine QThen.normal ?_ | refine LOps.pure (Pure.as (lv := .atom _) rfl) rfl ?_ | refine LOps.pure (Pure.eql rfl rfl) rfl ?_
   refine LCode.cond rfl (fun _ => ?_) (fun h => by simp [smKind] at h)
   refine LCode.draw (m := 17) rfl [(b7, .cells 80 [int .i64 2, str s, .list ([x].map encE), .list ([e].map encE), .list (encThen (.mk 2 s [x] [e] [] [])), .list (encElse (.mk 2 s [x] [e] [] []))])] ?_
   refine LAny.tk 0 rfl rfl (Pure.mv (lv := .atom _) rfl) ?_
   refine LAny.tk 1 rfl rfl (Pure.mv (lv := .atom _) rfl) ?_
   refine LAny.tk 2 rfl rfl (Pure.sadd rfl rfl (by first | omega | (simp only [List.length_append, List.length_cons, List.length_nil]; omega))) ?_
   refine LAny.tk 3 rfl rfl (Pure.fieldH rfl) ?_
   refine LAny.tk 4 rfl rfl (Pure.loadH (c := .atom _) rfl (List.Mem.head _) rfl) ?_
   refine LAny.tk 5 rfl rfl (Pure.sadd rfl rfl (by first | omega | (simp only [List.length_append, List.length_cons, List.length_nil]; omega))) ?_
   refine LAny.tk 6 rfl rfl (Pure.sadd rfl rfl (by first | omega | (simp only [List.length_append, List.length_cons, List.length_nil]; omega))) ?_
   refine LAny.tk 7 rfl rfl (Pure.fieldH rfl) ?_
   refine LAny.tk 8 rfl rfl (Pure.loadH (c := .list _) rfl (List.Mem.head _) rfl) ?_
   refine LAny.tk 13 rfl rfl (Pure.mv (lv := .atom _) rfl) ?_
   refine LAny.late ?_ (HSub.pick Pick.here (HSub.nil _))
   refine LLate.o 9 (LLateOp.step (H1 := []) rfl (.inl rfl) rfl (List.Perm.refl _) (HSub.pick Pick.here (HSub.nil _)) (S.fn [_] rfl (first_spec x [] (by simp)) ?_))
   refine LLate.o 10 (LLateOp.step (H1 := []) rfl (.inl rfl) rfl (List.Perm.refl _) (HSub.pick Pick.here (HSub.nil _)) (S.fn [_] rfl hT2 ?_))
   refine LLate.o 11 (LLateOp.pureH rfl rfl (Pure.sadd rfl rfl (by first | omega | (simp only [List.length_append, List.length_cons, List.length_nil]; omega))) ?_)
   refine LLate.o 12 (LLateOp.pureH rfl rfl (Pure.sadd rfl rfl (by first | omega | (simp only [List.length_append, List.length_cons, List.length_nil]; omega))) ?_)
   refine LLate.o 14 (LLateOp.pureH rfl rfl (Pure.sadd rfl rfl (by first | omega | (simp only [List.length_append, List.length_cons, List.length_nil]; omega))) ?_)
   refine LLate.o 15 (LLateOp.pureH rfl rfl (Pure.sadd rfl rfl (by first | omega | (simp only [List.length_append, List.length_cons, List.length_nil]; omega))) ?_)
   refine LLate.o 16 (LLateOp.pureH rfl rfl (Pure.as (lv := .atom _) rfl) ?_)
   refine LLate.done (by kernel_rfl) ?_
   repeat first | refine QThen.normal ?_ | refine QBlock.normal ?_
   repeat first | refine LOps.nil ?_ | refine LCode.region ?_ | refine QThen.normal ?_ | refine LOps.pure (Pure.as (lv := .atom _) rfl) rfl ?_ | refine LOps.pure (Pure.mv (lv := .atom _) rfl) rfl ?_ | refine LOps.pure (Pure.add rfl rfl (by omega)) rfl ?_
   exact ⟨_, _, _, by omega, ⟨i + 1, by omega, rfl, rfl, rfl⟩, ⟨rfl, rfl, str_eq (by rw [hta]; simp only [smName, List.append_assoc, List.cons_append, List.nil_append]), int_eq (by omega), trivial⟩, HSub.nil _, hj⟩
  | call hs hl2 =>
   rename_i s l2 t1 d1
   simp only [List.length_cons, List.length_append, List.length_nil] at hzt
   have hT := text_of (B0 := B0) (w0 := w0) (k := 0) (by omega) (PE.call hs hl2) (by simp only [List.length_cons, List.length_append, List.length_nil]; omega)
   rw [fS_mk, fLine, if_neg (by decide), if_neg (by decide), if_pos rfl, fOne_one] at hm hta
   simp only [List.length_append, List.length_cons, List.length_nil] at hm
   refine LOps.step (S.fn [_] rfl (first_spec (.mk nCall 0 s l2) [] (by simp)) ?_) rfl
   refine LOps.step (S.fn [_] rfl hT ?_) rfl
   repeat first | refine LOps.nil ?_ | refine LCode.seq ?_ | refine LCode.region ?_ | refine LCode.block ?_ | refine QThen.normal ?_ | refine LOps.pure (Pure.as (lv := .atom _) rfl) rfl ?_ | refine LOps.pure (Pure.fieldH rfl) rfl ?_ | refine LOps.pure (Pure.loadH (c := .atom _) rfl (List.Mem.head _) rfl) rfl ?_ | refine LOps.pure (Pure.eql rfl rfl) rfl ?_
   refine LCode.cond rfl (fun h => by simp [smKind] at h) (fun _ => ?_)
   repeat first | refine LOps.nil ?_ | refine LCode.seq ?_ | refine LCode.region ?_ | refine QThen.normal ?_ | refine LOps.pure (Pure.as (lv := .atom _) rfl) rfl ?_ | refine LOps.pure (Pure.eql rfl rfl) rfl ?_
   refine LCode.cond rfl (fun h => by simp [smKind] at h) (fun _ => ?_)
   repeat first | refine LOps.nil ?_ | refine LCode.seq ?_ | refine LCode.region ?_ | refine QThen.normal ?_ | refine LOps.pure (Pure.as (lv := .atom _) rfl) rfl ?_ | refine LOps.pure (Pure.eql rfl rfl) rfl ?_
   refine LCode.cond rfl (fun h => by simp [smKind] at h) (fun _ => ?_)
   repeat first | refine LOps.nil ?_ | refine LCode.seq ?_ | refine LCode.region ?_ | refine QThen.normal ?_ | refine LOps.pure (Pure.as (lv := .atom _) rfl) rfl ?_ | refine LOps.pure (Pure.eql rfl rfl) rfl ?_
   refine LCode.cond rfl (fun _ => ?_) (fun h => by simp [smKind] at h)
   repeat first | refine LOps.nil ?_ | refine LCode.region ?_ | refine QThen.normal ?_ | refine QBlock.normal ?_ | refine LOps.pure (Pure.as (lv := .atom _) rfl) rfl ?_ | refine LOps.pure (Pure.mv (lv := .atom _) rfl) rfl ?_ | refine LOps.pure (Pure.sadd rfl rfl (by first | omega | (simp only [List.length_append, List.length_cons, List.length_nil]; omega))) rfl ?_ | refine LOps.pure (Pure.add rfl rfl (by omega)) rfl ?_
   exact ⟨_, _, _, by omega, ⟨i + 1, by omega, rfl, rfl, rfl⟩, ⟨rfl, rfl, str_eq (by rw [hta]; simp only [smName, List.append_assoc, List.cons_append, List.nil_append]), int_eq (by omega), trivial⟩, HSub.nil _, hj⟩
  | ret he =>
   rename_i e t1
   simp only [List.length_cons, List.length_append, List.length_nil] at hzt
   have hT := text_of (B0 := B0) (w0 := w0) (by omega) he (by omega)
   rw [fS_mk, fLine, if_neg (by decide), if_neg (by decide), if_neg (by decide), if_pos rfl, fOne_one] at hm hta
   simp only [List.length_append, List.length_cons, List.length_nil] at hm
   refine LOps.step (S.fn [_] rfl (first_spec e [] (by simp)) ?_) rfl
   refine LOps.step (S.fn [_] rfl hT ?_) rfl
   repeat first | refine LOps.nil ?_ | refine LCode.seq ?_ | refine LCode.region ?_ | refine LCode.block ?_ | refine QThen.normal ?_ | refine LOps.pure (Pure.as (lv := .atom _) rfl) rfl ?_ | refine LOps.pure (Pure.fieldH rfl) rfl ?_ | refine LOps.pure (Pure.loadH (c := .atom _) rfl (List.Mem.head _) rfl) rfl ?_ | refine LOps.pure (Pure.eql rfl rfl) rfl ?_
   refine LCode.cond rfl (fun h => by simp [smKind] at h) (fun _ => ?_)
   repeat first | refine LOps.nil ?_ | refine LCode.seq ?_ | refine LCode.region ?_ | refine QThen.normal ?_ | refine LOps.pure (Pure.as (lv := .atom _) rfl) rfl ?_ | refine LOps.pure (Pure.eql rfl rfl) rfl ?_
   refine LCode.cond rfl (fun h => by simp [smKind] at h) (fun _ => ?_)
   repeat first | refine LOps.nil ?_ | refine LCode.seq ?_ | refine LCode.region ?_ | refine QThen.normal ?_ | refine LOps.pure (Pure.as (lv := .atom _) rfl) rfl ?_ | refine LOps.pure (Pure.eql rfl rfl) rfl ?_
   refine LCode.cond rfl (fun _ => ?_) (fun h => by simp [smKind] at h)
   repeat first | refine LOps.nil ?_ | refine LCode.region ?_ | refine QThen.normal ?_ | refine QBlock.normal ?_ | refine LOps.pure (Pure.as (lv := .atom _) rfl) rfl ?_ | refine LOps.pure (Pure.mv (lv := .atom _) rfl) rfl ?_ | refine LOps.pure (Pure.sadd rfl rfl (by first | omega | (simp only [List.length_append, List.length_cons, List.length_nil]; omega))) rfl ?_ | refine LOps.pure (Pure.add rfl rfl (by omega)) rfl ?_
   exact ⟨_, _, _, by omega, ⟨i + 1, by omega, rfl, rfl, rfl⟩, ⟨rfl, rfl, str_eq (by rw [hta]; simp only [smName, List.append_assoc, List.cons_append, List.nil_append]), int_eq (by omega), trivial⟩, HSub.nil _, hj⟩
  | halt =>
   rw [fS_mk, fLine, if_neg (by decide), if_neg (by decide), if_neg (by decide), if_neg (by decide), if_pos rfl] at hm hta
   simp only [List.length_append, List.length_cons, List.length_nil] at hm
   refine LOps.step (S.fn [_] rfl first_none ?_) rfl
   refine LOps.step (S.fn [_] rfl Text_none ?_) rfl
   repeat first | refine LOps.nil ?_ | refine LCode.seq ?_ | refine LCode.region ?_ | refine LCode.block ?_ | refine QThen.normal ?_ | refine LOps.pure (Pure.as (lv := .atom _) rfl) rfl ?_ | refine LOps.pure (Pure.fieldH rfl) rfl ?_ | refine LOps.pure (Pure.loadH (c := .atom _) rfl (List.Mem.head _) rfl) rfl ?_ | refine LOps.pure (Pure.eql rfl rfl) rfl ?_
   refine LCode.cond rfl (fun h => by simp [smKind] at h) (fun _ => ?_)
   repeat first | refine LOps.nil ?_ | refine LCode.seq ?_ | refine LCode.region ?_ | refine QThen.normal ?_ | refine LOps.pure (Pure.as (lv := .atom _) rfl) rfl ?_ | refine LOps.pure (Pure.eql rfl rfl) rfl ?_
   refine LCode.cond rfl (fun h => by simp [smKind] at h) (fun _ => ?_)
   repeat first | refine LOps.nil ?_ | refine LCode.seq ?_ | refine LCode.region ?_ | refine QThen.normal ?_ | refine LOps.pure (Pure.as (lv := .atom _) rfl) rfl ?_ | refine LOps.pure (Pure.eql rfl rfl) rfl ?_
   refine LCode.cond rfl (fun h => by simp [smKind] at h) (fun _ => ?_)
   repeat first | refine LOps.nil ?_ | refine LCode.seq ?_ | refine LCode.region ?_ | refine QThen.normal ?_ | refine LOps.pure (Pure.as (lv := .atom _) rfl) rfl ?_ | refine LOps.pure (Pure.eql rfl rfl) rfl ?_
   refine LCode.cond rfl (fun h => by simp [smKind] at h) (fun _ => ?_)
   repeat first | refine LOps.nil ?_ | refine LCode.seq ?_ | refine LCode.region ?_ | refine QThen.normal ?_ | refine LOps.pure (Pure.as (lv := .atom _) rfl) rfl ?_ | refine LOps.pure (Pure.eql rfl rfl) rfl ?_
   refine LCode.cond rfl (fun _ => ?_) (fun h => by simp [smKind] at h)
   repeat first | refine LOps.nil ?_ | refine LCode.region ?_ | refine QThen.normal ?_ | refine QBlock.normal ?_ | refine LOps.pure (Pure.as (lv := .atom _) rfl) rfl ?_ | refine LOps.pure (Pure.mv (lv := .atom _) rfl) rfl ?_ | refine LOps.pure (Pure.sadd rfl rfl (by first | omega | (simp only [List.length_append, List.length_cons, List.length_nil]; omega))) rfl ?_ | refine LOps.pure (Pure.add rfl rfl (by omega)) rfl ?_
   exact ⟨_, _, _, by omega, ⟨i + 1, by omega, rfl, rfl, rfl⟩, ⟨rfl, rfl, str_eq (by rw [hta]; simp only [smName, List.append_assoc, List.cons_append, List.nil_append]), int_eq (by omega), trivial⟩, HSub.nil _, hj⟩
  | ifElse he g1 g2 hne2 =>
   rename_i e th el t1 t2 t3 d1 d2 d3
   simp only [List.length_cons, List.length_append, List.length_nil] at hzt
   simp only [nSm] at hne
   have hT := text_of (B0 := B0) (w0 := w0) (by omega) he (by omega)
   have hem : el.isEmpty = false := by cases el <;> simp_all
   rw [fS_mk, fLine, if_neg (by decide), if_neg (by decide), if_neg (by decide), if_neg (by decide), if_neg (by decide), if_pos (by decide), if_neg (by decide), fOne_one, hem, if_neg (by decide)] at hm hta
   simp only [List.length_append, List.length_cons, List.length_nil] at hm
   have i1 := ih th t2 d2 (ind2 ind) (by omega) g1 (by omega) (by omega)
   have i2 := ih el t3 d3 (ind2 ind) (by omega) g2 (by omega) (by omega)
   rw [← show encThen (.mk 3 [] [] [e] th el) = th.map encS from encThen_eq _] at i1
   rw [← show encElse (.mk 3 [] [] [e] th el) = el.map encS from encElse_eq _] at i2
   have hel : (encElse (.mk 3 [] [] [e] th el)).length = el.length := by
    rw [encElse_eq, List.length_map]
    rfl
   have hepos : 0 < el.length := List.length_pos_iff.2 hne2
   refine LOps.step (S.fn [_] rfl (first_spec e [] (by simp)) ?_) rfl
   refine LOps.step (S.fn [_] rfl hT ?_) rfl
   repeat first | refine LOps.nil ?_ | refine LCode.seq ?_ | refine LCode.region ?_ | refine LCode.block ?_ | refine QThen.normal ?_ | refine LOps.pure (Pure.as (lv := .atom _) rfl) rfl ?_ | refine LOps.pure (Pure.fieldH rfl) rfl ?_ | refine LOps.pure (Pure.loadH (c := .atom _) rfl (List.Mem.head _) rfl) rfl ?_ | refine LOps.pure (Pure.eql rfl rfl) rfl ?_
   refine LCode.cond rfl (fun h => by simp [smKind] at h) (fun _ => ?_)
   repeat first | refine LOps.nil ?_ | refine LCode.seq ?_ | refine LCode.region ?_ | refine QThen.normal ?_ | refine LOps.pure (Pure.as (lv := .atom _) rfl) rfl ?_ | refine LOps.pure (Pure.eql rfl rfl) rfl ?_
   refine LCode.cond rfl (fun h => by simp [smKind] at h) (fun _ => ?_)
   repeat first | refine LOps.nil ?_ | refine LCode.seq ?_ | refine LCode.region ?_ | refine QThen.normal ?_ | refine LOps.pure (Pure.as (lv := .atom _) rfl) rfl ?_ | refine LOps.pure (Pure.eql rfl rfl) rfl ?_
   refine LCode.cond rfl (fun h => by simp [smKind] at h) (fun _ => ?_)
   repeat first | refine LOps.nil ?_ | refine LCode.seq ?_ | refine LCode.region ?_ | refine QThen.normal ?_ | refine LOps.pure (Pure.as (lv := .atom _) rfl) rfl ?_ | refine LOps.pure (Pure.eql rfl rfl) rfl ?_
   refine LCode.cond rfl (fun h => by simp [smKind] at h) (fun _ => ?_)
   repeat first | refine LOps.nil ?_ | refine LCode.seq ?_ | refine LCode.region ?_ | refine QThen.normal ?_ | refine LOps.pure (Pure.as (lv := .atom _) rfl) rfl ?_ | refine LOps.pure (Pure.eql rfl rfl) rfl ?_
   refine LCode.cond rfl (fun h => by simp [smKind] at h) (fun _ => ?_)
   repeat first | refine LOps.nil ?_ | refine LCode.seq ?_ | refine LCode.region ?_ | refine QThen.normal ?_ | refine LOps.pure (Pure.as (lv := .atom _) rfl) rfl ?_ | refine LOps.pure (Pure.eql rfl rfl) rfl ?_
   refine LCode.cond rfl (fun h => by simp [smKind] at h) (fun _ => ?_)
   repeat first | refine LOps.nil ?_ | refine LCode.seq ?_ | refine LCode.region ?_ | refine QThen.normal ?_ | refine LOps.pure (Pure.as (lv := .atom _) rfl) rfl ?_ | refine LOps.pure (Pure.eql rfl rfl) rfl ?_
   refine LCode.cond rfl (fun _ => ?_) (fun h => by simp [smKind] at h)
   repeat first | refine LCode.seq ?_ | refine LCode.region ?_ | refine LOps.pure (Pure.mv (lv := .atom _) rfl) rfl ?_ | refine LOps.pure (Pure.fieldH rfl) rfl ?_ | refine LOps.pure (Pure.loadH (c := .list _) rfl (List.Mem.head _) rfl) rfl ?_ | refine LOps.pure (Pure.sadd rfl rfl (by first | omega | (simp only [List.length_append, List.length_cons, List.length_nil]; omega))) rfl ?_
   refine LOps.step (S.fn [_, _] rfl i1 ?_) rfl
   repeat first | refine LOps.nil ?_ | refine LCode.seq ?_ | refine LCode.region ?_ | refine QThen.normal ?_ | refine LOps.pure (Pure.as (lv := .atom _) rfl) rfl ?_ | refine LOps.pure (Pure.mv (lv := .atom _) rfl) rfl ?_ | refine LOps.pure (Pure.llen rfl) rfl ?_ | refine LOps.pure (Pure.fieldH rfl) rfl ?_ | refine LOps.pure (Pure.loadH (c := .list _) rfl (List.Mem.head _) rfl) rfl ?_ | refine LOps.pure (Pure.sadd rfl rfl (by first | omega | (simp only [List.length_append, List.length_cons, List.length_nil]; omega))) rfl ?_ | refine LOps.pure (Pure.gtr rfl rfl) rfl ?_
   refine LCode.cond rfl (fun _ => ?_) (fun h => absurd (of_decide_eq_false h) (by omega))
   repeat first | refine LCode.region ?_ | refine LOps.pure (Pure.mv (lv := .atom _) rfl) rfl ?_ | refine LOps.pure (Pure.fieldH rfl) rfl ?_ | refine LOps.pure (Pure.loadH (c := .list _) rfl (List.Mem.head _) rfl) rfl ?_ | refine LOps.pure (Pure.sadd rfl rfl (by first | omega | (simp only [List.length_append, List.length_cons, List.length_nil]; omega))) rfl ?_
   refine LOps.step (S.fn [_, _] rfl i2 ?_) rfl
   repeat first | refine LOps.nil ?_ | refine LCode.region ?_ | refine QThen.normal ?_ | refine QBlock.normal ?_ | refine LOps.pure (Pure.as (lv := .atom _) rfl) rfl ?_ | refine LOps.pure (Pure.mv (lv := .atom _) rfl) rfl ?_ | refine LOps.pure (Pure.sadd rfl rfl (by first | omega | (simp only [List.length_append, List.length_cons, List.length_nil]; omega))) rfl ?_ | refine LOps.pure (Pure.add rfl rfl (by omega)) rfl ?_
   exact ⟨_, _, _, by omega, ⟨i + 1, by omega, rfl, rfl, rfl⟩, ⟨rfl, rfl, str_eq (by rw [hta]; simp only [smName, List.append_assoc, List.cons_append, List.nil_append]), int_eq (by omega), trivial⟩, HSub.nil _, hj⟩
  | ifThen he g1 =>
   rename_i e th t1 t2 d1 d2
   simp only [List.length_cons, List.length_append, List.length_nil] at hzt
   simp only [nSm] at hne
   have hT := text_of (B0 := B0) (w0 := w0) (by omega) he (by omega)
   rw [fS_mk, fLine, if_neg (by decide), if_neg (by decide), if_neg (by decide), if_neg (by decide), if_neg (by decide), if_pos (by decide), if_neg (by decide), fOne_one, if_pos (by rfl)] at hm hta
   simp only [List.length_append, List.length_cons, List.length_nil] at hm
   have i1 := ih th t2 d2 (ind2 ind) (by omega) g1 (by omega) (by omega)
   rw [← show encThen (.mk 3 [] [] [e] th []) = th.map encS from encThen_eq _] at i1
   have hel : (encElse (.mk 3 [] [] [e] th [])).length = 0 := by
    rw [encElse_eq]
    rfl
   refine LOps.step (S.fn [_] rfl (first_spec e [] (by simp)) ?_) rfl
   refine LOps.step (S.fn [_] rfl hT ?_) rfl
   repeat first | refine LOps.nil ?_ | refine LCode.seq ?_ | refine LCode.region ?_ | refine LCode.block ?_ | refine QThen.normal ?_ | refine LOps.pure (Pure.as (lv := .atom _) rfl) rfl ?_ | refine LOps.pure (Pure.fieldH rfl) rfl ?_ | refine LOps.pure (Pure.loadH (c := .atom _) rfl (List.Mem.head _) rfl) rfl ?_ | refine LOps.pure (Pure.eql rfl rfl) rfl ?_
   refine LCode.cond rfl (fun h => by simp [smKind] at h) (fun _ => ?_)
   repeat first | refine LOps.nil ?_ | refine LCode.seq ?_ | refine LCode.region ?_ | refine QThen.normal ?_ | refine LOps.pure (Pure.as (lv := .atom _) rfl) rfl ?_ | refine LOps.pure (Pure.eql rfl rfl) rfl ?_
   refine LCode.cond rfl (fun h => by simp [smKind] at h) (fun _ => ?_)
   repeat first | refine LOps.nil ?_ | refine LCode.seq ?_ | refine LCode.region ?_ | refine QThen.normal ?_ | refine LOps.pure (Pure.as (lv := .atom _) rfl) rfl ?_ | refine LOps.pure (Pure.eql rfl rfl) rfl ?_
   refine LCode.cond rfl (fun h => by simp [smKind] at h) (fun _ => ?_)
   repeat first | refine LOps.nil ?_ | refine LCode.seq ?_ | refine LCode.region ?_ | refine QThen.normal ?_ | refine LOps.pure (Pure.as (lv := .atom _) rfl) rfl ?_ | refine LOps.pure (Pure.eql rfl rfl) rfl ?_
   refine LCode.cond rfl (fun h => by simp [smKind] at h) (fun _ => ?_)
   repeat first | refine LOps.nil ?_ | refine LCode.seq ?_ | refine LCode.region ?_ | refine QThen.normal ?_ | refine LOps.pure (Pure.as (lv := .atom _) rfl) rfl ?_ | refine LOps.pure (Pure.eql rfl rfl) rfl ?_
   refine LCode.cond rfl (fun h => by simp [smKind] at h) (fun _ => ?_)
   repeat first | refine LOps.nil ?_ | refine LCode.seq ?_ | refine LCode.region ?_ | refine QThen.normal ?_ | refine LOps.pure (Pure.as (lv := .atom _) rfl) rfl ?_ | refine LOps.pure (Pure.eql rfl rfl) rfl ?_
   refine LCode.cond rfl (fun h => by simp [smKind] at h) (fun _ => ?_)
   repeat first | refine LOps.nil ?_ | refine LCode.seq ?_ | refine LCode.region ?_ | refine QThen.normal ?_ | refine LOps.pure (Pure.as (lv := .atom _) rfl) rfl ?_ | refine LOps.pure (Pure.eql rfl rfl) rfl ?_
   refine LCode.cond rfl (fun _ => ?_) (fun h => by simp [smKind] at h)
   repeat first | refine LCode.seq ?_ | refine LCode.region ?_ | refine LOps.pure (Pure.mv (lv := .atom _) rfl) rfl ?_ | refine LOps.pure (Pure.fieldH rfl) rfl ?_ | refine LOps.pure (Pure.loadH (c := .list _) rfl (List.Mem.head _) rfl) rfl ?_ | refine LOps.pure (Pure.sadd rfl rfl (by first | omega | (simp only [List.length_append, List.length_cons, List.length_nil]; omega))) rfl ?_
   refine LOps.step (S.fn [_, _] rfl i1 ?_) rfl
   repeat first | refine LOps.nil ?_ | refine LCode.seq ?_ | refine LCode.region ?_ | refine QThen.normal ?_ | refine LOps.pure (Pure.as (lv := .atom _) rfl) rfl ?_ | refine LOps.pure (Pure.mv (lv := .atom _) rfl) rfl ?_ | refine LOps.pure (Pure.llen rfl) rfl ?_ | refine LOps.pure (Pure.fieldH rfl) rfl ?_ | refine LOps.pure (Pure.loadH (c := .list _) rfl (List.Mem.head _) rfl) rfl ?_ | refine LOps.pure (Pure.sadd rfl rfl (by first | omega | (simp only [List.length_append, List.length_cons, List.length_nil]; omega))) rfl ?_ | refine LOps.pure (Pure.gtr rfl rfl) rfl ?_
   refine LCode.cond rfl (fun h => absurd (of_decide_eq_true h) (by omega)) (fun _ => ?_)
   repeat first | refine LOps.nil ?_ | refine LCode.region ?_ | refine LCode.skip ?_ | refine QThen.normal ?_ | refine QBlock.normal ?_ | refine LOps.pure (Pure.as (lv := .atom _) rfl) rfl ?_ | refine LOps.pure (Pure.mv (lv := .atom _) rfl) rfl ?_ | refine LOps.pure (Pure.sadd rfl rfl (by first | omega | (simp only [List.length_append, List.length_cons, List.length_nil]; omega))) rfl ?_ | refine LOps.pure (Pure.add rfl rfl (by omega)) rfl ?_
   exact ⟨_, _, _, by omega, ⟨i + 1, by omega, rfl, rfl, rfl⟩, ⟨rfl, rfl, str_eq (by rw [hta]; simp only [smName, List.append_assoc, List.cons_append, List.nil_append]), int_eq (by omega), trivial⟩, HSub.nil _, hj⟩
  | «while» he g1 =>
   rename_i e th t1 t2 d1 d2
   simp only [List.length_cons, List.length_append, List.length_nil] at hzt
   simp only [nSm] at hne
   have hT := text_of (B0 := B0) (w0 := w0) (by omega) he (by omega)
   rw [fS_mk, fLine, if_neg (by decide), if_neg (by decide), if_neg (by decide), if_neg (by decide), if_neg (by decide), if_pos (by decide), if_pos rfl, fOne_one, if_pos (by rfl)] at hm hta
   simp only [List.length_append, List.length_cons, List.length_nil] at hm
   have i1 := ih th t2 d2 (ind2 ind) (by omega) g1 (by omega) (by omega)
   rw [← show encThen (.mk 4 [] [] [e] th []) = th.map encS from encThen_eq _] at i1
   refine LOps.step (S.fn [_] rfl (first_spec e [] (by simp)) ?_) rfl
   refine LOps.step (S.fn [_] rfl hT ?_) rfl
   repeat first | refine LOps.nil ?_ | refine LCode.seq ?_ | refine LCode.region ?_ | refine LCode.block ?_ | refine QThen.normal ?_ | refine LOps.pure (Pure.as (lv := .atom _) rfl) rfl ?_ | refine LOps.pure (Pure.fieldH rfl) rfl ?_ | refine LOps.pure (Pure.loadH (c := .atom _) rfl (List.Mem.head _) rfl) rfl ?_ | refine LOps.pure (Pure.eql rfl rfl) rfl ?_
   refine LCode.cond rfl (fun h => by simp [smKind] at h) (fun _ => ?_)
   repeat first | refine LOps.nil ?_ | refine LCode.seq ?_ | refine LCode.region ?_ | refine QThen.normal ?_ | refine LOps.pure (Pure.as (lv := .atom _) rfl) rfl ?_ | refine LOps.pure (Pure.eql rfl rfl) rfl ?_
   refine LCode.cond rfl (fun h => by simp [smKind] at h) (fun _ => ?_)
   repeat first | refine LOps.nil ?_ | refine LCode.seq ?_ | refine LCode.region ?_ | refine QThen.normal ?_ | refine LOps.pure (Pure.as (lv := .atom _) rfl) rfl ?_ | refine LOps.pure (Pure.eql rfl rfl) rfl ?_
   refine LCode.cond rfl (fun h => by simp [smKind] at h) (fun _ => ?_)
   repeat first | refine LOps.nil ?_ | refine LCode.seq ?_ | refine LCode.region ?_ | refine QThen.normal ?_ | refine LOps.pure (Pure.as (lv := .atom _) rfl) rfl ?_ | refine LOps.pure (Pure.eql rfl rfl) rfl ?_
   refine LCode.cond rfl (fun h => by simp [smKind] at h) (fun _ => ?_)
   repeat first | refine LOps.nil ?_ | refine LCode.seq ?_ | refine LCode.region ?_ | refine QThen.normal ?_ | refine LOps.pure (Pure.as (lv := .atom _) rfl) rfl ?_ | refine LOps.pure (Pure.eql rfl rfl) rfl ?_
   refine LCode.cond rfl (fun h => by simp [smKind] at h) (fun _ => ?_)
   repeat first | refine LOps.nil ?_ | refine LCode.seq ?_ | refine LCode.region ?_ | refine QThen.normal ?_ | refine LOps.pure (Pure.as (lv := .atom _) rfl) rfl ?_ | refine LOps.pure (Pure.eql rfl rfl) rfl ?_
   refine LCode.cond rfl (fun _ => ?_) (fun h => by simp [smKind] at h)
   repeat first | refine LCode.region ?_ | refine LOps.pure (Pure.mv (lv := .atom _) rfl) rfl ?_ | refine LOps.pure (Pure.fieldH rfl) rfl ?_ | refine LOps.pure (Pure.loadH (c := .list _) rfl (List.Mem.head _) rfl) rfl ?_ | refine LOps.pure (Pure.sadd rfl rfl (by first | omega | (simp only [List.length_append, List.length_cons, List.length_nil]; omega))) rfl ?_
   refine LOps.step (S.fn [_, _] rfl i1 ?_) rfl
   repeat first | refine LOps.nil ?_ | refine LCode.region ?_ | refine QThen.normal ?_ | refine QBlock.normal ?_ | refine LOps.pure (Pure.as (lv := .atom _) rfl) rfl ?_ | refine LOps.pure (Pure.mv (lv := .atom _) rfl) rfl ?_ | refine LOps.pure (Pure.sadd rfl rfl (by first | omega | (simp only [List.length_append, List.length_cons, List.length_nil]; omega))) rfl ?_ | refine LOps.pure (Pure.add rfl rfl (by omega)) rfl ?_
   exact ⟨_, _, _, by omega, ⟨i + 1, by omega, rfl, rfl, rfl⟩, ⟨rfl, rfl, str_eq (by rw [hta]; simp only [smName, List.append_assoc, List.cons_append, List.nil_append]), int_eq (by omega), trivial⟩, HSub.nil _, hj⟩
 ·have hi' : i = l.length := by have := of_decide_eq_false hc; omega
  subst hi'
  rw [List.take_length]
  repeat first | refine LOps.nil ?_ | refine LCode.seq ?_ | refine LCode.region ?_ | refine LCode.ret ?_ | refine LCode.exit ?_ | refine QThen.normal ?_ | refine QThen.exit ?_ | refine QBlock.hit ?_ | refine LOps.pure (Pure.as (lv := .atom _) rfl) rfl ?_ | refine LOps.pure (Pure.mv (lv := .atom _) rfl) rfl ?_
  exact retRet hj (AllRes.cons (ResIs.tmp (v := .atom _) rfl (LV.Sub.refl _)) AllRes.nil) rfl
theorem rlines_spec : ∀ (n : Nat) (l : List Sm) (ts : List KT) (d : Nat) (ind : List UInt8), nSms l ≤ n → n ≤ 1000000000 → PSs l ts d → ts.length ≤ 100000 → (fSs ind l).length ≤ 1000000000 →
   LCalls (KC B0 w0) 58 [.list (l.map encS), str ind] [] (Ret (str (fSs ind l))) := by
 intro n
 induction n with
 | zero => exact fun l ts d ind hn hn2 hp hz hl => rlines_step 0 (fun _ _ _ _ h => by omega) l ts d ind hn hn2 hp hz hl
 | succ n ih => exact fun l ts d ind hn hn2 hp hz hl => rlines_step (n + 1) (fun l ts d ind h hp hz hl => ih l ts d ind (by omega) (by omega) hp hz hl) l ts d ind hn hn2 hp hz hl
end
end Go.Proofs.YtfodkbchknknjaaGreatDoor
