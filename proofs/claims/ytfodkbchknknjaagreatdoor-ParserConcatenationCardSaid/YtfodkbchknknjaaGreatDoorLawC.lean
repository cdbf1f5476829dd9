/- The law of two sources, one behind the other, walked. -/
import Derived.Test.YtfodkbchknknjaaGreatDoorLawA
import Derived.Test.YtfodkbchknknjaaGreatDoorPEq
import Derived.Test.YtfodkbchknknjaaGreatDoorParCat
import Derived.Test.YtfodkbchknknjaaGreatDoorLexCat
import Derived.Test.YtfodkbchknknjaaGreatDoorGlPart
set_option linter.unusedVariables false
set_option linter.unusedSimpArgs false
namespace Go.Proofs.YtfodkbchknknjaaGreatDoor
open Go.GL Go.RowKit Go.Stele
set_option maxRecDepth 100000
set_option maxHeartbeats 4000000
/-- A source that is parsed, and how. -/
theorem parseP_good {s : List UInt8} (h : (parseP s).2.2 = 0) : ∃ T p i op, lexAt s 1 = .ok T ∧ sProg T (10 * T.length + 20) noPr 0 0 = some (.ok p i op) ∧ parseP s = (p, 0, 0) ∧ s.length ≤ 60000 := by
  unfold parseP at h ⊢
  split at h
  · rename_i l e he
    exact absurd h (lexAllP_err he)
  rename_i T hT
  have hT' := hT
  unfold lexAllP at hT'
  split at hT'
  · cases hT'
  rename_i hlen
  split at h
  · rename_i p i op hp
    exact ⟨T, p, i, op, hT', hp, rfl, by omega⟩
  · rename_i l e he
    exact absurd h (prog_en _ _ _ _ _ _ _ he)
  · rename_i hn
    obtain ⟨q, hq⟩ := sProg_ends T (10 * T.length + 20) noPr 0 0 (Nat.zero_le _) (by omega)
    rw [hn] at hq
    cases hq
theorem parse_cat {a b : List UInt8} (ha : (parseP a).2.2 = 0) (hb : (parseP b).2.2 = 0) (hla : a.length ≤ 1500) (hlb : b.length ≤ 1500) : parseP (a ++ [10] ++ b) = ((parseP a).1.app (parseP b).1, 0, 0) := by
  obtain ⟨A, p, i1, o1, h1, h2, h3, _⟩ := parseP_good ha
  obtain ⟨B, q, i2, o2, h4, h5, h6, _⟩ := parseP_good hb
  rw [h3, h6]
  obtain ⟨B', h7, h8⟩ := lexP_line b.length b 1 (1 + (a.count 10 : Nat) + 1) B h4
  have h9 : lexAt (a ++ 10 :: b) 1 = .ok (A ++ B') := by
    rw [lexAt_app b a.length a 1 A (Nat.le_refl _) h1]
    unfold lexAt
    rw [h7]
    rfl
  have h10 : lexAllP (a ++ [10] ++ b) = .ok (A ++ B') := by
    rw [List.append_assoc, List.singleton_append]
    unfold lexAllP
    rw [if_neg (by simp only [List.length_append, List.length_cons]; omega)]
    exact h9
  obtain ⟨i, op, h11⟩ := prog_cat (p := p) (q := q) h2 h5 (B' := B') h8
  unfold parseP
  rw [h10]
  simp only
  rw [show (noPr : Pr) = noDecl from rfl, h11]
theorem catSub {A : Type} {f : A → LV} {b c s : Nat} (x y : List A) : (LV.app b c s (([] ++ x.map f) ++ y.map f)).Sub (.list ((x ++ y).map f)) := by
  rw [List.map_append]
  exact LV.Sub.app _ _ _ _
attribute [local irreducible] LOps LCode LStep LCalls Go.GL.Pure QThen QBlock RetPost LQ LAny LLate LLateOp
theorem LCode.forget {C : Ctx} {n : Nat} {c : Code} {Q : Post} {e : Env} {H : Heap} (l : List (Nat × LV)) (h : AllSlots e l) (k : ∀ j : Env, j.ds = e.ds → LCode C n c Q (Env.slots j l) H) : LCode C n c Q e H := by
  have := k e rfl
  rwa [Env.slots_self h.mem] at this
theorem endSub {x y : Nat × LObj} {A B D R : Heap} : HSub [x, y] ([x] ++ (A ++ (B ++ (D ++ (y :: R))))) := by
  refine ⟨A ++ (B ++ (D ++ R)), ?_⟩
  refine List.Perm.cons x ?_
  have h1 : (D ++ y :: R).Perm (y :: (D ++ R)) := List.perm_middle
  have h2 : (B ++ (D ++ y :: R)).Perm (y :: (B ++ (D ++ R))) := (h1.append_left B).trans List.perm_middle
  exact (h2.append_left A).trans List.perm_middle
theorem ars_ok : ∀ l : List Ar, ((l.map encAr).flatMap LV.cells).all cellOk = true
  | [] => rfl
  | x :: l => by
    rw [List.map_cons, List.flatMap_cons, List.all_append, ars_ok l]
    rfl
theorem fns_len (l : List FnD) : ∀ v ∈ l.map encFn, v.cells.length = 4 := fun v hv => by
  obtain ⟨x, _, rfl⟩ := List.mem_map.1 hv
  rfl
theorem fns_ok : ∀ l : List FnD, ((l.map encFn).flatMap LV.cells).all cellOk = true
  | [] => rfl
  | x :: l => by
    rw [List.map_cons, List.flatMap_cons, List.all_append, fns_ok l]
    rfl
instance {l : List Ar} : Elems 2 (l.map encAr) := ⟨ars_len l, ars_ok l⟩
instance {l : List FnD} : Elems 4 (l.map encFn) := ⟨fns_len l, fns_ok l⟩
section
variable {B0 : Nat} {w0 : World}
theorem cat_spec (hG : GW B0 w0) (a b : List UInt8) : LCalls (KC B0 w0) 5 [str a, str b] [] (Ret (bool true)) := by
  refine LCalls.intro Tryz.func5 rfl (n := 85) rfl rfl rfl ?_
  repeat first
    | refine LOps.nil ?_
    | refine LCode.seq ?_
    | refine LCode.region ?_
    | refine QThen.normal ?_
    | refine LOps.pure (Pure.as (lv := .atom _) rfl) rfl ?_
  refine LOps.step (S.fn [] rfl (alive_spec hG) ?_) rfl
  repeat first
    | refine LOps.nil ?_
    | refine QThen.normal ?_
    | refine LOps.pure (Pure.not rfl) rfl ?_
  refine LCode.cond rfl (fun h0 => ?_) (fun h0 => ?_)
  · cases h0
  repeat first
    | refine LCode.seq ?_
    | refine LCode.region ?_
    | refine LCode.skip ?_
    | refine QThen.normal ?_
    | refine LOps.pure (Pure.mv (lv := .atom _) rfl) rfl ?_
    | refine LOps.pure (Pure.slen rfl) rfl ?_
    | refine LOps.pure (Pure.gtr rfl rfl) rfl ?_
  refine LOps.bcase 20 rfl (fun h1 => ?_) (fun h1 => ?_)
  · repeat first
      | refine LOps.nil ?_
      | refine QThen.normal ?_
      | refine LOps.pure (Pure.pickT (lv := .atom _) rfl rfl) rfl ?_
      | refine LOps.skip rfl rfl rfl rfl ?_
    refine LCode.cond rfl (fun h2 => ?_) (fun h2 => ?_)
    · repeat first
        | refine LOps.nil ?_
        | refine LCode.seq ?_
        | refine LCode.region ?_
        | refine LCode.ret ?_
        | refine QThen.normal ?_
        | refine QThen.ret ?_
        | refine LOps.pure (Pure.as (lv := .atom _) rfl) rfl ?_
      exact retRet rfl (AllRes.cons (ResIs.tmp (v := .atom _) rfl (LV.Sub.refl _)) AllRes.nil) rfl
    · cases h2
  have hla : a.length ≤ 1500 := by have := of_decide_eq_false h1; omega
  repeat first
    | refine LOps.nil ?_
    | refine QThen.normal ?_
    | refine LOps.pure (Pure.mv (lv := .atom _) rfl) rfl ?_
    | refine LOps.pure (Pure.slen rfl) rfl ?_
    | refine LOps.pure (Pure.gtr rfl rfl) rfl ?_
    | refine LOps.pure (Pure.pickF (lv := .atom _) rfl rfl) rfl ?_
    | refine LOps.want rfl rfl ?_
  refine LCode.cond rfl (fun h2 => ?_) (fun h2 => ?_)
  · repeat first
      | refine LOps.nil ?_
      | refine LCode.seq ?_
      | refine LCode.region ?_
      | refine LCode.ret ?_
      | refine QThen.normal ?_
      | refine QThen.ret ?_
      | refine LOps.pure (Pure.as (lv := .atom _) rfl) rfl ?_
    exact retRet rfl (AllRes.cons (ResIs.tmp (v := .atom _) rfl (LV.Sub.refl _)) AllRes.nil) rfl
  have hlb : b.length ≤ 1500 := by have := of_decide_eq_false h2; omega
  have hp := parse_spec hG a (by omega)
  have hq := parse_spec hG b (by omega)
  have hcat := fun h h' => parse_cat (a := a) (b := b) h h' hla hlb
  have hpo := parseP_ok a
  have hqo := parseP_ok b
  generalize parseP a = r at hp hcat hpo
  generalize parseP b = r' at hq hcat hqo
  obtain ⟨p, l, e⟩ := r
  obtain ⟨q, l', e'⟩ := r'
  simp only at hcat hpo hqo
  repeat first
    | refine LCode.seq ?_
    | refine LCode.region ?_
    | refine LCode.skip ?_
    | refine QThen.normal ?_
    | refine LOps.pure (Pure.mv (lv := .atom _) rfl) rfl ?_
  refine LOps.step (S.fn [_] rfl hp ?_) rfl
  refine LOps.pure (Pure.mv rfl) rfl ?_
  refine LOps.pure (Pure.extract (vs := [encPr p, int .i64 l, int .i64 e]) rfl rfl) rfl ?_
  refine LOps.pure (Pure.extract (vs := [encPr p, int .i64 l, int .i64 e]) rfl rfl) rfl ?_
  refine LOps.pure (Pure.extract (vs := [encPr p, int .i64 l, int .i64 e]) rfl rfl) rfl ?_
  refine LOps.step (S.alloc fun b5 => ?_) rfl
  repeat first
    | refine LOps.nil ?_
    | refine LCode.seq ?_
    | refine LCode.region ?_
    | refine QThen.normal ?_
    | refine LOps.pure (Pure.as (lv := .atom _) rfl) rfl ?_
    | refine LOps.pure (Pure.mv (lv := .atom _) rfl) rfl ?_
    | refine LOps.step (S.store (cs' := [_, _, _]) rfl Pick.here rfl rfl rfl rfl rfl ?_) rfl
  refine LOps.step (S.fn [_] rfl hq ?_) rfl
  refine LOps.pure (Pure.mv rfl) rfl ?_
  refine LOps.pure (Pure.extract (vs := [encPr q, int .i64 l', int .i64 e']) rfl rfl) rfl ?_
  refine LOps.pure (Pure.extract (vs := [encPr q, int .i64 l', int .i64 e']) rfl rfl) rfl ?_
  refine LOps.pure (Pure.extract (vs := [encPr q, int .i64 l', int .i64 e']) rfl rfl) rfl ?_
  refine LOps.step (S.alloc fun b8 => ?_) rfl
  repeat first
    | refine LOps.nil ?_
    | refine LCode.seq ?_
    | refine LCode.region ?_
    | refine QThen.normal ?_
    | refine LOps.pure (Pure.as (lv := .atom _) rfl) rfl ?_
    | refine LOps.pure (Pure.mv (lv := .atom _) rfl) rfl ?_
    | refine LOps.pure (Pure.neq rfl rfl) rfl ?_
    | refine LOps.step (S.store (cs' := [_, _, _]) rfl Pick.here rfl rfl rfl rfl rfl ?_) rfl
  refine LOps.bcase 39 rfl (fun h3 => ?_) (fun h3 => ?_)
  · repeat first
      | refine LOps.nil ?_
      | refine QThen.normal ?_
      | refine LOps.pure (Pure.pickT (lv := .atom _) rfl rfl) rfl ?_
      | refine LOps.skip rfl rfl rfl rfl ?_
    refine LCode.cond rfl (fun h4 => ?_) (fun h4 => ?_)
    · repeat first
        | refine LOps.nil ?_
        | refine LCode.seq ?_
        | refine LCode.region ?_
        | refine LCode.ret ?_
        | refine QThen.normal ?_
        | refine QThen.ret ?_
        | refine LOps.pure (Pure.as (lv := .atom _) rfl) rfl ?_
      exact retRet rfl (AllRes.cons (ResIs.tmp (v := .atom _) rfl (LV.Sub.refl _)) AllRes.nil) rfl
    · cases h4
  have he : e = 0 := by simpa using h3
  subst he
  repeat first
    | refine LOps.nil ?_
    | refine QThen.normal ?_
    | refine LOps.pure (Pure.mv (lv := .atom _) rfl) rfl ?_
    | refine LOps.pure (Pure.pickF (lv := .atom _) rfl rfl) rfl ?_
    | refine LOps.pure (Pure.neq rfl rfl) rfl ?_
    | refine LOps.want rfl rfl ?_
  refine LCode.cond rfl (fun h4 => ?_) (fun h4 => ?_)
  · repeat first
      | refine LOps.nil ?_
      | refine LCode.seq ?_
      | refine LCode.region ?_
      | refine LCode.ret ?_
      | refine QThen.normal ?_
      | refine QThen.ret ?_
      | refine LOps.pure (Pure.as (lv := .atom _) rfl) rfl ?_
    exact retRet rfl (AllRes.cons (ResIs.tmp (v := .atom _) rfl (LV.Sub.refl _)) AllRes.nil) rfl
  have he' : e' = 0 := by simpa using h4
  subst he'
  have hc := hcat rfl rfl
  have hb := parse_spec hG (a ++ [10] ++ b) (by simp only [List.length_append, List.length_cons, List.length_nil]; omega)
  have hbo := parseP_ok (a ++ [10] ++ b)
  rw [hc] at hb hbo
  simp only at hbo
  repeat first
    | refine LCode.seq ?_
    | refine LCode.region ?_
    | refine LCode.skip ?_
    | refine QThen.normal ?_
    | refine LOps.pure (Pure.mv (lv := .atom _) rfl) rfl ?_
    | refine LOps.pure (Pure.sadd rfl rfl (by simp only [List.length_append, List.length_cons, List.length_nil]; omega)) rfl ?_
  refine LOps.step (S.fn [_] rfl hb ?_) rfl
  refine LOps.pure (Pure.mv rfl) rfl ?_
  refine LOps.pure (Pure.extract (vs := [encPr (p.app q), int .i64 0, int .i64 0]) rfl rfl) rfl ?_
  refine LOps.pure (Pure.extract (vs := [encPr (p.app q), int .i64 0, int .i64 0]) rfl rfl) rfl ?_
  refine LOps.pure (Pure.extract (vs := [encPr (p.app q), int .i64 0, int .i64 0]) rfl rfl) rfl ?_
  refine LOps.step (S.alloc fun b11 => ?_) rfl
  repeat first
    | refine LOps.nil ?_
    | refine LCode.seq ?_
    | refine QThen.normal ?_
    | refine LOps.pure (Pure.as (lv := .atom _) rfl) rfl ?_
    | refine LOps.step (S.store (cs' := [_, _, _]) rfl Pick.here rfl rfl rfl rfl rfl ?_) rfl
  have hn1 := hpo.size
  have hn2 := hqo.size
  have hf1 := nFns_len p.funcs
  have hf2 := nFns_len q.funcs
  unfold nPr at hn1 hn2
  have : Small (p.vars.map str) := ⟨by rw [List.length_map]; omega⟩
  have : Small (q.vars.map str) := ⟨by rw [List.length_map]; omega⟩
  have : Small (p.arrays.map encAr) := ⟨by rw [List.length_map]; omega⟩
  have : Small (q.arrays.map encAr) := ⟨by rw [List.length_map]; omega⟩
  have : Small (p.funcs.map encFn) := ⟨by rw [List.length_map]; omega⟩
  have : Small (q.funcs.map encFn) := ⟨by rw [List.length_map]; omega⟩
  refine LCode.forget [(5, ptr b5 0), (8, ptr b8 0), (11, ptr b11 0), (12, int .i64 0), (13, int .i64 0)] ⟨rfl, rfl, rfl, rfl, rfl, trivial⟩ (fun j0 hj0 => ?_)
  refine LCode.midC (A := Nat × LV × LV × LV) (fun x => [(11, ptr b11 0), (12, int .i64 0), (13, int .i64 0), (14, ptr x.1 0)]) (fun x => [(x.1, .cells 27 [x.2.1, x.2.2.1, x.2.2.2]), (b11, .cells 27 [.list ((p.app q).vars.map str), .list ((p.app q).arrays.map encAr), .list ((p.app q).funcs.map encFn)])])
    (fun x => x.2.1.Sub (.list ((p.app q).vars.map str)) ∧ x.2.2.1.Sub (.list ((p.app q).arrays.map encAr)) ∧ x.2.2.2.Sub (.list ((p.app q).funcs.map encFn))) ?_ ?_
  · refine LCode.draw (m := 24) rfl [(b11, .cells 27 [.list ((p.app q).vars.map str), .list ((p.app q).arrays.map encAr), .list ((p.app q).funcs.map encFn)]), (b8, .cells 27 [.list (q.vars.map str), .list (q.arrays.map encAr), .list (q.funcs.map encFn)]), (b5, .cells 27 [.list (p.vars.map str), .list (p.arrays.map encAr), .list (p.funcs.map encFn)])] ?_
    refine LAny.take (i := 1) (by first | exact HSub.nil _ | exact HSub.refl _ | exact HSub.drop (HSub.refl _) | exact HSub.pick Pick.here (HSub.nil _) | exact HSub.pick (Pick.there Pick.here) (HSub.nil _) | exact HSub.pick (Pick.there (Pick.there Pick.here)) (HSub.nil _)) rfl (by kernel_rfl) (by kernel_rfl) (by kernel_rfl) rfl (Pure.fieldH rfl) ?_
    refine LAny.take (i := 2) (by first | exact HSub.nil _ | exact HSub.refl _ | exact HSub.drop (HSub.refl _) | exact HSub.pick Pick.here (HSub.nil _) | exact HSub.pick (Pick.there Pick.here) (HSub.nil _) | exact HSub.pick (Pick.there (Pick.there Pick.here)) (HSub.nil _)) rfl (by kernel_rfl) (by kernel_rfl) (by kernel_rfl) rfl (Pure.loadH (c := .list _) rfl (List.Mem.tail _ (List.Mem.tail _ (List.Mem.head _))) rfl) ?_
    refine LAny.take (i := 4) (by first | exact HSub.nil _ | exact HSub.refl _ | exact HSub.drop (HSub.refl _) | exact HSub.pick Pick.here (HSub.nil _) | exact HSub.pick (Pick.there Pick.here) (HSub.nil _) | exact HSub.pick (Pick.there (Pick.there Pick.here)) (HSub.nil _)) rfl (by kernel_rfl) (by kernel_rfl) (by kernel_rfl) rfl (Pure.fieldH rfl) ?_
    refine LAny.take (i := 5) (by first | exact HSub.nil _ | exact HSub.refl _ | exact HSub.drop (HSub.refl _) | exact HSub.pick Pick.here (HSub.nil _) | exact HSub.pick (Pick.there Pick.here) (HSub.nil _) | exact HSub.pick (Pick.there (Pick.there Pick.here)) (HSub.nil _)) rfl (by kernel_rfl) (by kernel_rfl) (by kernel_rfl) rfl (Pure.loadH (c := .list _) rfl (List.Mem.tail _ (List.Mem.head _)) rfl) ?_
    refine LAny.take (i := 8) (by first | exact HSub.nil _ | exact HSub.refl _ | exact HSub.drop (HSub.refl _) | exact HSub.pick Pick.here (HSub.nil _) | exact HSub.pick (Pick.there Pick.here) (HSub.nil _) | exact HSub.pick (Pick.there (Pick.there Pick.here)) (HSub.nil _)) rfl (by kernel_rfl) (by kernel_rfl) (by kernel_rfl) rfl (Pure.fieldH rfl) ?_
    refine LAny.take (i := 9) (by first | exact HSub.nil _ | exact HSub.refl _ | exact HSub.drop (HSub.refl _) | exact HSub.pick Pick.here (HSub.nil _) | exact HSub.pick (Pick.there Pick.here) (HSub.nil _) | exact HSub.pick (Pick.there (Pick.there Pick.here)) (HSub.nil _)) rfl (by kernel_rfl) (by kernel_rfl) (by kernel_rfl) rfl (Pure.loadH (c := .list _) rfl (List.Mem.tail _ (List.Mem.tail _ (List.Mem.head _))) rfl) ?_
    refine LAny.take (i := 11) (by first | exact HSub.nil _ | exact HSub.refl _ | exact HSub.drop (HSub.refl _) | exact HSub.pick Pick.here (HSub.nil _) | exact HSub.pick (Pick.there Pick.here) (HSub.nil _) | exact HSub.pick (Pick.there (Pick.there Pick.here)) (HSub.nil _)) rfl (by kernel_rfl) (by kernel_rfl) (by kernel_rfl) rfl (Pure.fieldH rfl) ?_
    refine LAny.take (i := 12) (by first | exact HSub.nil _ | exact HSub.refl _ | exact HSub.drop (HSub.refl _) | exact HSub.pick Pick.here (HSub.nil _) | exact HSub.pick (Pick.there Pick.here) (HSub.nil _) | exact HSub.pick (Pick.there (Pick.there Pick.here)) (HSub.nil _)) rfl (by kernel_rfl) (by kernel_rfl) (by kernel_rfl) rfl (Pure.loadH (c := .list _) rfl (List.Mem.tail _ (List.Mem.head _)) rfl) ?_
    refine LAny.take (i := 15) (by first | exact HSub.nil _ | exact HSub.refl _ | exact HSub.drop (HSub.refl _) | exact HSub.pick Pick.here (HSub.nil _) | exact HSub.pick (Pick.there Pick.here) (HSub.nil _) | exact HSub.pick (Pick.there (Pick.there Pick.here)) (HSub.nil _)) rfl (by kernel_rfl) (by kernel_rfl) (by kernel_rfl) rfl (Pure.fieldH rfl) ?_
    refine LAny.take (i := 16) (by first | exact HSub.nil _ | exact HSub.refl _ | exact HSub.drop (HSub.refl _) | exact HSub.pick Pick.here (HSub.nil _) | exact HSub.pick (Pick.there Pick.here) (HSub.nil _) | exact HSub.pick (Pick.there (Pick.there Pick.here)) (HSub.nil _)) rfl (by kernel_rfl) (by kernel_rfl) (by kernel_rfl) rfl (Pure.loadH (c := .list _) rfl (List.Mem.tail _ (List.Mem.tail _ (List.Mem.head _))) rfl) ?_
    refine LAny.take (i := 18) (by first | exact HSub.nil _ | exact HSub.refl _ | exact HSub.drop (HSub.refl _) | exact HSub.pick Pick.here (HSub.nil _) | exact HSub.pick (Pick.there Pick.here) (HSub.nil _) | exact HSub.pick (Pick.there (Pick.there Pick.here)) (HSub.nil _)) rfl (by kernel_rfl) (by kernel_rfl) (by kernel_rfl) rfl (Pure.fieldH rfl) ?_
    refine LAny.take (i := 19) (by first | exact HSub.nil _ | exact HSub.refl _ | exact HSub.drop (HSub.refl _) | exact HSub.pick Pick.here (HSub.nil _) | exact HSub.pick (Pick.there Pick.here) (HSub.nil _) | exact HSub.pick (Pick.there (Pick.there Pick.here)) (HSub.nil _)) rfl (by kernel_rfl) (by kernel_rfl) (by kernel_rfl) rfl (Pure.loadH (c := .list _) rfl (List.Mem.tail _ (List.Mem.head _)) rfl) ?_
    refine LAny.late ?_ (HSub.refl _)
    refine LLate.gen fun LL cv un => ?_
    have s0_3_6_7_10_13_14_17_20_21_22_23 : ∀ (L : Array Bool) (e : Env) (H : Heap) (b1 c1 b2 c2 b3 c3 b14 : Nat), L = #[true, true, true, true, true, true, true, true, true, true, true, true, true, true, true, true, true, true, true, true, true, true, true, true] → e.ds = j0.ds → AllSlots e [(11, ptr b11 0), (12, int .i64 0), (13, int .i64 0), (54, .list (p.vars.map str)), (57, .list (q.vars.map str)), (61, .list (p.arrays.map encAr)), (64, .list (q.arrays.map encAr)), (68, .list (p.funcs.map encFn)), (71, .list (q.funcs.map encFn)), (14, ptr b14 0)] → HSub ([(b1, .row (((([] : List LV) ++ p.vars.map str) ++ q.vars.map str).length * 1))] ++ ([(b2, .row (((([] : List LV) ++ p.arrays.map encAr) ++ q.arrays.map encAr).length * 2))] ++ ([(b3, .row (((([] : List LV) ++ p.funcs.map encFn) ++ q.funcs.map encFn).length * 4))] ++ ([(b14, .cells 27 [.app b1 c1 1 ((([] : List LV) ++ p.vars.map str) ++ q.vars.map str), .app b2 c2 2 ((([] : List LV) ++ p.arrays.map encAr) ++ q.arrays.map encAr), .app b3 c3 4 ((([] : List LV) ++ p.funcs.map encFn) ++ q.funcs.map encFn)])] ++ ([(b11, .cells 27 [.list ((p.app q).vars.map str), .list ((p.app q).arrays.map encAr), .list ((p.app q).funcs.map encFn)]), (b8, .cells 27 [.list (q.vars.map str), .list (q.arrays.map encAr), .list (q.funcs.map encFn)]), (b5, .cells 27 [.list (p.vars.map str), .list (p.arrays.map encAr), .list (p.funcs.map encFn)])]))))) H → LL 0 L e H := by
      intro L e H b1 c1 b2 c2 b3 c3 b14 hL hd hs hH
      subst hL
      obtain ⟨h11, h12, h13, h54, h57, h61, h64, h68, h71, h14, _⟩ := hs
      refine un _ _ _ _ (LLate.weakH hH ?_)
      exact LLate.done (by kernel_rfl) (QThen.normal ⟨(b14, _, _, _), ⟨catSub _ _, catSub _ _, catSub _ _⟩, ⟨h11, h12, h13, h14, trivial⟩, HSub.pick (Pick.there (Pick.there (Pick.there Pick.here))) (HSub.pick (Pick.there (Pick.there (Pick.there Pick.here))) (HSub.nil _)), hd⟩)
    have s0_3_6_7_10_13_14_17_20_21_22 : ∀ (L : Array Bool) (e : Env) (H : Heap) (b1 c1 b2 c2 b3 c3 b14 : Nat), L = #[true, true, true, true, true, true, true, true, true, true, true, true, true, true, true, true, true, true, true, true, true, true, true, false] → e.ds = j0.ds → AllSlots e [(11, ptr b11 0), (12, int .i64 0), (13, int .i64 0), (54, .list (p.vars.map str)), (57, .list (q.vars.map str)), (61, .list (p.arrays.map encAr)), (64, .list (q.arrays.map encAr)), (68, .list (p.funcs.map encFn)), (71, .list (q.funcs.map encFn)), (14, ptr b14 0), (73, .agg [.app b1 c1 1 ((([] : List LV) ++ p.vars.map str) ++ q.vars.map str), .app b2 c2 2 ((([] : List LV) ++ p.arrays.map encAr) ++ q.arrays.map encAr), .app b3 c3 4 ((([] : List LV) ++ p.funcs.map encFn) ++ q.funcs.map encFn)])] → HSub ([(b1, .row (((([] : List LV) ++ p.vars.map str) ++ q.vars.map str).length * 1))] ++ ([(b2, .row (((([] : List LV) ++ p.arrays.map encAr) ++ q.arrays.map encAr).length * 2))] ++ ([(b3, .row (((([] : List LV) ++ p.funcs.map encFn) ++ q.funcs.map encFn).length * 4))] ++ ([(b14, .cells 27 ([Value.slice none 0 0, Value.slice none 0 0, Value.slice none 0 0].map LV.atom))] ++ ([(b11, .cells 27 [.list ((p.app q).vars.map str), .list ((p.app q).arrays.map encAr), .list ((p.app q).funcs.map encFn)]), (b8, .cells 27 [.list (q.vars.map str), .list (q.arrays.map encAr), .list (q.funcs.map encFn)]), (b5, .cells 27 [.list (p.vars.map str), .list (p.arrays.map encAr), .list (p.funcs.map encFn)])]))))) H → LL 1 L e H := by
      intro L e H b1 c1 b2 c2 b3 c3 b14 hL hd hs hH
      subst hL
      obtain ⟨h11, h12, h13, h54, h57, h61, h64, h68, h71, h14, h73, _⟩ := hs
      refine un _ _ _ _ (LLate.weakH hH ?_)
      refine t1 23 (by kernel_rfl) ?_
      · refine nStore rfl rfl h14 (congrArg LV.cells? h73) rfl rfl rfl rfl ?_
        exact cv _ _ _ _ (s0_3_6_7_10_13_14_17_20_21_22_23 _ _ _ _ _ _ _ _ _ _ (by kernel_rfl) hd ⟨h11, h12, h13, h54, h57, h61, h64, h68, h71, h14, trivial⟩ (HSub.pick (Pick.there Pick.here) (HSub.pick (Pick.there Pick.here) (HSub.pick (Pick.there Pick.here) (HSub.pick Pick.here (HSub.refl _))))))
    have s0_3_6_7_10_13_14_17_20_22 : ∀ (L : Array Bool) (e : Env) (H : Heap) (b1 c1 b2 c2 b3 c3 b14 : Nat), L = #[true, true, true, true, true, true, true, true, true, true, true, true, true, true, true, true, true, true, true, true, true, false, true, false] → e.ds = j0.ds → AllSlots e [(11, ptr b11 0), (12, int .i64 0), (13, int .i64 0), (54, .list (p.vars.map str)), (57, .list (q.vars.map str)), (61, .list (p.arrays.map encAr)), (64, .list (q.arrays.map encAr)), (68, .list (p.funcs.map encFn)), (71, .list (q.funcs.map encFn)), (58, .app b1 c1 1 ((([] : List LV) ++ p.vars.map str) ++ q.vars.map str)), (65, .app b2 c2 2 ((([] : List LV) ++ p.arrays.map encAr) ++ q.arrays.map encAr)), (72, .app b3 c3 4 ((([] : List LV) ++ p.funcs.map encFn) ++ q.funcs.map encFn)), (14, ptr b14 0)] → HSub ([(b1, .row (((([] : List LV) ++ p.vars.map str) ++ q.vars.map str).length * 1))] ++ ([(b2, .row (((([] : List LV) ++ p.arrays.map encAr) ++ q.arrays.map encAr).length * 2))] ++ ([(b3, .row (((([] : List LV) ++ p.funcs.map encFn) ++ q.funcs.map encFn).length * 4))] ++ ([(b14, .cells 27 ([Value.slice none 0 0, Value.slice none 0 0, Value.slice none 0 0].map LV.atom))] ++ ([(b11, .cells 27 [.list ((p.app q).vars.map str), .list ((p.app q).arrays.map encAr), .list ((p.app q).funcs.map encFn)]), (b8, .cells 27 [.list (q.vars.map str), .list (q.arrays.map encAr), .list (q.funcs.map encFn)]), (b5, .cells 27 [.list (p.vars.map str), .list (p.arrays.map encAr), .list (p.funcs.map encFn)])]))))) H → LL 2 L e H := by
      intro L e H b1 c1 b2 c2 b3 c3 b14 hL hd hs hH
      subst hL
      obtain ⟨h11, h12, h13, h54, h57, h61, h64, h68, h71, h58, h65, h72, h14, _⟩ := hs
      refine un _ _ _ _ (LLate.weakH hH ?_)
      refine t1 21 (by kernel_rfl) ?_
      · refine LLateOp.pureH rfl rfl (Pure.bld [(0, .tmp 58), (1, .tmp 65), (2, .tmp 72)] (cs := [.app b1 c1 1 ((([] : List LV) ++ p.vars.map str) ++ q.vars.map str), .app b2 c2 2 ((([] : List LV) ++ p.arrays.map encAr) ++ q.arrays.map encAr), .app b3 c3 4 ((([] : List LV) ++ p.funcs.map encFn) ++ q.funcs.map encFn)]) (by show fillL _ _ [(0, e.s 58), (1, e.s 65), (2, e.s 72)] = _; rw [h58, h65, h72]; rfl)) ?_
        exact cv _ _ _ _ (s0_3_6_7_10_13_14_17_20_21_22 _ _ _ _ _ _ _ _ _ _ (by kernel_rfl) hd ⟨h11, h12, h13, h54, h57, h61, h64, h68, h71, h14, rfl, trivial⟩ (HSub.pick Pick.here (HSub.pick Pick.here (HSub.pick Pick.here (HSub.pick Pick.here (HSub.refl _))))))
    have s0_3_6_7_10_13_14_17_20_21 : ∀ (L : Array Bool) (e : Env) (H : Heap) (b1 c1 b2 c2 b3 c3 : Nat), L = #[true, true, true, true, true, true, true, true, true, true, true, true, true, true, true, true, true, true, true, true, true, true, false, false] → e.ds = j0.ds → AllSlots e [(11, ptr b11 0), (12, int .i64 0), (13, int .i64 0), (54, .list (p.vars.map str)), (57, .list (q.vars.map str)), (61, .list (p.arrays.map encAr)), (64, .list (q.arrays.map encAr)), (68, .list (p.funcs.map encFn)), (71, .list (q.funcs.map encFn)), (73, .agg [.app b1 c1 1 ((([] : List LV) ++ p.vars.map str) ++ q.vars.map str), .app b2 c2 2 ((([] : List LV) ++ p.arrays.map encAr) ++ q.arrays.map encAr), .app b3 c3 4 ((([] : List LV) ++ p.funcs.map encFn) ++ q.funcs.map encFn)])] → HSub ([(b1, .row (((([] : List LV) ++ p.vars.map str) ++ q.vars.map str).length * 1))] ++ ([(b2, .row (((([] : List LV) ++ p.arrays.map encAr) ++ q.arrays.map encAr).length * 2))] ++ ([(b3, .row (((([] : List LV) ++ p.funcs.map encFn) ++ q.funcs.map encFn).length * 4))] ++ ([(b11, .cells 27 [.list ((p.app q).vars.map str), .list ((p.app q).arrays.map encAr), .list ((p.app q).funcs.map encFn)]), (b8, .cells 27 [.list (q.vars.map str), .list (q.arrays.map encAr), .list (q.funcs.map encFn)]), (b5, .cells 27 [.list (p.vars.map str), .list (p.arrays.map encAr), .list (p.funcs.map encFn)])])))) H → LL 2 L e H := by
      intro L e H b1 c1 b2 c2 b3 c3 hL hd hs hH
      subst hL
      obtain ⟨h11, h12, h13, h54, h57, h61, h64, h68, h71, h73, _⟩ := hs
      refine un _ _ _ _ (LLate.weakH hH ?_)
      refine t1 22 (by kernel_rfl) ?_
      · refine LLateOp.new rfl rfl (S.alloc fun b14 => ?_)
        exact cv _ _ _ _ (s0_3_6_7_10_13_14_17_20_21_22 _ _ _ _ _ _ _ _ _ _ (by kernel_rfl) hd ⟨h11, h12, h13, h54, h57, h61, h64, h68, h71, rfl, h73, trivial⟩ (HSub.pick (Pick.there Pick.here) (HSub.pick (Pick.there Pick.here) (HSub.pick (Pick.there Pick.here) (HSub.pick Pick.here (HSub.refl _))))))
    have s0_3_6_7_10_13_14_17_22 : ∀ (L : Array Bool) (e : Env) (H : Heap) (b1 c1 b2 c2 b3 c3 b14 : Nat), L = #[true, true, true, true, true, true, true, true, true, true, true, true, true, true, true, true, true, true, true, true, false, false, true, false] → e.ds = j0.ds → AllSlots e [(11, ptr b11 0), (12, int .i64 0), (13, int .i64 0), (54, .list (p.vars.map str)), (57, .list (q.vars.map str)), (61, .list (p.arrays.map encAr)), (64, .list (q.arrays.map encAr)), (68, .list (p.funcs.map encFn)), (71, .list (q.funcs.map encFn)), (58, .app b1 c1 1 ((([] : List LV) ++ p.vars.map str) ++ q.vars.map str)), (65, .app b2 c2 2 ((([] : List LV) ++ p.arrays.map encAr) ++ q.arrays.map encAr)), (69, .app b3 c3 4 (([] : List LV) ++ p.funcs.map encFn)), (14, ptr b14 0)] → HSub ([(b1, .row (((([] : List LV) ++ p.vars.map str) ++ q.vars.map str).length * 1))] ++ ([(b2, .row (((([] : List LV) ++ p.arrays.map encAr) ++ q.arrays.map encAr).length * 2))] ++ ([(b3, .row ((([] : List LV) ++ p.funcs.map encFn).length * 4))] ++ ([(b14, .cells 27 ([Value.slice none 0 0, Value.slice none 0 0, Value.slice none 0 0].map LV.atom))] ++ ([(b11, .cells 27 [.list ((p.app q).vars.map str), .list ((p.app q).arrays.map encAr), .list ((p.app q).funcs.map encFn)]), (b8, .cells 27 [.list (q.vars.map str), .list (q.arrays.map encAr), .list (q.funcs.map encFn)]), (b5, .cells 27 [.list (p.vars.map str), .list (p.arrays.map encAr), .list (p.funcs.map encFn)])]))))) H → LL 3 L e H := by
      intro L e H b1 c1 b2 c2 b3 c3 b14 hL hd hs hH
      subst hL
      obtain ⟨h11, h12, h13, h54, h57, h61, h64, h68, h71, h58, h65, h69, h14, _⟩ := hs
      refine un _ _ _ _ (LLate.weakH hH ?_)
      refine t1 20 (by kernel_rfl) ?_
      · refine nApp rfl rfl h69 (congrArg elems h71) rfl fun b3 c3 => ?_
        exact cv _ _ _ _ (s0_3_6_7_10_13_14_17_20_22 _ _ _ _ _ _ _ _ _ _ (by kernel_rfl) hd ⟨h11, h12, h13, h54, h57, h61, h64, h68, h71, h58, h65, rfl, h14, trivial⟩ (HSub.pick (Pick.there Pick.here) (HSub.pick (Pick.there Pick.here) (HSub.pick Pick.here (HSub.pick Pick.here (HSub.refl _))))))
    have s0_3_6_7_10_13_14_17_20 : ∀ (L : Array Bool) (e : Env) (H : Heap) (b1 c1 b2 c2 b3 c3 : Nat), L = #[true, true, true, true, true, true, true, true, true, true, true, true, true, true, true, true, true, true, true, true, true, false, false, false] → e.ds = j0.ds → AllSlots e [(11, ptr b11 0), (12, int .i64 0), (13, int .i64 0), (54, .list (p.vars.map str)), (57, .list (q.vars.map str)), (61, .list (p.arrays.map encAr)), (64, .list (q.arrays.map encAr)), (68, .list (p.funcs.map encFn)), (71, .list (q.funcs.map encFn)), (58, .app b1 c1 1 ((([] : List LV) ++ p.vars.map str) ++ q.vars.map str)), (65, .app b2 c2 2 ((([] : List LV) ++ p.arrays.map encAr) ++ q.arrays.map encAr)), (72, .app b3 c3 4 ((([] : List LV) ++ p.funcs.map encFn) ++ q.funcs.map encFn))] → HSub ([(b1, .row (((([] : List LV) ++ p.vars.map str) ++ q.vars.map str).length * 1))] ++ ([(b2, .row (((([] : List LV) ++ p.arrays.map encAr) ++ q.arrays.map encAr).length * 2))] ++ ([(b3, .row (((([] : List LV) ++ p.funcs.map encFn) ++ q.funcs.map encFn).length * 4))] ++ ([(b11, .cells 27 [.list ((p.app q).vars.map str), .list ((p.app q).arrays.map encAr), .list ((p.app q).funcs.map encFn)]), (b8, .cells 27 [.list (q.vars.map str), .list (q.arrays.map encAr), .list (q.funcs.map encFn)]), (b5, .cells 27 [.list (p.vars.map str), .list (p.arrays.map encAr), .list (p.funcs.map encFn)])])))) H → LL 3 L e H := by
      intro L e H b1 c1 b2 c2 b3 c3 hL hd hs hH
      subst hL
      obtain ⟨h11, h12, h13, h54, h57, h61, h64, h68, h71, h58, h65, h72, _⟩ := hs
      refine un _ _ _ _ (LLate.weakH hH ?_)
      refine t2 21 22 (by kernel_rfl) ?_ ?_
      · refine LLateOp.pureH rfl rfl (Pure.bld [(0, .tmp 58), (1, .tmp 65), (2, .tmp 72)] (cs := [.app b1 c1 1 ((([] : List LV) ++ p.vars.map str) ++ q.vars.map str), .app b2 c2 2 ((([] : List LV) ++ p.arrays.map encAr) ++ q.arrays.map encAr), .app b3 c3 4 ((([] : List LV) ++ p.funcs.map encFn) ++ q.funcs.map encFn)]) (by show fillL _ _ [(0, e.s 58), (1, e.s 65), (2, e.s 72)] = _; rw [h58, h65, h72]; rfl)) ?_
        exact cv _ _ _ _ (s0_3_6_7_10_13_14_17_20_21 _ _ _ _ _ _ _ _ _ (by kernel_rfl) hd ⟨h11, h12, h13, h54, h57, h61, h64, h68, h71, rfl, trivial⟩ (HSub.pick Pick.here (HSub.pick Pick.here (HSub.pick Pick.here (HSub.refl _)))))
      · refine LLateOp.new rfl rfl (S.alloc fun b14 => ?_)
        exact cv _ _ _ _ (s0_3_6_7_10_13_14_17_20_22 _ _ _ _ _ _ _ _ _ _ (by kernel_rfl) hd ⟨h11, h12, h13, h54, h57, h61, h64, h68, h71, h58, h65, h72, rfl, trivial⟩ (HSub.pick (Pick.there Pick.here) (HSub.pick (Pick.there Pick.here) (HSub.pick (Pick.there Pick.here) (HSub.pick Pick.here (HSub.refl _))))))
    have s0_3_6_7_10_13_14_22 : ∀ (L : Array Bool) (e : Env) (H : Heap) (b1 c1 b2 c2 b3 b14 : Nat), L = #[true, true, true, true, true, true, true, true, true, true, true, true, true, true, true, true, true, false, true, true, false, false, true, false] → e.ds = j0.ds → AllSlots e [(11, ptr b11 0), (12, int .i64 0), (13, int .i64 0), (54, .list (p.vars.map str)), (57, .list (q.vars.map str)), (61, .list (p.arrays.map encAr)), (64, .list (q.arrays.map encAr)), (68, .list (p.funcs.map encFn)), (71, .list (q.funcs.map encFn)), (58, .app b1 c1 1 ((([] : List LV) ++ p.vars.map str) ++ q.vars.map str)), (65, .app b2 c2 2 ((([] : List LV) ++ p.arrays.map encAr) ++ q.arrays.map encAr)), (66, .app b3 0 4 []), (14, ptr b14 0)] → HSub ([(b1, .row (((([] : List LV) ++ p.vars.map str) ++ q.vars.map str).length * 1))] ++ ([(b2, .row (((([] : List LV) ++ p.arrays.map encAr) ++ q.arrays.map encAr).length * 2))] ++ ([(b3, .row (([] : List LV).length * 4))] ++ ([(b14, .cells 27 ([Value.slice none 0 0, Value.slice none 0 0, Value.slice none 0 0].map LV.atom))] ++ ([(b11, .cells 27 [.list ((p.app q).vars.map str), .list ((p.app q).arrays.map encAr), .list ((p.app q).funcs.map encFn)]), (b8, .cells 27 [.list (q.vars.map str), .list (q.arrays.map encAr), .list (q.funcs.map encFn)]), (b5, .cells 27 [.list (p.vars.map str), .list (p.arrays.map encAr), .list (p.funcs.map encFn)])]))))) H → LL 4 L e H := by
      intro L e H b1 c1 b2 c2 b3 b14 hL hd hs hH
      subst hL
      obtain ⟨h11, h12, h13, h54, h57, h61, h64, h68, h71, h58, h65, h66, h14, _⟩ := hs
      refine un _ _ _ _ (LLate.weakH hH ?_)
      refine t1 17 (by kernel_rfl) ?_
      · refine nApp rfl rfl h66 (congrArg elems h68) rfl fun b3 c3 => ?_
        exact cv _ _ _ _ (s0_3_6_7_10_13_14_17_22 _ _ _ _ _ _ _ _ _ _ (by kernel_rfl) hd ⟨h11, h12, h13, h54, h57, h61, h64, h68, h71, h58, h65, rfl, h14, trivial⟩ (HSub.pick (Pick.there Pick.here) (HSub.pick (Pick.there Pick.here) (HSub.pick Pick.here (HSub.pick Pick.here (HSub.refl _))))))
    have s0_3_6_7_10_13_14_17 : ∀ (L : Array Bool) (e : Env) (H : Heap) (b1 c1 b2 c2 b3 c3 : Nat), L = #[true, true, true, true, true, true, true, true, true, true, true, true, true, true, true, true, true, true, true, true, false, false, false, false] → e.ds = j0.ds → AllSlots e [(11, ptr b11 0), (12, int .i64 0), (13, int .i64 0), (54, .list (p.vars.map str)), (57, .list (q.vars.map str)), (61, .list (p.arrays.map encAr)), (64, .list (q.arrays.map encAr)), (68, .list (p.funcs.map encFn)), (71, .list (q.funcs.map encFn)), (58, .app b1 c1 1 ((([] : List LV) ++ p.vars.map str) ++ q.vars.map str)), (65, .app b2 c2 2 ((([] : List LV) ++ p.arrays.map encAr) ++ q.arrays.map encAr)), (69, .app b3 c3 4 (([] : List LV) ++ p.funcs.map encFn))] → HSub ([(b1, .row (((([] : List LV) ++ p.vars.map str) ++ q.vars.map str).length * 1))] ++ ([(b2, .row (((([] : List LV) ++ p.arrays.map encAr) ++ q.arrays.map encAr).length * 2))] ++ ([(b3, .row ((([] : List LV) ++ p.funcs.map encFn).length * 4))] ++ ([(b11, .cells 27 [.list ((p.app q).vars.map str), .list ((p.app q).arrays.map encAr), .list ((p.app q).funcs.map encFn)]), (b8, .cells 27 [.list (q.vars.map str), .list (q.arrays.map encAr), .list (q.funcs.map encFn)]), (b5, .cells 27 [.list (p.vars.map str), .list (p.arrays.map encAr), .list (p.funcs.map encFn)])])))) H → LL 4 L e H := by
      intro L e H b1 c1 b2 c2 b3 c3 hL hd hs hH
      subst hL
      obtain ⟨h11, h12, h13, h54, h57, h61, h64, h68, h71, h58, h65, h69, _⟩ := hs
      refine un _ _ _ _ (LLate.weakH hH ?_)
      refine t2 20 22 (by kernel_rfl) ?_ ?_
      · refine nApp rfl rfl h69 (congrArg elems h71) rfl fun b3 c3 => ?_
        exact cv _ _ _ _ (s0_3_6_7_10_13_14_17_20 _ _ _ _ _ _ _ _ _ (by kernel_rfl) hd ⟨h11, h12, h13, h54, h57, h61, h64, h68, h71, h58, h65, rfl, trivial⟩ (HSub.pick (Pick.there Pick.here) (HSub.pick (Pick.there Pick.here) (HSub.pick Pick.here (HSub.refl _)))))
      · refine LLateOp.new rfl rfl (S.alloc fun b14 => ?_)
        exact cv _ _ _ _ (s0_3_6_7_10_13_14_17_22 _ _ _ _ _ _ _ _ _ _ (by kernel_rfl) hd ⟨h11, h12, h13, h54, h57, h61, h64, h68, h71, h58, h65, h69, rfl, trivial⟩ (HSub.pick (Pick.there Pick.here) (HSub.pick (Pick.there Pick.here) (HSub.pick (Pick.there Pick.here) (HSub.pick Pick.here (HSub.refl _))))))
    have s0_3_6_7_10_14_22 : ∀ (L : Array Bool) (e : Env) (H : Heap) (b1 c1 b2 c2 b3 b14 : Nat), L = #[true, true, true, true, true, true, true, true, true, true, true, true, true, false, true, true, true, false, true, true, false, false, true, false] → e.ds = j0.ds → AllSlots e [(11, ptr b11 0), (12, int .i64 0), (13, int .i64 0), (54, .list (p.vars.map str)), (57, .list (q.vars.map str)), (61, .list (p.arrays.map encAr)), (64, .list (q.arrays.map encAr)), (68, .list (p.funcs.map encFn)), (71, .list (q.funcs.map encFn)), (58, .app b1 c1 1 ((([] : List LV) ++ p.vars.map str) ++ q.vars.map str)), (62, .app b2 c2 2 (([] : List LV) ++ p.arrays.map encAr)), (66, .app b3 0 4 []), (14, ptr b14 0)] → HSub ([(b1, .row (((([] : List LV) ++ p.vars.map str) ++ q.vars.map str).length * 1))] ++ ([(b2, .row ((([] : List LV) ++ p.arrays.map encAr).length * 2))] ++ ([(b3, .row (([] : List LV).length * 4))] ++ ([(b14, .cells 27 ([Value.slice none 0 0, Value.slice none 0 0, Value.slice none 0 0].map LV.atom))] ++ ([(b11, .cells 27 [.list ((p.app q).vars.map str), .list ((p.app q).arrays.map encAr), .list ((p.app q).funcs.map encFn)]), (b8, .cells 27 [.list (q.vars.map str), .list (q.arrays.map encAr), .list (q.funcs.map encFn)]), (b5, .cells 27 [.list (p.vars.map str), .list (p.arrays.map encAr), .list (p.funcs.map encFn)])]))))) H → LL 5 L e H := by
      intro L e H b1 c1 b2 c2 b3 b14 hL hd hs hH
      subst hL
      obtain ⟨h11, h12, h13, h54, h57, h61, h64, h68, h71, h58, h62, h66, h14, _⟩ := hs
      refine un _ _ _ _ (LLate.weakH hH ?_)
      refine t1 13 (by kernel_rfl) ?_
      · refine nApp rfl rfl h62 (congrArg elems h64) rfl fun b2 c2 => ?_
        exact cv _ _ _ _ (s0_3_6_7_10_13_14_22 _ _ _ _ _ _ _ _ _ (by kernel_rfl) hd ⟨h11, h12, h13, h54, h57, h61, h64, h68, h71, h58, rfl, h66, h14, trivial⟩ (HSub.pick (Pick.there Pick.here) (HSub.pick Pick.here (HSub.pick Pick.here (HSub.pick Pick.here (HSub.refl _))))))
    have s0_3_6_7_10_13_22 : ∀ (L : Array Bool) (e : Env) (H : Heap) (b1 c1 b2 c2 b14 : Nat), L = #[true, true, true, true, true, true, true, true, true, true, true, true, true, true, false, true, true, false, true, true, false, false, true, false] → e.ds = j0.ds → AllSlots e [(11, ptr b11 0), (12, int .i64 0), (13, int .i64 0), (54, .list (p.vars.map str)), (57, .list (q.vars.map str)), (61, .list (p.arrays.map encAr)), (64, .list (q.arrays.map encAr)), (68, .list (p.funcs.map encFn)), (71, .list (q.funcs.map encFn)), (58, .app b1 c1 1 ((([] : List LV) ++ p.vars.map str) ++ q.vars.map str)), (65, .app b2 c2 2 ((([] : List LV) ++ p.arrays.map encAr) ++ q.arrays.map encAr)), (14, ptr b14 0)] → HSub ([(b1, .row (((([] : List LV) ++ p.vars.map str) ++ q.vars.map str).length * 1))] ++ ([(b2, .row (((([] : List LV) ++ p.arrays.map encAr) ++ q.arrays.map encAr).length * 2))] ++ ([(b14, .cells 27 ([Value.slice none 0 0, Value.slice none 0 0, Value.slice none 0 0].map LV.atom))] ++ ([(b11, .cells 27 [.list ((p.app q).vars.map str), .list ((p.app q).arrays.map encAr), .list ((p.app q).funcs.map encFn)]), (b8, .cells 27 [.list (q.vars.map str), .list (q.arrays.map encAr), .list (q.funcs.map encFn)]), (b5, .cells 27 [.list (p.vars.map str), .list (p.arrays.map encAr), .list (p.funcs.map encFn)])])))) H → LL 5 L e H := by
      intro L e H b1 c1 b2 c2 b14 hL hd hs hH
      subst hL
      obtain ⟨h11, h12, h13, h54, h57, h61, h64, h68, h71, h58, h65, h14, _⟩ := hs
      refine un _ _ _ _ (LLate.weakH hH ?_)
      refine t1 14 (by kernel_rfl) ?_
      · refine nLit rfl rfl fun b3 => ?_
        exact cv _ _ _ _ (s0_3_6_7_10_13_14_22 _ _ _ _ _ _ _ _ _ (by kernel_rfl) hd ⟨h11, h12, h13, h54, h57, h61, h64, h68, h71, h58, h65, rfl, h14, trivial⟩ (HSub.pick (Pick.there Pick.here) (HSub.pick (Pick.there Pick.here) (HSub.pick Pick.here (HSub.pick Pick.here (HSub.refl _))))))
    have s0_3_6_7_10_13_14 : ∀ (L : Array Bool) (e : Env) (H : Heap) (b1 c1 b2 c2 b3 : Nat), L = #[true, true, true, true, true, true, true, true, true, true, true, true, true, true, true, true, true, false, true, true, false, false, false, false] → e.ds = j0.ds → AllSlots e [(11, ptr b11 0), (12, int .i64 0), (13, int .i64 0), (54, .list (p.vars.map str)), (57, .list (q.vars.map str)), (61, .list (p.arrays.map encAr)), (64, .list (q.arrays.map encAr)), (68, .list (p.funcs.map encFn)), (71, .list (q.funcs.map encFn)), (58, .app b1 c1 1 ((([] : List LV) ++ p.vars.map str) ++ q.vars.map str)), (65, .app b2 c2 2 ((([] : List LV) ++ p.arrays.map encAr) ++ q.arrays.map encAr)), (66, .app b3 0 4 [])] → HSub ([(b1, .row (((([] : List LV) ++ p.vars.map str) ++ q.vars.map str).length * 1))] ++ ([(b2, .row (((([] : List LV) ++ p.arrays.map encAr) ++ q.arrays.map encAr).length * 2))] ++ ([(b3, .row (([] : List LV).length * 4))] ++ ([(b11, .cells 27 [.list ((p.app q).vars.map str), .list ((p.app q).arrays.map encAr), .list ((p.app q).funcs.map encFn)]), (b8, .cells 27 [.list (q.vars.map str), .list (q.arrays.map encAr), .list (q.funcs.map encFn)]), (b5, .cells 27 [.list (p.vars.map str), .list (p.arrays.map encAr), .list (p.funcs.map encFn)])])))) H → LL 5 L e H := by
      intro L e H b1 c1 b2 c2 b3 hL hd hs hH
      subst hL
      obtain ⟨h11, h12, h13, h54, h57, h61, h64, h68, h71, h58, h65, h66, _⟩ := hs
      refine un _ _ _ _ (LLate.weakH hH ?_)
      refine t2 17 22 (by kernel_rfl) ?_ ?_
      · refine nApp rfl rfl h66 (congrArg elems h68) rfl fun b3 c3 => ?_
        exact cv _ _ _ _ (s0_3_6_7_10_13_14_17 _ _ _ _ _ _ _ _ _ (by kernel_rfl) hd ⟨h11, h12, h13, h54, h57, h61, h64, h68, h71, h58, h65, rfl, trivial⟩ (HSub.pick (Pick.there Pick.here) (HSub.pick (Pick.there Pick.here) (HSub.pick Pick.here (HSub.refl _)))))
      · refine LLateOp.new rfl rfl (S.alloc fun b14 => ?_)
        exact cv _ _ _ _ (s0_3_6_7_10_13_14_22 _ _ _ _ _ _ _ _ _ (by kernel_rfl) hd ⟨h11, h12, h13, h54, h57, h61, h64, h68, h71, h58, h65, h66, rfl, trivial⟩ (HSub.pick (Pick.there Pick.here) (HSub.pick (Pick.there Pick.here) (HSub.pick (Pick.there Pick.here) (HSub.pick Pick.here (HSub.refl _))))))
    have s0_3_6_7_14_22 : ∀ (L : Array Bool) (e : Env) (H : Heap) (b1 c1 b2 b3 b14 : Nat), L = #[true, true, true, true, true, true, true, true, true, true, false, true, true, false, true, true, true, false, true, true, false, false, true, false] → e.ds = j0.ds → AllSlots e [(11, ptr b11 0), (12, int .i64 0), (13, int .i64 0), (54, .list (p.vars.map str)), (57, .list (q.vars.map str)), (61, .list (p.arrays.map encAr)), (64, .list (q.arrays.map encAr)), (68, .list (p.funcs.map encFn)), (71, .list (q.funcs.map encFn)), (58, .app b1 c1 1 ((([] : List LV) ++ p.vars.map str) ++ q.vars.map str)), (59, .app b2 0 2 []), (66, .app b3 0 4 []), (14, ptr b14 0)] → HSub ([(b1, .row (((([] : List LV) ++ p.vars.map str) ++ q.vars.map str).length * 1))] ++ ([(b2, .row (([] : List LV).length * 2))] ++ ([(b3, .row (([] : List LV).length * 4))] ++ ([(b14, .cells 27 ([Value.slice none 0 0, Value.slice none 0 0, Value.slice none 0 0].map LV.atom))] ++ ([(b11, .cells 27 [.list ((p.app q).vars.map str), .list ((p.app q).arrays.map encAr), .list ((p.app q).funcs.map encFn)]), (b8, .cells 27 [.list (q.vars.map str), .list (q.arrays.map encAr), .list (q.funcs.map encFn)]), (b5, .cells 27 [.list (p.vars.map str), .list (p.arrays.map encAr), .list (p.funcs.map encFn)])]))))) H → LL 6 L e H := by
      intro L e H b1 c1 b2 b3 b14 hL hd hs hH
      subst hL
      obtain ⟨h11, h12, h13, h54, h57, h61, h64, h68, h71, h58, h59, h66, h14, _⟩ := hs
      refine un _ _ _ _ (LLate.weakH hH ?_)
      refine t1 10 (by kernel_rfl) ?_
      · refine nApp rfl rfl h59 (congrArg elems h61) rfl fun b2 c2 => ?_
        exact cv _ _ _ _ (s0_3_6_7_10_14_22 _ _ _ _ _ _ _ _ _ (by kernel_rfl) hd ⟨h11, h12, h13, h54, h57, h61, h64, h68, h71, h58, rfl, h66, h14, trivial⟩ (HSub.pick (Pick.there Pick.here) (HSub.pick Pick.here (HSub.pick Pick.here (HSub.pick Pick.here (HSub.refl _))))))
    have s0_3_6_7_10_22 : ∀ (L : Array Bool) (e : Env) (H : Heap) (b1 c1 b2 c2 b14 : Nat), L = #[true, true, true, true, true, true, true, true, true, true, true, true, true, false, false, true, true, false, true, true, false, false, true, false] → e.ds = j0.ds → AllSlots e [(11, ptr b11 0), (12, int .i64 0), (13, int .i64 0), (54, .list (p.vars.map str)), (57, .list (q.vars.map str)), (61, .list (p.arrays.map encAr)), (64, .list (q.arrays.map encAr)), (68, .list (p.funcs.map encFn)), (71, .list (q.funcs.map encFn)), (58, .app b1 c1 1 ((([] : List LV) ++ p.vars.map str) ++ q.vars.map str)), (62, .app b2 c2 2 (([] : List LV) ++ p.arrays.map encAr)), (14, ptr b14 0)] → HSub ([(b1, .row (((([] : List LV) ++ p.vars.map str) ++ q.vars.map str).length * 1))] ++ ([(b2, .row ((([] : List LV) ++ p.arrays.map encAr).length * 2))] ++ ([(b14, .cells 27 ([Value.slice none 0 0, Value.slice none 0 0, Value.slice none 0 0].map LV.atom))] ++ ([(b11, .cells 27 [.list ((p.app q).vars.map str), .list ((p.app q).arrays.map encAr), .list ((p.app q).funcs.map encFn)]), (b8, .cells 27 [.list (q.vars.map str), .list (q.arrays.map encAr), .list (q.funcs.map encFn)]), (b5, .cells 27 [.list (p.vars.map str), .list (p.arrays.map encAr), .list (p.funcs.map encFn)])])))) H → LL 6 L e H := by
      intro L e H b1 c1 b2 c2 b14 hL hd hs hH
      subst hL
      obtain ⟨h11, h12, h13, h54, h57, h61, h64, h68, h71, h58, h62, h14, _⟩ := hs
      refine un _ _ _ _ (LLate.weakH hH ?_)
      refine t2 13 14 (by kernel_rfl) ?_ ?_
      · refine nApp rfl rfl h62 (congrArg elems h64) rfl fun b2 c2 => ?_
        exact cv _ _ _ _ (s0_3_6_7_10_13_22 _ _ _ _ _ _ _ _ (by kernel_rfl) hd ⟨h11, h12, h13, h54, h57, h61, h64, h68, h71, h58, rfl, h14, trivial⟩ (HSub.pick (Pick.there Pick.here) (HSub.pick Pick.here (HSub.pick Pick.here (HSub.refl _)))))
      · refine nLit rfl rfl fun b3 => ?_
        exact cv _ _ _ _ (s0_3_6_7_10_14_22 _ _ _ _ _ _ _ _ _ (by kernel_rfl) hd ⟨h11, h12, h13, h54, h57, h61, h64, h68, h71, h58, h62, rfl, h14, trivial⟩ (HSub.pick (Pick.there Pick.here) (HSub.pick (Pick.there Pick.here) (HSub.pick Pick.here (HSub.pick Pick.here (HSub.refl _))))))
    have s0_3_6_7_10_14 : ∀ (L : Array Bool) (e : Env) (H : Heap) (b1 c1 b2 c2 b3 : Nat), L = #[true, true, true, true, true, true, true, true, true, true, true, true, true, false, true, true, true, false, true, true, false, false, false, false] → e.ds = j0.ds → AllSlots e [(11, ptr b11 0), (12, int .i64 0), (13, int .i64 0), (54, .list (p.vars.map str)), (57, .list (q.vars.map str)), (61, .list (p.arrays.map encAr)), (64, .list (q.arrays.map encAr)), (68, .list (p.funcs.map encFn)), (71, .list (q.funcs.map encFn)), (58, .app b1 c1 1 ((([] : List LV) ++ p.vars.map str) ++ q.vars.map str)), (62, .app b2 c2 2 (([] : List LV) ++ p.arrays.map encAr)), (66, .app b3 0 4 [])] → HSub ([(b1, .row (((([] : List LV) ++ p.vars.map str) ++ q.vars.map str).length * 1))] ++ ([(b2, .row ((([] : List LV) ++ p.arrays.map encAr).length * 2))] ++ ([(b3, .row (([] : List LV).length * 4))] ++ ([(b11, .cells 27 [.list ((p.app q).vars.map str), .list ((p.app q).arrays.map encAr), .list ((p.app q).funcs.map encFn)]), (b8, .cells 27 [.list (q.vars.map str), .list (q.arrays.map encAr), .list (q.funcs.map encFn)]), (b5, .cells 27 [.list (p.vars.map str), .list (p.arrays.map encAr), .list (p.funcs.map encFn)])])))) H → LL 6 L e H := by
      intro L e H b1 c1 b2 c2 b3 hL hd hs hH
      subst hL
      obtain ⟨h11, h12, h13, h54, h57, h61, h64, h68, h71, h58, h62, h66, _⟩ := hs
      refine un _ _ _ _ (LLate.weakH hH ?_)
      refine t2 13 22 (by kernel_rfl) ?_ ?_
      · refine nApp rfl rfl h62 (congrArg elems h64) rfl fun b2 c2 => ?_
        exact cv _ _ _ _ (s0_3_6_7_10_13_14 _ _ _ _ _ _ _ _ (by kernel_rfl) hd ⟨h11, h12, h13, h54, h57, h61, h64, h68, h71, h58, rfl, h66, trivial⟩ (HSub.pick (Pick.there Pick.here) (HSub.pick Pick.here (HSub.pick Pick.here (HSub.refl _)))))
      · refine LLateOp.new rfl rfl (S.alloc fun b14 => ?_)
        exact cv _ _ _ _ (s0_3_6_7_10_14_22 _ _ _ _ _ _ _ _ _ (by kernel_rfl) hd ⟨h11, h12, h13, h54, h57, h61, h64, h68, h71, h58, h62, h66, rfl, trivial⟩ (HSub.pick (Pick.there Pick.here) (HSub.pick (Pick.there Pick.here) (HSub.pick (Pick.there Pick.here) (HSub.pick Pick.here (HSub.refl _))))))
    have s0_3_6_7_10_13 : ∀ (L : Array Bool) (e : Env) (H : Heap) (b1 c1 b2 c2 : Nat), L = #[true, true, true, true, true, true, true, true, true, true, true, true, true, true, false, true, true, false, true, true, false, false, false, false] → e.ds = j0.ds → AllSlots e [(11, ptr b11 0), (12, int .i64 0), (13, int .i64 0), (54, .list (p.vars.map str)), (57, .list (q.vars.map str)), (61, .list (p.arrays.map encAr)), (64, .list (q.arrays.map encAr)), (68, .list (p.funcs.map encFn)), (71, .list (q.funcs.map encFn)), (58, .app b1 c1 1 ((([] : List LV) ++ p.vars.map str) ++ q.vars.map str)), (65, .app b2 c2 2 ((([] : List LV) ++ p.arrays.map encAr) ++ q.arrays.map encAr))] → HSub ([(b1, .row (((([] : List LV) ++ p.vars.map str) ++ q.vars.map str).length * 1))] ++ ([(b2, .row (((([] : List LV) ++ p.arrays.map encAr) ++ q.arrays.map encAr).length * 2))] ++ ([(b11, .cells 27 [.list ((p.app q).vars.map str), .list ((p.app q).arrays.map encAr), .list ((p.app q).funcs.map encFn)]), (b8, .cells 27 [.list (q.vars.map str), .list (q.arrays.map encAr), .list (q.funcs.map encFn)]), (b5, .cells 27 [.list (p.vars.map str), .list (p.arrays.map encAr), .list (p.funcs.map encFn)])]))) H → LL 6 L e H := by
      intro L e H b1 c1 b2 c2 hL hd hs hH
      subst hL
      obtain ⟨h11, h12, h13, h54, h57, h61, h64, h68, h71, h58, h65, _⟩ := hs
      refine un _ _ _ _ (LLate.weakH hH ?_)
      refine t2 14 22 (by kernel_rfl) ?_ ?_
      · refine nLit rfl rfl fun b3 => ?_
        exact cv _ _ _ _ (s0_3_6_7_10_13_14 _ _ _ _ _ _ _ _ (by kernel_rfl) hd ⟨h11, h12, h13, h54, h57, h61, h64, h68, h71, h58, h65, rfl, trivial⟩ (HSub.pick (Pick.there Pick.here) (HSub.pick (Pick.there Pick.here) (HSub.pick Pick.here (HSub.refl _)))))
      · refine LLateOp.new rfl rfl (S.alloc fun b14 => ?_)
        exact cv _ _ _ _ (s0_3_6_7_10_13_22 _ _ _ _ _ _ _ _ (by kernel_rfl) hd ⟨h11, h12, h13, h54, h57, h61, h64, h68, h71, h58, h65, rfl, trivial⟩ (HSub.pick (Pick.there Pick.here) (HSub.pick (Pick.there Pick.here) (HSub.pick Pick.here (HSub.refl _)))))
    have s0_3_7_14_22 : ∀ (L : Array Bool) (e : Env) (H : Heap) (b1 c1 b2 b3 b14 : Nat), L = #[true, true, true, true, true, true, false, true, true, true, false, true, true, false, true, true, true, false, true, true, false, false, true, false] → e.ds = j0.ds → AllSlots e [(11, ptr b11 0), (12, int .i64 0), (13, int .i64 0), (54, .list (p.vars.map str)), (57, .list (q.vars.map str)), (61, .list (p.arrays.map encAr)), (64, .list (q.arrays.map encAr)), (68, .list (p.funcs.map encFn)), (71, .list (q.funcs.map encFn)), (55, .app b1 c1 1 (([] : List LV) ++ p.vars.map str)), (59, .app b2 0 2 []), (66, .app b3 0 4 []), (14, ptr b14 0)] → HSub ([(b1, .row ((([] : List LV) ++ p.vars.map str).length * 1))] ++ ([(b2, .row (([] : List LV).length * 2))] ++ ([(b3, .row (([] : List LV).length * 4))] ++ ([(b14, .cells 27 ([Value.slice none 0 0, Value.slice none 0 0, Value.slice none 0 0].map LV.atom))] ++ ([(b11, .cells 27 [.list ((p.app q).vars.map str), .list ((p.app q).arrays.map encAr), .list ((p.app q).funcs.map encFn)]), (b8, .cells 27 [.list (q.vars.map str), .list (q.arrays.map encAr), .list (q.funcs.map encFn)]), (b5, .cells 27 [.list (p.vars.map str), .list (p.arrays.map encAr), .list (p.funcs.map encFn)])]))))) H → LL 7 L e H := by
      intro L e H b1 c1 b2 b3 b14 hL hd hs hH
      subst hL
      obtain ⟨h11, h12, h13, h54, h57, h61, h64, h68, h71, h55, h59, h66, h14, _⟩ := hs
      refine un _ _ _ _ (LLate.weakH hH ?_)
      refine t1 6 (by kernel_rfl) ?_
      · refine nApp rfl rfl h55 (congrArg elems h57) rfl fun b1 c1 => ?_
        exact cv _ _ _ _ (s0_3_6_7_14_22 _ _ _ _ _ _ _ _ (by kernel_rfl) hd ⟨h11, h12, h13, h54, h57, h61, h64, h68, h71, rfl, h59, h66, h14, trivial⟩ (HSub.pick Pick.here (HSub.pick Pick.here (HSub.pick Pick.here (HSub.pick Pick.here (HSub.refl _))))))
    have s0_3_6_14_22 : ∀ (L : Array Bool) (e : Env) (H : Heap) (b1 c1 b3 b14 : Nat), L = #[true, true, true, true, true, true, true, false, true, true, false, true, true, false, true, true, true, false, true, true, false, false, true, false] → e.ds = j0.ds → AllSlots e [(11, ptr b11 0), (12, int .i64 0), (13, int .i64 0), (54, .list (p.vars.map str)), (57, .list (q.vars.map str)), (61, .list (p.arrays.map encAr)), (64, .list (q.arrays.map encAr)), (68, .list (p.funcs.map encFn)), (71, .list (q.funcs.map encFn)), (58, .app b1 c1 1 ((([] : List LV) ++ p.vars.map str) ++ q.vars.map str)), (66, .app b3 0 4 []), (14, ptr b14 0)] → HSub ([(b1, .row (((([] : List LV) ++ p.vars.map str) ++ q.vars.map str).length * 1))] ++ ([(b3, .row (([] : List LV).length * 4))] ++ ([(b14, .cells 27 ([Value.slice none 0 0, Value.slice none 0 0, Value.slice none 0 0].map LV.atom))] ++ ([(b11, .cells 27 [.list ((p.app q).vars.map str), .list ((p.app q).arrays.map encAr), .list ((p.app q).funcs.map encFn)]), (b8, .cells 27 [.list (q.vars.map str), .list (q.arrays.map encAr), .list (q.funcs.map encFn)]), (b5, .cells 27 [.list (p.vars.map str), .list (p.arrays.map encAr), .list (p.funcs.map encFn)])])))) H → LL 7 L e H := by
      intro L e H b1 c1 b3 b14 hL hd hs hH
      subst hL
      obtain ⟨h11, h12, h13, h54, h57, h61, h64, h68, h71, h58, h66, h14, _⟩ := hs
      refine un _ _ _ _ (LLate.weakH hH ?_)
      refine t1 7 (by kernel_rfl) ?_
      · refine nLit rfl rfl fun b2 => ?_
        exact cv _ _ _ _ (s0_3_6_7_14_22 _ _ _ _ _ _ _ _ (by kernel_rfl) hd ⟨h11, h12, h13, h54, h57, h61, h64, h68, h71, h58, rfl, h66, h14, trivial⟩ (HSub.pick (Pick.there Pick.here) (HSub.pick Pick.here (HSub.pick Pick.here (HSub.pick Pick.here (HSub.refl _))))))
    have s0_3_6_7_22 : ∀ (L : Array Bool) (e : Env) (H : Heap) (b1 c1 b2 b14 : Nat), L = #[true, true, true, true, true, true, true, true, true, true, false, true, true, false, false, true, true, false, true, true, false, false, true, false] → e.ds = j0.ds → AllSlots e [(11, ptr b11 0), (12, int .i64 0), (13, int .i64 0), (54, .list (p.vars.map str)), (57, .list (q.vars.map str)), (61, .list (p.arrays.map encAr)), (64, .list (q.arrays.map encAr)), (68, .list (p.funcs.map encFn)), (71, .list (q.funcs.map encFn)), (58, .app b1 c1 1 ((([] : List LV) ++ p.vars.map str) ++ q.vars.map str)), (59, .app b2 0 2 []), (14, ptr b14 0)] → HSub ([(b1, .row (((([] : List LV) ++ p.vars.map str) ++ q.vars.map str).length * 1))] ++ ([(b2, .row (([] : List LV).length * 2))] ++ ([(b14, .cells 27 ([Value.slice none 0 0, Value.slice none 0 0, Value.slice none 0 0].map LV.atom))] ++ ([(b11, .cells 27 [.list ((p.app q).vars.map str), .list ((p.app q).arrays.map encAr), .list ((p.app q).funcs.map encFn)]), (b8, .cells 27 [.list (q.vars.map str), .list (q.arrays.map encAr), .list (q.funcs.map encFn)]), (b5, .cells 27 [.list (p.vars.map str), .list (p.arrays.map encAr), .list (p.funcs.map encFn)])])))) H → LL 7 L e H := by
      intro L e H b1 c1 b2 b14 hL hd hs hH
      subst hL
      obtain ⟨h11, h12, h13, h54, h57, h61, h64, h68, h71, h58, h59, h14, _⟩ := hs
      refine un _ _ _ _ (LLate.weakH hH ?_)
      refine t2 10 14 (by kernel_rfl) ?_ ?_
      · refine nApp rfl rfl h59 (congrArg elems h61) rfl fun b2 c2 => ?_
        exact cv _ _ _ _ (s0_3_6_7_10_22 _ _ _ _ _ _ _ _ (by kernel_rfl) hd ⟨h11, h12, h13, h54, h57, h61, h64, h68, h71, h58, rfl, h14, trivial⟩ (HSub.pick (Pick.there Pick.here) (HSub.pick Pick.here (HSub.pick Pick.here (HSub.refl _)))))
      · refine nLit rfl rfl fun b3 => ?_
        exact cv _ _ _ _ (s0_3_6_7_14_22 _ _ _ _ _ _ _ _ (by kernel_rfl) hd ⟨h11, h12, h13, h54, h57, h61, h64, h68, h71, h58, h59, rfl, h14, trivial⟩ (HSub.pick (Pick.there Pick.here) (HSub.pick (Pick.there Pick.here) (HSub.pick Pick.here (HSub.pick Pick.here (HSub.refl _))))))
    have s0_3_6_7_14 : ∀ (L : Array Bool) (e : Env) (H : Heap) (b1 c1 b2 b3 : Nat), L = #[true, true, true, true, true, true, true, true, true, true, false, true, true, false, true, true, true, false, true, true, false, false, false, false] → e.ds = j0.ds → AllSlots e [(11, ptr b11 0), (12, int .i64 0), (13, int .i64 0), (54, .list (p.vars.map str)), (57, .list (q.vars.map str)), (61, .list (p.arrays.map encAr)), (64, .list (q.arrays.map encAr)), (68, .list (p.funcs.map encFn)), (71, .list (q.funcs.map encFn)), (58, .app b1 c1 1 ((([] : List LV) ++ p.vars.map str) ++ q.vars.map str)), (59, .app b2 0 2 []), (66, .app b3 0 4 [])] → HSub ([(b1, .row (((([] : List LV) ++ p.vars.map str) ++ q.vars.map str).length * 1))] ++ ([(b2, .row (([] : List LV).length * 2))] ++ ([(b3, .row (([] : List LV).length * 4))] ++ ([(b11, .cells 27 [.list ((p.app q).vars.map str), .list ((p.app q).arrays.map encAr), .list ((p.app q).funcs.map encFn)]), (b8, .cells 27 [.list (q.vars.map str), .list (q.arrays.map encAr), .list (q.funcs.map encFn)]), (b5, .cells 27 [.list (p.vars.map str), .list (p.arrays.map encAr), .list (p.funcs.map encFn)])])))) H → LL 7 L e H := by
      intro L e H b1 c1 b2 b3 hL hd hs hH
      subst hL
      obtain ⟨h11, h12, h13, h54, h57, h61, h64, h68, h71, h58, h59, h66, _⟩ := hs
      refine un _ _ _ _ (LLate.weakH hH ?_)
      refine t2 10 22 (by kernel_rfl) ?_ ?_
      · refine nApp rfl rfl h59 (congrArg elems h61) rfl fun b2 c2 => ?_
        exact cv _ _ _ _ (s0_3_6_7_10_14 _ _ _ _ _ _ _ _ (by kernel_rfl) hd ⟨h11, h12, h13, h54, h57, h61, h64, h68, h71, h58, rfl, h66, trivial⟩ (HSub.pick (Pick.there Pick.here) (HSub.pick Pick.here (HSub.pick Pick.here (HSub.refl _)))))
      · refine LLateOp.new rfl rfl (S.alloc fun b14 => ?_)
        exact cv _ _ _ _ (s0_3_6_7_14_22 _ _ _ _ _ _ _ _ (by kernel_rfl) hd ⟨h11, h12, h13, h54, h57, h61, h64, h68, h71, h58, h59, h66, rfl, trivial⟩ (HSub.pick (Pick.there Pick.here) (HSub.pick (Pick.there Pick.here) (HSub.pick (Pick.there Pick.here) (HSub.pick Pick.here (HSub.refl _))))))
    have s0_3_6_7_10 : ∀ (L : Array Bool) (e : Env) (H : Heap) (b1 c1 b2 c2 : Nat), L = #[true, true, true, true, true, true, true, true, true, true, true, true, true, false, false, true, true, false, true, true, false, false, false, false] → e.ds = j0.ds → AllSlots e [(11, ptr b11 0), (12, int .i64 0), (13, int .i64 0), (54, .list (p.vars.map str)), (57, .list (q.vars.map str)), (61, .list (p.arrays.map encAr)), (64, .list (q.arrays.map encAr)), (68, .list (p.funcs.map encFn)), (71, .list (q.funcs.map encFn)), (58, .app b1 c1 1 ((([] : List LV) ++ p.vars.map str) ++ q.vars.map str)), (62, .app b2 c2 2 (([] : List LV) ++ p.arrays.map encAr))] → HSub ([(b1, .row (((([] : List LV) ++ p.vars.map str) ++ q.vars.map str).length * 1))] ++ ([(b2, .row ((([] : List LV) ++ p.arrays.map encAr).length * 2))] ++ ([(b11, .cells 27 [.list ((p.app q).vars.map str), .list ((p.app q).arrays.map encAr), .list ((p.app q).funcs.map encFn)]), (b8, .cells 27 [.list (q.vars.map str), .list (q.arrays.map encAr), .list (q.funcs.map encFn)]), (b5, .cells 27 [.list (p.vars.map str), .list (p.arrays.map encAr), .list (p.funcs.map encFn)])]))) H → LL 7 L e H := by
      intro L e H b1 c1 b2 c2 hL hd hs hH
      subst hL
      obtain ⟨h11, h12, h13, h54, h57, h61, h64, h68, h71, h58, h62, _⟩ := hs
      refine un _ _ _ _ (LLate.weakH hH ?_)
      refine t3 13 14 22 (by kernel_rfl) ?_ ?_ ?_
      · refine nApp rfl rfl h62 (congrArg elems h64) rfl fun b2 c2 => ?_
        exact cv _ _ _ _ (s0_3_6_7_10_13 _ _ _ _ _ _ _ (by kernel_rfl) hd ⟨h11, h12, h13, h54, h57, h61, h64, h68, h71, h58, rfl, trivial⟩ (HSub.pick (Pick.there Pick.here) (HSub.pick Pick.here (HSub.refl _))))
      · refine nLit rfl rfl fun b3 => ?_
        exact cv _ _ _ _ (s0_3_6_7_10_14 _ _ _ _ _ _ _ _ (by kernel_rfl) hd ⟨h11, h12, h13, h54, h57, h61, h64, h68, h71, h58, h62, rfl, trivial⟩ (HSub.pick (Pick.there Pick.here) (HSub.pick (Pick.there Pick.here) (HSub.pick Pick.here (HSub.refl _)))))
      · refine LLateOp.new rfl rfl (S.alloc fun b14 => ?_)
        exact cv _ _ _ _ (s0_3_6_7_10_22 _ _ _ _ _ _ _ _ (by kernel_rfl) hd ⟨h11, h12, h13, h54, h57, h61, h64, h68, h71, h58, h62, rfl, trivial⟩ (HSub.pick (Pick.there Pick.here) (HSub.pick (Pick.there Pick.here) (HSub.pick Pick.here (HSub.refl _)))))
    have s0_7_14_22 : ∀ (L : Array Bool) (e : Env) (H : Heap) (b1 b2 b3 b14 : Nat), L = #[true, true, true, false, true, true, false, true, true, true, false, true, true, false, true, true, true, false, true, true, false, false, true, false] → e.ds = j0.ds → AllSlots e [(11, ptr b11 0), (12, int .i64 0), (13, int .i64 0), (54, .list (p.vars.map str)), (57, .list (q.vars.map str)), (61, .list (p.arrays.map encAr)), (64, .list (q.arrays.map encAr)), (68, .list (p.funcs.map encFn)), (71, .list (q.funcs.map encFn)), (52, .app b1 0 1 []), (59, .app b2 0 2 []), (66, .app b3 0 4 []), (14, ptr b14 0)] → HSub ([(b1, .row (([] : List LV).length * 1))] ++ ([(b2, .row (([] : List LV).length * 2))] ++ ([(b3, .row (([] : List LV).length * 4))] ++ ([(b14, .cells 27 ([Value.slice none 0 0, Value.slice none 0 0, Value.slice none 0 0].map LV.atom))] ++ ([(b11, .cells 27 [.list ((p.app q).vars.map str), .list ((p.app q).arrays.map encAr), .list ((p.app q).funcs.map encFn)]), (b8, .cells 27 [.list (q.vars.map str), .list (q.arrays.map encAr), .list (q.funcs.map encFn)]), (b5, .cells 27 [.list (p.vars.map str), .list (p.arrays.map encAr), .list (p.funcs.map encFn)])]))))) H → LL 8 L e H := by
      intro L e H b1 b2 b3 b14 hL hd hs hH
      subst hL
      obtain ⟨h11, h12, h13, h54, h57, h61, h64, h68, h71, h52, h59, h66, h14, _⟩ := hs
      refine un _ _ _ _ (LLate.weakH hH ?_)
      refine t1 3 (by kernel_rfl) ?_
      · refine nApp rfl rfl h52 (congrArg elems h54) rfl fun b1 c1 => ?_
        exact cv _ _ _ _ (s0_3_7_14_22 _ _ _ _ _ _ _ _ (by kernel_rfl) hd ⟨h11, h12, h13, h54, h57, h61, h64, h68, h71, rfl, h59, h66, h14, trivial⟩ (HSub.pick Pick.here (HSub.pick Pick.here (HSub.pick Pick.here (HSub.pick Pick.here (HSub.refl _))))))
    have s0_3_14_22 : ∀ (L : Array Bool) (e : Env) (H : Heap) (b1 c1 b3 b14 : Nat), L = #[true, true, true, true, true, true, false, false, true, true, false, true, true, false, true, true, true, false, true, true, false, false, true, false] → e.ds = j0.ds → AllSlots e [(11, ptr b11 0), (12, int .i64 0), (13, int .i64 0), (54, .list (p.vars.map str)), (57, .list (q.vars.map str)), (61, .list (p.arrays.map encAr)), (64, .list (q.arrays.map encAr)), (68, .list (p.funcs.map encFn)), (71, .list (q.funcs.map encFn)), (55, .app b1 c1 1 (([] : List LV) ++ p.vars.map str)), (66, .app b3 0 4 []), (14, ptr b14 0)] → HSub ([(b1, .row ((([] : List LV) ++ p.vars.map str).length * 1))] ++ ([(b3, .row (([] : List LV).length * 4))] ++ ([(b14, .cells 27 ([Value.slice none 0 0, Value.slice none 0 0, Value.slice none 0 0].map LV.atom))] ++ ([(b11, .cells 27 [.list ((p.app q).vars.map str), .list ((p.app q).arrays.map encAr), .list ((p.app q).funcs.map encFn)]), (b8, .cells 27 [.list (q.vars.map str), .list (q.arrays.map encAr), .list (q.funcs.map encFn)]), (b5, .cells 27 [.list (p.vars.map str), .list (p.arrays.map encAr), .list (p.funcs.map encFn)])])))) H → LL 8 L e H := by
      intro L e H b1 c1 b3 b14 hL hd hs hH
      subst hL
      obtain ⟨h11, h12, h13, h54, h57, h61, h64, h68, h71, h55, h66, h14, _⟩ := hs
      refine un _ _ _ _ (LLate.weakH hH ?_)
      refine t2 6 7 (by kernel_rfl) ?_ ?_
      · refine nApp rfl rfl h55 (congrArg elems h57) rfl fun b1 c1 => ?_
        exact cv _ _ _ _ (s0_3_6_14_22 _ _ _ _ _ _ _ (by kernel_rfl) hd ⟨h11, h12, h13, h54, h57, h61, h64, h68, h71, rfl, h66, h14, trivial⟩ (HSub.pick Pick.here (HSub.pick Pick.here (HSub.pick Pick.here (HSub.refl _)))))
      · refine nLit rfl rfl fun b2 => ?_
        exact cv _ _ _ _ (s0_3_7_14_22 _ _ _ _ _ _ _ _ (by kernel_rfl) hd ⟨h11, h12, h13, h54, h57, h61, h64, h68, h71, h55, rfl, h66, h14, trivial⟩ (HSub.pick (Pick.there Pick.here) (HSub.pick Pick.here (HSub.pick Pick.here (HSub.pick Pick.here (HSub.refl _))))))
    have s0_3_7_22 : ∀ (L : Array Bool) (e : Env) (H : Heap) (b1 c1 b2 b14 : Nat), L = #[true, true, true, true, true, true, false, true, true, true, false, true, true, false, false, true, true, false, true, true, false, false, true, false] → e.ds = j0.ds → AllSlots e [(11, ptr b11 0), (12, int .i64 0), (13, int .i64 0), (54, .list (p.vars.map str)), (57, .list (q.vars.map str)), (61, .list (p.arrays.map encAr)), (64, .list (q.arrays.map encAr)), (68, .list (p.funcs.map encFn)), (71, .list (q.funcs.map encFn)), (55, .app b1 c1 1 (([] : List LV) ++ p.vars.map str)), (59, .app b2 0 2 []), (14, ptr b14 0)] → HSub ([(b1, .row ((([] : List LV) ++ p.vars.map str).length * 1))] ++ ([(b2, .row (([] : List LV).length * 2))] ++ ([(b14, .cells 27 ([Value.slice none 0 0, Value.slice none 0 0, Value.slice none 0 0].map LV.atom))] ++ ([(b11, .cells 27 [.list ((p.app q).vars.map str), .list ((p.app q).arrays.map encAr), .list ((p.app q).funcs.map encFn)]), (b8, .cells 27 [.list (q.vars.map str), .list (q.arrays.map encAr), .list (q.funcs.map encFn)]), (b5, .cells 27 [.list (p.vars.map str), .list (p.arrays.map encAr), .list (p.funcs.map encFn)])])))) H → LL 8 L e H := by
      intro L e H b1 c1 b2 b14 hL hd hs hH
      subst hL
      obtain ⟨h11, h12, h13, h54, h57, h61, h64, h68, h71, h55, h59, h14, _⟩ := hs
      refine un _ _ _ _ (LLate.weakH hH ?_)
      refine t2 6 14 (by kernel_rfl) ?_ ?_
      · refine nApp rfl rfl h55 (congrArg elems h57) rfl fun b1 c1 => ?_
        exact cv _ _ _ _ (s0_3_6_7_22 _ _ _ _ _ _ _ (by kernel_rfl) hd ⟨h11, h12, h13, h54, h57, h61, h64, h68, h71, rfl, h59, h14, trivial⟩ (HSub.pick Pick.here (HSub.pick Pick.here (HSub.pick Pick.here (HSub.refl _)))))
      · refine nLit rfl rfl fun b3 => ?_
        exact cv _ _ _ _ (s0_3_7_14_22 _ _ _ _ _ _ _ _ (by kernel_rfl) hd ⟨h11, h12, h13, h54, h57, h61, h64, h68, h71, h55, h59, rfl, h14, trivial⟩ (HSub.pick (Pick.there Pick.here) (HSub.pick (Pick.there Pick.here) (HSub.pick Pick.here (HSub.pick Pick.here (HSub.refl _))))))
    have s0_3_6_22 : ∀ (L : Array Bool) (e : Env) (H : Heap) (b1 c1 b14 : Nat), L = #[true, true, true, true, true, true, true, false, true, true, false, true, true, false, false, true, true, false, true, true, false, false, true, false] → e.ds = j0.ds → AllSlots e [(11, ptr b11 0), (12, int .i64 0), (13, int .i64 0), (54, .list (p.vars.map str)), (57, .list (q.vars.map str)), (61, .list (p.arrays.map encAr)), (64, .list (q.arrays.map encAr)), (68, .list (p.funcs.map encFn)), (71, .list (q.funcs.map encFn)), (58, .app b1 c1 1 ((([] : List LV) ++ p.vars.map str) ++ q.vars.map str)), (14, ptr b14 0)] → HSub ([(b1, .row (((([] : List LV) ++ p.vars.map str) ++ q.vars.map str).length * 1))] ++ ([(b14, .cells 27 ([Value.slice none 0 0, Value.slice none 0 0, Value.slice none 0 0].map LV.atom))] ++ ([(b11, .cells 27 [.list ((p.app q).vars.map str), .list ((p.app q).arrays.map encAr), .list ((p.app q).funcs.map encFn)]), (b8, .cells 27 [.list (q.vars.map str), .list (q.arrays.map encAr), .list (q.funcs.map encFn)]), (b5, .cells 27 [.list (p.vars.map str), .list (p.arrays.map encAr), .list (p.funcs.map encFn)])]))) H → LL 8 L e H := by
      intro L e H b1 c1 b14 hL hd hs hH
      subst hL
      obtain ⟨h11, h12, h13, h54, h57, h61, h64, h68, h71, h58, h14, _⟩ := hs
      refine un _ _ _ _ (LLate.weakH hH ?_)
      refine t2 7 14 (by kernel_rfl) ?_ ?_
      · refine nLit rfl rfl fun b2 => ?_
        exact cv _ _ _ _ (s0_3_6_7_22 _ _ _ _ _ _ _ (by kernel_rfl) hd ⟨h11, h12, h13, h54, h57, h61, h64, h68, h71, h58, rfl, h14, trivial⟩ (HSub.pick (Pick.there Pick.here) (HSub.pick Pick.here (HSub.pick Pick.here (HSub.refl _)))))
      · refine nLit rfl rfl fun b3 => ?_
        exact cv _ _ _ _ (s0_3_6_14_22 _ _ _ _ _ _ _ (by kernel_rfl) hd ⟨h11, h12, h13, h54, h57, h61, h64, h68, h71, h58, rfl, h14, trivial⟩ (HSub.pick (Pick.there Pick.here) (HSub.pick Pick.here (HSub.pick Pick.here (HSub.refl _)))))
    have s0_3_7_14 : ∀ (L : Array Bool) (e : Env) (H : Heap) (b1 c1 b2 b3 : Nat), L = #[true, true, true, true, true, true, false, true, true, true, false, true, true, false, true, true, true, false, true, true, false, false, false, false] → e.ds = j0.ds → AllSlots e [(11, ptr b11 0), (12, int .i64 0), (13, int .i64 0), (54, .list (p.vars.map str)), (57, .list (q.vars.map str)), (61, .list (p.arrays.map encAr)), (64, .list (q.arrays.map encAr)), (68, .list (p.funcs.map encFn)), (71, .list (q.funcs.map encFn)), (55, .app b1 c1 1 (([] : List LV) ++ p.vars.map str)), (59, .app b2 0 2 []), (66, .app b3 0 4 [])] → HSub ([(b1, .row ((([] : List LV) ++ p.vars.map str).length * 1))] ++ ([(b2, .row (([] : List LV).length * 2))] ++ ([(b3, .row (([] : List LV).length * 4))] ++ ([(b11, .cells 27 [.list ((p.app q).vars.map str), .list ((p.app q).arrays.map encAr), .list ((p.app q).funcs.map encFn)]), (b8, .cells 27 [.list (q.vars.map str), .list (q.arrays.map encAr), .list (q.funcs.map encFn)]), (b5, .cells 27 [.list (p.vars.map str), .list (p.arrays.map encAr), .list (p.funcs.map encFn)])])))) H → LL 8 L e H := by
      intro L e H b1 c1 b2 b3 hL hd hs hH
      subst hL
      obtain ⟨h11, h12, h13, h54, h57, h61, h64, h68, h71, h55, h59, h66, _⟩ := hs
      refine un _ _ _ _ (LLate.weakH hH ?_)
      refine t2 6 22 (by kernel_rfl) ?_ ?_
      · refine nApp rfl rfl h55 (congrArg elems h57) rfl fun b1 c1 => ?_
        exact cv _ _ _ _ (s0_3_6_7_14 _ _ _ _ _ _ _ (by kernel_rfl) hd ⟨h11, h12, h13, h54, h57, h61, h64, h68, h71, rfl, h59, h66, trivial⟩ (HSub.pick Pick.here (HSub.pick Pick.here (HSub.pick Pick.here (HSub.refl _)))))
      · refine LLateOp.new rfl rfl (S.alloc fun b14 => ?_)
        exact cv _ _ _ _ (s0_3_7_14_22 _ _ _ _ _ _ _ _ (by kernel_rfl) hd ⟨h11, h12, h13, h54, h57, h61, h64, h68, h71, h55, h59, h66, rfl, trivial⟩ (HSub.pick (Pick.there Pick.here) (HSub.pick (Pick.there Pick.here) (HSub.pick (Pick.there Pick.here) (HSub.pick Pick.here (HSub.refl _))))))
    have s0_3_6_14 : ∀ (L : Array Bool) (e : Env) (H : Heap) (b1 c1 b3 : Nat), L = #[true, true, true, true, true, true, true, false, true, true, false, true, true, false, true, true, true, false, true, true, false, false, false, false] → e.ds = j0.ds → AllSlots e [(11, ptr b11 0), (12, int .i64 0), (13, int .i64 0), (54, .list (p.vars.map str)), (57, .list (q.vars.map str)), (61, .list (p.arrays.map encAr)), (64, .list (q.arrays.map encAr)), (68, .list (p.funcs.map encFn)), (71, .list (q.funcs.map encFn)), (58, .app b1 c1 1 ((([] : List LV) ++ p.vars.map str) ++ q.vars.map str)), (66, .app b3 0 4 [])] → HSub ([(b1, .row (((([] : List LV) ++ p.vars.map str) ++ q.vars.map str).length * 1))] ++ ([(b3, .row (([] : List LV).length * 4))] ++ ([(b11, .cells 27 [.list ((p.app q).vars.map str), .list ((p.app q).arrays.map encAr), .list ((p.app q).funcs.map encFn)]), (b8, .cells 27 [.list (q.vars.map str), .list (q.arrays.map encAr), .list (q.funcs.map encFn)]), (b5, .cells 27 [.list (p.vars.map str), .list (p.arrays.map encAr), .list (p.funcs.map encFn)])]))) H → LL 8 L e H := by
      intro L e H b1 c1 b3 hL hd hs hH
      subst hL
      obtain ⟨h11, h12, h13, h54, h57, h61, h64, h68, h71, h58, h66, _⟩ := hs
      refine un _ _ _ _ (LLate.weakH hH ?_)
      refine t2 7 22 (by kernel_rfl) ?_ ?_
      · refine nLit rfl rfl fun b2 => ?_
        exact cv _ _ _ _ (s0_3_6_7_14 _ _ _ _ _ _ _ (by kernel_rfl) hd ⟨h11, h12, h13, h54, h57, h61, h64, h68, h71, h58, rfl, h66, trivial⟩ (HSub.pick (Pick.there Pick.here) (HSub.pick Pick.here (HSub.pick Pick.here (HSub.refl _)))))
      · refine LLateOp.new rfl rfl (S.alloc fun b14 => ?_)
        exact cv _ _ _ _ (s0_3_6_14_22 _ _ _ _ _ _ _ (by kernel_rfl) hd ⟨h11, h12, h13, h54, h57, h61, h64, h68, h71, h58, h66, rfl, trivial⟩ (HSub.pick (Pick.there Pick.here) (HSub.pick (Pick.there Pick.here) (HSub.pick Pick.here (HSub.refl _)))))
    have s0_3_6_7 : ∀ (L : Array Bool) (e : Env) (H : Heap) (b1 c1 b2 : Nat), L = #[true, true, true, true, true, true, true, true, true, true, false, true, true, false, false, true, true, false, true, true, false, false, false, false] → e.ds = j0.ds → AllSlots e [(11, ptr b11 0), (12, int .i64 0), (13, int .i64 0), (54, .list (p.vars.map str)), (57, .list (q.vars.map str)), (61, .list (p.arrays.map encAr)), (64, .list (q.arrays.map encAr)), (68, .list (p.funcs.map encFn)), (71, .list (q.funcs.map encFn)), (58, .app b1 c1 1 ((([] : List LV) ++ p.vars.map str) ++ q.vars.map str)), (59, .app b2 0 2 [])] → HSub ([(b1, .row (((([] : List LV) ++ p.vars.map str) ++ q.vars.map str).length * 1))] ++ ([(b2, .row (([] : List LV).length * 2))] ++ ([(b11, .cells 27 [.list ((p.app q).vars.map str), .list ((p.app q).arrays.map encAr), .list ((p.app q).funcs.map encFn)]), (b8, .cells 27 [.list (q.vars.map str), .list (q.arrays.map encAr), .list (q.funcs.map encFn)]), (b5, .cells 27 [.list (p.vars.map str), .list (p.arrays.map encAr), .list (p.funcs.map encFn)])]))) H → LL 8 L e H := by
      intro L e H b1 c1 b2 hL hd hs hH
      subst hL
      obtain ⟨h11, h12, h13, h54, h57, h61, h64, h68, h71, h58, h59, _⟩ := hs
      refine un _ _ _ _ (LLate.weakH hH ?_)
      refine t3 10 14 22 (by kernel_rfl) ?_ ?_ ?_
      · refine nApp rfl rfl h59 (congrArg elems h61) rfl fun b2 c2 => ?_
        exact cv _ _ _ _ (s0_3_6_7_10 _ _ _ _ _ _ _ (by kernel_rfl) hd ⟨h11, h12, h13, h54, h57, h61, h64, h68, h71, h58, rfl, trivial⟩ (HSub.pick (Pick.there Pick.here) (HSub.pick Pick.here (HSub.refl _))))
      · refine nLit rfl rfl fun b3 => ?_
        exact cv _ _ _ _ (s0_3_6_7_14 _ _ _ _ _ _ _ (by kernel_rfl) hd ⟨h11, h12, h13, h54, h57, h61, h64, h68, h71, h58, h59, rfl, trivial⟩ (HSub.pick (Pick.there Pick.here) (HSub.pick (Pick.there Pick.here) (HSub.pick Pick.here (HSub.refl _)))))
      · refine LLateOp.new rfl rfl (S.alloc fun b14 => ?_)
        exact cv _ _ _ _ (s0_3_6_7_22 _ _ _ _ _ _ _ (by kernel_rfl) hd ⟨h11, h12, h13, h54, h57, h61, h64, h68, h71, h58, h59, rfl, trivial⟩ (HSub.pick (Pick.there Pick.here) (HSub.pick (Pick.there Pick.here) (HSub.pick Pick.here (HSub.refl _)))))
    have s7_14_22 : ∀ (L : Array Bool) (e : Env) (H : Heap) (b2 b3 b14 : Nat), L = #[false, true, true, false, true, true, false, true, true, true, false, true, true, false, true, true, true, false, true, true, false, false, true, false] → e.ds = j0.ds → AllSlots e [(11, ptr b11 0), (12, int .i64 0), (13, int .i64 0), (54, .list (p.vars.map str)), (57, .list (q.vars.map str)), (61, .list (p.arrays.map encAr)), (64, .list (q.arrays.map encAr)), (68, .list (p.funcs.map encFn)), (71, .list (q.funcs.map encFn)), (59, .app b2 0 2 []), (66, .app b3 0 4 []), (14, ptr b14 0)] → HSub ([(b2, .row (([] : List LV).length * 2))] ++ ([(b3, .row (([] : List LV).length * 4))] ++ ([(b14, .cells 27 ([Value.slice none 0 0, Value.slice none 0 0, Value.slice none 0 0].map LV.atom))] ++ ([(b11, .cells 27 [.list ((p.app q).vars.map str), .list ((p.app q).arrays.map encAr), .list ((p.app q).funcs.map encFn)]), (b8, .cells 27 [.list (q.vars.map str), .list (q.arrays.map encAr), .list (q.funcs.map encFn)]), (b5, .cells 27 [.list (p.vars.map str), .list (p.arrays.map encAr), .list (p.funcs.map encFn)])])))) H → LL 9 L e H := by
      intro L e H b2 b3 b14 hL hd hs hH
      subst hL
      obtain ⟨h11, h12, h13, h54, h57, h61, h64, h68, h71, h59, h66, h14, _⟩ := hs
      refine un _ _ _ _ (LLate.weakH hH ?_)
      refine t1 0 (by kernel_rfl) ?_
      · refine nLit rfl rfl fun b1 => ?_
        exact cv _ _ _ _ (s0_7_14_22 _ _ _ _ _ _ _ (by kernel_rfl) hd ⟨h11, h12, h13, h54, h57, h61, h64, h68, h71, rfl, h59, h66, h14, trivial⟩ (HSub.pick Pick.here (HSub.pick Pick.here (HSub.pick Pick.here (HSub.pick Pick.here (HSub.refl _))))))
    have s0_14_22 : ∀ (L : Array Bool) (e : Env) (H : Heap) (b1 b3 b14 : Nat), L = #[true, true, true, false, true, true, false, false, true, true, false, true, true, false, true, true, true, false, true, true, false, false, true, false] → e.ds = j0.ds → AllSlots e [(11, ptr b11 0), (12, int .i64 0), (13, int .i64 0), (54, .list (p.vars.map str)), (57, .list (q.vars.map str)), (61, .list (p.arrays.map encAr)), (64, .list (q.arrays.map encAr)), (68, .list (p.funcs.map encFn)), (71, .list (q.funcs.map encFn)), (52, .app b1 0 1 []), (66, .app b3 0 4 []), (14, ptr b14 0)] → HSub ([(b1, .row (([] : List LV).length * 1))] ++ ([(b3, .row (([] : List LV).length * 4))] ++ ([(b14, .cells 27 ([Value.slice none 0 0, Value.slice none 0 0, Value.slice none 0 0].map LV.atom))] ++ ([(b11, .cells 27 [.list ((p.app q).vars.map str), .list ((p.app q).arrays.map encAr), .list ((p.app q).funcs.map encFn)]), (b8, .cells 27 [.list (q.vars.map str), .list (q.arrays.map encAr), .list (q.funcs.map encFn)]), (b5, .cells 27 [.list (p.vars.map str), .list (p.arrays.map encAr), .list (p.funcs.map encFn)])])))) H → LL 9 L e H := by
      intro L e H b1 b3 b14 hL hd hs hH
      subst hL
      obtain ⟨h11, h12, h13, h54, h57, h61, h64, h68, h71, h52, h66, h14, _⟩ := hs
      refine un _ _ _ _ (LLate.weakH hH ?_)
      refine t2 3 7 (by kernel_rfl) ?_ ?_
      · refine nApp rfl rfl h52 (congrArg elems h54) rfl fun b1 c1 => ?_
        exact cv _ _ _ _ (s0_3_14_22 _ _ _ _ _ _ _ (by kernel_rfl) hd ⟨h11, h12, h13, h54, h57, h61, h64, h68, h71, rfl, h66, h14, trivial⟩ (HSub.pick Pick.here (HSub.pick Pick.here (HSub.pick Pick.here (HSub.refl _)))))
      · refine nLit rfl rfl fun b2 => ?_
        exact cv _ _ _ _ (s0_7_14_22 _ _ _ _ _ _ _ (by kernel_rfl) hd ⟨h11, h12, h13, h54, h57, h61, h64, h68, h71, h52, rfl, h66, h14, trivial⟩ (HSub.pick (Pick.there Pick.here) (HSub.pick Pick.here (HSub.pick Pick.here (HSub.pick Pick.here (HSub.refl _))))))
    have s0_7_22 : ∀ (L : Array Bool) (e : Env) (H : Heap) (b1 b2 b14 : Nat), L = #[true, true, true, false, true, true, false, true, true, true, false, true, true, false, false, true, true, false, true, true, false, false, true, false] → e.ds = j0.ds → AllSlots e [(11, ptr b11 0), (12, int .i64 0), (13, int .i64 0), (54, .list (p.vars.map str)), (57, .list (q.vars.map str)), (61, .list (p.arrays.map encAr)), (64, .list (q.arrays.map encAr)), (68, .list (p.funcs.map encFn)), (71, .list (q.funcs.map encFn)), (52, .app b1 0 1 []), (59, .app b2 0 2 []), (14, ptr b14 0)] → HSub ([(b1, .row (([] : List LV).length * 1))] ++ ([(b2, .row (([] : List LV).length * 2))] ++ ([(b14, .cells 27 ([Value.slice none 0 0, Value.slice none 0 0, Value.slice none 0 0].map LV.atom))] ++ ([(b11, .cells 27 [.list ((p.app q).vars.map str), .list ((p.app q).arrays.map encAr), .list ((p.app q).funcs.map encFn)]), (b8, .cells 27 [.list (q.vars.map str), .list (q.arrays.map encAr), .list (q.funcs.map encFn)]), (b5, .cells 27 [.list (p.vars.map str), .list (p.arrays.map encAr), .list (p.funcs.map encFn)])])))) H → LL 9 L e H := by
      intro L e H b1 b2 b14 hL hd hs hH
      subst hL
      obtain ⟨h11, h12, h13, h54, h57, h61, h64, h68, h71, h52, h59, h14, _⟩ := hs
      refine un _ _ _ _ (LLate.weakH hH ?_)
      refine t2 3 14 (by kernel_rfl) ?_ ?_
      · refine nApp rfl rfl h52 (congrArg elems h54) rfl fun b1 c1 => ?_
        exact cv _ _ _ _ (s0_3_7_22 _ _ _ _ _ _ _ (by kernel_rfl) hd ⟨h11, h12, h13, h54, h57, h61, h64, h68, h71, rfl, h59, h14, trivial⟩ (HSub.pick Pick.here (HSub.pick Pick.here (HSub.pick Pick.here (HSub.refl _)))))
      · refine nLit rfl rfl fun b3 => ?_
        exact cv _ _ _ _ (s0_7_14_22 _ _ _ _ _ _ _ (by kernel_rfl) hd ⟨h11, h12, h13, h54, h57, h61, h64, h68, h71, h52, h59, rfl, h14, trivial⟩ (HSub.pick (Pick.there Pick.here) (HSub.pick (Pick.there Pick.here) (HSub.pick Pick.here (HSub.pick Pick.here (HSub.refl _))))))
    have s0_3_22 : ∀ (L : Array Bool) (e : Env) (H : Heap) (b1 c1 b14 : Nat), L = #[true, true, true, true, true, true, false, false, true, true, false, true, true, false, false, true, true, false, true, true, false, false, true, false] → e.ds = j0.ds → AllSlots e [(11, ptr b11 0), (12, int .i64 0), (13, int .i64 0), (54, .list (p.vars.map str)), (57, .list (q.vars.map str)), (61, .list (p.arrays.map encAr)), (64, .list (q.arrays.map encAr)), (68, .list (p.funcs.map encFn)), (71, .list (q.funcs.map encFn)), (55, .app b1 c1 1 (([] : List LV) ++ p.vars.map str)), (14, ptr b14 0)] → HSub ([(b1, .row ((([] : List LV) ++ p.vars.map str).length * 1))] ++ ([(b14, .cells 27 ([Value.slice none 0 0, Value.slice none 0 0, Value.slice none 0 0].map LV.atom))] ++ ([(b11, .cells 27 [.list ((p.app q).vars.map str), .list ((p.app q).arrays.map encAr), .list ((p.app q).funcs.map encFn)]), (b8, .cells 27 [.list (q.vars.map str), .list (q.arrays.map encAr), .list (q.funcs.map encFn)]), (b5, .cells 27 [.list (p.vars.map str), .list (p.arrays.map encAr), .list (p.funcs.map encFn)])]))) H → LL 9 L e H := by
      intro L e H b1 c1 b14 hL hd hs hH
      subst hL
      obtain ⟨h11, h12, h13, h54, h57, h61, h64, h68, h71, h55, h14, _⟩ := hs
      refine un _ _ _ _ (LLate.weakH hH ?_)
      refine t3 6 7 14 (by kernel_rfl) ?_ ?_ ?_
      · refine nApp rfl rfl h55 (congrArg elems h57) rfl fun b1 c1 => ?_
        exact cv _ _ _ _ (s0_3_6_22 _ _ _ _ _ _ (by kernel_rfl) hd ⟨h11, h12, h13, h54, h57, h61, h64, h68, h71, rfl, h14, trivial⟩ (HSub.pick Pick.here (HSub.pick Pick.here (HSub.refl _))))
      · refine nLit rfl rfl fun b2 => ?_
        exact cv _ _ _ _ (s0_3_7_22 _ _ _ _ _ _ _ (by kernel_rfl) hd ⟨h11, h12, h13, h54, h57, h61, h64, h68, h71, h55, rfl, h14, trivial⟩ (HSub.pick (Pick.there Pick.here) (HSub.pick Pick.here (HSub.pick Pick.here (HSub.refl _)))))
      · refine nLit rfl rfl fun b3 => ?_
        exact cv _ _ _ _ (s0_3_14_22 _ _ _ _ _ _ _ (by kernel_rfl) hd ⟨h11, h12, h13, h54, h57, h61, h64, h68, h71, h55, rfl, h14, trivial⟩ (HSub.pick (Pick.there Pick.here) (HSub.pick Pick.here (HSub.pick Pick.here (HSub.refl _)))))
    have s0_7_14 : ∀ (L : Array Bool) (e : Env) (H : Heap) (b1 b2 b3 : Nat), L = #[true, true, true, false, true, true, false, true, true, true, false, true, true, false, true, true, true, false, true, true, false, false, false, false] → e.ds = j0.ds → AllSlots e [(11, ptr b11 0), (12, int .i64 0), (13, int .i64 0), (54, .list (p.vars.map str)), (57, .list (q.vars.map str)), (61, .list (p.arrays.map encAr)), (64, .list (q.arrays.map encAr)), (68, .list (p.funcs.map encFn)), (71, .list (q.funcs.map encFn)), (52, .app b1 0 1 []), (59, .app b2 0 2 []), (66, .app b3 0 4 [])] → HSub ([(b1, .row (([] : List LV).length * 1))] ++ ([(b2, .row (([] : List LV).length * 2))] ++ ([(b3, .row (([] : List LV).length * 4))] ++ ([(b11, .cells 27 [.list ((p.app q).vars.map str), .list ((p.app q).arrays.map encAr), .list ((p.app q).funcs.map encFn)]), (b8, .cells 27 [.list (q.vars.map str), .list (q.arrays.map encAr), .list (q.funcs.map encFn)]), (b5, .cells 27 [.list (p.vars.map str), .list (p.arrays.map encAr), .list (p.funcs.map encFn)])])))) H → LL 9 L e H := by
      intro L e H b1 b2 b3 hL hd hs hH
      subst hL
      obtain ⟨h11, h12, h13, h54, h57, h61, h64, h68, h71, h52, h59, h66, _⟩ := hs
      refine un _ _ _ _ (LLate.weakH hH ?_)
      refine t2 3 22 (by kernel_rfl) ?_ ?_
      · refine nApp rfl rfl h52 (congrArg elems h54) rfl fun b1 c1 => ?_
        exact cv _ _ _ _ (s0_3_7_14 _ _ _ _ _ _ _ (by kernel_rfl) hd ⟨h11, h12, h13, h54, h57, h61, h64, h68, h71, rfl, h59, h66, trivial⟩ (HSub.pick Pick.here (HSub.pick Pick.here (HSub.pick Pick.here (HSub.refl _)))))
      · refine LLateOp.new rfl rfl (S.alloc fun b14 => ?_)
        exact cv _ _ _ _ (s0_7_14_22 _ _ _ _ _ _ _ (by kernel_rfl) hd ⟨h11, h12, h13, h54, h57, h61, h64, h68, h71, h52, h59, h66, rfl, trivial⟩ (HSub.pick (Pick.there Pick.here) (HSub.pick (Pick.there Pick.here) (HSub.pick (Pick.there Pick.here) (HSub.pick Pick.here (HSub.refl _))))))
    have s0_3_14 : ∀ (L : Array Bool) (e : Env) (H : Heap) (b1 c1 b3 : Nat), L = #[true, true, true, true, true, true, false, false, true, true, false, true, true, false, true, true, true, false, true, true, false, false, false, false] → e.ds = j0.ds → AllSlots e [(11, ptr b11 0), (12, int .i64 0), (13, int .i64 0), (54, .list (p.vars.map str)), (57, .list (q.vars.map str)), (61, .list (p.arrays.map encAr)), (64, .list (q.arrays.map encAr)), (68, .list (p.funcs.map encFn)), (71, .list (q.funcs.map encFn)), (55, .app b1 c1 1 (([] : List LV) ++ p.vars.map str)), (66, .app b3 0 4 [])] → HSub ([(b1, .row ((([] : List LV) ++ p.vars.map str).length * 1))] ++ ([(b3, .row (([] : List LV).length * 4))] ++ ([(b11, .cells 27 [.list ((p.app q).vars.map str), .list ((p.app q).arrays.map encAr), .list ((p.app q).funcs.map encFn)]), (b8, .cells 27 [.list (q.vars.map str), .list (q.arrays.map encAr), .list (q.funcs.map encFn)]), (b5, .cells 27 [.list (p.vars.map str), .list (p.arrays.map encAr), .list (p.funcs.map encFn)])]))) H → LL 9 L e H := by
      intro L e H b1 c1 b3 hL hd hs hH
      subst hL
      obtain ⟨h11, h12, h13, h54, h57, h61, h64, h68, h71, h55, h66, _⟩ := hs
      refine un _ _ _ _ (LLate.weakH hH ?_)
      refine t3 6 7 22 (by kernel_rfl) ?_ ?_ ?_
      · refine nApp rfl rfl h55 (congrArg elems h57) rfl fun b1 c1 => ?_
        exact cv _ _ _ _ (s0_3_6_14 _ _ _ _ _ _ (by kernel_rfl) hd ⟨h11, h12, h13, h54, h57, h61, h64, h68, h71, rfl, h66, trivial⟩ (HSub.pick Pick.here (HSub.pick Pick.here (HSub.refl _))))
      · refine nLit rfl rfl fun b2 => ?_
        exact cv _ _ _ _ (s0_3_7_14 _ _ _ _ _ _ _ (by kernel_rfl) hd ⟨h11, h12, h13, h54, h57, h61, h64, h68, h71, h55, rfl, h66, trivial⟩ (HSub.pick (Pick.there Pick.here) (HSub.pick Pick.here (HSub.pick Pick.here (HSub.refl _)))))
      · refine LLateOp.new rfl rfl (S.alloc fun b14 => ?_)
        exact cv _ _ _ _ (s0_3_14_22 _ _ _ _ _ _ _ (by kernel_rfl) hd ⟨h11, h12, h13, h54, h57, h61, h64, h68, h71, h55, h66, rfl, trivial⟩ (HSub.pick (Pick.there Pick.here) (HSub.pick (Pick.there Pick.here) (HSub.pick Pick.here (HSub.refl _)))))
    have s0_3_7 : ∀ (L : Array Bool) (e : Env) (H : Heap) (b1 c1 b2 : Nat), L = #[true, true, true, true, true, true, false, true, true, true, false, true, true, false, false, true, true, false, true, true, false, false, false, false] → e.ds = j0.ds → AllSlots e [(11, ptr b11 0), (12, int .i64 0), (13, int .i64 0), (54, .list (p.vars.map str)), (57, .list (q.vars.map str)), (61, .list (p.arrays.map encAr)), (64, .list (q.arrays.map encAr)), (68, .list (p.funcs.map encFn)), (71, .list (q.funcs.map encFn)), (55, .app b1 c1 1 (([] : List LV) ++ p.vars.map str)), (59, .app b2 0 2 [])] → HSub ([(b1, .row ((([] : List LV) ++ p.vars.map str).length * 1))] ++ ([(b2, .row (([] : List LV).length * 2))] ++ ([(b11, .cells 27 [.list ((p.app q).vars.map str), .list ((p.app q).arrays.map encAr), .list ((p.app q).funcs.map encFn)]), (b8, .cells 27 [.list (q.vars.map str), .list (q.arrays.map encAr), .list (q.funcs.map encFn)]), (b5, .cells 27 [.list (p.vars.map str), .list (p.arrays.map encAr), .list (p.funcs.map encFn)])]))) H → LL 9 L e H := by
      intro L e H b1 c1 b2 hL hd hs hH
      subst hL
      obtain ⟨h11, h12, h13, h54, h57, h61, h64, h68, h71, h55, h59, _⟩ := hs
      refine un _ _ _ _ (LLate.weakH hH ?_)
      refine t3 6 14 22 (by kernel_rfl) ?_ ?_ ?_
      · refine nApp rfl rfl h55 (congrArg elems h57) rfl fun b1 c1 => ?_
        exact cv _ _ _ _ (s0_3_6_7 _ _ _ _ _ _ (by kernel_rfl) hd ⟨h11, h12, h13, h54, h57, h61, h64, h68, h71, rfl, h59, trivial⟩ (HSub.pick Pick.here (HSub.pick Pick.here (HSub.refl _))))
      · refine nLit rfl rfl fun b3 => ?_
        exact cv _ _ _ _ (s0_3_7_14 _ _ _ _ _ _ _ (by kernel_rfl) hd ⟨h11, h12, h13, h54, h57, h61, h64, h68, h71, h55, h59, rfl, trivial⟩ (HSub.pick (Pick.there Pick.here) (HSub.pick (Pick.there Pick.here) (HSub.pick Pick.here (HSub.refl _)))))
      · refine LLateOp.new rfl rfl (S.alloc fun b14 => ?_)
        exact cv _ _ _ _ (s0_3_7_22 _ _ _ _ _ _ _ (by kernel_rfl) hd ⟨h11, h12, h13, h54, h57, h61, h64, h68, h71, h55, h59, rfl, trivial⟩ (HSub.pick (Pick.there Pick.here) (HSub.pick (Pick.there Pick.here) (HSub.pick Pick.here (HSub.refl _)))))
    have s0_3_6 : ∀ (L : Array Bool) (e : Env) (H : Heap) (b1 c1 : Nat), L = #[true, true, true, true, true, true, true, false, true, true, false, true, true, false, false, true, true, false, true, true, false, false, false, false] → e.ds = j0.ds → AllSlots e [(11, ptr b11 0), (12, int .i64 0), (13, int .i64 0), (54, .list (p.vars.map str)), (57, .list (q.vars.map str)), (61, .list (p.arrays.map encAr)), (64, .list (q.arrays.map encAr)), (68, .list (p.funcs.map encFn)), (71, .list (q.funcs.map encFn)), (58, .app b1 c1 1 ((([] : List LV) ++ p.vars.map str) ++ q.vars.map str))] → HSub ([(b1, .row (((([] : List LV) ++ p.vars.map str) ++ q.vars.map str).length * 1))] ++ ([(b11, .cells 27 [.list ((p.app q).vars.map str), .list ((p.app q).arrays.map encAr), .list ((p.app q).funcs.map encFn)]), (b8, .cells 27 [.list (q.vars.map str), .list (q.arrays.map encAr), .list (q.funcs.map encFn)]), (b5, .cells 27 [.list (p.vars.map str), .list (p.arrays.map encAr), .list (p.funcs.map encFn)])])) H → LL 9 L e H := by
      intro L e H b1 c1 hL hd hs hH
      subst hL
      obtain ⟨h11, h12, h13, h54, h57, h61, h64, h68, h71, h58, _⟩ := hs
      refine un _ _ _ _ (LLate.weakH hH ?_)
      refine t3 7 14 22 (by kernel_rfl) ?_ ?_ ?_
      · refine nLit rfl rfl fun b2 => ?_
        exact cv _ _ _ _ (s0_3_6_7 _ _ _ _ _ _ (by kernel_rfl) hd ⟨h11, h12, h13, h54, h57, h61, h64, h68, h71, h58, rfl, trivial⟩ (HSub.pick (Pick.there Pick.here) (HSub.pick Pick.here (HSub.refl _))))
      · refine nLit rfl rfl fun b3 => ?_
        exact cv _ _ _ _ (s0_3_6_14 _ _ _ _ _ _ (by kernel_rfl) hd ⟨h11, h12, h13, h54, h57, h61, h64, h68, h71, h58, rfl, trivial⟩ (HSub.pick (Pick.there Pick.here) (HSub.pick Pick.here (HSub.refl _))))
      · refine LLateOp.new rfl rfl (S.alloc fun b14 => ?_)
        exact cv _ _ _ _ (s0_3_6_22 _ _ _ _ _ _ (by kernel_rfl) hd ⟨h11, h12, h13, h54, h57, h61, h64, h68, h71, h58, rfl, trivial⟩ (HSub.pick (Pick.there Pick.here) (HSub.pick Pick.here (HSub.refl _))))
    have s14_22 : ∀ (L : Array Bool) (e : Env) (H : Heap) (b3 b14 : Nat), L = #[false, true, true, false, true, true, false, false, true, true, false, true, true, false, true, true, true, false, true, true, false, false, true, false] → e.ds = j0.ds → AllSlots e [(11, ptr b11 0), (12, int .i64 0), (13, int .i64 0), (54, .list (p.vars.map str)), (57, .list (q.vars.map str)), (61, .list (p.arrays.map encAr)), (64, .list (q.arrays.map encAr)), (68, .list (p.funcs.map encFn)), (71, .list (q.funcs.map encFn)), (66, .app b3 0 4 []), (14, ptr b14 0)] → HSub ([(b3, .row (([] : List LV).length * 4))] ++ ([(b14, .cells 27 ([Value.slice none 0 0, Value.slice none 0 0, Value.slice none 0 0].map LV.atom))] ++ ([(b11, .cells 27 [.list ((p.app q).vars.map str), .list ((p.app q).arrays.map encAr), .list ((p.app q).funcs.map encFn)]), (b8, .cells 27 [.list (q.vars.map str), .list (q.arrays.map encAr), .list (q.funcs.map encFn)]), (b5, .cells 27 [.list (p.vars.map str), .list (p.arrays.map encAr), .list (p.funcs.map encFn)])]))) H → LL 10 L e H := by
      intro L e H b3 b14 hL hd hs hH
      subst hL
      obtain ⟨h11, h12, h13, h54, h57, h61, h64, h68, h71, h66, h14, _⟩ := hs
      refine un _ _ _ _ (LLate.weakH hH ?_)
      refine t2 0 7 (by kernel_rfl) ?_ ?_
      · refine nLit rfl rfl fun b1 => ?_
        exact cv _ _ _ _ (s0_14_22 _ _ _ _ _ _ (by kernel_rfl) hd ⟨h11, h12, h13, h54, h57, h61, h64, h68, h71, rfl, h66, h14, trivial⟩ (HSub.pick Pick.here (HSub.pick Pick.here (HSub.pick Pick.here (HSub.refl _)))))
      · refine nLit rfl rfl fun b2 => ?_
        exact cv _ _ _ _ (s7_14_22 _ _ _ _ _ _ (by kernel_rfl) hd ⟨h11, h12, h13, h54, h57, h61, h64, h68, h71, rfl, h66, h14, trivial⟩ (HSub.pick Pick.here (HSub.pick Pick.here (HSub.pick Pick.here (HSub.refl _)))))
    have s7_22 : ∀ (L : Array Bool) (e : Env) (H : Heap) (b2 b14 : Nat), L = #[false, true, true, false, true, true, false, true, true, true, false, true, true, false, false, true, true, false, true, true, false, false, true, false] → e.ds = j0.ds → AllSlots e [(11, ptr b11 0), (12, int .i64 0), (13, int .i64 0), (54, .list (p.vars.map str)), (57, .list (q.vars.map str)), (61, .list (p.arrays.map encAr)), (64, .list (q.arrays.map encAr)), (68, .list (p.funcs.map encFn)), (71, .list (q.funcs.map encFn)), (59, .app b2 0 2 []), (14, ptr b14 0)] → HSub ([(b2, .row (([] : List LV).length * 2))] ++ ([(b14, .cells 27 ([Value.slice none 0 0, Value.slice none 0 0, Value.slice none 0 0].map LV.atom))] ++ ([(b11, .cells 27 [.list ((p.app q).vars.map str), .list ((p.app q).arrays.map encAr), .list ((p.app q).funcs.map encFn)]), (b8, .cells 27 [.list (q.vars.map str), .list (q.arrays.map encAr), .list (q.funcs.map encFn)]), (b5, .cells 27 [.list (p.vars.map str), .list (p.arrays.map encAr), .list (p.funcs.map encFn)])]))) H → LL 10 L e H := by
      intro L e H b2 b14 hL hd hs hH
      subst hL
      obtain ⟨h11, h12, h13, h54, h57, h61, h64, h68, h71, h59, h14, _⟩ := hs
      refine un _ _ _ _ (LLate.weakH hH ?_)
      refine t2 0 14 (by kernel_rfl) ?_ ?_
      · refine nLit rfl rfl fun b1 => ?_
        exact cv _ _ _ _ (s0_7_22 _ _ _ _ _ _ (by kernel_rfl) hd ⟨h11, h12, h13, h54, h57, h61, h64, h68, h71, rfl, h59, h14, trivial⟩ (HSub.pick Pick.here (HSub.pick Pick.here (HSub.pick Pick.here (HSub.refl _)))))
      · refine nLit rfl rfl fun b3 => ?_
        exact cv _ _ _ _ (s7_14_22 _ _ _ _ _ _ (by kernel_rfl) hd ⟨h11, h12, h13, h54, h57, h61, h64, h68, h71, h59, rfl, h14, trivial⟩ (HSub.pick (Pick.there Pick.here) (HSub.pick Pick.here (HSub.pick Pick.here (HSub.refl _)))))
    have s0_22 : ∀ (L : Array Bool) (e : Env) (H : Heap) (b1 b14 : Nat), L = #[true, true, true, false, true, true, false, false, true, true, false, true, true, false, false, true, true, false, true, true, false, false, true, false] → e.ds = j0.ds → AllSlots e [(11, ptr b11 0), (12, int .i64 0), (13, int .i64 0), (54, .list (p.vars.map str)), (57, .list (q.vars.map str)), (61, .list (p.arrays.map encAr)), (64, .list (q.arrays.map encAr)), (68, .list (p.funcs.map encFn)), (71, .list (q.funcs.map encFn)), (52, .app b1 0 1 []), (14, ptr b14 0)] → HSub ([(b1, .row (([] : List LV).length * 1))] ++ ([(b14, .cells 27 ([Value.slice none 0 0, Value.slice none 0 0, Value.slice none 0 0].map LV.atom))] ++ ([(b11, .cells 27 [.list ((p.app q).vars.map str), .list ((p.app q).arrays.map encAr), .list ((p.app q).funcs.map encFn)]), (b8, .cells 27 [.list (q.vars.map str), .list (q.arrays.map encAr), .list (q.funcs.map encFn)]), (b5, .cells 27 [.list (p.vars.map str), .list (p.arrays.map encAr), .list (p.funcs.map encFn)])]))) H → LL 10 L e H := by
      intro L e H b1 b14 hL hd hs hH
      subst hL
      obtain ⟨h11, h12, h13, h54, h57, h61, h64, h68, h71, h52, h14, _⟩ := hs
      refine un _ _ _ _ (LLate.weakH hH ?_)
      refine t3 3 7 14 (by kernel_rfl) ?_ ?_ ?_
      · refine nApp rfl rfl h52 (congrArg elems h54) rfl fun b1 c1 => ?_
        exact cv _ _ _ _ (s0_3_22 _ _ _ _ _ _ (by kernel_rfl) hd ⟨h11, h12, h13, h54, h57, h61, h64, h68, h71, rfl, h14, trivial⟩ (HSub.pick Pick.here (HSub.pick Pick.here (HSub.refl _))))
      · refine nLit rfl rfl fun b2 => ?_
        exact cv _ _ _ _ (s0_7_22 _ _ _ _ _ _ (by kernel_rfl) hd ⟨h11, h12, h13, h54, h57, h61, h64, h68, h71, h52, rfl, h14, trivial⟩ (HSub.pick (Pick.there Pick.here) (HSub.pick Pick.here (HSub.pick Pick.here (HSub.refl _)))))
      · refine nLit rfl rfl fun b3 => ?_
        exact cv _ _ _ _ (s0_14_22 _ _ _ _ _ _ (by kernel_rfl) hd ⟨h11, h12, h13, h54, h57, h61, h64, h68, h71, h52, rfl, h14, trivial⟩ (HSub.pick (Pick.there Pick.here) (HSub.pick Pick.here (HSub.pick Pick.here (HSub.refl _)))))
    have s7_14 : ∀ (L : Array Bool) (e : Env) (H : Heap) (b2 b3 : Nat), L = #[false, true, true, false, true, true, false, true, true, true, false, true, true, false, true, true, true, false, true, true, false, false, false, false] → e.ds = j0.ds → AllSlots e [(11, ptr b11 0), (12, int .i64 0), (13, int .i64 0), (54, .list (p.vars.map str)), (57, .list (q.vars.map str)), (61, .list (p.arrays.map encAr)), (64, .list (q.arrays.map encAr)), (68, .list (p.funcs.map encFn)), (71, .list (q.funcs.map encFn)), (59, .app b2 0 2 []), (66, .app b3 0 4 [])] → HSub ([(b2, .row (([] : List LV).length * 2))] ++ ([(b3, .row (([] : List LV).length * 4))] ++ ([(b11, .cells 27 [.list ((p.app q).vars.map str), .list ((p.app q).arrays.map encAr), .list ((p.app q).funcs.map encFn)]), (b8, .cells 27 [.list (q.vars.map str), .list (q.arrays.map encAr), .list (q.funcs.map encFn)]), (b5, .cells 27 [.list (p.vars.map str), .list (p.arrays.map encAr), .list (p.funcs.map encFn)])]))) H → LL 10 L e H := by
      intro L e H b2 b3 hL hd hs hH
      subst hL
      obtain ⟨h11, h12, h13, h54, h57, h61, h64, h68, h71, h59, h66, _⟩ := hs
      refine un _ _ _ _ (LLate.weakH hH ?_)
      refine t2 0 22 (by kernel_rfl) ?_ ?_
      · refine nLit rfl rfl fun b1 => ?_
        exact cv _ _ _ _ (s0_7_14 _ _ _ _ _ _ (by kernel_rfl) hd ⟨h11, h12, h13, h54, h57, h61, h64, h68, h71, rfl, h59, h66, trivial⟩ (HSub.pick Pick.here (HSub.pick Pick.here (HSub.pick Pick.here (HSub.refl _)))))
      · refine LLateOp.new rfl rfl (S.alloc fun b14 => ?_)
        exact cv _ _ _ _ (s7_14_22 _ _ _ _ _ _ (by kernel_rfl) hd ⟨h11, h12, h13, h54, h57, h61, h64, h68, h71, h59, h66, rfl, trivial⟩ (HSub.pick (Pick.there Pick.here) (HSub.pick (Pick.there Pick.here) (HSub.pick Pick.here (HSub.refl _)))))
    have s0_14 : ∀ (L : Array Bool) (e : Env) (H : Heap) (b1 b3 : Nat), L = #[true, true, true, false, true, true, false, false, true, true, false, true, true, false, true, true, true, false, true, true, false, false, false, false] → e.ds = j0.ds → AllSlots e [(11, ptr b11 0), (12, int .i64 0), (13, int .i64 0), (54, .list (p.vars.map str)), (57, .list (q.vars.map str)), (61, .list (p.arrays.map encAr)), (64, .list (q.arrays.map encAr)), (68, .list (p.funcs.map encFn)), (71, .list (q.funcs.map encFn)), (52, .app b1 0 1 []), (66, .app b3 0 4 [])] → HSub ([(b1, .row (([] : List LV).length * 1))] ++ ([(b3, .row (([] : List LV).length * 4))] ++ ([(b11, .cells 27 [.list ((p.app q).vars.map str), .list ((p.app q).arrays.map encAr), .list ((p.app q).funcs.map encFn)]), (b8, .cells 27 [.list (q.vars.map str), .list (q.arrays.map encAr), .list (q.funcs.map encFn)]), (b5, .cells 27 [.list (p.vars.map str), .list (p.arrays.map encAr), .list (p.funcs.map encFn)])]))) H → LL 10 L e H := by
      intro L e H b1 b3 hL hd hs hH
      subst hL
      obtain ⟨h11, h12, h13, h54, h57, h61, h64, h68, h71, h52, h66, _⟩ := hs
      refine un _ _ _ _ (LLate.weakH hH ?_)
      refine t3 3 7 22 (by kernel_rfl) ?_ ?_ ?_
      · refine nApp rfl rfl h52 (congrArg elems h54) rfl fun b1 c1 => ?_
        exact cv _ _ _ _ (s0_3_14 _ _ _ _ _ _ (by kernel_rfl) hd ⟨h11, h12, h13, h54, h57, h61, h64, h68, h71, rfl, h66, trivial⟩ (HSub.pick Pick.here (HSub.pick Pick.here (HSub.refl _))))
      · refine nLit rfl rfl fun b2 => ?_
        exact cv _ _ _ _ (s0_7_14 _ _ _ _ _ _ (by kernel_rfl) hd ⟨h11, h12, h13, h54, h57, h61, h64, h68, h71, h52, rfl, h66, trivial⟩ (HSub.pick (Pick.there Pick.here) (HSub.pick Pick.here (HSub.pick Pick.here (HSub.refl _)))))
      · refine LLateOp.new rfl rfl (S.alloc fun b14 => ?_)
        exact cv _ _ _ _ (s0_14_22 _ _ _ _ _ _ (by kernel_rfl) hd ⟨h11, h12, h13, h54, h57, h61, h64, h68, h71, h52, h66, rfl, trivial⟩ (HSub.pick (Pick.there Pick.here) (HSub.pick (Pick.there Pick.here) (HSub.pick Pick.here (HSub.refl _)))))
    have s0_7 : ∀ (L : Array Bool) (e : Env) (H : Heap) (b1 b2 : Nat), L = #[true, true, true, false, true, true, false, true, true, true, false, true, true, false, false, true, true, false, true, true, false, false, false, false] → e.ds = j0.ds → AllSlots e [(11, ptr b11 0), (12, int .i64 0), (13, int .i64 0), (54, .list (p.vars.map str)), (57, .list (q.vars.map str)), (61, .list (p.arrays.map encAr)), (64, .list (q.arrays.map encAr)), (68, .list (p.funcs.map encFn)), (71, .list (q.funcs.map encFn)), (52, .app b1 0 1 []), (59, .app b2 0 2 [])] → HSub ([(b1, .row (([] : List LV).length * 1))] ++ ([(b2, .row (([] : List LV).length * 2))] ++ ([(b11, .cells 27 [.list ((p.app q).vars.map str), .list ((p.app q).arrays.map encAr), .list ((p.app q).funcs.map encFn)]), (b8, .cells 27 [.list (q.vars.map str), .list (q.arrays.map encAr), .list (q.funcs.map encFn)]), (b5, .cells 27 [.list (p.vars.map str), .list (p.arrays.map encAr), .list (p.funcs.map encFn)])]))) H → LL 10 L e H := by
      intro L e H b1 b2 hL hd hs hH
      subst hL
      obtain ⟨h11, h12, h13, h54, h57, h61, h64, h68, h71, h52, h59, _⟩ := hs
      refine un _ _ _ _ (LLate.weakH hH ?_)
      refine t3 3 14 22 (by kernel_rfl) ?_ ?_ ?_
      · refine nApp rfl rfl h52 (congrArg elems h54) rfl fun b1 c1 => ?_
        exact cv _ _ _ _ (s0_3_7 _ _ _ _ _ _ (by kernel_rfl) hd ⟨h11, h12, h13, h54, h57, h61, h64, h68, h71, rfl, h59, trivial⟩ (HSub.pick Pick.here (HSub.pick Pick.here (HSub.refl _))))
      · refine nLit rfl rfl fun b3 => ?_
        exact cv _ _ _ _ (s0_7_14 _ _ _ _ _ _ (by kernel_rfl) hd ⟨h11, h12, h13, h54, h57, h61, h64, h68, h71, h52, h59, rfl, trivial⟩ (HSub.pick (Pick.there Pick.here) (HSub.pick (Pick.there Pick.here) (HSub.pick Pick.here (HSub.refl _)))))
      · refine LLateOp.new rfl rfl (S.alloc fun b14 => ?_)
        exact cv _ _ _ _ (s0_7_22 _ _ _ _ _ _ (by kernel_rfl) hd ⟨h11, h12, h13, h54, h57, h61, h64, h68, h71, h52, h59, rfl, trivial⟩ (HSub.pick (Pick.there Pick.here) (HSub.pick (Pick.there Pick.here) (HSub.pick Pick.here (HSub.refl _)))))
    have s0_3 : ∀ (L : Array Bool) (e : Env) (H : Heap) (b1 c1 : Nat), L = #[true, true, true, true, true, true, false, false, true, true, false, true, true, false, false, true, true, false, true, true, false, false, false, false] → e.ds = j0.ds → AllSlots e [(11, ptr b11 0), (12, int .i64 0), (13, int .i64 0), (54, .list (p.vars.map str)), (57, .list (q.vars.map str)), (61, .list (p.arrays.map encAr)), (64, .list (q.arrays.map encAr)), (68, .list (p.funcs.map encFn)), (71, .list (q.funcs.map encFn)), (55, .app b1 c1 1 (([] : List LV) ++ p.vars.map str))] → HSub ([(b1, .row ((([] : List LV) ++ p.vars.map str).length * 1))] ++ ([(b11, .cells 27 [.list ((p.app q).vars.map str), .list ((p.app q).arrays.map encAr), .list ((p.app q).funcs.map encFn)]), (b8, .cells 27 [.list (q.vars.map str), .list (q.arrays.map encAr), .list (q.funcs.map encFn)]), (b5, .cells 27 [.list (p.vars.map str), .list (p.arrays.map encAr), .list (p.funcs.map encFn)])])) H → LL 10 L e H := by
      intro L e H b1 c1 hL hd hs hH
      subst hL
      obtain ⟨h11, h12, h13, h54, h57, h61, h64, h68, h71, h55, _⟩ := hs
      refine un _ _ _ _ (LLate.weakH hH ?_)
      refine t4 6 7 14 22 (by kernel_rfl) ?_ ?_ ?_ ?_
      · refine nApp rfl rfl h55 (congrArg elems h57) rfl fun b1 c1 => ?_
        exact cv _ _ _ _ (s0_3_6 _ _ _ _ _ (by kernel_rfl) hd ⟨h11, h12, h13, h54, h57, h61, h64, h68, h71, rfl, trivial⟩ (HSub.pick Pick.here (HSub.refl _)))
      · refine nLit rfl rfl fun b2 => ?_
        exact cv _ _ _ _ (s0_3_7 _ _ _ _ _ _ (by kernel_rfl) hd ⟨h11, h12, h13, h54, h57, h61, h64, h68, h71, h55, rfl, trivial⟩ (HSub.pick (Pick.there Pick.here) (HSub.pick Pick.here (HSub.refl _))))
      · refine nLit rfl rfl fun b3 => ?_
        exact cv _ _ _ _ (s0_3_14 _ _ _ _ _ _ (by kernel_rfl) hd ⟨h11, h12, h13, h54, h57, h61, h64, h68, h71, h55, rfl, trivial⟩ (HSub.pick (Pick.there Pick.here) (HSub.pick Pick.here (HSub.refl _))))
      · refine LLateOp.new rfl rfl (S.alloc fun b14 => ?_)
        exact cv _ _ _ _ (s0_3_22 _ _ _ _ _ _ (by kernel_rfl) hd ⟨h11, h12, h13, h54, h57, h61, h64, h68, h71, h55, rfl, trivial⟩ (HSub.pick (Pick.there Pick.here) (HSub.pick Pick.here (HSub.refl _))))
    have s22 : ∀ (L : Array Bool) (e : Env) (H : Heap) (b14 : Nat), L = #[false, true, true, false, true, true, false, false, true, true, false, true, true, false, false, true, true, false, true, true, false, false, true, false] → e.ds = j0.ds → AllSlots e [(11, ptr b11 0), (12, int .i64 0), (13, int .i64 0), (54, .list (p.vars.map str)), (57, .list (q.vars.map str)), (61, .list (p.arrays.map encAr)), (64, .list (q.arrays.map encAr)), (68, .list (p.funcs.map encFn)), (71, .list (q.funcs.map encFn)), (14, ptr b14 0)] → HSub ([(b14, .cells 27 ([Value.slice none 0 0, Value.slice none 0 0, Value.slice none 0 0].map LV.atom))] ++ ([(b11, .cells 27 [.list ((p.app q).vars.map str), .list ((p.app q).arrays.map encAr), .list ((p.app q).funcs.map encFn)]), (b8, .cells 27 [.list (q.vars.map str), .list (q.arrays.map encAr), .list (q.funcs.map encFn)]), (b5, .cells 27 [.list (p.vars.map str), .list (p.arrays.map encAr), .list (p.funcs.map encFn)])])) H → LL 11 L e H := by
      intro L e H b14 hL hd hs hH
      subst hL
      obtain ⟨h11, h12, h13, h54, h57, h61, h64, h68, h71, h14, _⟩ := hs
      refine un _ _ _ _ (LLate.weakH hH ?_)
      refine t3 0 7 14 (by kernel_rfl) ?_ ?_ ?_
      · refine nLit rfl rfl fun b1 => ?_
        exact cv _ _ _ _ (s0_22 _ _ _ _ _ (by kernel_rfl) hd ⟨h11, h12, h13, h54, h57, h61, h64, h68, h71, rfl, h14, trivial⟩ (HSub.pick Pick.here (HSub.pick Pick.here (HSub.refl _))))
      · refine nLit rfl rfl fun b2 => ?_
        exact cv _ _ _ _ (s7_22 _ _ _ _ _ (by kernel_rfl) hd ⟨h11, h12, h13, h54, h57, h61, h64, h68, h71, rfl, h14, trivial⟩ (HSub.pick Pick.here (HSub.pick Pick.here (HSub.refl _))))
      · refine nLit rfl rfl fun b3 => ?_
        exact cv _ _ _ _ (s14_22 _ _ _ _ _ (by kernel_rfl) hd ⟨h11, h12, h13, h54, h57, h61, h64, h68, h71, rfl, h14, trivial⟩ (HSub.pick Pick.here (HSub.pick Pick.here (HSub.refl _))))
    have s14 : ∀ (L : Array Bool) (e : Env) (H : Heap) (b3 : Nat), L = #[false, true, true, false, true, true, false, false, true, true, false, true, true, false, true, true, true, false, true, true, false, false, false, false] → e.ds = j0.ds → AllSlots e [(11, ptr b11 0), (12, int .i64 0), (13, int .i64 0), (54, .list (p.vars.map str)), (57, .list (q.vars.map str)), (61, .list (p.arrays.map encAr)), (64, .list (q.arrays.map encAr)), (68, .list (p.funcs.map encFn)), (71, .list (q.funcs.map encFn)), (66, .app b3 0 4 [])] → HSub ([(b3, .row (([] : List LV).length * 4))] ++ ([(b11, .cells 27 [.list ((p.app q).vars.map str), .list ((p.app q).arrays.map encAr), .list ((p.app q).funcs.map encFn)]), (b8, .cells 27 [.list (q.vars.map str), .list (q.arrays.map encAr), .list (q.funcs.map encFn)]), (b5, .cells 27 [.list (p.vars.map str), .list (p.arrays.map encAr), .list (p.funcs.map encFn)])])) H → LL 11 L e H := by
      intro L e H b3 hL hd hs hH
      subst hL
      obtain ⟨h11, h12, h13, h54, h57, h61, h64, h68, h71, h66, _⟩ := hs
      refine un _ _ _ _ (LLate.weakH hH ?_)
      refine t3 0 7 22 (by kernel_rfl) ?_ ?_ ?_
      · refine nLit rfl rfl fun b1 => ?_
        exact cv _ _ _ _ (s0_14 _ _ _ _ _ (by kernel_rfl) hd ⟨h11, h12, h13, h54, h57, h61, h64, h68, h71, rfl, h66, trivial⟩ (HSub.pick Pick.here (HSub.pick Pick.here (HSub.refl _))))
      · refine nLit rfl rfl fun b2 => ?_
        exact cv _ _ _ _ (s7_14 _ _ _ _ _ (by kernel_rfl) hd ⟨h11, h12, h13, h54, h57, h61, h64, h68, h71, rfl, h66, trivial⟩ (HSub.pick Pick.here (HSub.pick Pick.here (HSub.refl _))))
      · refine LLateOp.new rfl rfl (S.alloc fun b14 => ?_)
        exact cv _ _ _ _ (s14_22 _ _ _ _ _ (by kernel_rfl) hd ⟨h11, h12, h13, h54, h57, h61, h64, h68, h71, h66, rfl, trivial⟩ (HSub.pick (Pick.there Pick.here) (HSub.pick Pick.here (HSub.refl _))))
    have s7 : ∀ (L : Array Bool) (e : Env) (H : Heap) (b2 : Nat), L = #[false, true, true, false, true, true, false, true, true, true, false, true, true, false, false, true, true, false, true, true, false, false, false, false] → e.ds = j0.ds → AllSlots e [(11, ptr b11 0), (12, int .i64 0), (13, int .i64 0), (54, .list (p.vars.map str)), (57, .list (q.vars.map str)), (61, .list (p.arrays.map encAr)), (64, .list (q.arrays.map encAr)), (68, .list (p.funcs.map encFn)), (71, .list (q.funcs.map encFn)), (59, .app b2 0 2 [])] → HSub ([(b2, .row (([] : List LV).length * 2))] ++ ([(b11, .cells 27 [.list ((p.app q).vars.map str), .list ((p.app q).arrays.map encAr), .list ((p.app q).funcs.map encFn)]), (b8, .cells 27 [.list (q.vars.map str), .list (q.arrays.map encAr), .list (q.funcs.map encFn)]), (b5, .cells 27 [.list (p.vars.map str), .list (p.arrays.map encAr), .list (p.funcs.map encFn)])])) H → LL 11 L e H := by
      intro L e H b2 hL hd hs hH
      subst hL
      obtain ⟨h11, h12, h13, h54, h57, h61, h64, h68, h71, h59, _⟩ := hs
      refine un _ _ _ _ (LLate.weakH hH ?_)
      refine t3 0 14 22 (by kernel_rfl) ?_ ?_ ?_
      · refine nLit rfl rfl fun b1 => ?_
        exact cv _ _ _ _ (s0_7 _ _ _ _ _ (by kernel_rfl) hd ⟨h11, h12, h13, h54, h57, h61, h64, h68, h71, rfl, h59, trivial⟩ (HSub.pick Pick.here (HSub.pick Pick.here (HSub.refl _))))
      · refine nLit rfl rfl fun b3 => ?_
        exact cv _ _ _ _ (s7_14 _ _ _ _ _ (by kernel_rfl) hd ⟨h11, h12, h13, h54, h57, h61, h64, h68, h71, h59, rfl, trivial⟩ (HSub.pick (Pick.there Pick.here) (HSub.pick Pick.here (HSub.refl _))))
      · refine LLateOp.new rfl rfl (S.alloc fun b14 => ?_)
        exact cv _ _ _ _ (s7_22 _ _ _ _ _ (by kernel_rfl) hd ⟨h11, h12, h13, h54, h57, h61, h64, h68, h71, h59, rfl, trivial⟩ (HSub.pick (Pick.there Pick.here) (HSub.pick Pick.here (HSub.refl _))))
    have s0 : ∀ (L : Array Bool) (e : Env) (H : Heap) (b1 : Nat), L = #[true, true, true, false, true, true, false, false, true, true, false, true, true, false, false, true, true, false, true, true, false, false, false, false] → e.ds = j0.ds → AllSlots e [(11, ptr b11 0), (12, int .i64 0), (13, int .i64 0), (54, .list (p.vars.map str)), (57, .list (q.vars.map str)), (61, .list (p.arrays.map encAr)), (64, .list (q.arrays.map encAr)), (68, .list (p.funcs.map encFn)), (71, .list (q.funcs.map encFn)), (52, .app b1 0 1 [])] → HSub ([(b1, .row (([] : List LV).length * 1))] ++ ([(b11, .cells 27 [.list ((p.app q).vars.map str), .list ((p.app q).arrays.map encAr), .list ((p.app q).funcs.map encFn)]), (b8, .cells 27 [.list (q.vars.map str), .list (q.arrays.map encAr), .list (q.funcs.map encFn)]), (b5, .cells 27 [.list (p.vars.map str), .list (p.arrays.map encAr), .list (p.funcs.map encFn)])])) H → LL 11 L e H := by
      intro L e H b1 hL hd hs hH
      subst hL
      obtain ⟨h11, h12, h13, h54, h57, h61, h64, h68, h71, h52, _⟩ := hs
      refine un _ _ _ _ (LLate.weakH hH ?_)
      refine t4 3 7 14 22 (by kernel_rfl) ?_ ?_ ?_ ?_
      · refine nApp rfl rfl h52 (congrArg elems h54) rfl fun b1 c1 => ?_
        exact cv _ _ _ _ (s0_3 _ _ _ _ _ (by kernel_rfl) hd ⟨h11, h12, h13, h54, h57, h61, h64, h68, h71, rfl, trivial⟩ (HSub.pick Pick.here (HSub.refl _)))
      · refine nLit rfl rfl fun b2 => ?_
        exact cv _ _ _ _ (s0_7 _ _ _ _ _ (by kernel_rfl) hd ⟨h11, h12, h13, h54, h57, h61, h64, h68, h71, h52, rfl, trivial⟩ (HSub.pick (Pick.there Pick.here) (HSub.pick Pick.here (HSub.refl _))))
      · refine nLit rfl rfl fun b3 => ?_
        exact cv _ _ _ _ (s0_14 _ _ _ _ _ (by kernel_rfl) hd ⟨h11, h12, h13, h54, h57, h61, h64, h68, h71, h52, rfl, trivial⟩ (HSub.pick (Pick.there Pick.here) (HSub.pick Pick.here (HSub.refl _))))
      · refine LLateOp.new rfl rfl (S.alloc fun b14 => ?_)
        exact cv _ _ _ _ (s0_22 _ _ _ _ _ (by kernel_rfl) hd ⟨h11, h12, h13, h54, h57, h61, h64, h68, h71, h52, rfl, trivial⟩ (HSub.pick (Pick.there Pick.here) (HSub.pick Pick.here (HSub.refl _))))
    have s : ∀ (L : Array Bool) (e : Env) (H : Heap), L = #[false, true, true, false, true, true, false, false, true, true, false, true, true, false, false, true, true, false, true, true, false, false, false, false] → e.ds = j0.ds → AllSlots e [(11, ptr b11 0), (12, int .i64 0), (13, int .i64 0), (54, .list (p.vars.map str)), (57, .list (q.vars.map str)), (61, .list (p.arrays.map encAr)), (64, .list (q.arrays.map encAr)), (68, .list (p.funcs.map encFn)), (71, .list (q.funcs.map encFn))] → HSub ([(b11, .cells 27 [.list ((p.app q).vars.map str), .list ((p.app q).arrays.map encAr), .list ((p.app q).funcs.map encFn)]), (b8, .cells 27 [.list (q.vars.map str), .list (q.arrays.map encAr), .list (q.funcs.map encFn)]), (b5, .cells 27 [.list (p.vars.map str), .list (p.arrays.map encAr), .list (p.funcs.map encFn)])]) H → LL 12 L e H := by
      intro L e H  hL hd hs hH
      subst hL
      obtain ⟨h11, h12, h13, h54, h57, h61, h64, h68, h71, _⟩ := hs
      refine un _ _ _ _ (LLate.weakH hH ?_)
      refine t4 0 7 14 22 (by kernel_rfl) ?_ ?_ ?_ ?_
      · refine nLit rfl rfl fun b1 => ?_
        exact cv _ _ _ _ (s0 _ _ _ _ (by kernel_rfl) hd ⟨h11, h12, h13, h54, h57, h61, h64, h68, h71, rfl, trivial⟩ (HSub.pick Pick.here (HSub.refl _)))
      · refine nLit rfl rfl fun b2 => ?_
        exact cv _ _ _ _ (s7 _ _ _ _ (by kernel_rfl) hd ⟨h11, h12, h13, h54, h57, h61, h64, h68, h71, rfl, trivial⟩ (HSub.pick Pick.here (HSub.refl _)))
      · refine nLit rfl rfl fun b3 => ?_
        exact cv _ _ _ _ (s14 _ _ _ _ (by kernel_rfl) hd ⟨h11, h12, h13, h54, h57, h61, h64, h68, h71, rfl, trivial⟩ (HSub.pick Pick.here (HSub.refl _)))
      · refine LLateOp.new rfl rfl (S.alloc fun b14 => ?_)
        exact cv _ _ _ _ (s22 _ _ _ _ (by kernel_rfl) hd ⟨h11, h12, h13, h54, h57, h61, h64, h68, h71, rfl, trivial⟩ (HSub.pick Pick.here (HSub.refl _)))
    exact s _ _ _ (by kernel_rfl) rfl ⟨rfl, rfl, rfl, rfl, rfl, rfl, rfl, rfl, rfl, trivial⟩ (HSub.refl _)
  · rintro ⟨b14, v1, v2, v3⟩ ⟨s1, s2, s3⟩ j hj
    refine LCode.cellSub Pick.here (cs' := [.list ((p.app q).vars.map str), .list ((p.app q).arrays.map encAr), .list ((p.app q).funcs.map encFn)]) ⟨s1, s2, s3, trivial⟩ ?_
    repeat first
      | refine LCode.seq ?_
      | refine LCode.region ?_
      | refine LOps.pure (Pure.mv (lv := .atom _) rfl) rfl ?_
      | refine LOps.pure (Pure.pickT (lv := .atom _) rfl rfl) rfl ?_
      | refine LOps.pure (Pure.eql rfl rfl) rfl ?_
      | refine LOps.pure (Pure.ldHAgg (cs' := [_, _, _]) rfl (List.Mem.head _) rfl rfl) rfl ?_
      | refine LOps.pure (Pure.ldHAgg (cs' := [_, _, _]) rfl (List.Mem.tail _ (List.Mem.head _)) rfl rfl) rfl ?_
      | refine LOps.want rfl rfl ?_
    refine LOps.step (S.fn [_, _] rfl (by
      have := pequal_spec (B0 := B0) (w0 := w0) (p.app q) (p.app q) hbo hbo
      rw [(eqPr_iff _ _).2 rfl] at this
      exact this) ?_) rfl
    repeat first
      | refine LOps.nil ?_
      | refine LCode.ret ?_
      | refine QThen.normal ?_
      | refine LOps.pure (Pure.as (lv := .atom _) rfl) rfl ?_
      | refine LOps.pure (Pure.pickT (lv := .atom _) rfl rfl) rfl ?_
    exact retRet (hj.trans hj0) (AllRes.cons (ResIs.tmp (v := .atom _) rfl (LV.Sub.refl _)) AllRes.nil) rfl
end
end Go.Proofs.YtfodkbchknknjaaGreatDoor
