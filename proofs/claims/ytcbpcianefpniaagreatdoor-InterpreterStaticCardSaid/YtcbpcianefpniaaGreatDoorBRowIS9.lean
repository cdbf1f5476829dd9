/- Texts joined: ChkW10, ChkW11, InpNodes, InpX3, GlEqS, LawI, LawIA, LawIL, LawIS. -/
import Derived.Laws.StructEq
import Derived.ChangeKeysEq
import Derived.Test.YtcbpcianefpniaaGreatDoorBRowIS3
import Derived.Test.YtcbpcianefpniaaGreatDoorBRowIS6
import Derived.Test.YtcbpcianefpniaaGreatDoorBRowIS7
import Derived.Test.YtcbpcianefpniaaGreatDoorBRowIS8
set_option linter.unusedVariables false
set_option linter.unusedSimpArgs false
namespace Go.Proofs.YtcbpcianefpniaaGreatDoor.Chk
open Go.GL Go.RowKit Go.Stele
set_option maxRecDepth 100000
set_option maxHeartbeats 4000000
def encArG (a : Nm × Int) : LV := .agg [str a.1, int .i64 a.2]
def encPrG (vars : List Nm) (arrays : List (Nm × Int)) (fs : List FnD) : LV := .agg [.list (vars.map str), .list (arrays.map encArG), .list (fs.map encFn)]
theorem freshE_zero : ∀ (l known : List Nm), freshE known l = 0 → l.Nodup ∧ (∀ s ∈ l, s ∉ known) ∧ ∀ s ∈ l, isNm s = true
 | [], known, _ => ⟨List.nodup_nil, fun s h => (List.not_mem_nil h).elim, fun s h => (List.not_mem_nil h).elim⟩
 | s :: l, known, h => by
  rw [freshE] at h
  split at h
  ·cases h
  rename_i h1
  split at h
  ·cases h
  rename_i h2
  obtain ⟨h3, h4, h5⟩ := freshE_zero l _ h
  refine ⟨List.nodup_cons.2 ⟨fun hm => h4 s hm (List.mem_cons_self ..), h3⟩, ?_, ?_⟩
  ·intro x hx
   rcases List.mem_cons.1 hx with rfl | hx
   ·exact h2
   ·exact fun hk => h4 x hx (List.mem_cons_of_mem _ hk)
  ·intro x hx
   rcases List.mem_cons.1 hx with rfl | hx
   ·simpa using h1
   ·exact h5 x hx
theorem isNm_short {s : Nm} (h : isNm s = true) : s.length ≤ 1000 := by
 unfold isNm at h
 simp only [Bool.and_eq_true, decide_eq_true_eq] at h
 omega
theorem orE_ne {a b : Int} (h : a ≠ 0) : orE a b = a := by
 unfold orE
 exact if_pos h
theorem ndFs_append : ∀ a b : List FnD, ndFs (a ++ b) = ndFs a + ndFs b
 | [], b => by rw [List.nil_append, ndFs, Nat.zero_add]
 | x :: a, b => by rw [List.cons_append, ndFs, ndFs, ndFs_append a b]; omega
theorem errFs_zero {vars arrays later : List Nm} : ∀ (l : List FnD) (known : List FSum), errFs vars arrays later known l = 0 → ∀ f ∈ l, ∃ k, errF vars arrays later k f = 0
 | [], _, _, f, h => (List.not_mem_nil h).elim
 | g :: l, known, h, f, hf => by
  rw [errFs, orE_zero] at h
  rcases List.mem_cons.1 hf with rfl | hf
  ·exact ⟨known, h.1⟩
  ·exact errFs_zero l _ h.2 f hf
theorem errF_names {vars arrays later : List Nm} {k : List FSum} {f : FnD} (h : errF vars arrays later k f = 0) : ∀ x ∈ f.params ++ f.locals, x.length ≤ 1000 := by
 unfold errF at h
 rw [orE_zero] at h
 intro x hx
 exact isNm_short ((freshE_zero _ _ h.1).2.2 x hx)
theorem find_last {l : List FSum} {m : FSum} (hn : (l.map (·.name)).Nodup) (hm : l.getLast? = some m) : (l.find? fun g => decide (g.name = m.name)) = some m := by
 obtain ⟨ys, rfl⟩ := List.getLast?_eq_some_iff.1 hm
 rw [List.find?_append]
 have h1 : (ys.find? fun g => decide (g.name = m.name)) = none := by
  rw [List.find?_eq_none]
  intro g hg
  simp only [decide_eq_true_eq]
  intro h2
  rw [List.map_append] at hn
  exact (List.nodup_append.1 hn).2.2 _ (List.mem_map_of_mem hg) _ (List.mem_map_of_mem (List.mem_singleton_self m)) h2
 rw [h1, Option.none_or, List.find?_cons_of_pos]
 exact decide_eq_true rfl
theorem sumFs_names {vars arrays later : List Nm} : ∀ (l : List FnD) (known : List FSum), (sumFs vars arrays later known l).map (·.name) = known.map (·.name) ++ l.map (·.name)
 | [], known => by rw [sumFs]; simp
 | f :: l, known => by
  rw [sumFs, sumFs_names l]
  simp [sumF]
/-- What the first three loops leave of one name. -/
theorem fresh_step {pre l : List Nm} {s : Nm} {FR : Int} (h : freshE pre (s :: l) = FR) (h0 : newE pre s = 0) : freshE (pre ++ [s]) l = FR := by
 rw [← h, freshE_cons, h0, freshE_iff l (pre ++ [s]) (s :: pre) (fun x => by simp [or_comm])]
 rfl
theorem fresh_bad {pre l : List Nm} {s : Nm} {FR RA E : Int} (hI : orE FR RA = E) (h : freshE pre (s :: l) = FR) (h0 : newE pre s ≠ 0) : E = newE pre s := by
 rw [← hI, ← h, freshE_cons, orE_ne (a := orE _ _) (by rw [orE_ne h0]; exact h0), orE_ne h0]
attribute [local irreducible] LOps LCode LStep LCalls Go.GL.Pure QThen QBlock RetPost LQ LAny LLate LLateOp LS
section
variable {B0 : Nat} {w0 : World}
theorem program_spec {k : KB} {o : Value} {d : Nat} (vars : List Nm) (arrays : List (Nm × Int)) (fs : List FnD) (hk1 : k.G = []) (hk2 : k.V = []) (hk3 : k.A = []) (hk4 : k.F = []) (hv6 : vars.length ≤ 1000000) (ha6 : arrays.length ≤ 1000000) (har : ∀ a ∈ arrays, -9223372036854775808 ≤ a.2 ∧ a.2 < 9223372036854775808) (hnd : ndFs fs ≤ 1000000) :
  LCalls (KC B0 w0) 41 [ptr k.cb 0, encPrG vars arrays fs] (pgH k o d) (PostE (checkP vars arrays fs) (fun H => H = [])) := by
 have hf6 : fs.length ≤ 1000000 := Nat.le_trans (ndFs_len fs) hnd
 generalize hI : checkP vars arrays fs = E
 unfold checkP at hI
 generalize hFR : freshE [] (vars ++ arrays.map (·.1) ++ fs.map (·.name)) = FR at hI
 generalize hSZ : sizesE 0 (arrays.map (·.2)) = SZ at hI
 generalize hFS : errFs vars (arrays.map (·.1)) (fs.map (·.name)) [] fs = FS at hI
 generalize hSS : sumFs vars (arrays.map (·.1)) (fs.map (·.name)) [] fs = SS at hI
 generalize hMN : mainE vars fs SS = MN at hI
 generalize hRA : orE SZ (orE FS MN) = RA at hI
 refine LCalls.intro Tryz.func41 rfl (n := 147) rfl rfl rfl ?_
 repeat first | refine LCode.seq ?_ | refine LCode.region ?_
 refine LOps.step (S.box rfl fun b3 => ?_) rfl
 repeat first | refine LOps.nil ?_ | refine LCode.seq ?_ | refine LCode.region ?_ | refine LCode.block ?_ | refine QThen.normal ?_ | refine LOps.pure (Pure.fieldH rfl) rfl ?_ | refine LOps.pure (Pure.loadH (c := .list _) rfl (List.Mem.head _) rfl) rfl ?_ | refine LOps.pure (Pure.llen rfl) rfl ?_ | refine LOps.pure (Pure.mv (lv := .atom _) rfl) rfl ?_
 refine LCode.loopI (fun kk ls H' => ∃ (pre l1 : List Nm) (G1 V1 : KV) (g1 g2 : Nat), vars = pre ++ l1 ∧ kk = l1.length ∧ ls = [(0, ptr k.cb 0), (3, ptr b3 0), (18, .list (vars.map str)), (19, int .i64 ((vars.map str).length : Int)), (20, iv pre.length)] ∧
   H' = (b3, .cells 33 [.list (vars.map str), .list (arrays.map encArG), .list (fs.map encFn)]) :: pgH { k with G := G1, g1 := g1, V := V1, g2 := g2 } o d ∧ IsSet G1 pre ∧ IsSet V1 pre ∧ freshE pre (l1 ++ arrays.map (·.1) ++ fs.map (·.name)) = FR)
  ⟨_, _, _, ⟨[], vars, k.G, k.V, k.g1, k.g2, rfl, rfl, rfl, rfl, by rw [hk1]; exact IsSet.nil, by rw [hk2]; exact IsSet.nil, hFR⟩, ⟨rfl, rfl, rfl, rfl, rfl, trivial⟩, HSub.refl _⟩ ?_
 rintro kk ls H' ⟨pre, l1, G1, V1, g1, g2, hLe, rfl, rfl, rfl, hG1, hV1, hE⟩ j hj
 have hb2 : pre.length ≤ 1000000 := by
  have := congrArg List.length hLe
  rw [List.length_append] at this
  omega
 repeat first | refine LOps.nil ?_ | refine LCode.seq ?_ | refine LCode.region ?_ | refine QThen.normal ?_ | refine LOps.pure (Pure.lss rfl rfl) rfl ?_
 refine LCode.cond rfl (fun hc => ?_) (fun hc => ?_)
 ·have hlen := of_decide_eq_true hc
  rw [List.length_map, hLe, List.length_append] at hlen
  obtain ⟨s, l2, rfl⟩ : ∃ a l2, l1 = a :: l2 := by
   cases l1 with
   | nil => simp at hlen
   | cons a l2 => exact ⟨a, l2, rfl⟩
  rw [List.cons_append, List.cons_append] at hE
  repeat first | refine LCode.seq ?_ | refine LCode.region ?_ | refine LCode.skip ?_ | refine LCode.block ?_ | refine QThen.normal ?_
  refine LOps.pure (Pure.ixRef (el' := str s) (cs := [str s]) rfl rfl (by omega) (by rw [hLe]; exact get_mid str pre s l2) rfl rfl) rfl ?_
  repeat first | refine LOps.nil ?_ | refine LCode.seq ?_ | refine LCode.region ?_ | refine QThen.normal ?_ | refine LOps.pure (Pure.loadRef (c := .atom _) rfl rfl) rfl ?_ | refine LOps.pure (Pure.mv (lv := .atom _) rfl) rfl ?_ | refine LOps.pure (Pure.as (lv := .atom _) rfl) rfl ?_
  refine LOps.step (S.callE (F := [_]) [_, _] rfl (Inp.swap1) (global_spec (k := { k with G := G1, g1 := g1, V := V1, g2 := g2 }) (o := o) (d := d) hG1 s) (fun H2 h0 hP => ?_) (fun nm h0 e' he' => ?_)) rfl
  rotate_left
  ·repeat first | refine QThen.panic ?_ | refine QBlock.panic ?_
   exact panE (he'.trans hj) (fresh_bad hI hE h0) h0
  obtain ⟨g1', rfl⟩ := hP
  refine LOps.perm (Inp.swap1 (H := pgH _ _ _)).symm ?_
  repeat first | refine LOps.nil ?_ | refine LCode.region ?_ | refine QThen.normal ?_ | refine LOps.pure (Pure.fieldH rfl) rfl ?_ | refine LOps.pure (Pure.loadH (c := .atom _) rfl (List.Mem.tail _ (List.Mem.head _)) rfl) rfl ?_ | refine LOps.pure (Pure.mv (lv := .atom _) rfl) rfl ?_ | refine LOps.pure (Pure.nilCheckH rfl) rfl ?_
  refine LOps.step (S.kvSet (k := s) (lv := bool true) rfl rfl rfl (Pick.there (Pick.there (Pick.there Pick.here))) fun g2' => ?_) rfl
  repeat first | refine LOps.nil ?_ | refine LCode.region ?_ | refine QThen.normal ?_ | refine QBlock.normal ?_ | refine LOps.pure (Pure.mv (lv := .atom _) rfl) rfl ?_ | refine LOps.pure (Pure.add rfl rfl (by omega)) rfl ?_
  refine ⟨l2.length, _, _, Nat.lt_succ_self _, ⟨pre ++ [s], l2, GL.kvPut G1 s (bool true), GL.kvPut V1 s (bool true), g1', g2', by rw [hLe]; simp, rfl, rfl, rfl, hG1.add s, hV1.add s, fresh_step hE h0⟩, ⟨rfl, rfl, rfl, rfl, int_eq (by simp), trivial⟩, ?_, hj⟩
  repeat first
   | exact HSub.nil _
   | refine HSub.pick (by first | exact Pick.here | exact Pick.there Pick.here | exact Pick.there (Pick.there (Pick.here)) | exact Pick.there (Pick.there (Pick.there (Pick.here))) | exact Pick.there (Pick.there (Pick.there (Pick.there (Pick.here)))) | exact Pick.there (Pick.there (Pick.there (Pick.there (Pick.there (Pick.here))))) | exact Pick.there (Pick.there (Pick.there (Pick.there (Pick.there (Pick.there (Pick.here)))))) | exact Pick.there (Pick.there (Pick.there (Pick.there (Pick.there (Pick.there (Pick.there (Pick.here)))))))) ?_
 have hlen := of_decide_eq_false hc
 rw [List.length_map, hLe, List.length_append] at hlen
 obtain rfl : l1 = [] := by
  cases l1 with
  | nil => rfl
  | cons a l2 => simp at hlen; omega
 rw [List.append_nil] at hLe
 subst hLe
 rw [List.nil_append] at hE
 clear hlen hc hb2
 repeat first | refine LOps.nil ?_ | refine LCode.seq ?_ | refine LCode.region ?_ | refine LCode.exit ?_ | refine LCode.block ?_ | refine QThen.normal ?_ | refine QThen.exit ?_ | refine QBlock.hit ?_ | refine LOps.pure (Pure.fieldH rfl) rfl ?_ | refine LOps.pure (Pure.loadH (c := .list _) rfl (List.Mem.head _) rfl) rfl ?_ | refine LOps.pure (Pure.llen rfl) rfl ?_ | refine LOps.pure (Pure.mv (lv := .atom _) rfl) rfl ?_
 refine LCode.loopI (fun kk ls H' => ∃ (pre l1 : List (Nm × Int)) (G1 A1 : KV) (g1 g3 : Nat), arrays = pre ++ l1 ∧ kk = l1.length ∧ ls = [(0, ptr k.cb 0), (3, ptr b3 0), (34, .list (arrays.map encArG)), (35, int .i64 ((arrays.map encArG).length : Int)), (36, iv pre.length)] ∧
   H' = (b3, .cells 33 [.list (vars.map str), .list (arrays.map encArG), .list (fs.map encFn)]) :: pgH { k with G := G1, g1 := g1, V := V1, g2 := g2, A := A1, g3 := g3 } o d ∧ IsSet G1 (vars ++ pre.map (·.1)) ∧ IsSet A1 (pre.map (·.1)) ∧ freshE (vars ++ pre.map (·.1)) (l1.map (·.1) ++ fs.map (·.name)) = FR)
  ⟨_, _, _, ⟨[], arrays, G1, k.A, g1, k.g3, rfl, rfl, rfl, rfl, by simpa using hG1, by rw [hk3]; exact IsSet.nil, by simpa using hE⟩, ⟨rfl, rfl, rfl, rfl, rfl, trivial⟩, HSub.refl _⟩ ?_
 clear hG1 hE G1 g1
 rintro kk ls H' ⟨pre, l1, G1, A1, g1, g3, hLe, rfl, rfl, rfl, hG1, hA1, hE⟩ j hj2
 have hb2 : pre.length ≤ 1000000 := by
  have := congrArg List.length hLe
  rw [List.length_append] at this
  omega
 repeat first | refine LOps.nil ?_ | refine LCode.seq ?_ | refine LCode.region ?_ | refine QThen.normal ?_ | refine LOps.pure (Pure.lss rfl rfl) rfl ?_
 refine LCode.cond rfl (fun hc => ?_) (fun hc => ?_)
 ·have hlen := of_decide_eq_true hc
  rw [List.length_map, hLe, List.length_append] at hlen
  obtain ⟨s, l2, rfl⟩ : ∃ a l2, l1 = a :: l2 := by
   cases l1 with
   | nil => simp at hlen
   | cons a l2 => exact ⟨a, l2, rfl⟩
  rw [List.map_cons, List.cons_append] at hE
  repeat first | refine LCode.seq ?_ | refine LCode.region ?_ | refine LCode.skip ?_ | refine LCode.block ?_ | refine QThen.normal ?_
  refine LOps.pure (Pure.ixRef (el' := encArG s) (cs := [str s.1, int .i64 s.2]) rfl rfl (by omega) (by rw [hLe]; exact get_mid encArG pre s l2) rfl rfl) rfl ?_
  repeat first | refine LOps.pure (Pure.ldRefAgg (cs' := [_, _]) rfl rfl rfl) rfl ?_
  refine LOps.step (S.alloc fun b7 => ?_) rfl
  repeat first | refine LOps.nil ?_ | refine LCode.seq ?_ | refine LCode.region ?_ | refine QThen.normal ?_ | refine LOps.pure (Pure.fieldH rfl) rfl ?_ | refine LOps.pure (Pure.loadH (c := .atom _) rfl (List.Mem.head _) rfl) rfl ?_ | refine LOps.pure (Pure.mv (lv := .atom _) rfl) rfl ?_ | refine LOps.step (S.store (cs' := [_, _]) rfl Pick.here rfl rfl rfl rfl rfl ?_) rfl
  refine LOps.step (S.callE (F := [_, _]) [_, _] rfl (List.perm_append_comm (l₁ := [_, _])) (global_spec (k := { k with G := G1, g1 := g1, V := V1, g2 := g2, A := A1, g3 := g3 }) (o := o) (d := d) hG1 s.1) (fun H2 h0 hP => ?_) (fun nm h0 e' he' => ?_)) rfl
  rotate_left
  ·repeat first | refine QThen.panic ?_ | refine QBlock.panic ?_
   exact panE (he'.trans (hj2.trans hj)) (fresh_bad hI hE h0) h0
  obtain ⟨g1', rfl⟩ := hP
  refine LOps.weak (H' := [(b7, .cells 60 [str s.1, int .i64 s.2]), (k.cb, .cells 104 [.atom (.map (some k.gm)), .atom (.map (some k.vm)), .atom (.map (some k.am)), .atom (.map (some k.fm)), str k.name, .atom o, int .i64 (d : Int)]), (b3, .cells 33 [.list (vars.map str), .list (arrays.map encArG), .list (fs.map encFn)]),
   (k.gm, .map (kvs (GL.kvPut G1 s.1 (bool true))) g1'), (k.vm, .map (kvs V1) g2), (k.am, .map (kvs A1) g3), (k.fm, .map (kvs k.F) k.g4)]) ?_ ?_
  ·repeat first
    | exact HSub.nil _
    | refine HSub.pick (by first | exact Pick.here | exact Pick.there Pick.here | exact Pick.there (Pick.there (Pick.here)) | exact Pick.there (Pick.there (Pick.there (Pick.here))) | exact Pick.there (Pick.there (Pick.there (Pick.there (Pick.here)))) | exact Pick.there (Pick.there (Pick.there (Pick.there (Pick.there (Pick.here))))) | exact Pick.there (Pick.there (Pick.there (Pick.there (Pick.there (Pick.there (Pick.here)))))) | exact Pick.there (Pick.there (Pick.there (Pick.there (Pick.there (Pick.there (Pick.there (Pick.here)))))))) ?_
  repeat first | refine LOps.nil ?_ | refine QThen.normal ?_
  refine LCode.draw (m := 7) rfl [(b7, .cells 60 [str s.1, int .i64 s.2]), (k.cb, .cells 104 [.atom (.map (some k.gm)), .atom (.map (some k.vm)), .atom (.map (some k.am)), .atom (.map (some k.fm)), str k.name, .atom o, int .i64 (d : Int)])] ?_
  refine LAny.tk 0 rfl rfl (Pure.mv (lv := .atom _) rfl) ?_
  refine LAny.tk 1 rfl rfl (Pure.nilCheckH rfl) ?_
  refine LAny.tk 2 rfl rfl (Pure.fieldH rfl) ?_
  refine LAny.tk 3 rfl rfl (Pure.loadH (c := .atom _) rfl (List.Mem.tail _ (List.Mem.head _)) rfl) ?_
  refine LAny.tk 4 rfl rfl (Pure.fieldH rfl) ?_
  refine LAny.tk 5 rfl rfl (Pure.loadH (c := .atom _) rfl (List.Mem.head _) rfl) ?_
  refine LAny.late ?_ (HSub.pick Pick.here (HSub.pick Pick.here (HSub.nil _)))
  refine LLate.o 6 (LLateOp.step (H1 := [(k.am, .map (kvs A1) g3)]) rfl (.inl rfl) rfl (show Pick _ _ _ from Pick.there (Pick.there (Pick.there (Pick.there (Pick.there Pick.here))))) (HSub.pick Pick.here (HSub.pick Pick.here (HSub.nil _))) (S.kvSet (k := s.1) (lv := bool true) rfl rfl rfl Pick.here fun g3' => ?_))
  refine LLate.done (by kernel_rfl) ?_
  repeat first | refine LOps.nil ?_ | refine LCode.region ?_ | refine QThen.normal ?_ | refine QBlock.normal ?_ | refine LOps.pure (Pure.mv (lv := .atom _) rfl) rfl ?_ | refine LOps.pure (Pure.add rfl rfl (by omega)) rfl ?_
  refine ⟨l2.length, _, _, Nat.lt_succ_self _, ⟨pre ++ [s], l2, GL.kvPut G1 s.1 (bool true), GL.kvPut A1 s.1 (bool true), g1', g3', by rw [hLe]; simp, rfl, rfl, rfl, by simpa using hG1.add s.1, by simpa using hA1.add s.1, by simpa using fresh_step hE h0⟩, ⟨rfl, rfl, rfl, rfl, int_eq (by simp), trivial⟩, ?_, hj2⟩
  repeat first
   | exact HSub.nil _
   | refine HSub.pick (by first | exact Pick.here | exact Pick.there Pick.here | exact Pick.there (Pick.there (Pick.here)) | exact Pick.there (Pick.there (Pick.there (Pick.here))) | exact Pick.there (Pick.there (Pick.there (Pick.there (Pick.here)))) | exact Pick.there (Pick.there (Pick.there (Pick.there (Pick.there (Pick.here))))) | exact Pick.there (Pick.there (Pick.there (Pick.there (Pick.there (Pick.there (Pick.here)))))) | exact Pick.there (Pick.there (Pick.there (Pick.there (Pick.there (Pick.there (Pick.there (Pick.here)))))))) ?_
 have hlen := of_decide_eq_false hc
 rw [List.length_map, hLe, List.length_append] at hlen
 obtain rfl : l1 = [] := by
  cases l1 with
  | nil => rfl
  | cons a l2 => simp at hlen; omega
 rw [List.append_nil] at hLe
 subst hLe
 rw [List.map_nil, List.nil_append] at hE
 clear hlen hc hb2
 repeat first | refine LOps.nil ?_ | refine LCode.seq ?_ | refine LCode.region ?_ | refine LCode.exit ?_ | refine LCode.block ?_ | refine QThen.normal ?_ | refine QThen.exit ?_ | refine QBlock.hit ?_ | refine LOps.pure (Pure.fieldH rfl) rfl ?_ | refine LOps.pure (Pure.loadH (c := .list _) rfl (List.Mem.head _) rfl) rfl ?_ | refine LOps.pure (Pure.llen rfl) rfl ?_ | refine LOps.pure (Pure.mv (lv := .atom _) rfl) rfl ?_
 refine LCode.loopI (fun kk ls H' => ∃ (pre l1 : List FnD) (G1 : KV) (g1 : Nat), fs = pre ++ l1 ∧ kk = l1.length ∧ ls = [(0, ptr k.cb 0), (3, ptr b3 0), (52, .list (fs.map encFn)), (53, int .i64 ((fs.map encFn).length : Int)), (54, iv pre.length)] ∧
   H' = (b3, .cells 33 [.list (vars.map str), .list (arrays.map encArG), .list (fs.map encFn)]) :: pgH { k with G := G1, g1 := g1, V := V1, g2 := g2, A := A1, g3 := g3 } o d ∧ IsSet G1 (vars ++ arrays.map (·.1) ++ pre.map (·.name)) ∧ freshE (vars ++ arrays.map (·.1) ++ pre.map (·.name)) (l1.map (·.name)) = FR)
  ⟨_, _, _, ⟨[], fs, G1, g1, rfl, rfl, rfl, rfl, by simpa using hG1, by simpa using hE⟩, ⟨rfl, rfl, rfl, rfl, rfl, trivial⟩, HSub.refl _⟩ ?_
 clear hG1 hE G1 g1
 rintro kk ls H' ⟨pre, l1, G1, g1, hLe, rfl, rfl, rfl, hG1, hE⟩ j hj3
 have hb2 : pre.length ≤ 1000000 := by
  have := congrArg List.length hLe
  rw [List.length_append] at this
  omega
 repeat first | refine LOps.nil ?_ | refine LCode.seq ?_ | refine LCode.region ?_ | refine QThen.normal ?_ | refine LOps.pure (Pure.lss rfl rfl) rfl ?_
 refine LCode.cond rfl (fun hc => ?_) (fun hc => ?_)
 ·have hlen := of_decide_eq_true hc
  rw [List.length_map, hLe, List.length_append] at hlen
  obtain ⟨s, l2, rfl⟩ : ∃ a l2, l1 = a :: l2 := by
   cases l1 with
   | nil => simp at hlen
   | cons a l2 => exact ⟨a, l2, rfl⟩
  rw [List.map_cons] at hE
  repeat first | refine LCode.seq ?_ | refine LCode.region ?_ | refine LCode.skip ?_ | refine LCode.block ?_ | refine QThen.normal ?_
  refine LOps.pure (Pure.ixRef (el' := encFn s) (cs := [_, _, _, _]) rfl rfl (by omega) (by rw [hLe]; exact get_mid encFn pre s l2) rfl rfl) rfl ?_
  repeat first | refine LOps.pure (Pure.ldRefAgg (cs' := [_, _, _, _]) rfl rfl rfl) rfl ?_
  refine LOps.step (S.alloc fun b7 => ?_) rfl
  repeat first | refine LOps.nil ?_ | refine LCode.region ?_ | refine QThen.normal ?_ | refine LOps.pure (Pure.fieldH rfl) rfl ?_ | refine LOps.pure (Pure.loadH (c := .atom _) rfl (List.Mem.head _) rfl) rfl ?_ | refine LOps.pure (Pure.mv (lv := .atom _) rfl) rfl ?_ | refine LOps.step (S.store (cs' := [_, _, _, _]) rfl Pick.here rfl rfl rfl rfl rfl ?_) rfl
  refine LOps.step (S.callE (F := [_, _]) [_, _] rfl (List.perm_append_comm (l₁ := [_, _])) (global_spec (k := { k with G := G1, g1 := g1, V := V1, g2 := g2, A := A1, g3 := g3 }) (o := o) (d := d) hG1 s.name) (fun H2 h0 hP => ?_) (fun nm h0 e' he' => ?_)) rfl
  rotate_left
  ·repeat first | refine QThen.panic ?_ | refine QBlock.panic ?_
   exact panE (he'.trans (hj3.trans (hj2.trans hj))) (fresh_bad hI hE h0) h0
  obtain ⟨g1', rfl⟩ := hP
  refine LOps.perm (List.perm_append_comm (l₂ := [_, _])) ?_
  repeat first | refine LOps.nil ?_ | refine LCode.region ?_ | refine QThen.normal ?_ | refine QBlock.normal ?_ | refine LOps.pure (Pure.mv (lv := .atom _) rfl) rfl ?_ | refine LOps.pure (Pure.add rfl rfl (by omega)) rfl ?_
  refine ⟨l2.length, _, _, Nat.lt_succ_self _, ⟨pre ++ [s], l2, GL.kvPut G1 s.name (bool true), g1', by rw [hLe]; simp, rfl, rfl, rfl, by simpa using hG1.add s.name, by simpa using fresh_step hE h0⟩, ⟨rfl, rfl, rfl, rfl, int_eq (by simp), trivial⟩, HSub.drop (HSub.refl _), hj3⟩
 have hlen := of_decide_eq_false hc
 rw [List.length_map, hLe, List.length_append] at hlen
 obtain rfl : l1 = [] := by
  cases l1 with
  | nil => rfl
  | cons a l2 => simp at hlen; omega
 rw [List.append_nil] at hLe
 subst hLe
 have hFR0 : FR = 0 := hE.symm
 clear hlen hc hb2 hE
 rw [hFR0] at hI
 have hnod := (freshE_zero _ _ (hFR.trans hFR0)).1
 have hnmok := (freshE_zero _ _ (hFR.trans hFR0)).2.2
 have hI1 : RA = E := by rw [← hI]; rfl
 rw [← hRA] at hI1
 clear hI hRA hFR
 have hPr : 0 ≤ (0 : Int) ∧ (0 : Int) ≤ 150000 := ⟨by decide, by decide⟩
 repeat first | refine LOps.nil ?_ | refine LCode.seq ?_ | refine LCode.region ?_ | refine LCode.exit ?_ | refine LCode.block ?_ | refine QThen.normal ?_ | refine QThen.exit ?_ | refine QBlock.hit ?_ | refine LOps.pure (Pure.fieldH rfl) rfl ?_ | refine LOps.pure (Pure.loadH (c := .list _) rfl (List.Mem.head _) rfl) rfl ?_ | refine LOps.pure (Pure.llen rfl) rfl ?_ | refine LOps.pure (Pure.mv (lv := .atom _) rfl) rfl ?_ | refine LOps.pure (Pure.as (lv := .atom _) rfl) rfl ?_
 refine LCode.loopI (fun kk ls H' => ∃ (pre l1 : List (Nm × Int)) (T : Int), arrays = pre ++ l1 ∧ kk = l1.length ∧ ls = [(0, ptr k.cb 0), (3, ptr b3 0), (10, int .i64 T), (64, .list (arrays.map encArG)), (65, int .i64 ((arrays.map encArG).length : Int)), (66, iv pre.length)] ∧
   H' = (b3, .cells 33 [.list (vars.map str), .list (arrays.map encArG), .list (fs.map encFn)]) :: pgH { k with G := G1, g1 := g1, V := V1, g2 := g2, A := A1, g3 := g3 } o d ∧ (0 ≤ T ∧ T ≤ 150000) ∧ sizesE T (l1.map (·.2)) = SZ)
  ⟨_, _, _, ⟨[], arrays, 0, rfl, rfl, rfl, rfl, hPr, hSZ⟩, ⟨rfl, rfl, rfl, rfl, rfl, rfl, trivial⟩, HSub.refl _⟩ ?_
 clear hSZ
 rintro kk ls H' ⟨pre, l1, T, hLe, rfl, rfl, rfl, ⟨hT1, hT2⟩, hE⟩ j hj4
 have hb2 : pre.length ≤ 1000000 := by
  have := congrArg List.length hLe
  rw [List.length_append] at this
  omega
 repeat first | refine LOps.nil ?_ | refine LCode.seq ?_ | refine LCode.region ?_ | refine QThen.normal ?_ | refine LOps.pure (Pure.lss rfl rfl) rfl ?_
 refine LCode.cond rfl (fun hc => ?_) (fun hc => ?_)
 ·have hlen := of_decide_eq_true hc
  rw [List.length_map, hLe, List.length_append] at hlen
  obtain ⟨s, l2, rfl⟩ : ∃ a l2, l1 = a :: l2 := by
   cases l1 with
   | nil => simp at hlen
   | cons a l2 => exact ⟨a, l2, rfl⟩
  obtain ⟨hs1, hs2⟩ := har s (by rw [hLe]; exact List.mem_append_right _ (List.mem_cons_self ..))
  rw [List.map_cons, sizesE] at hE
  repeat first | refine LCode.seq ?_ | refine LCode.region ?_ | refine LCode.skip ?_ | refine LCode.block ?_ | refine QThen.normal ?_
  refine LOps.pure (Pure.ixRef (el' := encArG s) (cs := [str s.1, int .i64 s.2]) rfl rfl (by omega) (by rw [hLe]; exact get_mid encArG pre s l2) rfl rfl) rfl ?_
  repeat first | refine LOps.pure (Pure.ldRefAgg (cs' := [_, _]) rfl rfl rfl) rfl ?_
  refine LOps.step (S.alloc fun b7 => ?_) rfl
  repeat first | refine LOps.nil ?_ | refine LCode.seq ?_ | refine LCode.region ?_ | refine QThen.normal ?_ | refine LOps.pure (Pure.fieldH rfl) rfl ?_ | refine LOps.pure (Pure.loadH (c := .atom _) rfl (List.Mem.head _) rfl) rfl ?_ | refine LOps.pure (Pure.gtr rfl rfl) rfl ?_ | refine LOps.step (S.store (cs' := [_, _]) rfl Pick.here rfl rfl rfl rfl rfl ?_) rfl
  refine LOps.bcase 72 rfl (fun h1 => ?_) (fun h1 => ?_)
  rotate_left
  ·have h2 : s.2 ≤ 0 := by have := of_decide_eq_false h1; omega
   rw [if_pos h2] at hE
   refine LOps.step (S.callK (H1 := []) (F := _) [_, _, _] rfl (List.Perm.refl _) (req_spec false s.1 2 (by decide)) (fun h => absurd h (by decide)) (fun nm _ e' he' => ?_)) rfl
   repeat first | refine QThen.panic ?_ | refine QBlock.panic ?_
   exact panE (he'.trans (hj4.trans (hj3.trans (hj2.trans hj)))) (by rw [← hI1, ← hE]; rfl) (by decide)
  have h2 : ¬ s.2 ≤ 0 := by have := of_decide_eq_true h1; omega
  rw [if_neg h2] at hE
  refine LOps.step (S.callK (H1 := []) (F := _) [_, _, _] rfl (List.Perm.refl _) (req_spec true s.1 2 (by decide)) (fun _ => ?_) (fun nm h => absurd rfl h)) rfl
  repeat first | refine LOps.nil ?_ | refine LCode.seq ?_ | refine LCode.region ?_ | refine QThen.normal ?_ | refine LOps.pure (Pure.fieldH rfl) rfl ?_ | refine LOps.pure (Pure.loadH (c := .atom _) rfl (List.Mem.head _) rfl) rfl ?_ | refine LOps.pure (Pure.mv (lv := .atom _) rfl) rfl ?_ | refine LOps.pure (Pure.sub rfl rfl (by omega)) rfl ?_ | refine LOps.pure (Pure.leq rfl rfl) rfl ?_
  refine LOps.bcase 80 rfl (fun h3 => ?_) (fun h3 => ?_)
  rotate_left
  ·have h4 : 150000 - T < s.2 := by have := of_decide_eq_false h3; omega
   rw [if_pos h4] at hE
   refine LOps.step (S.callK (H1 := []) (F := _) [_, _, _] rfl (List.Perm.refl _) (req_spec false s.1 6 (by decide)) (fun h => absurd h (by decide)) (fun nm _ e' he' => ?_)) rfl
   repeat first | refine QThen.panic ?_ | refine QBlock.panic ?_
   exact panE (he'.trans (hj4.trans (hj3.trans (hj2.trans hj)))) (by rw [← hI1, ← hE]; rfl) (by decide)
  have h4 : ¬ 150000 - T < s.2 := by have := of_decide_eq_true h3; omega
  rw [if_neg h4] at hE
  refine LOps.step (S.callK (H1 := []) (F := _) [_, _, _] rfl (List.Perm.refl _) (req_spec true s.1 6 (by decide)) (fun _ => ?_) (fun nm h => absurd rfl h)) rfl
  repeat first | refine LOps.nil ?_ | refine LCode.region ?_ | refine QThen.normal ?_ | refine QBlock.normal ?_ | refine LOps.pure (Pure.fieldH rfl) rfl ?_ | refine LOps.pure (Pure.loadH (c := .atom _) rfl (List.Mem.head _) rfl) rfl ?_ | refine LOps.pure (Pure.mv (lv := .atom _) rfl) rfl ?_ | refine LOps.pure (Pure.as (lv := .atom _) rfl) rfl ?_ | refine LOps.pure (Pure.add rfl rfl (by omega)) rfl ?_
  exact ⟨l2.length, _, _, Nat.lt_succ_self _, ⟨pre ++ [s], l2, T + s.2, by rw [hLe]; simp, rfl, rfl, rfl, ⟨by omega, by omega⟩, hE⟩, ⟨rfl, rfl, rfl, rfl, rfl, int_eq (by simp), trivial⟩, HSub.drop (HSub.refl _), hj4⟩
 have hlen := of_decide_eq_false hc
 rw [List.length_map, hLe, List.length_append] at hlen
 obtain rfl : l1 = [] := by
  cases l1 with
  | nil => rfl
  | cons a l2 => simp at hlen; omega
 have hSZ0 : SZ = 0 := by rw [← hE]; rfl
 rw [hSZ0] at hI1
 have hI2 : orE FS MN = E := by rw [← hI1]; rfl
 clear hI1 hlen hc hb2 hLe hE
 have hnf : (fs.map (·.name)).Nodup := (List.nodup_append.1 hnod).2.1
 have hds : j.ds = [] := hj4.trans (hj3.trans (hj2.trans hj))
 clear hj hj2 hj3 hj4
 repeat first | refine LOps.nil ?_ | refine LCode.seq ?_ | refine LCode.region ?_ | refine LCode.exit ?_ | refine LCode.block ?_ | refine QThen.normal ?_ | refine QThen.exit ?_ | refine QBlock.hit ?_ | refine LOps.pure (Pure.fieldH rfl) rfl ?_ | refine LOps.pure (Pure.loadH (c := .list _) rfl (List.Mem.head _) rfl) rfl ?_ | refine LOps.pure (Pure.llen rfl) rfl ?_ | refine LOps.pure (Pure.mv (lv := .atom _) rfl) rfl ?_
 refine LCode.loopI (fun kk ls H' => ∃ (pre l1 : List FnD) (known : List FSum) (F1 : KV) (g4 : Nat) (nm : Nm) (o1 : Value) (d1 : Nat), fs = pre ++ l1 ∧ kk = l1.length ∧ ls = [(0, ptr k.cb 0), (3, ptr b3 0), (90, .list (fs.map encFn)), (91, int .i64 ((fs.map encFn).length : Int)), (92, iv pre.length)] ∧
   H' = (b3, .cells 33 [.list (vars.map str), .list (arrays.map encArG), .list (fs.map encFn)]) :: pgH { k with name := nm, G := G1, g1 := g1, V := V1, g2 := g2, A := A1, g3 := g3, F := F1, g4 := g4 } o1 d1 ∧ (∀ n, GL.kvGet F1 n = (known.find? fun g => decide (g.name = n)).map encSum) ∧ known.map (·.name) = pre.map (·.name) ∧
   errFs vars (arrays.map (·.1)) (fs.map (·.name)) known l1 = FS ∧ sumFs vars (arrays.map (·.1)) (fs.map (·.name)) known l1 = SS ∧ KnB (8 * ndFs pre) pre.length known)
  ⟨_, _, _, ⟨[], fs, [], k.F, k.g4, k.name, o, d, rfl, rfl, rfl, rfl, fun n => by rw [hk4]; rfl, rfl, hFS, hSS, fun x hx => (List.not_mem_nil hx).elim⟩, ⟨rfl, rfl, rfl, rfl, rfl, trivial⟩, HSub.refl _⟩ ?_
 rintro kk ls H' ⟨pre, l1, known, F1, g4, nm, o1, d1, hLe, rfl, rfl, rfl, hF, hkn, hE, hS, hB⟩ j2 hj2
 have hb2 : pre.length ≤ 1000000 := by
  have := congrArg List.length hLe
  rw [List.length_append] at this
  omega
 repeat first | refine LOps.nil ?_ | refine LCode.seq ?_ | refine LCode.region ?_ | refine QThen.normal ?_ | refine LOps.pure (Pure.lss rfl rfl) rfl ?_
 refine LCode.cond rfl (fun hc => ?_) (fun hc => ?_)
 ·have hlen := of_decide_eq_true hc
  rw [List.length_map, hLe, List.length_append] at hlen
  obtain ⟨s, l2, rfl⟩ : ∃ a l2, l1 = a :: l2 := by
   cases l1 with
   | nil => simp at hlen
   | cons a l2 => exact ⟨a, l2, rfl⟩
  have hsz : ndFs pre + ndF s ≤ 1000000 := by
   have := hnd
   rw [hLe, ndFs_append, ndFs] at this
   omega
  have hnew : s.name ∉ known.map (·.name) := by
   rw [hkn]
   have := hnf
   rw [hLe, List.map_append, List.map_cons] at this
   intro hm
   exact (List.nodup_append.1 this).2.2 _ hm _ (List.mem_cons_self ..) rfl
  rw [errFs] at hE
  rw [sumFs] at hS
  repeat first | refine LCode.seq ?_ | refine LCode.region ?_ | refine LCode.skip ?_ | refine LCode.block ?_ | refine QThen.normal ?_
  refine LOps.pure (Pure.ixRef (el' := encFn s) (cs := [_, _, _, _]) rfl rfl (by omega) (by rw [hLe]; exact get_mid encFn pre s l2) rfl rfl) rfl ?_
  repeat first | refine LOps.pure (Pure.ldRefAgg (cs' := [_, _, _, _]) rfl rfl rfl) rfl ?_
  refine LOps.step (S.alloc fun b7 => ?_) rfl
  repeat first | refine LOps.nil ?_ | refine LCode.region ?_ | refine QThen.normal ?_ | refine LOps.pure (Pure.mv (lv := .atom _) rfl) rfl ?_ | refine LOps.pure (Pure.ldHAgg (cs' := [_, _, _, _]) rfl (List.Mem.head _) rfl rfl) rfl ?_ | refine LOps.step (S.store (cs' := [_, _, _, _]) rfl Pick.here rfl rfl rfl rfl rfl ?_) rfl
  refine LOps.step (S.callE (F := [_, _]) [_, _] rfl (List.perm_append_comm (l₁ := [_, _])) (function_spec (vars := vars) (arrays := arrays.map (·.1)) (later := fs.map (·.name)) (known := known) (k := { k with name := nm, G := G1, g1 := g1, V := V1, g2 := g2, A := A1, g3 := g3, F := F1, g4 := g4 }) (o := o1) (d := d1) s hG1 hV1 hA1 hF hnew hB (by omega) (by omega) (by omega)) (fun H2 h0 hP => ?_) (fun nm h0 e' he' => ?_)) rfl
  rotate_left
  ·repeat first | refine QThen.panic ?_ | refine QBlock.panic ?_
   exact panE (he'.trans (hj2.trans hds)) (by rw [← hI2, ← hE, orE_ne (a := orE _ _) (by rw [orE_ne h0]; exact h0), orE_ne h0]) h0
  obtain ⟨nm', o', d', F', g4', hF', rfl⟩ := hP
  refine LOps.perm (List.perm_append_comm (l₂ := [_, _])) ?_
  repeat first | refine LOps.nil ?_ | refine LCode.region ?_ | refine QThen.normal ?_ | refine QBlock.normal ?_ | refine LOps.pure (Pure.mv (lv := .atom _) rfl) rfl ?_ | refine LOps.pure (Pure.add rfl rfl (by omega)) rfl ?_
  refine ⟨l2.length, _, _, Nat.lt_succ_self _, ⟨pre ++ [s], l2, known ++ [sumF vars (arrays.map (·.1)) (fs.map (·.name)) known s], F', g4', nm', o', d', by rw [hLe]; simp, rfl, rfl, rfl, hF', ?_, by rw [← hE, h0]; rfl, hS, ?_⟩, ⟨rfl, rfl, rfl, rfl, int_eq (by simp), trivial⟩, HSub.drop (HSub.refl _), hj2⟩
  ·rw [List.map_append, List.map_append, hkn]
   rfl
  ·have h1 := sumF_le (vars := vars) (arrays := arrays.map (·.1)) (later := fs.map (·.name)) (f := s) hB
   have h2 : ndFs (pre ++ [s]) = ndFs pre + ndF s := by rw [ndFs_append, ndFs, ndFs]; rfl
   intro g hg
   rw [h2, List.length_append, List.length_singleton]
   rcases List.mem_append.1 hg with hg | hg
   ·obtain ⟨a1, a2, a3⟩ := hB g hg
    exact ⟨by omega, by omega, by omega⟩
   ·obtain rfl := List.mem_singleton.1 hg
    obtain ⟨a1, a2, a3⟩ := h1
    exact ⟨by omega, by omega, by omega⟩
 have hlen := of_decide_eq_false hc
 rw [List.length_map, hLe, List.length_append] at hlen
 obtain rfl : l1 = [] := by
  cases l1 with
  | nil => rfl
  | cons a l2 => simp at hlen; omega
 have hFS0 : FS = 0 := by rw [← hE]; rfl
 have hknS : known = SS := by rw [← hS]; rfl
 rw [hFS0] at hI2
 have hI3 : MN = E := by rw [← hI2]; rfl
 clear hlen hc hb2 hLe hE
 subst hknS
 have hall := errFs_zero fs [] (hFS.trans hFS0)
 have hnn : ∀ f ∈ fs, f.name.length ≤ 1000 ∧ ∀ x ∈ f.params ++ f.locals, x.length ≤ 1000 := fun f hf => by
  obtain ⟨kk, hk⟩ := hall f hf
  exact ⟨isNm_short (hnmok f.name (List.mem_append_right _ (List.mem_map_of_mem hf))), errF_names hk⟩
 have hsm : ∀ f ∈ fs, SmF f := fun f hf => smF_of (Nat.le_trans (ndFs_mem hf) hnd)
 have hds2 := hj2.trans hds
 unfold mainE at hMN
 repeat first | refine LOps.nil ?_ | refine LCode.seq ?_ | refine LCode.region ?_ | refine LCode.exit ?_ | refine QThen.normal ?_ | refine QThen.exit ?_ | refine QBlock.hit ?_ | refine LOps.pure (Pure.fieldH rfl) rfl ?_ | refine LOps.pure (Pure.loadH (c := .list _) rfl (List.Mem.head _) rfl) rfl ?_ | refine LOps.pure (Pure.llen rfl) rfl ?_ | refine LOps.pure (Pure.mv (lv := .atom _) rfl) rfl ?_ | refine LOps.pure (Pure.as (lv := .atom _) rfl) rfl ?_ | refine LOps.pure (Pure.gtr rfl rfl) rfl ?_
 cases hfl : fs.getLast? with
 | none =>
  have hf0 : fs = [] := List.getLast?_eq_none_iff.1 hfl
  rw [hfl] at hMN
  refine LOps.bcase 105 rfl (fun h => absurd (of_decide_eq_true h) (by rw [hf0]; decide)) (fun _ => ?_)
  repeat first | refine LOps.pure (Pure.mv (lv := .atom _) rfl) rfl ?_ | refine LOps.pure (Pure.pickF (lv := .atom _) rfl rfl) rfl ?_ | refine LOps.skip rfl rfl rfl rfl ?_
  refine LOps.step (S.callK (H1 := []) (F := _) [_, _, _] rfl (List.Perm.refl _) (req_spec false [109, 97, 105, 110] 9 (by decide)) (fun h => absurd h (by decide)) (fun nm _ e' he' => ?_)) rfl
  repeat first | refine QThen.panic ?_
  exact panE (he'.trans hds2) (hI3.symm.trans hMN.symm) (by decide)
 | some f =>
  obtain ⟨ys, hys⟩ := List.getLast?_eq_some_iff.1 hfl
  have hln : (fs.map encFn).length = ys.length + 1 := by rw [List.length_map, hys, List.length_append]; rfl
  have hl6 : (fs.map encFn).length ≤ 1000000 := by rw [List.length_map]; exact hf6
  have hn0 : (0 : Int) ≤ ((fs.map encFn).length : Int) - 1 := by omega
  have hget : (fs.map encFn)[(((fs.map encFn).length : Int) - 1).toNat]? = some (encFn f) := by
   rw [show (((fs.map encFn).length : Int) - 1).toNat = ys.length by omega, hys, List.map_append]
   rw [List.getElem?_append_right (by rw [List.length_map]; exact Nat.le_refl _), List.length_map, Nat.sub_self]
   rfl
  have hnms : known.map (·.name) = fs.map (·.name) := by
   rw [← hSS, sumFs_names]
   rfl
  obtain ⟨m, hm⟩ : ∃ m, known.getLast? = some m := by
   cases hx : known.getLast? with
   | some m => exact ⟨m, rfl⟩
   | none =>
    rw [List.getLast?_eq_none_iff.1 hx, hys] at hnms
    simp at hnms
  have hmf : m.name = f.name := by
   have h1 := congrArg List.getLast? hnms
   rw [List.getLast?_map, List.getLast?_map, hm, hfl] at h1
   exact Option.some.inj h1
  have hfind := find_last (by rw [hnms]; exact hnf) hm
  rw [hfl, hm] at hMN
  replace hMN : (if f.name = [109, 97, 105, 110] ∧ f.params = [] then (if (scalarsP vars fs).length ≤ 8000 ∧ m.need ≤ 200 ∧ m.depth ≤ 60 then 0 else 6) else 9) = MN := hMN
  rw [hI3] at hMN
  refine LOps.bcase 105 rfl (fun _ => ?_) (fun h => absurd (show ((fs.map encFn).length : Int) > 0 by omega) (of_decide_eq_false h))
  repeat first | refine LOps.pure (Pure.fieldH rfl) rfl ?_ | refine LOps.pure (Pure.loadH (c := .list _) rfl (List.Mem.head _) rfl) rfl ?_ | refine LOps.pure (Pure.mv (lv := .atom _) rfl) rfl ?_ | refine LOps.pure (Pure.sub rfl rfl (by omega)) rfl ?_ | refine LOps.want rfl rfl ?_
  first | refine LOps.want rfl rfl ?_ | skip
  refine LOps.pure (Pure.ixRef (el' := encFn f) (n := ((fs.map encFn).length : Int) - 1) (cs := [str f.name, .list (f.params.map str), .list (f.locals.map str), .list (f.body.map encS)]) rfl rfl hn0 hget rfl rfl) rfl ?_
  repeat first | refine LOps.pure (Pure.field1 rfl rfl) rfl ?_ | refine LOps.pure (Pure.loadRef (c := .atom _) rfl rfl) rfl ?_ | refine LOps.pure (Pure.mv (lv := .atom _) rfl) rfl ?_ | refine LOps.pure (Pure.seq rfl rfl) rfl ?_ | refine LOps.pure (Pure.pickT (lv := .atom _) rfl rfl) rfl ?_ | refine LOps.want rfl rfl ?_
  refine LOps.bcase 115 rfl (fun h1 => ?_) (fun h1 => ?_)
  rotate_left
  ·rw [if_neg (fun h => of_decide_eq_false h1 h.1)] at hMN
   repeat first | refine LOps.pure (Pure.pickF (lv := .atom _) rfl rfl) rfl ?_ | refine LOps.skip rfl rfl rfl rfl ?_
   refine LOps.step (S.callK (H1 := []) (F := _) [_, _, _] rfl (List.Perm.refl _) (req_spec false [109, 97, 105, 110] 9 (by decide)) (fun h => absurd h (by decide)) (fun nm _ e' he' => ?_)) rfl
   repeat first | refine QThen.panic ?_
   exact panE (he'.trans hds2) hMN.symm (by decide)
  have hmain : f.name = [109, 97, 105, 110] := of_decide_eq_true h1
  repeat first | refine LOps.pure (Pure.fieldH rfl) rfl ?_ | refine LOps.pure (Pure.loadH (c := .list _) rfl (List.Mem.head _) rfl) rfl ?_ | refine LOps.pure (Pure.mv (lv := .atom _) rfl) rfl ?_ | refine LOps.pure (Pure.sub rfl rfl (by omega)) rfl ?_ | refine LOps.want rfl rfl ?_
  first | refine LOps.want rfl rfl ?_ | skip
  refine LOps.pure (Pure.ixRef (el' := encFn f) (n := ((fs.map encFn).length : Int) - 1) (cs := [str f.name, .list (f.params.map str), .list (f.locals.map str), .list (f.body.map encS)]) rfl rfl hn0 hget rfl rfl) rfl ?_
  repeat first | refine LOps.pure (Pure.field1 rfl rfl) rfl ?_ | refine LOps.pure (Pure.loadRef (c := .list _) rfl rfl) rfl ?_ | refine LOps.pure (Pure.llen rfl) rfl ?_ | refine LOps.pure (Pure.pickT (lv := .atom _) rfl rfl) rfl ?_ | refine LOps.pure (Pure.eql rfl rfl) rfl ?_ | refine LOps.want rfl rfl ?_
  refine LOps.bcase 125 rfl (fun h2 => ?_) (fun h2 => ?_)
  rotate_left
  ·rw [if_neg (fun h => of_decide_eq_false h2 (by rw [h.2]; rfl))] at hMN
   refine LOps.step (S.callK (H1 := []) (F := _) [_, _, _] rfl (List.Perm.refl _) (req_spec false [109, 97, 105, 110] 9 (by decide)) (fun h => absurd h (by decide)) (fun nm _ e' he' => ?_)) rfl
   repeat first | refine QThen.panic ?_
   exact panE (he'.trans hds2) hMN.symm (by decide)
  have hpar : f.params = [] := by
   have h3 := of_decide_eq_true h2
   rw [List.length_map] at h3
   exact List.length_eq_zero_iff.1 (by omega)
  rw [if_pos ⟨hmain, hpar⟩] at hMN
  refine LOps.step (S.callK (H1 := []) (F := _) [_, _, _] rfl (List.Perm.refl _) (req_spec true [109, 97, 105, 110] 9 (by decide)) (fun _ => ?_) (fun nm h => absurd rfl h)) rfl
  have hgF : GL.kvGet F1 [109, 97, 105, 110] = some (encSum m) := by
   rw [hF, ← hmain, ← hmf, hfind]
   rfl
  repeat first | refine LOps.nil ?_ | refine LCode.seq ?_ | refine LCode.region ?_ | refine QThen.normal ?_ | refine LOps.pure (Pure.fieldH rfl) rfl ?_ | refine LOps.pure (Pure.loadH (c := .atom _) rfl (List.Mem.tail _ (List.Mem.head _)) rfl) rfl ?_ | refine LOps.pure (Pure.mv (lv := .atom _) rfl) rfl ?_ | refine LOps.pure (Pure.nilCheckH rfl) rfl ?_
  refine LOps.pure (Pure.kvHit rfl rfl (List.Mem.tail _ (List.Mem.tail _ (List.Mem.tail _ (List.Mem.tail _ (List.Mem.tail _ (List.Mem.head _)))))) hgF) rfl ?_
  refine LOps.step (S.alloc fun b16 => ?_) rfl
  repeat first | refine LOps.nil ?_ | refine LCode.region ?_ | refine QThen.normal ?_ | refine LOps.pure (Pure.ldHAgg (cs' := [_, _, _]) rfl (List.Mem.tail _ (List.Mem.head _)) rfl rfl) rfl ?_ | refine LOps.step (S.store (cs' := [_, _, _]) rfl Pick.here rfl rfl rfl rfl rfl ?_) rfl
  refine LOps.step (S.fn [_] rfl (scalars_specG (.list (arrays.map encArG)) hv6 hf6 hsm hnn) ?_) rfl
  repeat first | refine LOps.pure (Pure.llen rfl) rfl ?_ | refine LOps.pure (Pure.mv (lv := .atom _) rfl) rfl ?_ | refine LOps.pure (Pure.leq rfl rfl) rfl ?_
  refine LOps.bcase 136 rfl (fun h3 => ?_) (fun h3 => ?_)
  rotate_left
  ·have hbad : ¬ ((scalarsP vars fs).length ≤ 8000 ∧ m.need ≤ 200 ∧ m.depth ≤ 60) := fun h => of_decide_eq_false h3 (by rw [List.length_map]; have := h.1; omega)
   rw [if_neg hbad] at hMN
   repeat first | refine LOps.pure (Pure.mv (lv := .atom _) rfl) rfl ?_ | refine LOps.pure (Pure.pickF (lv := .atom _) rfl rfl) rfl ?_ | refine LOps.skip rfl rfl rfl rfl ?_
   refine LOps.step (S.callK (H1 := []) (F := _) [_, _, _] rfl (List.Perm.refl _) (req_spec false [109, 97, 105, 110] 6 (by decide)) (fun h => absurd h (by decide)) (fun nm _ e' he' => ?_)) rfl
   exact panE (he'.trans hds2) hMN.symm (by decide)
  have h3' : (scalarsP vars fs).length ≤ 8000 := by
   have := of_decide_eq_true h3
   rw [List.length_map] at this
   omega
  repeat first | refine LOps.pure (Pure.fieldH rfl) rfl ?_ | refine LOps.pure (Pure.loadH (c := .atom _) rfl (List.Mem.head _) rfl) rfl ?_ | refine LOps.pure (Pure.mv (lv := .atom _) rfl) rfl ?_ | refine LOps.pure (Pure.leq rfl rfl) rfl ?_ | refine LOps.pure (Pure.pickT (lv := .atom _) rfl rfl) rfl ?_ | refine LOps.want rfl rfl ?_
  refine LOps.bcase 141 rfl (fun h4 => ?_) (fun h4 => ?_)
  rotate_left
  ·have hbad : ¬ ((scalarsP vars fs).length ≤ 8000 ∧ m.need ≤ 200 ∧ m.depth ≤ 60) := fun h => of_decide_eq_false h4 (by have := h.2.1; omega)
   rw [if_neg hbad] at hMN
   repeat first | refine LOps.pure (Pure.pickF (lv := .atom _) rfl rfl) rfl ?_ | refine LOps.skip rfl rfl rfl rfl ?_
   refine LOps.step (S.callK (H1 := []) (F := _) [_, _, _] rfl (List.Perm.refl _) (req_spec false [109, 97, 105, 110] 6 (by decide)) (fun h => absurd h (by decide)) (fun nm _ e' he' => ?_)) rfl
   exact panE (he'.trans hds2) hMN.symm (by decide)
  have h4' : m.need ≤ 200 := by
   have := of_decide_eq_true h4
   omega
  repeat first | refine LOps.pure (Pure.fieldH rfl) rfl ?_ | refine LOps.pure (Pure.loadH (c := .atom _) rfl (List.Mem.head _) rfl) rfl ?_ | refine LOps.pure (Pure.leq rfl rfl) rfl ?_ | refine LOps.pure (Pure.pickT (lv := .atom _) rfl rfl) rfl ?_ | refine LOps.want rfl rfl ?_
  refine LOps.bcase 145 rfl (fun h5 => ?_) (fun h5 => ?_)
  rotate_left
  ·have hbad : ¬ ((scalarsP vars fs).length ≤ 8000 ∧ m.need ≤ 200 ∧ m.depth ≤ 60) := fun h => of_decide_eq_false h5 (by have := h.2.2; omega)
   rw [if_neg hbad] at hMN
   refine LOps.step (S.callK (H1 := []) (F := _) [_, _, _] rfl (List.Perm.refl _) (req_spec false [109, 97, 105, 110] 6 (by decide)) (fun h => absurd h (by decide)) (fun nm _ e' he' => ?_)) rfl
   exact panE (he'.trans hds2) hMN.symm (by decide)
  have h5' : m.depth ≤ 60 := by
   have := of_decide_eq_true h5
   omega
  rw [if_pos ⟨h3', h4', h5'⟩] at hMN
  refine LOps.step (S.callK (H1 := []) (F := _) [_, _, _] rfl (List.Perm.refl _) (req_spec true [109, 97, 105, 110] 6 (by decide)) (fun _ => ?_) (fun nm h => absurd rfl h)) rfl
  repeat first | refine LOps.nil ?_
  exact retEn hds2 AllRes.nil hMN.symm rfl (HSub.nil _) rfl
end
end Go.Proofs.YtcbpcianefpniaaGreatDoor.Chk
namespace Go.Proofs.YtcbpcianefpniaaGreatDoor.Chk
open Go.GL Go.RowKit Go.Stele
set_option maxRecDepth 100000
set_option maxHeartbeats 4000000
section
variable {C : Ctx} {e : Env} {H : Heap} {dst : Option Nat} {ty : TypeId} {pos : String} {aft : Array Edge} {g : Option (Nat × Bool)} {x : Operand}
/-- A type assertion with two results of a nil interface. -/
theorem Pure.assertNil {t xT : TypeId} [ht : TConcrete C.P t] {zs : List Value} (hz : ∀ w, (zeroValue t).run C.P w = .ok (.agg zs.toArray) w) (hx : e.ev x = .atom .nilIface) : Go.GL.Pure C ⟨dst, .typeAssert x xT t true, ty, pos, aft, g⟩ e H (.tuple [.agg (zs.map .atom), bool false]) :=
 .of_any fun ρ w L h => ⟨.tuple #[.agg zs.toArray, .bool false], by
  simp only [Rep]
  exact ⟨[.agg zs.toArray, .bool false], rfl, by simp only [RepL, Rep]; exact ⟨_, _, rfl, ⟨zs, rfl, repL_atoms zs⟩, _, _, rfl, rfl, rfl⟩⟩, fun w' => by
  obtain ⟨d, hd, hm⟩ := ht.out
  have h3 : execOp ρ ⟨dst, .typeAssert x xT t true, ty, pos, aft, g⟩ = (do Pure.pure (.value (← Instr.typeAssert (ρ x) xT t true))) := rfl
  rw [h3, atom_of h hx]
  simp only [Instr.typeAssert, Sem.run_bind, run_underlying' hd, Result.andThen_ok]
  cases d <;> simp_all [Sem.run_bind]⟩
end
theorem vio_zero (w : World) : (zeroValue 98).run Tryz.prog w = .ok (.agg [.string ⟨#[]⟩, .int .i64 0].toArray) w :=
 (Go.zero_of_info (P := Tryz.prog) (n := 2) (by kernel_rfl)).1 w
attribute [local irreducible] LOps LCode LStep LCalls Go.GL.Pure QThen QBlock RetPost LQ LAny LLate LLateOp LS LOpsP LCodeP LCodeS LCallsD
section
variable {B0 : Nat} {w0 : World}
theorem crec_ret (b2 b3 : Nat) (c d : LV) : LCallsD (KC B0 w0) 40 [ptr b2 0, ptr b3 0] .returning [(b2, .cells 9 [c]), (b3, .cells 25 [d])]
  (fun u H => u = .returning ∧ H = [(b2, .cells 9 [c]), (b3, .cells 25 [d])]) := by
 refine LCallsD.intro Tryz.func40 rfl (n := 19) rfl rfl rfl ?_
 refine LCodeS.seq (LCodeS.recover rfl rfl ?_)
 refine LCodeS.of ?_
 repeat first | refine LCode.seq ?_ | refine LCode.region ?_ | refine LOps.pure (Pure.mv (lv := .atom _) rfl) rfl ?_
 refine LOps.pure (Pure.assertNil vio_zero rfl) rfl ?_
 repeat first | refine LOps.pure (Pure.mv (lv := .tuple _) rfl) rfl ?_ | refine LOps.pure (Pure.extract (c := .agg _) rfl rfl) rfl ?_ | refine LOps.pure (Pure.extract (c := .atom _) rfl rfl) rfl ?_
 refine LOps.step (S.alloc fun b5 => ?_) rfl
 repeat first | refine LOps.nil ?_ | refine LCode.seq ?_ | refine LCode.region ?_ | refine QThen.normal ?_ | refine LOps.pure (Pure.as (lv := .atom _) rfl) rfl ?_ | refine LOps.pure (Pure.mv (lv := .atom _) rfl) rfl ?_ | refine LOps.step (S.store (cs' := [_, _]) rfl Pick.here rfl rfl rfl rfl rfl ?_) rfl
 refine LCode.cond rfl (fun hc => ?_) (fun hc => ?_)
 ·cases hc
 repeat first | refine LOps.nil ?_ | refine LCode.seq ?_ | refine LCode.region ?_ | refine QThen.normal ?_ | refine LOps.pure (Pure.mv (lv := .atom _) rfl) rfl ?_ | refine LOps.pure (Pure.nilNeqNil rfl) rfl ?_
 refine LCode.cond rfl (fun hc => ?_) (fun hc => ?_)
 ·cases hc
 ·repeat first | refine LCode.skip ?_
  exact ⟨rfl, _, HSub.drop (HSub.refl _), rfl, rfl⟩
theorem crec_pan (b2 b3 : Nat) (c d : LV) (nm : List UInt8) (er : Int) : LCallsD (KC B0 w0) 40 [ptr b2 0, ptr b3 0] (.panicking (vio nm er)) [(b2, .cells 9 [c]), (b3, .cells 25 [d])]
  (fun u H => settle u = .returning ∧ H = [(b2, .cells 9 [str nm]), (b3, .cells 25 [int .i64 er])]) := by
 refine LCallsD.intro Tryz.func40 rfl (n := 19) rfl rfl rfl ?_
 refine LCodeS.seq (LCodeS.recover rfl rfl ?_)
 refine LCodeS.of ?_
 repeat first | refine LCode.seq ?_ | refine LCode.region ?_ | refine LOps.pure (Pure.mv (lv := .atom _) rfl) rfl ?_
 refine LOps.pure (Pure.assertOk (vs := [.string ⟨nm.toArray⟩, .int .i64 er]) rfl) rfl ?_
 repeat first | refine LOps.pure (Pure.mv (lv := .tuple _) rfl) rfl ?_ | refine LOps.pure (Pure.extract (c := .agg _) rfl rfl) rfl ?_ | refine LOps.pure (Pure.extract (c := .atom _) rfl rfl) rfl ?_
 refine LOps.step (S.alloc fun b5 => ?_) rfl
 repeat first | refine LOps.nil ?_ | refine LCode.seq ?_ | refine LCode.region ?_ | refine QThen.normal ?_ | refine LOps.pure (Pure.as (lv := .atom _) rfl) rfl ?_ | refine LOps.pure (Pure.mv (lv := .atom _) rfl) rfl ?_ | refine LOps.step (S.store (cs' := [_, _]) rfl Pick.here rfl rfl rfl rfl rfl ?_) rfl
 refine LCode.cond rfl (fun hc => ?_) (fun hc => ?_)
 ·skip
  refine LCode.draw (m := 6) rfl [(b5, .cells 98 [str nm, int .i64 er])] ?_
  refine LAny.tk 0 rfl rfl (Pure.fieldH rfl) ?_
  refine LAny.tk 1 rfl rfl (Pure.loadH (c := .atom _) rfl (List.Mem.head _) rfl) ?_
  refine LAny.tk 2 rfl rfl (Pure.fieldH rfl) ?_
  refine LAny.tk 3 rfl rfl (Pure.loadH (c := .atom _) rfl (List.Mem.head _) rfl) ?_
  refine LAny.late ?_ (HSub.pick Pick.here (HSub.nil _))
  refine LLate.o 4 (LLateOp.step (H1 := [(b2, .cells 9 [c])]) (F := [(b5, .cells 98 [str nm, int .i64 er]), (b3, .cells 25 [d])]) rfl (.inl rfl) rfl (Pick.there Pick.here) (HSub.pick Pick.here (HSub.nil _)) (S.store (cs' := [_]) rfl Pick.here rfl rfl rfl rfl rfl ?_))
  refine LLate.o 5 (LLateOp.step (H1 := [(b3, .cells 25 [d])]) (F := [(b2, .cells 9 [str nm]), (b5, .cells 98 [str nm, int .i64 er])]) rfl (.inl rfl) rfl (Pick.there (Pick.there Pick.here)) (HSub.pick (Pick.there Pick.here) (HSub.nil _)) (S.store (cs' := [_]) rfl Pick.here rfl rfl rfl rfl rfl ?_))
  refine LLate.done (by kernel_rfl) ?_
  exact ⟨rfl, _, HSub.pick (Pick.there Pick.here) (HSub.pick Pick.here (HSub.nil _)), rfl, rfl⟩
 ·cases hc
theorem check_spec (vars : List Nm) (arrays : List (Nm × Int)) (fs : List FnD) (hv6 : vars.length ≤ 1000000) (ha6 : arrays.length ≤ 1000000) (har : ∀ a ∈ arrays, -9223372036854775808 ≤ a.2 ∧ a.2 < 9223372036854775808) (hnd : ndFs fs ≤ 1000000) :
  LCalls (KC B0 w0) 25 [encPrG vars arrays fs] [] (fun r H => H = [] ∧ ∃ nm, r = .ret (.tuple [str nm, int .i64 (checkP vars arrays fs)])) := by
 generalize hE : checkP vars arrays fs = E
 refine LCalls.introD Tryz.func25 rfl (n := 15) rfl rfl rfl ?_
 refine LCodeP.seq (LCodeP.of ?_)
 repeat first | refine LCode.region ?_
 refine LOps.step (S.box rfl fun b1 => ?_) rfl
 refine LOps.step (S.alloc fun b2 => ?_) rfl
 refine LOps.step (S.alloc fun b3 => ?_) rfl
 repeat first | refine LOps.nil ?_ | refine QThen.normal ?_
 refine LCodeP.seq (LCodeP.region ?_)
 repeat first | refine LOpsP.pure (Pure.makeFunc rfl rfl) rfl ?_
 refine LOpsP.defer rfl rfl ?_
 refine LOpsP.nil ?_
 refine QThen.normal ?_
 refine LCodeP.seq (LCodeP.of ?_)
 repeat first | refine LCode.region ?_
 refine LOps.step (S.kvNew fun gm => ?_) rfl
 refine LOps.step (S.kvNew fun vm => ?_) rfl
 refine LOps.step (S.kvNew fun am => ?_) rfl
 refine LOps.step (S.kvNew fun fm => ?_) rfl
 repeat first | refine LOps.pure (Pure.bld _ (cs := [_, _, _, _, _, _, _]) rfl) rfl ?_
 refine LOps.step (S.box rfl fun cb => ?_) rfl
 refine LOps.weak (H' := pgH ⟨cb, gm, vm, am, fm, 0, [], [], [], [], [], 0, 0, 0, 0, 0, []⟩ (.map none) 0 ++ [(b3, .cells 25 [int .i64 0]), (b2, .cells 9 [str []]), (b1, .cells 33 [.list (vars.map str), .list (arrays.map encArG), .list (fs.map encFn)])]) ?_ ?_
 ·repeat first
   | exact HSub.nil _
   | refine HSub.pick (by first | exact Pick.here | exact Pick.there Pick.here | exact Pick.there (Pick.there (Pick.here)) | exact Pick.there (Pick.there (Pick.there (Pick.here))) | exact Pick.there (Pick.there (Pick.there (Pick.there (Pick.here)))) | exact Pick.there (Pick.there (Pick.there (Pick.there (Pick.there (Pick.here))))) | exact Pick.there (Pick.there (Pick.there (Pick.there (Pick.there (Pick.there (Pick.here)))))) | exact Pick.there (Pick.there (Pick.there (Pick.there (Pick.there (Pick.there (Pick.there (Pick.here)))))))) ?_
 repeat first | refine LOps.nil ?_ | refine QThen.normal ?_ | refine LOps.pure (Pure.as (lv := .atom _) rfl) rfl ?_
 refine LCodeP.seq (LCodeP.region ?_)
 repeat first | refine LOpsP.pure (Pure.mv (lv := .atom _) rfl) rfl ?_ | refine LOpsP.pure (Pure.ldHAgg (cs' := [_, _, _]) rfl (List.Mem.tail _ (List.Mem.tail _ (List.Mem.tail _ (List.Mem.tail _ (List.Mem.tail _ (List.Mem.tail _ (List.Mem.tail _ (List.Mem.head _)))))))) rfl rfl) rfl ?_
 refine LOpsP.step (S.callE (F := [_, _, _]) [_, _] rfl (List.Perm.refl _) (program_spec (k := ⟨cb, gm, vm, am, fm, 0, [], [], [], [], [], 0, 0, 0, 0, 0, []⟩) (o := .map none) (d := 0) vars arrays fs rfl rfl rfl rfl hv6 ha6 har hnd) (fun H2 h0 hP => ?_) (fun nm h0 => ?_)) rfl
 ·subst hP
  rw [hE] at h0
  subst h0
  refine LOpsP.nil ?_
  refine QThen.normal ?_
  refine LCodeP.seq (LCodeP.region ?_)
  refine LOpsP.step (S.store (cs' := [_]) rfl (Pick.there Pick.here) rfl rfl rfl rfl rfl ?_) rfl
  refine LOpsP.step (S.store (cs' := [_]) rfl (Pick.there Pick.here) rfl rfl rfl rfl rfl ?_) rfl
  refine LOpsP.nil ?_
  refine QThen.normal ?_
  refine LCodeP.ret ?_
  exact RetPostD.ret1 (vs := [str [], int .i64 0]) (H1 := [(b2, .cells 9 [str []]), (b3, .cells 25 [int .i64 0])]) (F := [_]) (H2 := [(b2, .cells 9 [str []]), (b3, .cells 25 [int .i64 0])]) rfl (List.Perm.swap _ _ _) (crec_ret b2 b3 _ _)
   (AllRes.cons (ResIs.cellOne rfl (List.Mem.head _) rfl (LV.Sub.refl _)) (AllRes.cons (ResIs.cellOne rfl (List.Mem.tail _ (List.Mem.head _)) rfl (LV.Sub.refl _)) AllRes.nil)) (HSub.nil _) ⟨rfl, [], rfl⟩
 ·rw [hE] at h0 ⊢
  refine QThen.panic ?_
  exact RetPostD.panic1 (vs := [str nm, int .i64 E]) (H1 := [(b2, .cells 9 [str []]), (b3, .cells 25 [int .i64 0])]) (F := [_]) (H2 := [(b2, .cells 9 [str nm]), (b3, .cells 25 [int .i64 E])]) rfl (List.Perm.swap _ _ _) (crec_pan b2 b3 _ _ nm E)
   (AllRes.cons (ResIs.cellOne rfl (List.Mem.head _) rfl (LV.Sub.refl _)) (AllRes.cons (ResIs.cellOne rfl (List.Mem.tail _ (List.Mem.head _)) rfl (LV.Sub.refl _)) AllRes.nil)) (HSub.nil _) ⟨rfl, nm, rfl⟩
end
end Go.Proofs.YtcbpcianefpniaaGreatDoor.Chk
set_option maxRecDepth 100000
namespace Go.Stele
mutual
theorem PE_nd : ∀ {e : Ex} {k : Nat} {ts : List KT} {d : Nat}, PE e k ts d → ndE e ≤ ts.length ∧ numE e
 | _, _, _, _, .num h => ⟨by rw [ndE, ndEs]; exact Nat.le_refl _, by rw [numE]; exact ⟨h, trivial⟩⟩
 | _, _, _, _, .var h => ⟨by rw [ndE, ndEs]; exact Nat.le_refl _, by rw [numE]; exact ⟨by unfold Lt; omega, trivial⟩⟩
 | _, _, _, _, .elem h ha => by
  obtain ⟨h1, h2⟩ := PE_nd ha
  refine ⟨?_, ?_⟩
  ·rw [ndE, ndEs, ndEs]
   simp only [List.length_append, List.length_cons, List.length_nil]
   omega
  ·rw [numE, numEs, numEs]
   exact ⟨by unfold Lt; omega, h2, trivial⟩
 | _, _, _, _, .call h hl => by
  obtain ⟨h1, h2⟩ := PEs_nd hl
  refine ⟨?_, ?_⟩
  ·rw [ndE]
   simp only [List.length_append, List.length_cons, List.length_nil]
   omega
  ·rw [numE]
   exact ⟨by unfold Lt; omega, h2⟩
 | _, _, _, _, .neg ha => by
  obtain ⟨h1, h2⟩ := PE_nd ha
  refine ⟨?_, ?_⟩
  ·rw [ndE, ndEs, ndEs]
   simp only [List.length_append, List.length_cons, List.length_nil]
   omega
  ·rw [numE, numEs, numEs]
   exact ⟨by unfold Lt; omega, h2, trivial⟩
 | _, _, _, _, .not ha => by
  obtain ⟨h1, h2⟩ := PE_nd ha
  refine ⟨?_, ?_⟩
  ·rw [ndE, ndEs, ndEs]
   simp only [List.length_append, List.length_cons, List.length_nil]
   omega
  ·rw [numE, numEs, numEs]
   exact ⟨by unfold Lt; omega, h2, trivial⟩
 | _, _, _, _, .bin hs ho hk ha hb => by
  obtain ⟨h1, h2⟩ := PE_nd ha
  obtain ⟨h3, h4⟩ := PE_nd hb
  refine ⟨?_, ?_⟩
  ·rw [ndE, ndEs, ndEs, ndEs]
   simp only [List.length_append, List.length_cons, List.length_nil]
   omega
  ·rw [numE, numEs, numEs, numEs]
   exact ⟨by unfold Lt; omega, h2, h4, trivial⟩
 | _, _, _, _, .par hs ho hk ha hb => by
  obtain ⟨h1, h2⟩ := PE_nd ha
  obtain ⟨h3, h4⟩ := PE_nd hb
  refine ⟨?_, ?_⟩
  ·rw [ndE, ndEs, ndEs, ndEs]
   simp only [List.length_append, List.length_cons, List.length_nil]
   omega
  ·rw [numE, numEs, numEs, numEs]
   exact ⟨by unfold Lt; omega, h2, h4, trivial⟩
theorem PEs_nd : ∀ {l : List Ex} {ts : List KT} {d : Nat}, PEs l ts d → ndEs l ≤ ts.length ∧ numEs l
 | _, _, _, .nil => ⟨by rw [ndEs]; exact Nat.zero_le _, by rw [numEs]; trivial⟩
 | _, _, _, .one ha => by
  obtain ⟨h1, h2⟩ := PE_nd ha
  rw [ndEs, ndEs, numEs, numEs]
  exact ⟨by omega, h2, trivial⟩
 | _, _, _, .more ha hl => by
  obtain ⟨h1, h2⟩ := PE_nd ha
  obtain ⟨h3, h4⟩ := PEs_nd hl
  refine ⟨?_, ?_⟩
  ·rw [ndEs]
   simp only [List.length_append, List.length_cons]
   omega
  ·rw [numEs]
   exact ⟨h2, h4⟩
end
theorem one_nd {e : Ex} {ts : List KT} {d : Nat} (h : PE e 0 ts d) : ndEs [e] ≤ ts.length ∧ numEs [e] := PEs_nd (.one h)
mutual
theorem PS_nd : ∀ {s : Sm} {ts : List KT} {d : Nat}, PS s ts d → ndS s ≤ ts.length ∧ numS s
 | _, _, _, .assign h he => by
  obtain ⟨h1, h2⟩ := one_nd he
  refine ⟨?_, ?_⟩
  ·rw [ndS, ndEs, ndSs]
   simp only [List.length_append, List.length_cons, List.length_nil]
   omega
  ·rw [numS, numSs]
   exact ⟨by rw [numEs]; trivial, h2, trivial, trivial⟩
 | _, _, _, .store h hx he => by
  obtain ⟨h1, h2⟩ := one_nd he
  obtain ⟨h3, h4⟩ := one_nd hx
  refine ⟨?_, ?_⟩
  ·rw [ndS, ndSs]
   simp only [List.length_append, List.length_cons, List.length_nil]
   omega
  ·rw [numS, numSs]
   exact ⟨h4, h2, trivial, trivial⟩
 | _, _, _, .call h hl => by
  obtain ⟨h1, h2⟩ := PEs_nd hl
  refine ⟨?_, ?_⟩
  ·rw [ndS, ndSs, ndEs, ndEs, ndEs, ndE]
   simp only [List.length_append, List.length_cons, List.length_nil]
   omega
  ·rw [numS, numSs, numEs, numEs, numEs, numE]
   exact ⟨trivial, ⟨⟨by unfold Lt; omega, h2⟩, trivial⟩, trivial, trivial⟩
 | _, _, _, .ret he => by
  obtain ⟨h1, h2⟩ := one_nd he
  refine ⟨?_, ?_⟩
  ·rw [ndS, ndSs]
   simp only [List.length_append, List.length_cons, List.length_nil]
   have : ndEs [] = 0 := by rw [ndEs]
   omega
  ·rw [numS, numSs]
   exact ⟨by rw [numEs]; trivial, h2, trivial, trivial⟩
 | _, _, _, .halt => by
  refine ⟨?_, ?_⟩
  ·rw [ndS, ndSs, ndEs]
   simp only [List.length_cons, List.length_nil]
   omega
  ·rw [numS, numSs, numEs]
   exact ⟨trivial, trivial, trivial, trivial⟩
 | _, _, _, .ifElse he h1 h2 hne => by
  obtain ⟨a1, a2⟩ := one_nd he
  obtain ⟨b1, b2⟩ := PSs_nd h1
  obtain ⟨c1, c2⟩ := PSs_nd h2
  refine ⟨?_, ?_⟩
  ·rw [ndS]
   simp only [List.length_append, List.length_cons, List.length_nil]
   have : ndEs [] = 0 := by rw [ndEs]
   omega
  ·rw [numS]
   exact ⟨by rw [numEs]; trivial, a2, b2, c2⟩
 | _, _, _, .ifThen he h1 => by
  obtain ⟨a1, a2⟩ := one_nd he
  obtain ⟨b1, b2⟩ := PSs_nd h1
  refine ⟨?_, ?_⟩
  ·rw [ndS]
   simp only [List.length_append, List.length_cons, List.length_nil]
   have : ndEs [] = 0 := by rw [ndEs]
   have : ndSs [] = 0 := by rw [ndSs]
   omega
  ·rw [numS]
   exact ⟨by rw [numEs]; trivial, a2, b2, by rw [numSs]; trivial⟩
 | _, _, _, .while he h1 => by
  obtain ⟨a1, a2⟩ := one_nd he
  obtain ⟨b1, b2⟩ := PSs_nd h1
  refine ⟨?_, ?_⟩
  ·rw [ndS]
   simp only [List.length_append, List.length_cons, List.length_nil]
   have : ndEs [] = 0 := by rw [ndEs]
   have : ndSs [] = 0 := by rw [ndSs]
   omega
  ·rw [numS]
   exact ⟨by rw [numEs]; trivial, a2, b2, by rw [numSs]; trivial⟩
theorem PSs_nd : ∀ {l : List Sm} {ts : List KT} {d : Nat}, PSs l ts d → ndSs l ≤ ts.length ∧ numSs l
 | _, _, _, .nil => ⟨by rw [ndSs]; exact Nat.zero_le _, by rw [numSs]; trivial⟩
 | _, _, _, .cons h hl => by
  obtain ⟨h1, h2⟩ := PS_nd h
  obtain ⟨h3, h4⟩ := PSs_nd hl
  refine ⟨?_, ?_⟩
  ·rw [ndSs]
   simp only [List.length_append]
   omega
  ·rw [numSs]
   exact ⟨h2, h4⟩
end
theorem PFs_nd : ∀ (fs : List FnD) (ts : List KT), PFs fs ts → ndFs fs ≤ ts.length ∧ ∀ f ∈ fs, numSs f.body
 | [], ts, h => ⟨by rw [ndFs]; exact Nat.zero_le _, fun f hf => (List.not_mem_nil hf).elim⟩
 | f :: fs, ts, h => by
  cases h with
  | cons h hd hl =>
   obtain ⟨h1, h2⟩ := PFs_nd fs _ hl
   cases h with
   | mk hn hp hlo hb =>
    rename_i nm ps ls b ts' d'
    obtain ⟨h3, h4⟩ := PSs_nd hb
    have h5 := commas_ge ps
    have h6 := varK_ge ls
    refine ⟨?_, ?_⟩
    ·rw [ndFs]
     unfold ndF
     simp only [List.length_append, List.length_cons, List.length_nil]
     omega
    ·intro f hf
     rcases List.mem_cons.1 hf with rfl | hf
     ·exact h4
     ·exact h2 f hf
theorem arKs_len (l : List Ar) : l.length ≤ ((l.map arK).flatten).length := by
 induction l with
 | nil => exact Nat.zero_le _
 | cons a l ih =>
  rw [List.map_cons, List.flatten_cons, List.length_append]
  unfold arK
  simp only [List.length_cons, List.length_nil]
  unfold arK at ih
  omega
/-- What is known of a parsed program's size. -/
structure SzP (p : Pr) (n : Nat) : Prop where
 vars : p.vars.length ≤ n
 arrays : p.arrays.length ≤ n
 size : ∀ a ∈ p.arrays, a.size < 4294967296
 funcs : ndFs p.funcs ≤ n
 nums : ∀ f ∈ p.funcs, numSs f.body
theorem PP_nd {p : Pr} {ts : List KT} (h : PP p ts) : SzP p ts.length := by
 cases h with
 | mk hv ha hf =>
  rename_i v a f ts
  obtain ⟨h1, h2⟩ := PFs_nd f ts hf
  have h3 := varK_ge v
  have h4 := arKs_len a
  refine ⟨?_, ?_, fun x hx => (ha x hx).2, ?_, h2⟩ <;> · simp only [List.length_append]; omega
theorem SzP.mono {p : Pr} {n m : Nat} (h : SzP p n) (hm : n ≤ m) : SzP p m :=
 ⟨Nat.le_trans h.vars hm, Nat.le_trans h.arrays hm, h.size, Nat.le_trans h.funcs hm, h.nums⟩
theorem parse_sz {s : List UInt8} {T : List Tok} {p : Pr} {i op : Nat} (hT : lexAt s 1 = .ok T) (hs : sProg T (10 * T.length + 20) ⟨[], [], []⟩ 0 0 = some (.ok p i op)) : SzP p s.length := by
 obtain ⟨ts, h3, h4⟩ := src_print (lexP_again _ _ _ _ hT) hs
 exact (PP_nd h3).mono (Nat.le_trans h4 (lexP_ok _ _ _ _ hT).1)
theorem SzP.small {p : Pr} {n : Nat} (h : SzP p n) (hn : n ≤ 1000000) : SmP p := by
 have h1 := ndFs_len p.funcs
 have h2 := h.funcs
 exact ⟨show p.vars.length ≤ 1000000 from Nat.le_trans h.vars hn, show p.arrays.length ≤ 1000000 from Nat.le_trans h.arrays hn, show p.funcs.length ≤ 1000000 by omega, fun f hf => smF_of (Nat.le_trans (ndFs_mem hf) (Nat.le_trans h2 hn))⟩
end Go.Stele
namespace Go.Proofs.YtcbpcianefpniaaGreatDoor.Inp
open Go.GL Go.RowKit Go.Stele
set_option maxRecDepth 100000
set_option maxHeartbeats 4000000
theorem parse_both {s : List UInt8} (hs : s.length ≤ 60000) : ∃ l, parseP s = ((parseQ s).1, l, (parseQ s).2) ∧ SzP (parseQ s).1 s.length := by
 have h0 : SzP ⟨[], [], []⟩ s.length := ⟨Nat.zero_le _, Nat.zero_le _, fun a ha => (List.not_mem_nil ha).elim, Nat.zero_le _, fun a ha => (List.not_mem_nil ha).elim⟩
 have hL : lexAllP s = lexAt s 1 := by
  unfold lexAllP
  rw [if_neg (by omega)]
  rfl
 unfold parseP parseQ
 rw [hL]
 cases hT : lexAt s 1 with
 | error x =>
  obtain ⟨l, e⟩ := x
  exact ⟨l, rfl, h0⟩
 | ok T =>
  simp only
  obtain ⟨r, hr⟩ := sProg_ends T (10 * T.length + 20) noPr 0 0 (Nat.zero_le _) (by omega)
  have hr' : sProg T (10 * T.length + 20) ⟨[], [], []⟩ 0 0 = some r := hr
  rw [hr, hr']
  cases r with
  | err l e => exact ⟨l, rfl, h0⟩
  | ok p i op => exact ⟨0, rfl, parse_sz hT hr'⟩
theorem encPr_eq (p : Pr) : encPr p = Chk.encPrG p.vars (p.arrays.map fun a => (a.name, (a.size : Int))) p.funcs := by
 unfold encPr Chk.encPrG
 rw [List.map_map]
 rfl
attribute [local irreducible] LOps LCode LStep LCalls Go.GL.Pure QThen QBlock RetPost LQ LAny LLate LLateOp LS
section
variable {B0 : Nat} {w0 : World}
theorem checkPr_spec {p : Pr} {n : Nat} (h : SzP p n) (hn : n ≤ 1000000) : LCalls (KC B0 w0) 25 [encPr p] [] (fun r H => H = [] ∧ ∃ nm, r = .ret (.tuple [str nm, int .i64 (checkPr p)])) := by
 rw [encPr_eq]
 exact Chk.check_spec _ _ _ (Nat.le_trans h.vars hn) (by rw [List.length_map]; exact Nat.le_trans h.arrays hn) (fun a ha => by
  obtain ⟨x, hx, rfl⟩ := List.mem_map.1 ha
  have := h.size x hx
  constructor
  ·show (-9223372036854775808 : Int) ≤ (x.size : Int)
   omega
  ·show (x.size : Int) < 9223372036854775808
   omega) (Nat.le_trans h.funcs hn)
theorem source_spec (hG : GW B0 w0) (s : List UInt8) (hs : s.length ≤ 60000) {inp : List Nat} (hin : ∀ v ∈ inp, Lt v) (steps : Int) :
  LCalls (KC B0 w0) 13 [str s, .list (inp.map u32), int .i64 steps] [] (Ret (encO (sourceI s inp steps))) := by
 obtain ⟨l, hP, hsz⟩ := parse_both hs
 have hps := parse_spec hG s (by omega)
 rw [hP] at hps
 unfold sourceI
 generalize hp : (parseQ s).1 = p at hps hsz ⊢
 generalize he : (parseQ s).2 = er at hps ⊢
 have hs6 : s.length ≤ 1000000 := by omega
 have hchk := checkPr_spec (B0 := B0) (w0 := w0) hsz hs6
 refine LCalls.intro Tryz.func13 rfl (n := 35) rfl rfl rfl ?_
 repeat first | refine LCode.seq ?_ | refine LCode.region ?_
 refine LOps.step (S.alloc fun b6 => ?_) rfl
 repeat first | refine LOps.nil ?_ | refine LCode.seq ?_ | refine LCode.region ?_ | refine QThen.normal ?_ | refine LOps.pure (Pure.mv (lv := .atom _) rfl) rfl ?_
 refine LOps.step (S.fn [_] rfl hps ?_) rfl
 unfold encParse
 repeat first | refine LOps.pure (Pure.mv (lv := .tuple _) rfl) rfl ?_ | refine LOps.pure (Pure.extract (c := .agg _) rfl rfl) rfl ?_ | refine LOps.pure (Pure.extract (c := .atom _) rfl rfl) rfl ?_
 refine LOps.step (S.alloc fun b7 => ?_) rfl
 repeat first | refine LOps.nil ?_ | refine LCode.seq ?_ | refine LCode.region ?_ | refine QThen.normal ?_ | refine LOps.pure (Pure.mv (lv := .atom _) rfl) rfl ?_ | refine LOps.pure (Pure.as (lv := .atom _) rfl) rfl ?_ | refine LOps.pure (Pure.neq rfl rfl) rfl ?_ | refine LOps.step (S.store (cs' := [_, _, _]) rfl Pick.here rfl rfl rfl rfl rfl ?_) rfl
 by_cases hc0 : er = 0
 rotate_left
 ·rw [if_pos hc0]
  refine LCode.cond rfl (fun hc => ?_) (fun hc => ?_)
  ·repeat first | refine LOps.nil ?_ | refine LCode.seq ?_ | refine LCode.region ?_ | refine LCode.ret ?_ | refine QThen.normal ?_ | refine QThen.ret ?_ | refine LOps.pure (Pure.mv (lv := .atom _) rfl) rfl ?_ | refine LOps.pure (Pure.bld _ (cs := [_, _, _]) rfl) rfl ?_ | refine LOps.step (S.store (cs' := [_, _, _]) rfl (Pick.there Pick.here) rfl rfl rfl rfl rfl ?_) rfl
   exact retRet rfl (AllRes.cons (ResIs.cellAgg rfl (List.Mem.head _) rfl (LV.Sub.refl _)) AllRes.nil) rfl
  ·have h2 : (!decide (er = 0)) = false := hc
   simp at h2
   exact absurd h2 hc0
 refine LCode.cond rfl (fun hc => ?_) (fun _ => ?_)
 ·have h2 : (!decide (er = 0)) = true := hc
  simp [hc0] at h2
 rw [if_neg (by simpa using hc0)]
 repeat first | refine LCode.seq ?_ | refine LCode.region ?_ | refine LCode.skip ?_ | refine QThen.normal ?_ | refine LOps.pure (Pure.ldHAgg (cs' := [_, _, _]) rfl (List.Mem.head _) rfl rfl) rfl ?_
 refine LOps.step (S.callH (H1 := []) (F := [_, _]) [_] rfl (List.Perm.refl _) hchk ?_ (by rintro ch H' ⟨_, nm, h⟩; cases h)) rfl
 rintro lv H' ⟨rfl, nm, h⟩
 cases h
 repeat first | refine LOps.nil ?_ | refine LCode.seq ?_ | refine LCode.region ?_ | refine QThen.normal ?_ | refine LOps.pure (Pure.mv (lv := .atom _) rfl) rfl ?_ | refine LOps.pure (Pure.mv (lv := .tuple _) rfl) rfl ?_ | refine LOps.pure (Pure.extract (c := .atom _) rfl rfl) rfl ?_ | refine LOps.pure (Pure.as (lv := .atom _) rfl) rfl ?_ | refine LOps.pure (Pure.neq rfl rfl) rfl ?_
 by_cases hc1 : checkPr p = 0
 rotate_left
 ·rw [if_pos hc1]
  refine LCode.cond rfl (fun hc => ?_) (fun hc => ?_)
  ·repeat first | refine LOps.nil ?_ | refine LCode.seq ?_ | refine LCode.region ?_ | refine LCode.ret ?_ | refine QThen.normal ?_ | refine QThen.ret ?_ | refine LOps.pure (Pure.mv (lv := .atom _) rfl) rfl ?_ | refine LOps.pure (Pure.bld _ (cs := [_, _, _]) rfl) rfl ?_ | refine LOps.step (S.store (cs' := [_, _, _]) rfl (Pick.there Pick.here) rfl rfl rfl rfl rfl ?_) rfl
   exact retRet rfl (AllRes.cons (ResIs.cellAgg rfl (List.Mem.head _) rfl (LV.Sub.refl _)) AllRes.nil) rfl
  ·have h2 : (!decide (checkPr p = 0)) = false := hc
   simp at h2
   exact absurd h2 hc1
 refine LCode.cond rfl (fun hc => ?_) (fun _ => ?_)
 ·have h2 : (!decide (checkPr p = 0)) = true := hc
  simp [hc1] at h2
 rw [if_neg (by simpa using hc1)]
 have hq : runQ p inp steps = limitI p inp steps := by unfold runQ; rw [if_pos hc1]
 have hrun := run_spec (B0 := B0) (w0 := w0) (hsz.small hs6) hsz.nums hchk hin steps
 rw [hq] at hrun
 repeat first | refine LCode.seq ?_ | refine LCode.region ?_ | refine LCode.skip ?_ | refine QThen.normal ?_ | refine LOps.pure (Pure.mv (lv := .atom _) rfl) rfl ?_ | refine LOps.pure (Pure.ldHAgg (cs' := [_, _, _]) rfl (List.Mem.head _) rfl rfl) rfl ?_ | refine LOps.pure (Pure.mv (lv := .list _) rfl) rfl ?_
 refine LOps.step (S.fn [_, _, _] rfl hrun ?_) rfl
 repeat first | refine LOps.nil ?_ | refine LCode.ret ?_ | refine QThen.normal ?_ | refine LOps.step (S.store (cs' := [_, _, _]) rfl (Pick.there Pick.here) rfl rfl rfl rfl rfl ?_) rfl
 exact retRet rfl (AllRes.cons (ResIs.cellAgg rfl (List.Mem.head _) rfl (LV.Sub.refl _)) AllRes.nil) rfl
end
end Go.Proofs.YtcbpcianefpniaaGreatDoor.Inp
namespace Go.GL
open Go.RowKit
/-- A struct type of a string and two integers. -/
class TOut (P : Program) (t : TypeId) : Prop where
 und : P.underlying t = some (.struct (P.fieldsOf t))
 apart : P.stoodInHeld t = false
 guard : P.eqGuardType P.depth t = false
 fields : ∃ f0 f1 f2 : Field, (P.fieldsOf t).toList = [f0, f1, f2] ∧ (f0.name ≠ "_" ∧ f0.offset = 0 ∧ P.underlying f0.type = some .string) ∧ (f1.name ≠ "_" ∧ f1.offset = 1 ∧ P.underlying f1.type = some (.int .i64)) ∧ (f2.name ≠ "_" ∧ f2.offset = 2 ∧ P.underlying f2.type = some (.int .i64))
def chkStrF (P : Program) (f : Field) (o : Nat) : Bool := f.name != "_" && f.offset == o && (match P.underlying f.type with | some .string => true | _ => false)
def chkI64 (P : Program) (f : Field) (o : Nat) : Bool := f.name != "_" && f.offset == o && (match P.underlying f.type with | some (.int .i64) => true | _ => false)
def chkOut (P : Program) (t : TypeId) : Bool := (match P.underlying t with | some (.struct _) => true | _ => false) && !P.stoodInHeld t && !P.eqGuardType P.depth t && (match (P.fieldsOf t).toList with | [f0, f1, f2] => chkStrF P f0 0 && chkI64 P f1 1 && chkI64 P f2 2 | _ => false)
theorem chkStrF_of {P : Program} {f : Field} {o : Nat} (h : chkStrF P f o = true) : f.name ≠ "_" ∧ f.offset = o ∧ P.underlying f.type = some .string := by
 unfold chkStrF at h
 simp only [Bool.and_eq_true, bne_iff_ne, beq_iff_eq] at h
 obtain ⟨⟨h1, h2⟩, h3⟩ := h
 refine ⟨h1, h2, ?_⟩
 split at h3
 ·assumption
 ·cases h3
theorem chkI64_of {P : Program} {f : Field} {o : Nat} (h : chkI64 P f o = true) : f.name ≠ "_" ∧ f.offset = o ∧ P.underlying f.type = some (.int .i64) := by
 unfold chkI64 at h
 simp only [Bool.and_eq_true, bne_iff_ne, beq_iff_eq] at h
 obtain ⟨⟨h1, h2⟩, h3⟩ := h
 refine ⟨h1, h2, ?_⟩
 split at h3
 ·assumption
 ·cases h3
theorem TOut.of {P : Program} {t : TypeId} (h : chkOut P t = true) : TOut P t := by
 unfold chkOut at h
 simp only [Bool.and_eq_true, Bool.not_eq_true'] at h
 obtain ⟨⟨⟨h1, h2⟩, h3⟩, h4⟩ := h
 refine ⟨?_, h2, h3, ?_⟩
 ·split at h1
  ·rename_i fs hu
   rw [hu]
   simp [Program.fieldsOf, hu]
  ·cases h1
 ·split at h4
  ·rename_i f0 f1 f2 hf
   simp only [Bool.and_eq_true] at h4
   exact ⟨f0, f1, f2, hf, chkStrF_of h4.1.1, chkI64_of h4.1.2, chkI64_of h4.2⟩
  ·cases h4
theorem run_part_of {P : Program} {t : TypeId} {d : TypeDesc} (hu : P.underlying t = some d) (hp : d = .string ∨ d = .int .i64) {xs : Array Value} {off : Nat} {v : Value} (hx : xs[off]? = some v) (w : World) : (part t xs off).run P w = .ok v w :=
 run_part_plain w (by rcases hp with rfl | rfl <;> simp [Program.plainKey, hu]) hx
theorem run_eqStr {P : Program} {t : TypeId} (hu : P.underlying t = some .string) (d : Nat) (a b : List UInt8) (w : World) : (Op.equalIn (d + 1) t (.string ⟨a.toArray⟩) (.string ⟨b.toArray⟩)).run P w = .ok (decide (a = b)) w := by
 simp only [Op.equalIn, Sem.run_bind, run_underlying' hu, Result.andThen_ok, Sem.run_pure]
 rw [beq_toListBytes, ByteArray.toList_eq, ByteArray.toList_eq]
 congr 1
 by_cases h : a = b <;> simp [h]
theorem run_eqInt {P : Program} {t : TypeId} (hu : P.underlying t = some (.int .i64)) (d : Nat) (a b : Int) (w : World) : (Op.equalIn (d + 1) t (.int .i64 a) (.int .i64 b)).run P w = .ok (decide (a = b)) w := by
 simp only [Op.equalIn, Sem.run_bind, run_underlying' hu, Result.andThen_ok, Sem.run_pure, if_true]
 congr 1
theorem run_eqOut {P : Program} {t : TypeId} [h : TOut P t] (a b : List UInt8) (x y u v : Int) (w : World) :
  (Op.equal t (.agg #[.string ⟨a.toArray⟩, .int .i64 x, .int .i64 u]) (.agg #[.string ⟨b.toArray⟩, .int .i64 y, .int .i64 v])).run P w = .ok (decide (a = b ∧ x = y ∧ u = v)) w := by
 obtain ⟨f0, f1, f2, hf, ⟨n0, o0, u0⟩, ⟨n1, o1, u1⟩, ⟨n2, o2, u2⟩⟩ := h.fields
 rw [equal_step, run_equalIn_struct w 9999 t _ _ h.und h.apart, hf]
 have p0 : ∀ (s : List UInt8) (i j : Int), (part f0.type #[.string ⟨s.toArray⟩, .int .i64 i, .int .i64 j] f0.offset).run P w = .ok (.string ⟨s.toArray⟩) w := fun s i j => run_part_of u0 (.inl rfl) (by rw [o0]; rfl) w
 have p1 : ∀ (s : List UInt8) (i j : Int), (part f1.type #[.string ⟨s.toArray⟩, .int .i64 i, .int .i64 j] f1.offset).run P w = .ok (.int .i64 i) w := fun s i j => run_part_of u1 (.inr rfl) (by rw [o1]; rfl) w
 have p2 : ∀ (s : List UInt8) (i j : Int), (part f2.type #[.string ⟨s.toArray⟩, .int .i64 i, .int .i64 j] f2.offset).run P w = .ok (.int .i64 j) w := fun s i j => run_part_of u2 (.inr rfl) (by rw [o2]; rfl) w
 have e0 := run_eqStr u0 9998 a b w
 have e1 := run_eqInt u1 9998 x y w
 have e2 := run_eqInt u2 9998 u v w
 have q1 : ∀ a b : Int, (Op.equalIn 9999 f1.type (.int .i64 a) (.int .i64 b)).run P w = .ok (decide (a = b)) w := fun a b => run_eqInt u1 9998 a b w
 have q2 : ∀ a b : Int, (Op.equalIn 9999 f2.type (.int .i64 a) (.int .i64 b)).run P w = .ok (decide (a = b)) w := fun a b => run_eqInt u2 9998 a b w
 have q0 : (Op.equalIn 9999 f0.type (.string ⟨a.toArray⟩) (.string ⟨b.toArray⟩)).run P w = .ok (decide (a = b)) w := run_eqStr u0 9998 a b w
 simp only [Op.eqFields, n0, n1, n2, ne_eq, not_false_eq_true, if_true, Sem.run_bind, p0, q0, Result.andThen_ok]
 by_cases ha : a = b
 ·simp only [ha, decide_true, Bool.not_true, Bool.false_eq_true, if_false, Sem.run_bind, p1, q1, Result.andThen_ok, true_and]
  by_cases hx : x = y
  ·simp only [hx, decide_true, Bool.not_true, Bool.false_eq_true, if_false, Sem.run_bind, p2, q2, Result.andThen_ok, true_and]
   by_cases hu : u = v
   ·simp [hu]
   ·simp [hu]
  ·simp [hx]
 ·simp [ha]
section
variable {C : Ctx} {e : Env} {H : Heap} {dst : Option Nat} {ty : TypeId} {pos : String} {aft : Array Edge} {g : Option (Nat × Bool)} {x y : Operand}
theorem agg_of {ρ : Operand → Value} {w : World} {L : Live} (h : ∀ x, Rep w L (e.ev x) (ρ x)) {x : Operand} {a : List UInt8} {i j : Int} (hx : e.ev x = .agg [str a, int .i64 i, int .i64 j]) : ρ x = .agg #[.string ⟨a.toArray⟩, .int .i64 i, .int .i64 j] := by
 have hv := h x
 rw [hx] at hv
 simp only [Rep, RepL, str, int] at hv
 obtain ⟨vs, h1, v0, r0, e0, rfl, v1, r1, e1, rfl, v2, r2, e2, rfl, e3⟩ := hv
 rw [h1, e0, e1, e2, e3]
theorem Pure.eqOut {t yT : TypeId} [h : TOut C.P t] {a b : List UInt8} {i j k l : Int} (hx : e.ev x = .agg [str a, int .i64 i, int .i64 j]) (hy : e.ev y = .agg [str b, int .i64 k, int .i64 l]) :
  Pure C ⟨dst, .binOp .eql t x y yT, ty, pos, aft, g⟩ e H (bool (decide (a = b ∧ i = k ∧ j = l))) :=
 .of_any fun ρ _ _ hr => ⟨_, rep_atom, fun w' => by
  have h1 := agg_of hr hx
  have h2 := agg_of hr hy
  have he : (eqGuard .eql t x y (.agg #[.string ⟨a.toArray⟩, .int .i64 i, .int .i64 j]) (.agg #[.string ⟨b.toArray⟩, .int .i64 k, .int .i64 l])).run C.P w' = .ok () w' := by
   simp [eqGuard, h.guard]
  have hb : binOp .eql t (.agg #[.string ⟨a.toArray⟩, .int .i64 i, .int .i64 j]) (.agg #[.string ⟨b.toArray⟩, .int .i64 k, .int .i64 l]) = (do Pure.pure (.bool (← Op.equal t (.agg #[.string ⟨a.toArray⟩, .int .i64 i, .int .i64 j]) (.agg #[.string ⟨b.toArray⟩, .int .i64 k, .int .i64 l])))) := rfl
  simp only [execOp, h1, h2, he, hb, Sem.run_bind, Sem.run_pure, Result.andThen_ok, run_eqOut]⟩
theorem Pure.eqOutT {t yT : TypeId} [h : TOut C.P t] {a b : List UInt8} {i j k l : Int} (hx : e.ev x = .agg [str a, int .i64 i, int .i64 j]) (hy : e.ev y = .agg [str b, int .i64 k, int .i64 l]) (h1 : a = b) (h2 : i = k) (h3 : j = l) :
  Pure C ⟨dst, .binOp .eql t x y yT, ty, pos, aft, g⟩ e H (bool true) := by
 have := Pure.eqOut (C := C) (H := H) (dst := dst) (ty := ty) (pos := pos) (aft := aft) (g := g) (t := t) (yT := yT) hx hy
 rwa [decide_eq_true ⟨h1, h2, h3⟩] at this
end
theorem LCalls.argsSub {C : Ctx} {f : FuncId} {us bs : List LV} {H : Heap} {R : LRes → Heap → Prop} (hs : SubL us bs) (h : LCalls C f bs H R) : LCalls C f us H R := fun vs w L hr hH => h vs w L (hs.repL hr) hH
end Go.GL
namespace Go.Proofs.YtcbpcianefpniaaGreatDoor.Inp
open Go.GL Go.RowKit Go.Stele
set_option maxRecDepth 100000
set_option maxHeartbeats 4000000
instance : TOut Tryz.prog 27 := .of (by kernel_rfl)
attribute [local irreducible] LOps LCode LStep LCalls Go.GL.Pure QThen QBlock RetPost LQ LAny LLate LLateOp LS
section
variable {B0 : Nat} {w0 : World}
theorem source_nil (hG : GW B0 w0) (s : List UInt8) (hs : s.length ≤ 60000) (steps : Int) : LCalls (KC B0 w0) 13 [str s, nilSlice, int .i64 steps] [] (Ret (encO (sourceI s [] steps))) :=
 LCalls.argsSub (bs := [str s, .list (([] : List Nat).map u32), int .i64 steps]) ⟨LV.Sub.refl _, LV.Sub.nil, LV.Sub.refl _, trivial⟩ (source_spec hG s hs (by simp) steps)
theorem awake_spec (hG : GW B0 w0) : LCalls (KC B0 w0) 12 [] [] (Ret (bool true)) := by
 have h := source_nil hG awakeS (by decide) 100
 rw [awake_law] at h
 refine LCalls.intro Tryz.func12 rfl (n := 6) rfl rfl rfl ?_
 repeat first | refine LOps.nil ?_ | refine LCode.seq ?_ | refine LCode.region ?_ | refine QThen.normal ?_ | refine LOps.pure (Pure.as (lv := .atom _) rfl) rfl ?_
 refine LOps.step (S.fn [_, _, _] rfl h ?_) rfl
 refine LOps.step (S.alloc fun b1 => ?_) rfl
 repeat first | refine LOps.nil ?_ | refine LCode.seq ?_ | refine LCode.region ?_ | refine QThen.normal ?_ | refine LOps.pure (Pure.ldHAgg (cs' := [_, _, _]) rfl (List.Mem.head _) rfl rfl) rfl ?_ | refine LOps.pure (Pure.bld _ (cs := [_, _, _]) rfl) rfl ?_ | refine LOps.step (S.store (cs' := [_, _, _]) rfl Pick.here rfl rfl rfl rfl rfl ?_) rfl
 refine LOps.pure (Pure.eqOutT (a := [42]) (b := [42]) (i := 0) (k := 0) (j := 5) (l := 5) rfl rfl rfl rfl rfl) rfl ?_
 repeat first | refine LOps.nil ?_ | refine LCode.ret ?_ | refine QThen.normal ?_ | refine LOps.pure (Pure.as (lv := .atom _) rfl) rfl ?_
 exact retRet rfl (AllRes.cons (ResIs.tmp (v := .atom _) rfl (LV.Sub.refl _)) AllRes.nil) rfl
end
end Go.Proofs.YtcbpcianefpniaaGreatDoor.Inp
namespace Go.Proofs.YtcbpcianefpniaaGreatDoor.Inp
open Go.GL Go.RowKit Go.Stele
set_option maxRecDepth 100000
set_option maxHeartbeats 4000000
theorem Pure.to {C : Ctx} {o : Oper} {e : Env} {H : Heap} {lv lv' : LV} (h : Go.GL.Pure C o e H lv) (he : lv = lv') : Go.GL.Pure C o e H lv' := he ▸ h
theorem wrap8 (n : Int) : IntKind.u8.wrap n = n % 256 := by
 simp only [IntKind.wrap, IntKind.bits, IntKind.signed, Bool.false_and]
 rfl
attribute [local irreducible] LOps LCode LStep LCalls Go.GL.Pure QThen QBlock RetPost LQ LAny LLate LLateOp LS
section
variable {B0 : Nat} {w0 : World}
theorem literal_spec (hG : GW B0 w0) (a : Nat) (ha : a < 4294967296) : LCalls (KC B0 w0) 19 [u32 a] [] (Ret (str (Go.Lib.decDigits a))) := by
 refine LCalls.intro Tryz.func19 rfl (n := 6) rfl rfl rfl ?_
 refine LCode.seq ?_
 repeat first | refine LOps.nil ?_ | refine LCode.seq ?_ | refine LCode.region ?_ | refine QThen.normal ?_ | refine LOps.pure (Pure.as (lv := .atom _) rfl) rfl ?_ | refine LOps.pure (Pure.mv (lv := .atom _) rfl) rfl ?_ | refine LOps.pure (Pure.cvt rfl) rfl ?_
 refine LOps.step (S.fn [_, _] (by
  show [int .u64 (IntKind.u64.wrap (a : Int)), int .i64 10] = [int .u64 (a : Int), int .i64 10]
  rw [show IntKind.u64.wrap (a : Int) = (a : Int) by simp only [IntKind.wrap, IntKind.bits, IntKind.signed, Bool.false_and]; show (a : Int) % 18446744073709551616 = a; omega]) (fmtUint_spec hG a (by omega)) ?_) rfl
 repeat first | refine LOps.nil ?_ | refine LCode.ret ?_ | refine QThen.normal ?_ | refine LOps.pure (Pure.as (lv := .atom _) rfl) rfl ?_
 exact retRet rfl (AllRes.cons (ResIs.tmp (v := .atom _) rfl (LV.Sub.refl _)) AllRes.nil) rfl
end
end Go.Proofs.YtcbpcianefpniaaGreatDoor.Inp
namespace Go.Proofs.YtcbpcianefpniaaGreatDoor.Inp
open Go.GL Go.RowKit Go.Stele
set_option maxRecDepth 100000
set_option maxHeartbeats 4000000
theorem bytes_str {C : Ctx} {e : Env} {H : Heap} {dst : Option Nat} {ty : TypeId} {pos : String} {aft : Array Edge} {g : Option (Nat × Bool)} {x : Operand} {s d el : TypeId} [hs : TSlice C.P s el 1] [he : TKind C.P el .u8] [hd : TStr C.P d] {l : List UInt8} (hx : elems (e.ev x) = some (l.map fun b => int .u8 b.toNat)) : Go.GL.Pure C ⟨dst, .convert s d x, ty, pos, aft, g⟩ e H (str l) := by
 by_cases h0 : l = []
 ·subst h0
  exact Pure.bytesStr0 hx
 ·exact Pure.bytesStr hx h0
attribute [local irreducible] LOps LCode LStep LCalls Go.GL.Pure QThen QBlock RetPost LQ LAny LLate LLateOp LS
section
variable {B0 : Nat} {w0 : World}
end
end Go.Proofs.YtcbpcianefpniaaGreatDoor.Inp
namespace Go.Proofs.YtcbpcianefpniaaGreatDoor.Inp
open Go.GL Go.RowKit Go.Stele
set_option maxRecDepth 100000
set_option maxHeartbeats 4000000
def byteLV (b : UInt8) : LV := int .u8 (b.toNat : Int)
def srcP (l : List UInt8) : List UInt8 := Src.q1 ++ 32 :: (l.map Src.stS).flatten
theorem sums_snoc : ∀ (l : List UInt8) (s x : UInt8), Sta.sums s (l ++ [x]) = Sta.sums s l ++ [l.foldl (· + ·) s + x]
 | [], s, x => rfl
 | y :: l, s, x => by
  rw [List.cons_append, Sta.sums, Sta.sums, sums_snoc l (s + y) x]
  rfl
theorem sums_len : ∀ (l : List UInt8) (s : UInt8), (Sta.sums s l).length = l.length
 | [], s => rfl
 | y :: l, s => by rw [Sta.sums, List.length_cons, List.length_cons, sums_len l]
theorem stS_len (x : UInt8) : (Src.stS x).length ≤ 40 := by
 have h1 := dec_len (u := x.toNat) (by have := x.toNat_lt; omega)
 have h2 : Src.outB.length = 3 := by decide
 have h3 : Src.addB.length = 3 := by decide
 unfold Src.stS
 simp only [List.length_append, List.length_cons, List.length_nil]
 omega
theorem srcP_len (l0 : List UInt8) : (srcP l0).length ≤ 1000 + 40 * l0.length := by
  have h1 : Src.q1.length ≤ 500 := by decide
  have h2 : ∀ l : List UInt8, ((l.map Src.stS).flatten).length ≤ 40 * l.length := by
   intro l
   induction l with
   | nil => exact Nat.zero_le _
   | cons y l ih =>
    have := stS_len y
    rw [List.map_cons, List.flatten_cons, List.length_append, List.length_cons]
    omega
  have := h2 l0
  unfold srcP
  rw [List.length_append, List.length_cons]
  omega
theorem srcP_snoc (l : List UInt8) (x : UInt8) : srcP (l ++ [x]) = srcP l ++ Src.stS x := by
 unfold srcP
 simp
theorem byte_add (a b : UInt8) : int .u8 (IntKind.u8.wrap ((a.toNat : Int) + (b.toNat : Int))) = byteLV (a + b) := by
 unfold byteLV
 rw [wrap8, UInt8.toNat_add]
 congr 1
theorem stS_eq (x : UInt8) : [111, 117, 116, 40, 97, 100, 100, 40] ++ Go.Lib.decDigits x.toNat ++ [41, 41, 59, 32] = Src.stS x := by
 unfold Src.stS Src.outB Src.addB
 simp
attribute [local irreducible] LOps LCode LStep LCalls Go.GL.Pure QThen QBlock RetPost LQ LAny LLate LLateOp LS
section
variable {B0 : Nat} {w0 : World}
theorem static_walk (hG : GW B0 w0) (l : List UInt8) : LCalls (KC B0 w0) 8 [.list (l.map byteLV)] [] (Ret (bool true)) := by
 have haw := awake_spec hG
 refine LCalls.intro Tryz.func8 rfl (n := 51) rfl rfl rfl ?_
 repeat first | refine LOps.nil ?_ | refine LCode.seq ?_ | refine LCode.region ?_ | refine QThen.normal ?_ | refine LOps.pure (Pure.as (lv := .atom _) rfl) rfl ?_ | refine LOps.pure (Pure.mv (lv := .list _) rfl) rfl ?_ | refine LOps.pure (Pure.llen rfl) rfl ?_ | refine LOps.pure (Pure.gtr rfl rfl) rfl ?_
 refine LCode.cond rfl (fun hc => ?_) (fun hc => ?_)
 ·repeat first | refine LCode.seq ?_ | refine LCode.region ?_
  refine LOps.step (S.fn [] rfl haw ?_) rfl
  repeat first | refine LOps.nil ?_ | refine LCode.ret ?_ | refine QThen.normal ?_ | refine QThen.ret ?_ | refine LOps.pure (Pure.as (lv := .atom _) rfl) rfl ?_
  exact retRet rfl (AllRes.cons (ResIs.tmp (v := .atom _) rfl (LV.Sub.refl _)) AllRes.nil) rfl
 have h60 : l.length ≤ 60 := by
  have := of_decide_eq_false hc
  rw [List.length_map] at this
  omega
 repeat first | refine LOps.nil ?_ | refine LCode.seq ?_ | refine LCode.region ?_ | refine LCode.skip ?_ | refine QThen.normal ?_ | refine LOps.pure (Pure.as (lv := .atom _) rfl) rfl ?_
 refine LOps.step (S.litA [] rfl elemsOk.nil rfl rfl rfl fun b5 => ?_) rfl
 repeat first | refine LOps.nil ?_ | refine LCode.seq ?_ | refine LCode.region ?_ | refine LCode.block ?_ | refine QThen.normal ?_ | refine LOps.pure (Pure.as (lv := .atom _) rfl) rfl ?_ | refine LOps.pure (Pure.mv (lv := .list _) rfl) rfl ?_ | refine LOps.pure (Pure.mv (lv := .atom _) rfl) rfl ?_ | refine LOps.pure (Pure.llen rfl) rfl ?_ | refine LOps.pure (Pure.as (lv := .app _ _ _ _) rfl) rfl ?_
 refine LCode.loopI (fun kk ls H' => ∃ (pre l1 : List UInt8) (v : LV) (Ha : Heap), l = pre ++ l1 ∧ kk = l1.length ∧ ls = [(0, .list (l.map byteLV)), (2, Go.GL.bool false), (3, str (srcP pre)), (4, byteLV (pre.foldl (· + ·) 0)), (5, v), (14, .list (l.map byteLV)), (15, int .i64 ((l.map byteLV).length : Int)), (16, int .i64 (pre.length : Int))] ∧ H' = Ha ∧ GL.Acc 1 v ((Sta.sums 0 pre).map byteLV) Ha [])
  ⟨_, _, _, ⟨[], l, .app b5 0 1 [], [(b5, .row 0)], rfl, rfl, rfl, rfl, GL.Acc.row⟩, ⟨rfl, rfl, rfl, rfl, rfl, rfl, rfl, rfl, trivial⟩, HSub.refl _⟩ ?_
 rintro kk ls H' ⟨pre, l1, v, Ha, hLe, rfl, rfl, rfl, hacc⟩ j hj
 have hb2 : pre.length ≤ 60 := by
  have := congrArg List.length hLe
  rw [List.length_append] at this
  omega
 have hpl := srcP_len pre
 repeat first | refine LOps.nil ?_ | refine LCode.seq ?_ | refine LCode.region ?_ | refine QThen.normal ?_ | refine LOps.pure (Pure.lss rfl rfl) rfl ?_
 refine LCode.cond rfl (fun hd => ?_) (fun hd => ?_)
 ·have hlen := of_decide_eq_true hd
  rw [List.length_map, hLe, List.length_append] at hlen
  obtain ⟨x, l2, rfl⟩ : ∃ a l2, l1 = a :: l2 := by
   cases l1 with
   | nil => simp at hlen
   | cons a l2 => exact ⟨a, l2, rfl⟩
  have hx := x.toNat_lt
  have hdl := dec_len (u := x.toNat) (by omega)
  repeat first | refine LCode.seq ?_ | refine LCode.region ?_ | refine LCode.skip ?_ | refine LCode.block ?_ | refine QThen.normal ?_
  refine LOps.pure (Pure.ixRef (el' := byteLV x) (cs := [byteLV x]) rfl rfl (by omega) (by rw [hLe]; exact get_mid byteLV pre x l2) rfl rfl) rfl ?_
  repeat first | refine LOps.nil ?_ | refine LCode.seq ?_ | refine LCode.region ?_ | refine QThen.normal ?_ | refine LOps.pure (Pure.as (lv := .atom _) rfl) rfl ?_ | refine LOps.pure (Pure.mv (lv := .atom _) rfl) rfl ?_ | refine LOps.pure (Pure.loadRef (c := .atom _) rfl rfl) rfl ?_ | refine LOps.pure (Pure.cvt rfl) rfl ?_
  refine LOps.step (S.fn [_] (by
   show [int .u32 (IntKind.u32.wrap (x.toNat : Int))] = [u32 x.toNat]
   rw [show IntKind.u32.wrap (x.toNat : Int) = (x.toNat : Int) by rw [wrapU]; omega]) (literal_spec hG x.toNat (by omega)) ?_) rfl
  repeat first | refine LOps.nil ?_ | refine LCode.seq ?_ | refine LCode.region ?_ | refine QThen.normal ?_ | refine LOps.pure (Pure.as (lv := .atom _) rfl) rfl ?_ | refine LOps.pure (Pure.mv (lv := .atom _) rfl) rfl ?_ | refine LOps.pure (Pure.sadd rfl rfl (by first | omega | (simp only [List.length_append, List.length_cons, List.length_nil]; omega))) rfl ?_
  refine LOps.pure (Pure.to (Pure.addW rfl rfl) (byte_add _ _)) rfl ?_
  repeat first | refine LOps.nil ?_ | refine LCode.region ?_ | refine QThen.normal ?_ | refine LOps.pure (Pure.as (lv := .atom _) rfl) rfl ?_
  refine LOps.pure (Pure.mv (lv := v) rfl) rfl ?_
  repeat first | refine LOps.pure (Pure.mv (lv := .atom _) rfl) rfl ?_
  refine LOps.step (S.lit (es := [byteLV (pre.foldl (· + ·) 0 + x)]) [_] rfl (elemsOk.cons rfl rfl elemsOk.nil) rfl rfl rfl ?_) rfl
  refine LOps.step (S.acc rfl hacc rfl (fun v hv => by rw [List.mem_singleton.1 hv]; rfl) rfl (by rw [List.length_map, sums_len, List.length_cons, List.length_nil]; omega) fun v' H' hacc' => ?_) rfl
  refine LOps.pure (Pure.as (lv := v') rfl) rfl ?_
  repeat first | refine LOps.nil ?_ | refine LCode.region ?_ | refine QThen.normal ?_ | refine QBlock.normal ?_ | refine LOps.pure (Pure.mv (lv := .atom _) rfl) rfl ?_ | refine LOps.pure (Pure.add rfl rfl (by omega)) rfl ?_
  exact ⟨l2.length, _, _, Nat.lt_succ_self _, ⟨pre ++ [x], l2, v', H', by rw [hLe]; simp, rfl, rfl, rfl, by
   have e : (Sta.sums 0 (pre ++ [x])).map byteLV = (Sta.sums 0 pre).map byteLV ++ [byteLV (pre.foldl (· + ·) 0 + x)] := by rw [sums_snoc]; simp
   rw [e]
   exact hacc'⟩, ⟨rfl, rfl, str_eq (by rw [srcP_snoc, ← stS_eq]), congrArg byteLV (show pre.foldl (· + ·) 0 + x = (pre ++ [x]).foldl (· + ·) 0 by rw [List.foldl_append]; rfl), rfl, rfl, rfl, int_eq (by simp), trivial⟩, HSub.refl _, hj⟩
 have hlen := of_decide_eq_false hd
 rw [List.length_map, hLe, List.length_append] at hlen
 obtain rfl : l1 = [] := by
  cases l1 with
  | nil => rfl
  | cons a l2 => simp at hlen; omega
 rw [List.append_nil] at hLe
 subst hLe
 obtain ⟨q1, q2⟩ := stat_law l h60
 have hsl : (Src.statS l).length ≤ 60000 := by
  have e : Src.statS l = srcP l ++ [125] := by unfold Src.statS srcP; simp
  rw [e, List.length_append, List.length_singleton]
  omega
 have hsrc := source_nil hG (Src.statS l) hsl 10000
 have hts : str (srcP l ++ [125]) = str (Src.statS l) := str_eq (by unfold Src.statS srcP; simp)
 generalize sourceI (Src.statS l) [] 10000 = O at q1 q2 hsrc
 obtain ⟨o1, o2, o3⟩ := O
 obtain rfl : o1 = Sta.sums 0 l := q1
 obtain rfl : o2 = 0 := q2
 repeat first | refine LCode.seq ?_ | refine LCode.region ?_ | refine LCode.exit ?_ | refine QThen.normal ?_ | refine QThen.exit ?_ | refine QBlock.hit ?_ | refine LOps.pure (Pure.mv (lv := .atom _) rfl) rfl ?_ | refine LOps.pure (Pure.sadd rfl rfl (by first | omega | (simp only [List.length_append, List.length_cons, List.length_nil]; omega))) rfl ?_
 refine LOps.sub 5 rfl hacc.sub ?_
 refine LOps.weak (H' := []) (HSub.nil _) ?_
 refine LOps.step (S.fn [_, _, _] (by
  show [str (srcP l ++ [125]), nilSlice, int .i64 10000] = [str (Src.statS l), nilSlice, int .i64 10000]
  rw [hts]) hsrc ?_) rfl
 refine LOps.step (S.alloc fun b8 => ?_) rfl
 repeat first | refine LOps.nil ?_ | refine LCode.seq ?_ | refine LCode.region ?_ | refine QThen.normal ?_ | refine LOps.pure (Pure.mv (lv := .list _) rfl) rfl ?_ | refine LOps.pure (Pure.loadH (c := .atom _) rfl (List.Mem.head _) rfl) rfl ?_ | refine LOps.pure (Pure.fieldH rfl) rfl ?_ | refine LOps.step (S.store (cs' := [_, _, _]) rfl Pick.here rfl rfl rfl rfl rfl ?_) rfl
 refine LOps.pure (bytes_str (l := Sta.sums 0 l) rfl) rfl ?_
 repeat first | refine LOps.pure (Pure.mv (lv := .atom _) rfl) rfl ?_ | refine LOps.pure (Pure.seq rfl rfl) rfl ?_
 refine LOps.bcase 43 rfl (fun h => ?_) (fun h => absurd rfl (of_decide_eq_false h))
 repeat first | refine LOps.pure (Pure.mv (lv := .atom _) rfl) rfl ?_ | refine LOps.pure (Pure.loadH (c := .atom _) rfl (List.Mem.head _) rfl) rfl ?_ | refine LOps.pure (Pure.fieldH rfl) rfl ?_ | refine LOps.pure (Pure.eql rfl rfl) rfl ?_ | refine LOps.pure (Pure.pickT (lv := .atom _) rfl rfl) rfl ?_ | refine LOps.want rfl rfl ?_
 refine LOps.bcase 48 rfl (fun h => ?_) (fun h => absurd rfl (of_decide_eq_false h))
 refine LOps.step (S.fn [] rfl haw ?_) rfl
 repeat first | refine LOps.nil ?_ | refine LCode.ret ?_ | refine QThen.normal ?_ | refine LOps.pure (Pure.as (lv := .atom _) rfl) rfl ?_ | refine LOps.pure (Pure.pickT (lv := .atom _) rfl rfl) rfl ?_
 exact retRet hj (AllRes.cons (ResIs.tmp (v := .atom _) rfl (LV.Sub.refl _)) AllRes.nil) rfl
end
end Go.Proofs.YtcbpcianefpniaaGreatDoor.Inp
