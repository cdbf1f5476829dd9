/- Texts joined: RFmt4, RPar4, RPar5, RPar6, RPar7, RPar8, RPar9. -/
import Derived.Test.YtfodkbchknknjaaGreatDoorBRowF3
import Derived.Test.YtfodkbchknknjaaGreatDoorBRowF6
import Derived.Test.YtfodkbchknknjaaGreatDoorBRowF7
set_option linter.unusedVariables false
set_option linter.unusedSimpArgs false
namespace Go.Proofs.YtfodkbchknknjaaGreatDoor
open Go.GL Go.RowKit Go.Stele
set_option maxRecDepth 100000
set_option maxHeartbeats 4000000
theorem pfs_get : ∀ (l : List FnD) (ts : List KT), PFs l ts → ∀ (i : Nat) (h : i < l.length), ∃ t d, PF l[i] t d ∧ t.length ≤ ts.length
 | [], _, _, i, h => absurd h (Nat.not_lt_zero _)
 | a :: l, ts, hp, i, h => by
  cases hp with
  | cons hf hd hl =>
   cases i with
   | zero => exact ⟨_, _, hf, by simp only [List.length_append]; omega⟩
   | succ i =>
    obtain ⟨t, d', g1, g2⟩ := pfs_get l _ hl i (by simpa using h)
    exact ⟨t, d', g1, by simp only [List.length_append]; omega⟩
attribute [local irreducible] LOps LCode LStep LCalls Go.GL.Pure QThen QBlock RetPost LQ LAny LLate LLateOp
section
variable {B0 : Nat} {w0 : World}
theorem rFormat_spec (p : Pr) (ts : List KT) (hpp : PP p ts) (hz : ts.length ≤ 1500) (hp : FmtOk p) : LCalls (KC B0 w0) 26 [encPr p] [] (Ret (str (formatP p))) := by
 obtain ⟨vars, arrays, funcs⟩ := p
 obtain ⟨p1, p2, p3, p4, p5, p6⟩ := hp
 simp only at p1 p2 p3 p4 p5
 cases hpp with
 | mk hv ha hf =>
 rename_i t
 simp only [List.length_append] at hz
 have hlv : (vars.map str).length = vars.length := List.length_map _
 have hla : (arrays.map encAr).length = arrays.length := List.length_map _
 have hlf : (funcs.map encFn).length = funcs.length := List.length_map _
 unfold formatP at p6 ⊢
 simp only [List.length_append] at p6
 simp only
 obtain ⟨V, hV⟩ : ∃ V, V = (if vars = [] then [] else varsT vars) := ⟨_, rfl⟩
 rw [← hV] at p6 ⊢
 rw [encPr]
 simp only
 refine LCalls.intro Tryz.func26 rfl (n := 84) rfl rfl rfl ?_
 repeat first | refine LCode.seq ?_ | refine LCode.region ?_
 refine LOps.step (S.box (cs := [.list (vars.map str), .list (arrays.map encAr), .list (funcs.map encFn)]) rfl fun b1 => ?_) rfl
 repeat first | refine LOps.nil ?_ | refine LCode.seq ?_ | refine LCode.region ?_ | refine QThen.normal ?_ | refine LOps.pure (Pure.as (lv := .atom _) rfl) rfl ?_ | refine LOps.pure (Pure.fieldH rfl) rfl ?_ | refine LOps.pure (Pure.loadH (c := .list _) rfl (List.Mem.head _) rfl) rfl ?_ | refine LOps.pure (Pure.llen rfl) rfl ?_ | refine LOps.pure (Pure.gtr rfl rfl) rfl ?_
 refine LCode.cut [(1, ptr b1 0), (3, str V)] ?_ (fun j hj => ?_)
 ·refine LCode.cond rfl (fun h1 => ?_) (fun h1 => ?_)
  ·have hne : vars ≠ [] := by
    rintro rfl
    exact absurd h1 (by decide)
   rw [if_neg hne] at hV
   have hVl : V.length = 4 + (Go.Lib.join vars comSp).length + 2 := by
    rw [hV]
    simp only [varsT, List.length_append, List.length_cons, List.length_nil]
   repeat first | refine LCode.region ?_ | refine LOps.pure (Pure.fieldH rfl) rfl ?_ | refine LOps.pure (Pure.loadH (c := .list _) rfl (List.Mem.head _) rfl) rfl ?_
   refine LOps.step (S.fn [_] rfl (rjoin_spec vars (by omega) (by omega)) ?_) rfl
   repeat first | refine LOps.nil ?_ | refine QThen.normal ?_ | refine LOps.pure (Pure.as (lv := .atom _) rfl) rfl ?_ | refine LOps.pure (Pure.sadd rfl rfl (by first | omega | (simp only [List.length_append, List.length_cons, List.length_nil]; omega))) rfl ?_
   exact ⟨⟨rfl, str_eq (by rw [hV]; first | done | rfl), trivial⟩, rfl, rfl⟩
  ·have hne : vars = [] := by
    have := of_decide_eq_false h1
    rw [hlv] at this
    exact List.eq_nil_of_length_eq_zero (by omega)
   rw [if_pos hne] at hV
   repeat first | refine LCode.skip ?_ | refine QThen.normal ?_
   exact ⟨⟨rfl, str_eq (by rw [hV]; first | done | rfl), trivial⟩, rfl, rfl⟩
 repeat first | refine LOps.nil ?_ | refine LCode.seq ?_ | refine LCode.region ?_ | refine LCode.block ?_ | refine QThen.normal ?_ | refine LOps.pure (Pure.as (lv := .atom _) rfl) rfl ?_
 refine LCode.loopI (fun k ls H => ∃ i, i ≤ arrays.length ∧ k = arrays.length - i ∧ ls = [(1, ptr b1 0), (3, str (V ++ ((arrays.take i).map fAr).flatten)), (4, int .i64 i)] ∧ H = [(b1, .cells 27 [.list (vars.map str), .list (arrays.map encAr), .list (funcs.map encFn)])])
  ⟨_, _, _, ⟨0, Nat.zero_le _, rfl, rfl, rfl⟩, ⟨rfl, str_eq (by simp), rfl, trivial⟩, HSub.refl _⟩ ?_
 rintro k ls H ⟨i, hi, rfl, rfl, rfl⟩ j1 hj1
 repeat first | refine LOps.nil ?_ | refine LCode.seq ?_ | refine LCode.region ?_ | refine QThen.normal ?_ | refine LOps.pure (Pure.fieldH rfl) rfl ?_ | refine LOps.pure (Pure.loadH (c := .list _) rfl (List.Mem.head _) rfl) rfl ?_ | refine LOps.pure (Pure.llen rfl) rfl ?_ | refine LOps.pure (Pure.mv (lv := .atom _) rfl) rfl ?_ | refine LOps.pure (Pure.lss rfl rfl) rfl ?_
 refine LCode.cond rfl (fun hc => ?_) (fun hc => ?_)
 ·have hlt : i < arrays.length := by have := of_decide_eq_true hc; omega
  have hm := flat_mem fAr hlt
  have hsz := p3 arrays[i] (List.getElem_mem hlt)
  have hta := flat_take fAr hlt
  have hge : (arrays.map encAr)[i]? = some (encAr arrays[i]) := map_get _ _ _ hlt
  generalize arrays[i] = a at hm hsz hta hge
  obtain ⟨nm, sz⟩ := a
  simp only at hsz
  have hdl := dec_len hsz
  rw [show fAr ⟨nm, sz⟩ = [97, 114, 114, 97, 121, 32] ++ nm ++ [91] ++ Go.Lib.decDigits sz ++ [93, 59, 10] from rfl] at hm hta
  simp only [List.length_append, List.length_cons, List.length_nil] at hm
  generalize ((arrays.take i).map fAr).flatten = AT at hm hta ⊢
  repeat first | refine LCode.seq ?_ | refine LCode.skip ?_ | refine LCode.block ?_ | refine QThen.normal ?_
  refine LCode.draw (m := 21) rfl [(b1, .cells 27 [.list (vars.map str), .list (arrays.map encAr), .list (funcs.map encFn)])] ?_
  refine LAny.tk 0 rfl rfl (Pure.mv (lv := .atom _) rfl) ?_
  refine LAny.tk 1 rfl rfl (Pure.sadd rfl rfl (by first | omega | (simp only [List.length_append, List.length_cons, List.length_nil]; omega))) ?_
  refine LAny.tk 2 rfl rfl (Pure.fieldH rfl) ?_
  refine LAny.tk 3 rfl rfl (Pure.loadH (c := .list _) rfl (List.Mem.head _) rfl) ?_
  refine LAny.tk 4 rfl rfl (Pure.mv (lv := .atom _) rfl) ?_
  refine LAny.take (i := 5) (HSub.refl _) rfl (by kernel_rfl) (by kernel_rfl) (by kernel_rfl) rfl (Pure.ixRef (el' := encAr ⟨nm, sz⟩) (cs := [_, _]) rfl rfl (by omega) hge rfl rfl) ?_
  refine LAny.tk 6 rfl rfl (Pure.field1 rfl rfl) ?_
  refine LAny.tk 7 rfl rfl (Pure.loadRef (c := .atom _) rfl rfl) ?_
  refine LAny.tk 8 rfl rfl (Pure.sadd rfl rfl (by first | omega | (simp only [List.length_append, List.length_cons, List.length_nil]; omega))) ?_
  refine LAny.tk 9 rfl rfl (Pure.sadd rfl rfl (by first | omega | (simp only [List.length_append, List.length_cons, List.length_nil]; omega))) ?_
  refine LAny.tk 10 rfl rfl (Pure.fieldH rfl) ?_
  refine LAny.tk 11 rfl rfl (Pure.loadH (c := .list _) rfl (List.Mem.head _) rfl) ?_
  refine LAny.tk 12 rfl rfl (Pure.mv (lv := .atom _) rfl) ?_
  refine LAny.take (i := 13) (HSub.refl _) rfl (by kernel_rfl) (by kernel_rfl) (by kernel_rfl) rfl (Pure.ixRef (el' := encAr ⟨nm, sz⟩) (cs := [_, _]) rfl rfl (by omega) hge rfl rfl) ?_
  refine LAny.tk 14 rfl rfl (Pure.field1 rfl rfl) ?_
  refine LAny.tk 15 rfl rfl (Pure.loadRef (c := .atom _) rfl rfl) ?_
  refine LAny.tk 16 rfl rfl (Pure.cvt rfl) ?_
  refine LAny.late ?_ (HSub.refl _)
  refine LLate.o 17 (LLateOp.step (H1 := []) rfl (.inl rfl) rfl (List.Perm.refl _) (HSub.refl _) (S.fn [_] (show _ = [int .u32 (IntKind.u32.wrap (sz : Int))] from rfl) (by rw [wrap_u32' (by omega)]; exact dec_spec sz sz (Nat.le_refl _) hsz) ?_))
  refine LLate.o 18 (LLateOp.pureH rfl rfl (Pure.sadd rfl rfl (by first | omega | (simp only [List.length_append, List.length_cons, List.length_nil]; omega))) ?_)
  refine LLate.o 19 (LLateOp.pureH rfl rfl (Pure.sadd rfl rfl (by first | omega | (simp only [List.length_append, List.length_cons, List.length_nil]; omega))) ?_)
  refine LLate.o 20 (LLateOp.pureH rfl rfl (Pure.as (lv := .atom _) rfl) ?_)
  refine LLate.done (by kernel_rfl) ?_
  repeat first | refine QThen.normal ?_ | refine QBlock.normal ?_
  repeat first | refine LOps.nil ?_ | refine LCode.region ?_ | refine QThen.normal ?_ | refine LOps.pure (Pure.as (lv := .atom _) rfl) rfl ?_ | refine LOps.pure (Pure.mv (lv := .atom _) rfl) rfl ?_ | refine LOps.pure (Pure.add rfl rfl (by omega)) rfl ?_
  exact ⟨_, _, _, by omega, ⟨i + 1, by omega, rfl, rfl, rfl⟩, ⟨rfl, str_eq (by rw [hta]; simp only [List.append_assoc, List.cons_append, List.nil_append]), int_eq (by omega), trivial⟩, HSub.refl _, hj1⟩
 have hi' : i = arrays.length := by have := of_decide_eq_false hc; omega
 subst hi'
 rw [List.take_length]
 clear hi hc
 generalize hA : (arrays.map fAr).flatten = A at p6 ⊢
 repeat first | refine LOps.nil ?_ | refine LCode.seq ?_ | refine LCode.region ?_ | refine LCode.exit ?_ | refine LCode.block ?_ | refine QThen.normal ?_ | refine QThen.exit ?_ | refine QBlock.hit ?_ | refine LOps.pure (Pure.as (lv := .atom _) rfl) rfl ?_
 refine LCode.loopI (fun k ls H => ∃ i, i ≤ funcs.length ∧ k = funcs.length - i ∧ ls = [(1, ptr b1 0), (3, str (V ++ A ++ ((funcs.take i).map fFn).flatten)), (5, int .i64 i)] ∧ H = [(b1, .cells 27 [.list (vars.map str), .list (arrays.map encAr), .list (funcs.map encFn)])])
  ⟨_, _, _, ⟨0, Nat.zero_le _, rfl, rfl, rfl⟩, ⟨rfl, str_eq (by simp), rfl, trivial⟩, HSub.refl _⟩ ?_
 rintro k ls H ⟨i, hi, rfl, rfl, rfl⟩ j2 hj2
 repeat first | refine LOps.nil ?_ | refine LCode.seq ?_ | refine LCode.region ?_ | refine QThen.normal ?_ | refine LOps.pure (Pure.fieldH rfl) rfl ?_ | refine LOps.pure (Pure.loadH (c := .list _) rfl (List.Mem.head _) rfl) rfl ?_ | refine LOps.pure (Pure.llen rfl) rfl ?_ | refine LOps.pure (Pure.mv (lv := .atom _) rfl) rfl ?_ | refine LOps.pure (Pure.lss rfl rfl) rfl ?_
 refine LCode.cond rfl (fun hc => ?_) (fun hc => ?_)
 ·have hlt : i < funcs.length := by have := of_decide_eq_true hc; omega
  have hm := flat_mem fFn hlt
  have hpf := p5 funcs[i] (List.getElem_mem hlt)
  have hta := flat_take fFn hlt
  obtain ⟨t', d', hPF, hPl⟩ := pfs_get funcs t hf i hlt
  repeat first | refine LCode.seq ?_ | refine LCode.region ?_ | refine LCode.skip ?_ | refine LCode.block ?_ | refine QThen.normal ?_ | refine LOps.pure (Pure.fieldH rfl) rfl ?_ | refine LOps.pure (Pure.loadH (c := .list _) rfl (List.Mem.head _) rfl) rfl ?_ | refine LOps.pure (Pure.mv (lv := .atom _) rfl) rfl ?_
  refine LOps.pure (Pure.ixRef (el' := encFn funcs[i]) (cs := [_, _, _, _]) rfl rfl (by omega) (map_get _ _ _ hlt) rfl rfl) rfl ?_
  repeat first | refine LOps.pure (Pure.ldRefAgg (cs' := [_, _, _, _]) rfl rfl rfl) rfl ?_
  refine LOps.step (S.alloc fun b6 => ?_) rfl
  repeat first | refine LOps.nil ?_ | refine LCode.seq ?_ | refine QThen.normal ?_ | refine LOps.step (S.store (cs' := [_, _, _, _]) rfl Pick.here rfl rfl rfl rfl rfl ?_) rfl
  generalize funcs[i] = a at hm hpf hta hPF ⊢
  generalize ((funcs.take i).map fFn).flatten = FT at hm hta ⊢
  obtain ⟨nm, ps, lo, bd⟩ := a
  obtain ⟨q1, q2, q3, q4⟩ := hpf
  simp only at q1 q2 q3 q4
  obtain ⟨tb, db, hb, hbl⟩ : ∃ tb db, PSs bd tb db ∧ tb.length ≤ t'.length := by
   cases hPF with
   | mk k1 k2 k3 k4 => exact ⟨_, _, k4, by simp only [List.length_append, List.length_cons]; omega⟩
  have hll : (lo.map str).length = lo.length := List.length_map _
  rw [show fFn ⟨nm, ps, lo, bd⟩ = [102, 117, 110, 99, 32] ++ nm ++ [40] ++ Go.Lib.join ps comSp ++ [41, 32, 123, 10] ++ (if lo = [] then [] else [32, 32] ++ varsT lo) ++ fSs [32, 32] bd ++ [125, 10] from rfl] at hm hta
  simp only [List.length_append, List.length_cons, List.length_nil] at hm
  refine LCode.draw (m := 12) rfl [(b6, .cells 53 [str nm, .list (ps.map str), .list (lo.map str), .list (bd.map encS)])] ?_
  refine LAny.tk 0 rfl rfl (Pure.mv (lv := .atom _) rfl) ?_
  refine LAny.tk 1 rfl rfl (Pure.sadd rfl rfl (by first | omega | (simp only [List.length_append, List.length_cons, List.length_nil]; omega))) ?_
  refine LAny.tk 2 rfl rfl (Pure.fieldH rfl) ?_
  refine LAny.tk 3 rfl rfl (Pure.loadH (c := .atom _) rfl (List.Mem.head _) rfl) ?_
  refine LAny.tk 4 rfl rfl (Pure.sadd rfl rfl (by first | omega | (simp only [List.length_append, List.length_cons, List.length_nil]; omega))) ?_
  refine LAny.tk 5 rfl rfl (Pure.sadd rfl rfl (by first | omega | (simp only [List.length_append, List.length_cons, List.length_nil]; omega))) ?_
  refine LAny.tk 6 rfl rfl (Pure.fieldH rfl) ?_
  refine LAny.tk 7 rfl rfl (Pure.loadH (c := .list _) rfl (List.Mem.head _) rfl) ?_
  refine LAny.late ?_ (HSub.pick Pick.here (HSub.nil _))
  refine LLate.o 8 (LLateOp.step (H1 := []) rfl (.inl rfl) rfl (List.Perm.refl _) (HSub.pick Pick.here (HSub.nil _)) (S.fn [_] rfl (rjoin_spec ps q1 (by omega)) ?_))
  refine LLate.o 9 (LLateOp.pureH rfl rfl (Pure.sadd rfl rfl (by first | omega | (simp only [List.length_append, List.length_cons, List.length_nil]; omega))) ?_)
  refine LLate.o 10 (LLateOp.pureH rfl rfl (Pure.sadd rfl rfl (by first | omega | (simp only [List.length_append, List.length_cons, List.length_nil]; omega))) ?_)
  refine LLate.o 11 (LLateOp.pureH rfl rfl (Pure.as (lv := .atom _) rfl) ?_)
  refine LLate.done (by kernel_rfl) ?_
  repeat first | refine QThen.normal ?_
  repeat first | refine LOps.nil ?_ | refine LCode.seq ?_ | refine LCode.region ?_ | refine QThen.normal ?_ | refine LOps.pure (Pure.fieldH rfl) rfl ?_ | refine LOps.pure (Pure.loadH (c := .list _) rfl (List.Mem.head _) rfl) rfl ?_ | refine LOps.pure (Pure.llen rfl) rfl ?_ | refine LOps.pure (Pure.gtr rfl rfl) rfl ?_
  obtain ⟨LO, hLO⟩ : ∃ LO, LO = (if lo = [] then [] else [32, 32] ++ varsT lo) := ⟨_, rfl⟩
  rw [← hLO] at hm hta
  refine LCode.cut [(1, ptr b1 0), (3, str (V ++ A ++ FT ++ [102, 117, 110, 99, 32] ++ nm ++ [40] ++ Go.Lib.join ps comSp ++ [41, 32, 123, 10] ++ LO)), (5, int .i64 i), (6, ptr b6 0)] ?_ (fun j3 hj3 => ?_)
  ·refine LCode.cond rfl (fun h1 => ?_) (fun h1 => ?_)
   ·have hne : lo ≠ [] := by
     rintro rfl
     simp at h1
    rw [if_neg hne] at hLO
    have hLl : LO.length = 2 + (4 + (Go.Lib.join lo comSp).length + 2) := by
     rw [hLO]
     simp only [varsT, List.length_append, List.length_cons, List.length_nil]
    repeat first | refine LCode.region ?_ | refine LOps.pure (Pure.fieldH rfl) rfl ?_ | refine LOps.pure (Pure.loadH (c := .list _) rfl (List.Mem.head _) rfl) rfl ?_ | refine LOps.pure (Pure.sadd rfl rfl (by first | omega | (simp only [List.length_append, List.length_cons, List.length_nil]; omega))) rfl ?_ | refine LOps.pure (Pure.mv (lv := .atom _) rfl) rfl ?_
    refine LOps.step (S.fn [_] rfl (rjoin_spec lo q2 (by omega)) ?_) rfl
    repeat first | refine LOps.nil ?_ | refine QThen.normal ?_ | refine LOps.pure (Pure.as (lv := .atom _) rfl) rfl ?_ | refine LOps.pure (Pure.sadd rfl rfl (by first | omega | (simp only [List.length_append, List.length_cons, List.length_nil]; omega))) rfl ?_
    exact ⟨⟨rfl, str_eq (by rw [hLO]; simp only [varsT, List.append_assoc, List.cons_append, List.nil_append]), rfl, rfl, trivial⟩, rfl, rfl⟩
   ·have hne : lo = [] := by
     have := of_decide_eq_false h1
     rw [hll] at this
     exact List.eq_nil_of_length_eq_zero (by omega)
    rw [if_pos hne] at hLO
    repeat first | refine LCode.skip ?_ | refine QThen.normal ?_
    exact ⟨⟨rfl, str_eq (by rw [hLO, List.append_nil]), rfl, rfl, trivial⟩, rfl, rfl⟩
  repeat first | refine LCode.region ?_ | refine LOps.pure (Pure.fieldH rfl) rfl ?_ | refine LOps.pure (Pure.loadH (c := .list _) rfl (List.Mem.head _) rfl) rfl ?_ | refine LOps.pure (Pure.mv (lv := .atom _) rfl) rfl ?_
  refine LOps.step (S.fn [_, _] rfl (rlines_spec _ bd tb db [32, 32] (Nat.le_refl _) q3 hb (by omega) (by omega)) ?_) rfl
  repeat first | refine LOps.nil ?_ | refine LCode.region ?_ | refine QThen.normal ?_ | refine QBlock.normal ?_ | refine LOps.pure (Pure.as (lv := .atom _) rfl) rfl ?_ | refine LOps.pure (Pure.sadd rfl rfl (by first | omega | (simp only [List.length_append, List.length_cons, List.length_nil]; omega))) rfl ?_ | refine LOps.pure (Pure.mv (lv := .atom _) rfl) rfl ?_ | refine LOps.pure (Pure.add rfl rfl (by omega)) rfl ?_
  exact ⟨_, _, _, by omega, ⟨i + 1, by omega, rfl, rfl, rfl⟩, ⟨rfl, str_eq (by rw [hta]; simp only [List.append_assoc, List.cons_append, List.nil_append]), int_eq (by omega), trivial⟩, HSub.drop (HSub.refl _), hj3.trans hj2⟩
 ·have hi' : i = funcs.length := by have := of_decide_eq_false hc; omega
  subst hi'
  rw [List.take_length]
  repeat first | refine LOps.nil ?_ | refine LCode.seq ?_ | refine LCode.region ?_ | refine LCode.ret ?_ | refine LCode.exit ?_ | refine QThen.normal ?_ | refine QThen.exit ?_ | refine QBlock.hit ?_ | refine LOps.pure (Pure.as (lv := .atom _) rfl) rfl ?_ | refine LOps.pure (Pure.mv (lv := .atom _) rfl) rfl ?_
  exact retRet (hj2.trans (hj1.trans hj)) (AllRes.cons (ResIs.tmp (v := .atom _) rfl (LV.Sub.refl _)) AllRes.nil) rfl
end
end Go.Proofs.YtfodkbchknknjaaGreatDoor
namespace Go.Proofs.YtfodkbchknknjaaGreatDoor
open Go.GL Go.RowKit Go.Stele
set_option maxRecDepth 100000
set_option maxHeartbeats 4000000
attribute [local irreducible] LOps LCode LStep LCalls Go.GL.Pure QThen QBlock RetPost LQ LAny LLate LLateOp LS
def qNames (l : List (List UInt8)) : LV := .list (l.map str)
theorem sWord_ok' {T : List Tok} {k : Int} {i op i' op' : Nat} {s : List UInt8} (h : sWord T k i op = .ok s i' op') : i' = i + 1 ∧ op' = op := by
 unfold sWord at h
 split at h
 ·split at h
  ·cases h
   exact ⟨rfl, rfl⟩
  ·cases h
 ·cases h
theorem namesLoop_end {T : List Tok} {o i k : Nat} {ln er : Int} {l : List (List UInt8)} {r : Res (List (List UInt8))} (hc : (decide (er = 0) && isTok T i [[44]]) = false) (h : stO o i ln er (sNamesLoop T k l) = some r) : stO o i ln er (fun i o => some (.ok l i o)) = some r := by
 by_cases he : er = 0
 ·subst he
  have ht : isTok T i [[44]] = false := by simpa using hc
  rw [stO_ok] at h ⊢
  cases k with
  | zero => rw [sNamesLoop] at h; cases h
  | succ k =>
   rw [sNamesLoop, if_neg (by rw [ht]; decide)] at h
   exact h
 ·rw [stO_dead he] at h ⊢
  exact h
section
variable {B0 : Nat} {w0 : World}
theorem qnames_spec (rb : Nat) (T : List Tok) (hT : RTOK T) (f o i : Nat) (op ln er : Int) (hw : Wf T o i op ln er) (r : Res (List (List UInt8))) (hr : stO o i ln er (sNames T f) = some r) :
  LCalls (KC B0 w0) 31 [ptr rb 0] [rdH rb T i op ln er] (PostB (fun l => l.length ≤ 200000) rb T o qNames r) := by
 have hl := hT.len
 change stO o i ln er (fun i o => obind (some (sWord T 2 i o)) fun s i o => sNamesLoop T f [s] i o) = some r at hr
 refine LCalls.intro Tryz.func31 rfl (n := 22) rfl rfl rfl ?_
 repeat first | refine LOps.nil ?_ | refine LCode.seq ?_ | refine LCode.region ?_ | refine QThen.normal ?_ | refine LOps.pure (Pure.as (lv := .atom _) rfl) rfl ?_ | refine LOps.pure (Pure.mv (lv := .atom _) rfl) rfl ?_
 refine LOps.step (S.callQ [_] rfl Pick.here hr (fun r1 h1 => qname_spec rb T o i op ln er hl hT.pos hw r1 h1) fun s i1 op1 ln1 er1 hw1 hal hr1 => ?_) rfl
 refine LOps.step (S.litA [_] rfl (elemsOk.cons rfl rfl elemsOk.nil) rfl rfl rfl fun b => ?_) rfl
 repeat first | refine LOps.nil ?_ | refine LCode.seq ?_ | refine LCode.block ?_ | refine QThen.normal ?_ | refine LOps.pure (Pure.as (lv := .app _ _ _ _) rfl) rfl ?_
 refine LCode.loopI (fun k ls H => ∃ (v : LV) (l : List (List UInt8)) (i2 : Nat) (op2 ln2 er2 : Int) (Ha : Heap), ls = [(0, ptr rb 0), (3, v)] ∧ H = rdH rb T i2 op2 ln2 er2 :: Ha ∧ Acc 1 v (l.map str) Ha [] ∧ Wf T o i2 op2 ln2 er2 ∧ l.length ≤ T.length + 5 ∧ (er2 = 0 → l.length ≤ i2 + 1) ∧ stO o i2 ln2 er2 (sNamesLoop T k l) = some r)
  ⟨f, _, rdH rb T i1 op1 ln1 er1 :: [(b, .row 1)], ⟨.app b 1 1 [str s], [s], i1, op1, ln1, er1, _, rfl, rfl, Acc.row, hw1, by simp, fun _ => by simp, hr1⟩, ⟨rfl, rfl, trivial⟩, HSub.pick (Pick.there Pick.here) (HSub.refl _)⟩ ?_
 rintro k ls H ⟨v, l, i2, op2, ln2, er2, Ha, rfl, rfl, hacc, hw2, hll, hla, hI⟩ j hj
 repeat first | refine LCode.seq ?_ | refine LCode.region ?_ | refine LOps.pure (Pure.mv (lv := .atom _) rfl) rfl ?_
 refine LOps.step (S.fnH [_, _] rfl Pick.here (qnext_spec rb T i2 op2 ln2 er2 [44] hl) ?_) rfl
 repeat first | refine LOps.nil ?_ | refine QThen.normal ?_
 refine LCode.cond rfl (fun hc => ?_) (fun hc => ?_)
 ·obtain ⟨he, ht⟩ := Bool.and_eq_true_iff.1 hc
  obtain rfl := of_decide_eq_true he
  obtain ⟨rfl, hi2, rfl, ho⟩ := hw2 rfl
  have hlt := isTok_lt ht
  have hla := hla rfl
  obtain ⟨k, rfl⟩ : ∃ k', k = k' + 1 := by
   cases k with
   | zero => rw [stO_ok, sNamesLoop] at hI; cases hI
   | succ k => exact ⟨k, rfl⟩
  rw [stO_ok, sNamesLoop, if_pos ht] at hI
  have hI' : stO o (i2 + 1) 0 0 (fun i o => obind (some (sWord T 2 i o)) fun s i o => sNamesLoop T k (l ++ [s]) i o) = some r := hI
  repeat first | refine LOps.nil ?_ | refine LCode.seq ?_ | refine LCode.region ?_ | refine LCode.skip ?_ | refine LCode.block ?_ | refine QThen.normal ?_ | refine LOps.pure (Pure.mv (lv := .atom _) rfl) rfl ?_ | refine LOps.pure (Pure.nilCheckH rfl) rfl ?_ | refine LOps.pure (Pure.fieldH rfl) rfl ?_ | refine LOps.pure (Pure.loadH (c := .atom _) rfl (List.Mem.head _) rfl) rfl ?_ | refine LOps.pure (Pure.add rfl rfl (by omega)) rfl ?_ | refine LOps.step (S.store (cs' := [_, _, _, _, _]) rfl Pick.here rfl rfl rfl rfl rfl ?_) rfl
  refine LOps.pure (Pure.mv (lv := v) rfl) rfl ?_
  repeat first | refine LOps.pure (Pure.mv (lv := .atom _) rfl) rfl ?_
  refine LOps.step (S.callQ (i := i2 + 1) (op := (o : Int)) [_] rfl Pick.here hI' (fun r1 h1 => qname_spec rb T o (i2 + 1) o 0 0 hl hT.pos (fun _ => ⟨rfl, hlt, rfl, ho⟩) r1 h1) fun s2 i3 op3 ln3 er3 hw3 hal3 hI3 => ?_) rfl
  refine LOps.step (S.lit [_] rfl (elemsOk.cons rfl rfl elemsOk.nil) rfl rfl rfl ?_) rfl
  refine LOps.step (S.acc1 rfl hacc rfl (by simp; rfl) rfl (by simp; omega) fun v' H' hacc' => ?_) rfl
  refine LOps.pure (Pure.as (lv := v') rfl) rfl ?_
  repeat first | refine LOps.nil ?_ | refine QThen.normal ?_ | refine QBlock.normal ?_
  exact ⟨k, _, _, by omega, ⟨v', l ++ [s2], i3, op3, ln3, er3, H', rfl, rfl, by rw [List.map_append]; exact hacc', hw3, by simp; omega, fun h3 => by
   obtain ⟨_, h4⟩ := hal3 h3
   injection h4 with h4
   obtain ⟨rfl, _⟩ := sWord_ok' h4
   simp
   omega, hI3⟩, ⟨rfl, rfl, trivial⟩, HSub.refl _, hj⟩
 ·have hend := namesLoop_end hc hI
  repeat first | refine LCode.seq ?_ | refine LCode.region ?_ | refine LCode.exit ?_ | refine QThen.normal ?_ | refine QThen.exit ?_ | refine QBlock.hit ?_
  refine LOps.pure (Pure.mv (lv := v) rfl) rfl ?_
  refine LOps.pure (Pure.as (lv := v) rfl) rfl ?_
  repeat first | refine LOps.nil ?_ | refine LCode.ret ?_ | refine QThen.normal ?_
  exact retB (v := l) hj (AllRes.cons (ResIs.tmp (v := v) rfl hacc.sub) AllRes.nil) (by show l.length ≤ 200000; omega) hw2 hend rfl (HSub.pick Pick.here (HSub.nil _))
def opAt (T : List Tok) (i : Nat) (er : Int) (k : Nat) : List UInt8 := if (decide (er = 0) && isTok T i (lvOps k)) = true then textAt T i else []
theorem qbinary_spec (rb : Nat) (T : List Tok) (hT : RTOK T) (k i : Nat) (hk : k ≤ 5) (op ln er : Int) :
  LCalls (KC B0 w0) 149 [ptr rb 0, int .i64 ((k : Int) + 1)] [rdH rb T i op ln er] (fun r H => r = .ret (str (opAt T i er k)) ∧ H = [rdH rb T i op ln er]) := by
 have hl := hT.len
 unfold opAt
 rw [op_sign hT hk]
 have hks := qkind_spec (B0 := B0) (w0 := w0) rb T i op ln er 4 (by decide) hl
 refine LCalls.intro Tryz.func149 rfl (n := 35) rfl rfl rfl ?_
 repeat first | refine LOps.nil ?_ | refine LCode.seq ?_ | refine LCode.region ?_ | refine QThen.normal ?_ | refine LOps.pure (Pure.as (lv := .atom _) rfl) rfl ?_
 cases hb : (decide (er = 0) && decide (kindAt T i = 4)) with
 | false =>
  rw [hb] at hks
  have hb2 : (decide (er = 0) && (decide (kindAt T i = 4) && decide (refLevel (textAt T i) = (k : Int) + 1))) = false := by rw [← Bool.and_assoc, hb, Bool.false_and]
  rw [hb2, if_neg (by decide)]
  refine LCode.draw (m := 19) rfl [] ?_
  refine LAny.tk 0 rfl rfl (Pure.mv (lv := .atom _) rfl) ?_
  refine LAny.late ?_ (HSub.nil _)
  refine LLate.o 1 (LLateOp.step (H1 := [rdH rb T i op ln er]) (F := []) rfl (.inl rfl) rfl (List.Perm.refl _) (HSub.refl _) (S.fnH [_, _] rfl Pick.here hks ?_))
  refine LLate.any [rdH rb T i op ln er] (fun p hp => by cases hp) ?_
  refine LAny.tk 2 rfl rfl (Pure.not rfl) ?_
  refine LAny.tk 3 rfl rfl (Pure.mv (lv := .atom _) rfl) ?_
  refine LAny.takeSkip (i := 4) rfl rfl rfl rfl (by kernel_rfl) (by kernel_rfl) (by kernel_rfl) rfl ?_
  refine LAny.takeSkip (i := 5) rfl rfl rfl rfl (by kernel_rfl) (by kernel_rfl) (by kernel_rfl) rfl ?_
  refine LAny.takeSkip (i := 6) rfl rfl rfl rfl (by kernel_rfl) (by kernel_rfl) (by kernel_rfl) rfl ?_
  refine LAny.takeSkip (i := 7) rfl rfl rfl rfl (by kernel_rfl) (by kernel_rfl) (by kernel_rfl) rfl ?_
  refine LAny.takeSkip (i := 8) rfl rfl rfl rfl (by kernel_rfl) (by kernel_rfl) (by kernel_rfl) rfl ?_
  refine LAny.takeSkip (i := 9) rfl rfl rfl rfl (by kernel_rfl) (by kernel_rfl) (by kernel_rfl) rfl ?_
  refine LAny.takeSkip (i := 10) rfl rfl rfl rfl (by kernel_rfl) (by kernel_rfl) (by kernel_rfl) rfl ?_
  refine LAny.takeSkip (i := 11) rfl rfl rfl rfl (by kernel_rfl) (by kernel_rfl) (by kernel_rfl) rfl ?_
  refine LAny.takeSkip (i := 12) rfl rfl rfl rfl (by kernel_rfl) (by kernel_rfl) (by kernel_rfl) rfl ?_
  refine LAny.takeSkip (i := 13) rfl rfl rfl rfl (by kernel_rfl) (by kernel_rfl) (by kernel_rfl) rfl ?_
  refine LAny.takeSkip (i := 14) rfl rfl rfl rfl (by kernel_rfl) (by kernel_rfl) (by kernel_rfl) rfl ?_
  refine LAny.takeSkip (i := 15) rfl rfl rfl rfl (by kernel_rfl) (by kernel_rfl) (by kernel_rfl) rfl ?_
  refine LAny.takeSkip (i := 16) rfl rfl rfl rfl (by kernel_rfl) (by kernel_rfl) (by kernel_rfl) rfl ?_
  refine LAny.takeSkip (i := 17) rfl rfl rfl rfl (by kernel_rfl) (by kernel_rfl) (by kernel_rfl) rfl ?_
  refine LAny.tk 18 rfl rfl (Pure.pickT (lv := .atom _) rfl rfl) ?_
  refine LAny.late (LLate.done (by kernel_rfl) ?_) (HSub.refl _)
  repeat first | refine QThen.normal ?_
  refine LCode.cond rfl (fun h => ?_) (fun h => ?_)
  ·repeat first | refine LOps.nil ?_ | refine LCode.seq ?_ | refine LCode.region ?_ | refine LCode.ret ?_ | refine QThen.normal ?_ | refine QThen.ret ?_ | refine LOps.pure (Pure.as (lv := .atom _) rfl) rfl ?_
   exact RetPost.ret rfl (AllRes.cons (ResIs.tmp (v := .atom _) rfl (LV.Sub.refl _)) AllRes.nil) (HSub.refl _) ⟨rfl, rfl⟩
  ·cases h
 | true =>
  rw [hb] at hks
  obtain ⟨he, hk4⟩ := Bool.and_eq_true_iff.1 hb
  rw [he, hk4, Bool.true_and, Bool.true_and]
  have hk4 := of_decide_eq_true hk4
  have hlt : i < T.length := by
   rcases Nat.lt_or_ge i T.length with h | h
   ·exact h
   ·rw [kind_none h] at hk4; cases hk4
  have htx : textAt T i = T[i].text := by rw [textAt, List.getElem?_eq_getElem hlt]
  rw [htx]
  refine LCode.draw (m := 19) rfl [] ?_
  refine LAny.tk 0 rfl rfl (Pure.mv (lv := .atom _) rfl) ?_
  refine LAny.late ?_ (HSub.nil _)
  refine LLate.o 1 (LLateOp.step (H1 := [rdH rb T i op ln er]) (F := []) rfl (.inl rfl) rfl (List.Perm.refl _) (HSub.refl _) (S.fnH [_, _] rfl Pick.here hks ?_))
  refine LLate.any [rdH rb T i op ln er] (fun p hp => by cases hp) ?_
  refine LAny.tk 2 rfl rfl (Pure.not rfl) ?_
  refine LAny.tk 3 rfl rfl (Pure.mv (lv := .atom _) rfl) ?_
  refine LAny.tkW 4 rfl rfl rfl rfl (Pure.mv (lv := .atom _) rfl) ?_
  refine LAny.tkW 5 rfl rfl rfl rfl (Pure.nilCheckH rfl) ?_
  refine LAny.tkW 6 rfl rfl rfl rfl (Pure.fieldH rfl) ?_
  refine LAny.tkW 7 rfl rfl rfl rfl (Pure.loadH (c := .list _) rfl (List.Mem.head _) rfl) ?_
  refine LAny.tkW 8 rfl rfl rfl rfl (Pure.mv (lv := .atom _) rfl) ?_
  refine LAny.tkW 9 rfl rfl rfl rfl (Pure.nilCheckH rfl) ?_
  refine LAny.tkW 10 rfl rfl rfl rfl (Pure.fieldH rfl) ?_
  refine LAny.tkW 11 rfl rfl rfl rfl (Pure.loadH (c := .atom _) rfl (List.Mem.head _) rfl) ?_
  refine LAny.takeWant (i := 12) (HSub.refl _) rfl rfl rfl (by kernel_rfl) (by kernel_rfl) (by kernel_rfl) rfl (Pure.ixRef (el' := encTok T[i]) (cs := [_, _, _]) rfl rfl (by omega) (map_get _ _ _ hlt) rfl rfl) ?_
  refine LAny.tkW 13 rfl rfl rfl rfl (Pure.field1 rfl rfl) ?_
  refine LAny.tkW 14 rfl rfl rfl rfl (Pure.loadRef (c := .atom _) rfl rfl) ?_
  refine LAny.tkW 16 rfl rfl rfl rfl (Pure.mv (lv := .atom _) rfl) ?_
  refine LAny.late ?_ (HSub.refl _)
  refine LLate.o 15 (LLateOp.step (H1 := []) (F := [rdH rb T i op ln er]) rfl (.inr ⟨_, _, _, rfl, rfl, rfl⟩) rfl (List.Perm.refl _) (HSub.refl _) (S.fn [_] rfl (Level_spec T[i].text) ?_))
  refine LLate.any [rdH rb T i op ln er] (fun p hp => hp) ?_
  refine LAny.tkW 17 rfl rfl rfl rfl (Pure.neq rfl rfl) ?_
  refine LAny.tk 18 rfl rfl (Pure.pickF (lv := .atom _) rfl rfl) ?_
  refine LAny.late (LLate.done (by kernel_rfl) ?_) (HSub.refl _)
  repeat first | refine QThen.normal ?_
  refine LCode.cond rfl (fun h => ?_) (fun h => ?_)
  ·have h' : decide (refLevel T[i].text = (k : Int) + 1) = false := by simpa only [Bool.not_eq_true'] using h
   rw [h', if_neg (by decide)]
   repeat first | refine LOps.nil ?_ | refine LCode.seq ?_ | refine LCode.region ?_ | refine LCode.ret ?_ | refine QThen.normal ?_ | refine QThen.ret ?_ | refine LOps.pure (Pure.as (lv := .atom _) rfl) rfl ?_
   exact RetPost.ret rfl (AllRes.cons (ResIs.tmp (v := .atom _) rfl (LV.Sub.refl _)) AllRes.nil) (HSub.refl _) ⟨rfl, rfl⟩
  ·have h' : decide (refLevel T[i].text = (k : Int) + 1) = true := by simpa only [Bool.not_eq_false'] using h
   rw [h', if_pos rfl]
   repeat first | refine LCode.seq ?_ | refine LCode.skip ?_ | refine QThen.normal ?_
   refine LCode.cutTo [(4, str T[i].text)] [rdH rb T i op ln er] ?_ (fun j hj => ?_)
   ·refine LCode.quiet (by kernel_rfl) ?_
    repeat first | refine LQ.pure (Pure.mv (lv := .atom _) rfl) rfl ?_ | refine LQ.pure (Pure.nilCheckH rfl) rfl ?_ | refine LQ.pure (Pure.fieldH rfl) rfl ?_ | refine LQ.pure (Pure.loadH (c := .list _) rfl (List.Mem.head _) rfl) rfl ?_ | refine LQ.pure (Pure.loadH (c := .atom _) rfl (List.Mem.head _) rfl) rfl ?_
    refine LQ.pure (Pure.ixRef (el' := encTok T[i]) (cs := [_, _, _]) rfl rfl (by omega) (map_get _ _ _ hlt) rfl rfl) rfl ?_
    repeat first | refine LQ.pure (Pure.as (lv := .atom _) rfl) rfl ?_ | refine LQ.pure (Pure.field1 rfl rfl) rfl ?_ | refine LQ.pure (Pure.loadRef (c := .atom _) rfl rfl) rfl ?_ | refine LQ.nil ?_ | refine QThen.normal ?_
    exact ⟨⟨rfl, trivial⟩, rfl, rfl⟩
   ·repeat first | refine LCode.ret ?_
    exact RetPost.ret hj (AllRes.cons (ResIs.tmp (v := .atom _) rfl (LV.Sub.refl _)) AllRes.nil) (HSub.refl _) ⟨rfl, rfl⟩
end
end Go.Proofs.YtfodkbchknknjaaGreatDoor
namespace Go.Proofs.YtfodkbchknknjaaGreatDoor
open Go.GL Go.RowKit Go.Stele
set_option maxRecDepth 100000
set_option maxHeartbeats 4000000
attribute [local irreducible] LOps LCode LStep LCalls Go.GL.Pure QThen QBlock RetPost LQ LAny LLate LLateOp LS
def qExs (l : List Ex) : LV := .list (l.map encE)
def EC (B0 : Nat) (w0 : World) (rb : Nat) (T : List Tok) (f : Nat) : Prop := ∀ (k o i : Nat) (op ln er : Int) (r : Res Ex), k ≤ 6 → Wf T o i op ln er → stO o i ln er (eLev T f k) = some r →
 LCalls (KC B0 w0) 127 [ptr rb 0, int .i64 ((k : Int) + 1)] [rdH rb T i op ln er] (PostQ rb T o encE r)
def UC (B0 : Nat) (w0 : World) (rb : Nat) (T : List Tok) (f : Nat) : Prop := ∀ (o i : Nat) (r : Res Ex), i ≤ T.length → o ≤ 100 → eUnary T f i o = some r → LCalls (KC B0 w0) 148 [ptr rb 0] [rdH rb T i o 0 0] (PostQ rb T o encE r)
def PC (B0 : Nat) (w0 : World) (rb : Nat) (T : List Tok) (f : Nat) : Prop := ∀ (o i : Nat) (r : Res Ex), i ≤ T.length → o ≤ 100 → ePrim T f i o = some r → LCalls (KC B0 w0) 169 [ptr rb 0] [rdH rb T i o 0 0] (PostQ rb T o encE r)
def AC (B0 : Nat) (w0 : World) (rb : Nat) (T : List Tok) (f : Nat) : Prop := ∀ (o i : Nat) (r : Res (List Ex)), i ≤ T.length → o ≤ 100 → eArgs T f i o = some r → LCalls (KC B0 w0) 129 [ptr rb 0] [rdH rb T i o 0 0] (PostQ rb T o qExs r)
theorem stO_pure {A : Type} {o i : Nat} {ln er : Int} {g : Nat → Nat → OR A} {r : Res A} (h : stO o i ln er g = some r) : stO o i ln er (fun i o => obind (g i o) fun v i o => some (.ok v i o)) = some r := by
 rw [← h]
 unfold stO
 split
 ·show obind (g i o) (fun v i o => some (.ok v i o)) = g i o
  cases g i o with
  | none => rfl
  | some q => cases q <;> rfl
 ·rfl
theorem obind_assoc {A B C : Type} (r : OR A) (f : A → Nat → Nat → OR B) (g : B → Nat → Nat → OR C) : obind (obind r f) g = obind r fun v i o => obind (f v i o) g := by
 cases r with
 | none => rfl
 | some q => cases q <;> rfl
theorem tok_excl {T : List Tok} {i : Nat} {x y : List UInt8} (h : isTok T i [x] = true) (hne : x ≠ y) : isTok T i [y] = false := by
 unfold isTok at h ⊢
 split at h
 ·rw [Bool.and_eq_true] at h
  have h2 := h.2
  simp only [List.contains_cons, List.contains_nil, Bool.or_false, beq_iff_eq] at h2 ⊢
  rw [h2, Bool.and_eq_false_iff]
  right
  simpa using hne
 ·cases h
theorem tok_kind1 {T : List Tok} {i : Nat} {k : Int} (h : kindAt T i = k) (h3 : k ≠ 3) (h4 : k ≠ 4) (xs : List (List UInt8)) : isTok T i xs = false := by
 unfold isTok
 unfold kindAt at h
 split
 ·rename_i t ht
  rw [ht] at h
  simp only at h
  rw [h]
  simp [h3, h4]
 ·rfl
theorem andz {b : Bool} : (decide ((0 : Int) = 0) && b) = b := by simp
/-- The loop over the operators of a level: the next operator, or none. -/
def LoopSt (T : List Tok) (o k kk : Nat) (e : Ex) (i : Nat) (ln er : Int) (s : List UInt8) (r : Res Ex) : Prop :=
 (s ≠ [] ∧ er = 0 ∧ isTok T i (lvOps k) = true ∧ s = textAt T i ∧ eLoop T kk k e i o = some r) ∨ (s = [] ∧ stO o i ln er (fun i o => some (.ok e i o)) = some r)
theorem mkLoop {T : List Tok} {o k kk : Nat} {e : Ex} {i : Nat} {ln er : Int} {r : Res Ex} (hk : k ≤ 5) (h : stO o i ln er (fun i o => eLoop T kk k e i o) = some r) : LoopSt T o k kk e i ln er (opAt T i er k) r := by
 unfold opAt
 cases hc : (decide (er = 0) && isTok T i (lvOps k)) with
 | true =>
  rw [if_pos rfl]
  obtain ⟨he, ht⟩ := Bool.and_eq_true_iff.1 hc
  obtain rfl := of_decide_eq_true he
  refine .inl ⟨?_, rfl, ht, rfl, h⟩
  have hlt := isTok_lt ht
  rw [tok_at hlt] at ht
  rw [textAt, List.getElem?_eq_getElem hlt]
  exact ops_ne k (List.mem_range.2 (by omega)) _ (List.contains_iff_mem.1 (Bool.and_eq_true_iff.1 ht).2)
 | false =>
  rw [if_neg (by decide)]
  refine .inr ⟨rfl, ?_⟩
  by_cases he : er = 0
  ·subst he
   have ht : isTok T i (lvOps k) = false := by simpa using hc
   rw [stO_ok] at h ⊢
   cases kk with
   | zero => rw [eLoop] at h; cases h
   | succ kk =>
    rw [eLoop, if_neg (by rw [ht]; decide)] at h
    exact h
  ·rw [stO_dead he] at h ⊢
   exact h
theorem args_first {A : Type} {T : List Tok} {f o i : Nat} {ln er : Int} {K : List Ex → Nat → Nat → OR A} {r : Res A} (hc : (decide (er = 0) && isTok T i [[41]]) = false) (h : stO o i ln er (fun i o => obind (eArgsLoop T f [] i o) K) = some r) :
  ∃ g, g ≤ f ∧ stO o i ln er (fun i o => obind (eLev T g 0 i o) fun e i o => obind (eArgsLoop T g [e] i o) K) = some r := by
 by_cases he : er = 0
 ·subst he
  have ht : isTok T i [[41]] = false := by simpa using hc
  rw [stO_ok] at h
  cases f with
  | zero => rw [eArgsLoop] at h; cases h
  | succ g =>
   rw [eArgsLoop, if_neg (by rw [ht]; decide), if_pos rfl] at h
   refine ⟨g, by omega, ?_⟩
   rw [stO_ok, ← obind_assoc]
   exact h
 ·rw [stO_dead he] at h
  exact ⟨0, Nat.zero_le _, by rw [stO_dead he]; exact h⟩
theorem args_none {A : Type} {T : List Tok} {f o i : Nat} {ln : Int} {K : List Ex → Nat → Nat → OR A} {r : Res A} (ht : isTok T i [[41]] = true) (h : stO o i ln 0 (fun i o => obind (eArgsLoop T f [] i o) K) = some r) : stO o i ln 0 (K []) = some r := by
 rw [stO_ok] at h ⊢
 cases f with
 | zero => rw [eArgsLoop] at h; cases h
 | succ g =>
  rw [eArgsLoop, if_pos ht] at h
  exact h
theorem args_next {A : Type} {T : List Tok} {f o i : Nat} {ln : Int} {l : List Ex} {K : List Ex → Nat → Nat → OR A} {r : Res A} (ht : isTok T i [[44]] = true) (hne : l ≠ []) (h : stO o i ln 0 (fun i o => obind (eArgsLoop T f l i o) K) = some r) :
  ∃ g, f = g + 1 ∧ stO o (i + 1) ln 0 (fun i o => obind (eLev T g 0 i o) fun e i o => obind (eArgsLoop T g (l ++ [e]) i o) K) = some r := by
 rw [stO_ok] at h
 cases f with
 | zero => rw [eArgsLoop] at h; cases h
 | succ g =>
  rw [eArgsLoop, if_neg (by rw [tok_excl ht (by decide)]; decide), if_neg hne, sNeed, if_pos ht] at h
  refine ⟨g, rfl, ?_⟩
  rw [stO_ok, ← obind_assoc]
  exact h
theorem args_end {T : List Tok} {f o i : Nat} {ln er : Int} {l : List Ex} {r : Res (List Ex)} (hc : (decide (er = 0) && isTok T i [[44]]) = false) (hne : l ≠ [])
  (h : stO o i ln er (fun i o => obind (eArgsLoop T f l i o) fun l i o => obind (some (sEnd T [41] i o)) fun _ i o => some (.ok l i o)) = some r) : stO o i ln er (fun i o => obind (some (sEnd T [41] i o)) fun _ i o => some (.ok l i o)) = some r := by
 by_cases he : er = 0
 ·subst he
  have ht : isTok T i [[44]] = false := by simpa using hc
  rw [stO_ok] at h ⊢
  cases f with
  | zero => rw [eArgsLoop] at h; cases h
  | succ g =>
   rw [eArgsLoop] at h
   split at h
   ·exact h
   ·rename_i h41
    rw [sNeed, if_neg (by rw [ht]; decide)] at h
    rw [sEnd, sNeed, if_neg h41]
    exact h
 ·rw [stO_dead he] at h ⊢
  exact h
theorem lev_good {T : List Tok} {f k i o i' o' : Nat} {e : Ex} (h : eLev T f k i o = some (.ok e i' o')) : i < i' ∧ (i ≤ T.length → i' ≤ T.length) := by
 obtain ⟨g1, g2, g3, g4⟩ := (ex_good T f).1 k i o _ h
 exact ⟨g2 rfl, g3⟩
section
variable {B0 : Nat} {w0 : World}
theorem qexpr_spec (rb : Nat) (T : List Tok) (hT : RTOK T) (f : Nat) (hE : ∀ g, g < f → EC B0 w0 rb T g) (hU : ∀ g, g < f → UC B0 w0 rb T g) : EC B0 w0 rb T f := by
 intro k o i op ln er r hk hw hr
 have hl := hT.len
 refine LCalls.intro Tryz.func127 rfl (n := 49) rfl rfl rfl ?_
 repeat first | refine LCode.seq ?_ | refine LCode.region ?_
 refine LOps.step (S.alloc fun b4 => ?_) rfl
 repeat first | refine LOps.nil ?_ | refine LCode.seq ?_ | refine LCode.region ?_ | refine QThen.normal ?_ | refine LOps.pure (Pure.mv (lv := .atom _) rfl) rfl ?_ | refine LOps.pure (Pure.nilCheckH rfl) rfl ?_ | refine LOps.pure (Pure.fieldH rfl) rfl ?_ | refine LOps.pure (Pure.loadH (c := .atom _) rfl (List.Mem.tail _ (List.Mem.head _)) rfl) rfl ?_ | refine LOps.pure (Pure.neq rfl rfl) rfl ?_
 refine LCode.cond rfl (fun hc => ?_) (fun hc => ?_)
 ·have he : er ≠ 0 := by simpa using hc
  rw [stO_dead he] at hr
  repeat first | refine LOps.nil ?_ | refine LCode.seq ?_ | refine LCode.region ?_ | refine LCode.ret ?_ | refine QThen.normal ?_ | refine QThen.ret ?_ | refine LOps.pure (Pure.bld _ (cs := [_, _, _, _]) rfl) rfl ?_ | refine LOps.step (S.store (cs' := [_, _, _, _]) rfl Pick.here rfl rfl rfl rfl rfl ?_) rfl
  exact retQ (v := .mk [] 0 [] []) rfl (AllRes.cons (ResIs.cellAgg (k := 4) rfl (List.Mem.head _) rfl (LV.Sub.agg (bs := [_, _, _, .list []]) ⟨LV.Sub.refl _, LV.Sub.refl _, LV.Sub.refl _, LV.Sub.nil, trivial⟩)) AllRes.nil) (wf_dead he) (by rw [stO_dead he]; exact hr) rfl (HSub.drop (HSub.refl _))
 obtain rfl : er = 0 := by simpa using hc
 obtain ⟨rfl, hi, rfl, ho⟩ := hw rfl
 rw [stO_ok] at hr
 obtain ⟨f, rfl⟩ : ∃ g, f = g + 1 := by
  cases f with
  | zero => rw [eLev] at hr; cases hr
  | succ g => exact ⟨g, rfl⟩
 rw [eLev] at hr
 repeat first | refine LOps.nil ?_ | refine LCode.seq ?_ | refine LCode.region ?_ | refine LCode.skip ?_ | refine QThen.normal ?_ | refine LOps.pure (Pure.mv (lv := .atom _) rfl) rfl ?_ | refine LOps.pure (Pure.eql rfl rfl) rfl ?_
 refine LCode.cond rfl (fun h7 => ?_) (fun h7 => ?_)
 ·have hk6 : k = 6 := by have := of_decide_eq_true h7; omega
  rw [if_pos hk6] at hr
  have hr' := stO_pure (o := o) (i := i) (ln := 0) (er := 0) (g := eUnary T f) hr
  repeat first | refine LCode.seq ?_ | refine LCode.region ?_ | refine LOps.pure (Pure.mv (lv := .atom _) rfl) rfl ?_
  refine LOps.step (S.callQ [_] rfl (Pick.there Pick.here) hr' (fun r1 h1 => hU f (by omega) o i r1 hi ho h1) fun v i1 op1 ln1 er1 hw1 hal hr1 => ?_) rfl
  repeat first | refine LOps.nil ?_ | refine LCode.ret ?_ | refine QThen.normal ?_ | refine QThen.ret ?_ | refine LOps.step (S.store (cs' := [_, _, _, _]) rfl (Pick.there Pick.here) rfl rfl rfl rfl rfl ?_) rfl
  exact retQ (v := v) rfl (AllRes.cons (ResIs.cellAgg rfl (List.Mem.head _) rfl (LV.Sub.refl _)) AllRes.nil) hw1 hr1 rfl (HSub.drop (HSub.refl _))
 have hk5 : k ≤ 5 := by have := of_decide_eq_false h7; omega
 rw [if_neg (by omega)] at hr
 have hr' : stO o i 0 0 (fun i o => obind (eLev T f (k + 1) i o) fun e i o => eLoop T f k e i o) = some r := hr
 repeat first | refine LCode.seq ?_ | refine LCode.region ?_ | refine LCode.skip ?_ | refine QThen.normal ?_ | refine LOps.pure (Pure.mv (lv := .atom _) rfl) rfl ?_ | refine LOps.pure (Pure.add rfl rfl (by omega)) rfl ?_
 refine LOps.step (S.callQ [_, _] rfl (Pick.there Pick.here) hr' (fun r1 h1 => hE f (by omega) (k + 1) o i o 0 0 r1 (by omega) (fun _ => ⟨rfl, hi, rfl, ho⟩) h1) fun e i1 op1 ln1 er1 hw1 hal hr1 => ?_) rfl
 refine LOps.step (S.alloc fun b5 => ?_) rfl
 repeat first | refine LOps.nil ?_ | refine LCode.seq ?_ | refine LCode.region ?_ | refine QThen.normal ?_ | refine LOps.pure (Pure.mv (lv := .atom _) rfl) rfl ?_ | refine LOps.step (S.store (cs' := [_, _, _, _]) rfl Pick.here rfl rfl rfl rfl rfl ?_) rfl
 refine LOps.step (S.fnH [_, _] rfl (Pick.there Pick.here) (qbinary_spec rb T hT k i1 hk5 op1 ln1 er1) ?_) rfl
 repeat first | refine LOps.nil ?_ | refine LCode.seq ?_ | refine LCode.block ?_ | refine QThen.normal ?_ | refine LOps.pure (Pure.as (lv := .atom _) rfl) rfl ?_
 refine LCode.loopI (fun kk ls H => ∃ (e : Ex) (i2 : Nat) (op2 ln2 er2 : Int) (s : List UInt8), kk ≤ f ∧ ls = [(0, ptr rb 0), (1, int .i64 ((k : Int) + 1)), (4, ptr b4 0), (5, ptr b5 0), (6, str s)] ∧
   H = [rdH rb T i2 op2 ln2 er2, (b5, .cells 38 [str (exOp e), int .u32 (exNum e), str (exName e), .list (encArgs e)]), (b4, .cells 38 [str [], int .u32 0, str [], nilSlice])] ∧ Wf T o i2 op2 ln2 er2 ∧ LoopSt T o k kk e i2 ln2 er2 s r)
  ⟨f, _, _, ⟨e, i1, op1, ln1, er1, _, Nat.le_refl _, rfl, rfl, hw1, mkLoop hk5 hr1⟩, ⟨rfl, rfl, rfl, rfl, rfl, trivial⟩, HSub.refl _⟩ ?_
 rintro kk ls H ⟨e, i2, op2, ln2, er2, s, hkf, rfl, rfl, hw2, hS⟩ j hj
 repeat first | refine LOps.nil ?_ | refine LCode.seq ?_ | refine LCode.region ?_ | refine QThen.normal ?_ | refine LOps.pure (Pure.mv (lv := .atom _) rfl) rfl ?_ | refine LOps.pure (Pure.sneq rfl rfl) rfl ?_
 refine LCode.cond rfl (fun hs => ?_) (fun hs => ?_)
 ·have hne : s ≠ [] := by simpa using hs
  rcases hS with ⟨_, rfl, ht, rfl, hI⟩ | ⟨h, _⟩
  case inr => exact absurd h hne
  obtain ⟨rfl, hi2, rfl, _⟩ := hw2 rfl
  have hlt := isTok_lt ht
  obtain ⟨kk, rfl⟩ : ∃ g, kk = g + 1 := by
   cases kk with
   | zero => rw [eLoop] at hI; cases hI
   | succ g => exact ⟨g, rfl⟩
  rw [eLoop, if_pos ht] at hI
  have hI' : stO o (i2 + 1) 0 0 (fun i o => obind (eLev T kk (k + 1) i o) fun e2 i o => if k = 2 then some (.ok (.mk (textAt T i2) 0 [] [e, e2]) i o) else eLoop T kk k (.mk (textAt T i2) 0 [] [e, e2]) i o) = some r := hI
  repeat first | refine LOps.nil ?_ | refine LCode.seq ?_ | refine LCode.region ?_ | refine LCode.skip ?_ | refine LCode.block ?_ | refine QThen.normal ?_ | refine LOps.pure (Pure.mv (lv := .atom _) rfl) rfl ?_ | refine LOps.pure (Pure.nilCheckH rfl) rfl ?_ | refine LOps.pure (Pure.fieldH rfl) rfl ?_ | refine LOps.pure (Pure.loadH (c := .atom _) rfl (List.Mem.head _) rfl) rfl ?_ | refine LOps.pure (Pure.add rfl rfl (by omega)) rfl ?_ | refine LOps.step (S.store (cs' := [_, _, _, _, _]) rfl Pick.here rfl rfl rfl rfl rfl ?_) rfl
  refine LOps.step (S.callQ (i := i2 + 1) (op := (o : Int)) [_, _] rfl Pick.here hI' (fun r1 h1 => hE kk (by omega) (k + 1) o (i2 + 1) o 0 0 r1 (by omega) (fun _ => ⟨rfl, hlt, rfl, ho⟩) h1) fun e2 i3 op3 ln3 er3 hw3 hal3 hI3 => ?_) rfl
  refine LOps.step (S.alloc fun b7 => ?_) rfl
  repeat first | refine LOps.nil ?_ | refine LCode.seq ?_ | refine LCode.region ?_ | refine QThen.normal ?_ | refine LOps.pure (Pure.mv (lv := .atom _) rfl) rfl ?_ | refine LOps.pure (Pure.ldHAgg (cs' := [_, _, _, _]) rfl (List.Mem.head _) rfl rfl) rfl ?_ | refine LOps.pure (Pure.ldHAgg (cs' := [_, _, _, _]) rfl (List.Mem.tail _ (List.Mem.tail _ (List.Mem.head _))) rfl rfl) rfl ?_ | refine LOps.step (S.store (cs' := [_, _, _, _]) rfl Pick.here rfl rfl rfl rfl rfl ?_) rfl
  refine LOps.step (S.lit (es := [encE e, encE e2]) [_, _] rfl (elemsOk.cons rfl rfl (elemsOk.cons rfl rfl elemsOk.nil)) rfl rfl rfl ?_) rfl
  repeat first | refine LOps.nil ?_ | refine LCode.seq ?_ | refine LCode.region ?_ | refine QThen.normal ?_ | refine LOps.pure (Pure.mv (lv := .atom _) rfl) rfl ?_ | refine LOps.pure (Pure.bld _ (cs := [_, _, _, _]) rfl) rfl ?_ | refine LOps.step (S.store (cs' := [_, _, _, _]) rfl (Pick.there (Pick.there Pick.here)) rfl rfl rfl rfl rfl ?_) rfl
  refine LOps.step (S.fnH [_, _] rfl (Pick.there (Pick.there Pick.here)) (qbinary_spec rb T hT k i3 hk5 op3 ln3 er3) ?_) rfl
  repeat first | refine LOps.nil ?_ | refine LCode.seq ?_ | refine LCode.region ?_ | refine QThen.normal ?_ | refine LOps.pure (Pure.mv (lv := .atom _) rfl) rfl ?_ | refine LOps.pure (Pure.eql rfl rfl) rfl ?_ | refine LOps.pure (Pure.as (lv := .atom _) rfl) rfl ?_
  refine LCode.cond rfl (fun h3 => ?_) (fun h3 => ?_)
  ·have hk2 : k = 2 := by have := of_decide_eq_true h3; omega
   simp only [hk2, if_true] at hI3
   repeat first | refine LOps.nil ?_ | refine LCode.region ?_ | refine QThen.normal ?_ | refine QBlock.normal ?_ | refine LOps.pure (Pure.as (lv := .atom _) rfl) rfl ?_
   exact ⟨kk, _, _, by omega, ⟨.mk (textAt T i2) 0 [] [e, e2], i3, op3, ln3, er3, [], by omega, rfl, rfl, hw3, .inr ⟨rfl, hI3⟩⟩, ⟨rfl, rfl, rfl, rfl, rfl, trivial⟩, HSub.pick Pick.here (HSub.pick Pick.here (HSub.drop (HSub.refl _))), hj⟩
  ·have hk2 : ¬ k = 2 := by have := of_decide_eq_false h3; omega
   simp only [hk2, if_false] at hI3
   repeat first | refine LCode.skip ?_ | refine QThen.normal ?_ | refine QBlock.normal ?_
   exact ⟨kk, _, _, by omega, ⟨.mk (textAt T i2) 0 [] [e, e2], i3, op3, ln3, er3, _, by omega, rfl, rfl, hw3, mkLoop hk5 hI3⟩, ⟨rfl, rfl, rfl, rfl, rfl, trivial⟩, HSub.pick Pick.here (HSub.pick Pick.here (HSub.drop (HSub.refl _))), hj⟩
 ·have he : s = [] := by simpa using hs
  rcases hS with ⟨h, _⟩ | ⟨_, hI⟩
  case inl => exact absurd he h
  repeat first | refine LOps.nil ?_ | refine LCode.seq ?_ | refine LCode.region ?_ | refine LCode.ret ?_ | refine LCode.exit ?_ | refine QThen.normal ?_ | refine QThen.exit ?_ | refine QBlock.hit ?_ | refine LOps.pure (Pure.ldHAgg (cs' := [_, _, _, _]) rfl (List.Mem.tail _ (List.Mem.head _)) rfl rfl) rfl ?_ | refine LOps.step (S.store (cs' := [_, _, _, _]) rfl (Pick.there (Pick.there Pick.here)) rfl rfl rfl rfl rfl ?_) rfl
  exact retQ (v := e) hj (AllRes.cons (ResIs.cellAgg rfl (List.Mem.head _) rfl (LV.Sub.refl _)) AllRes.nil) hw2 hI rfl (HSub.pick (Pick.there Pick.here) (HSub.nil _))
end
end Go.Proofs.YtfodkbchknknjaaGreatDoor
namespace Go.Proofs.YtfodkbchknknjaaGreatDoor
open Go.GL Go.RowKit Go.Stele
set_option maxRecDepth 100000
set_option maxHeartbeats 4000000
attribute [local irreducible] LOps LCode LStep LCalls Go.GL.Pure QThen QBlock RetPost LQ LAny LLate LLateOp LS
section
variable {B0 : Nat} {w0 : World}
theorem qargs_spec (rb : Nat) (T : List Tok) (hT : RTOK T) (f : Nat) (hE : ∀ g, g < f → EC B0 w0 rb T g) : AC B0 w0 rb T f := by
 intro o i r hi ho hr
 have hl := hT.len
 obtain ⟨f, rfl⟩ : ∃ g, f = g + 1 := by
  cases f with
  | zero => rw [eArgs] at hr; cases hr
  | succ g => exact ⟨g, rfl⟩
 rw [eArgs] at hr
 have hr' : stO o i 0 0 (fun i o => obind (some (sBegin T [40] i o)) fun _ i o => obind (eArgsLoop T f [] i o) fun l i o => obind (some (sEnd T [41] i o)) fun _ i o => some (.ok l i o)) = some r := hr
 refine LCalls.intro Tryz.func129 rfl (n := 31) rfl rfl rfl ?_
 repeat first | refine LOps.nil ?_ | refine LCode.seq ?_ | refine LCode.region ?_ | refine QThen.normal ?_ | refine LOps.pure (Pure.as (lv := .atom _) rfl) rfl ?_ | refine LOps.pure (Pure.mv (lv := .atom _) rfl) rfl ?_
 refine LOps.step (S.callQ (op := (o : Int)) [_, _] rfl Pick.here hr' (fun r1 h1 => qenter_spec rb T o i o 0 0 [40] hl hT.pos (fun _ => ⟨rfl, hi, rfl, ho⟩) r1 h1) fun u i1 op1 ln1 er1 hw1 hal1 hr1 => ?_) rfl
 repeat first | refine LOps.nil ?_ | refine LCode.seq ?_ | refine LCode.region ?_ | refine QThen.normal ?_ | refine LOps.pure (Pure.mv (lv := .atom _) rfl) rfl ?_
 refine LOps.step (S.fnH [_, _] rfl Pick.here (qnext_spec rb T i1 op1 ln1 er1 [41] hl) ?_) rfl
 repeat first | refine LOps.nil ?_ | refine QThen.normal ?_ | refine LOps.pure (Pure.not rfl) rfl ?_
 refine LCode.cond rfl (fun hc => ?_) (fun hc => ?_)
 ·have hc' : (decide (er1 = 0) && isTok T i1 [[41]]) = false := by simpa only [Bool.not_eq_true'] using hc
  obtain ⟨g, hg, hr2⟩ := args_first hc' hr1
  repeat first | refine LCode.seq ?_ | refine LCode.region ?_ | refine LOps.pure (Pure.mv (lv := .atom _) rfl) rfl ?_
  refine LOps.step (S.callQ [_, _] rfl Pick.here hr2 (fun r1 h1 => hE g (by omega) 0 (o + 1) i1 op1 ln1 er1 r1 (by omega) hw1 h1) fun e i2 op2 ln2 er2 hw2 hal2 hr3 => ?_) rfl
  refine LOps.step (S.lit [_] rfl (elemsOk.cons rfl rfl elemsOk.nil) rfl rfl rfl ?_) rfl
  refine LOps.step (S.acc1 (H1 := []) rfl Acc.nil rfl (by simp; rfl) rfl (by simp) fun v0 H0 hacc0 => ?_) rfl
  refine LOps.pure (Pure.as (lv := v0) rfl) rfl ?_
  repeat first | refine LOps.nil ?_ | refine LCode.block ?_ | refine QThen.normal ?_
  refine LCode.loopI (fun k ls H => ∃ (v : LV) (l : List Ex) (i3 : Nat) (op3 ln3 er3 : Int) (Ha : Heap), k ≤ g ∧ ls = [(0, ptr rb 0), (3, v)] ∧ H = rdH rb T i3 op3 ln3 er3 :: Ha ∧ Acc 4 v (l.map encE) Ha [] ∧ Wf T (o + 1) i3 op3 ln3 er3 ∧ l ≠ [] ∧ l.length ≤ T.length + 5 ∧ (er3 = 0 → l.length ≤ i3 + 1) ∧
    stO (o + 1) i3 ln3 er3 (fun i o => obind (eArgsLoop T k l i o) fun l i o => obind (some (sEnd T [41] i o)) fun _ i o => some (.ok l i o)) = some r)
   ⟨g, _, _, ⟨v0, [e], i2, op2, ln2, er2, H0, Nat.le_refl _, rfl, rfl, hacc0, hw2, by simp, by simp, fun _ => by simp, hr3⟩, ⟨rfl, rfl, trivial⟩, HSub.refl _⟩ ?_
  rintro k ls H ⟨v, l, i3, op3, ln3, er3, Ha, hkg, rfl, rfl, hacc, hw3, hne, hll, hla, hI⟩ j hj
  repeat first | refine LCode.seq ?_ | refine LCode.region ?_ | refine LOps.pure (Pure.mv (lv := .atom _) rfl) rfl ?_
  refine LOps.step (S.fnH [_, _] rfl Pick.here (qnext_spec rb T i3 op3 ln3 er3 [44] hl) ?_) rfl
  repeat first | refine LOps.nil ?_ | refine QThen.normal ?_
  refine LCode.cond rfl (fun hd => ?_) (fun hd => ?_)
  ·obtain ⟨he, ht⟩ := Bool.and_eq_true_iff.1 hd
   obtain rfl := of_decide_eq_true he
   obtain ⟨rfl, hi3, rfl, ho3⟩ := hw3 rfl
   have hlt := isTok_lt ht
   have hla := hla rfl
   obtain ⟨k, rfl, hI2⟩ := args_next ht hne hI
   repeat first | refine LOps.nil ?_ | refine LCode.seq ?_ | refine LCode.region ?_ | refine LCode.skip ?_ | refine LCode.block ?_ | refine QThen.normal ?_ | refine LOps.pure (Pure.mv (lv := .atom _) rfl) rfl ?_ | refine LOps.pure (Pure.nilCheckH rfl) rfl ?_ | refine LOps.pure (Pure.fieldH rfl) rfl ?_ | refine LOps.pure (Pure.loadH (c := .atom _) rfl (List.Mem.head _) rfl) rfl ?_ | refine LOps.pure (Pure.add rfl rfl (by omega)) rfl ?_ | refine LOps.step (S.store (cs' := [_, _, _, _, _]) rfl Pick.here rfl rfl rfl rfl rfl ?_) rfl
   refine LOps.pure (Pure.mv (lv := v) rfl) rfl ?_
   repeat first | refine LOps.pure (Pure.mv (lv := .atom _) rfl) rfl ?_
   refine LOps.step (S.callQ (i := i3 + 1) (op := ((o + 1 : Nat) : Int)) [_, _] rfl Pick.here hI2 (fun r1 h1 => hE k (by omega) 0 (o + 1) (i3 + 1) _ 0 0 r1 (by omega) (fun _ => ⟨rfl, hlt, rfl, ho3⟩) h1) fun e2 i4 op4 ln4 er4 hw4 hal4 hI4 => ?_) rfl
   refine LOps.step (S.lit [_] rfl (elemsOk.cons rfl rfl elemsOk.nil) rfl rfl rfl ?_) rfl
   refine LOps.step (S.acc1 rfl hacc rfl (by simp; rfl) rfl (by simp; omega) fun v' H' hacc' => ?_) rfl
   refine LOps.pure (Pure.as (lv := v') rfl) rfl ?_
   repeat first | refine LOps.nil ?_ | refine QThen.normal ?_ | refine QBlock.normal ?_
   exact ⟨k, _, _, by omega, ⟨v', l ++ [e2], i4, op4, ln4, er4, H', by omega, rfl, rfl, by rw [List.map_append]; exact hacc', hw4, by simp, by simp; omega, fun h4 => by
    obtain ⟨_, h5⟩ := hal4 h4
    have := (lev_good h5).1
    simp
    omega, hI4⟩, ⟨rfl, rfl, trivial⟩, HSub.refl _, hj⟩
  ·have hI2 := args_end hd hne hI
   repeat first | refine LCode.seq ?_ | refine LCode.region ?_ | refine LCode.exit ?_ | refine QThen.normal ?_ | refine QThen.exit ?_ | refine QBlock.hit ?_ | refine LOps.pure (Pure.mv (lv := .atom _) rfl) rfl ?_
   refine LOps.step (S.callQ [_, _] rfl Pick.here hI2 (fun r1 h1 => qleave_spec rb T o i3 op3 ln3 er3 [41] hl hT.pos hw3 r1 h1) fun u2 i5 op5 ln5 er5 hw5 hal5 hr5 => ?_) rfl
   repeat first | refine LOps.nil ?_ | refine LCode.seq ?_ | refine LCode.region ?_ | refine QThen.normal ?_
   refine LOps.pure (Pure.mv (lv := v) rfl) rfl ?_
   refine LOps.pure (Pure.as (lv := v) rfl) rfl ?_
   repeat first | refine LOps.nil ?_ | refine LCode.ret ?_ | refine QThen.normal ?_
   exact retQ (v := l) hj (AllRes.cons (ResIs.tmp (v := v) rfl hacc.sub) AllRes.nil) hw5 hr5 rfl (HSub.pick Pick.here (HSub.nil _))
 ·have hc' : (decide (er1 = 0) && isTok T i1 [[41]]) = true := by simpa only [Bool.not_eq_false'] using hc
  obtain ⟨he, ht⟩ := Bool.and_eq_true_iff.1 hc'
  obtain rfl := of_decide_eq_true he
  have hr2 := args_none ht hr1
  repeat first | refine LCode.seq ?_ | refine LCode.region ?_ | refine LCode.skip ?_ | refine QThen.normal ?_ | refine LOps.pure (Pure.mv (lv := .atom _) rfl) rfl ?_
  refine LOps.step (S.callQ [_, _] rfl Pick.here hr2 (fun r1 h1 => qleave_spec rb T o i1 op1 ln1 0 [41] hl hT.pos hw1 r1 h1) fun u2 i5 op5 ln5 er5 hw5 hal5 hr5 => ?_) rfl
  repeat first | refine LOps.nil ?_ | refine LCode.seq ?_ | refine LCode.region ?_ | refine LCode.ret ?_ | refine QThen.normal ?_ | refine LOps.pure (Pure.as (lv := .atom _) rfl) rfl ?_ | refine LOps.pure (Pure.mv (lv := .atom _) rfl) rfl ?_
  exact retQ (v := []) rfl (AllRes.cons (ResIs.tmp (v := nilSlice) rfl LV.Sub.nil) AllRes.nil) hw5 hr5 rfl (HSub.pick Pick.here (HSub.nil _))
theorem qprim_spec (rb : Nat) (T : List Tok) (hT : RTOK T) (f : Nat) (hE : ∀ g, g < f → EC B0 w0 rb T g) (hA : ∀ g, g < f → AC B0 w0 rb T g) : PC B0 w0 rb T f := by
 intro o i r hi ho hr
 have hl := hT.len
 have hw : Wf T o i (o : Int) 0 0 := fun _ => ⟨rfl, hi, rfl, ho⟩
 obtain ⟨f, rfl⟩ : ∃ g, f = g + 1 := by
  cases f with
  | zero => rw [ePrim] at hr; cases hr
  | succ g => exact ⟨g, rfl⟩
 rw [ePrim] at hr
 refine LCalls.intro Tryz.func169 rfl (n := 42) rfl rfl rfl ?_
 repeat first | refine LCode.seq ?_ | refine LCode.region ?_
 refine LOps.step (S.alloc fun b2 => ?_) rfl
 repeat first | refine LOps.nil ?_ | refine LCode.seq ?_ | refine LCode.region ?_ | refine QThen.normal ?_ | refine LOps.pure (Pure.mv (lv := .atom _) rfl) rfl ?_
 refine LOps.step (S.fnH [_, _] rfl (Pick.there Pick.here) (qkind_spec rb T i o 0 0 1 (by decide) hl) ?_) rfl
 repeat first | refine LOps.nil ?_ | refine QThen.normal ?_
 refine LCode.cond rfl (fun hk => ?_) (fun hk => ?_)
 ·rw [andz] at hk
  have hk := of_decide_eq_true hk
  rw [if_neg (by rw [tok_kind1 hk (by decide) (by decide)]; decide), if_pos hk] at hr
  have hr' : stO o i 0 0 (fun i o => obind (some (sNumber T i o)) fun n i o => some (.ok (.mk nNum n [] []) i o)) = some r := hr
  repeat first | refine LCode.seq ?_ | refine LCode.region ?_ | refine LOps.pure (Pure.mv (lv := .atom _) rfl) rfl ?_
  refine LOps.step (S.callQ [_] rfl Pick.here hr' (fun r1 h1 => qnumber_spec rb T hT o i o 0 0 hw r1 h1) fun n i1 op1 ln1 er1 hw1 hal1 hr1 => ?_) rfl
  repeat first | refine LOps.nil ?_ | refine LCode.ret ?_ | refine QThen.normal ?_ | refine QThen.ret ?_ | refine LOps.pure (Pure.bld _ (cs := [_, _, _, _]) rfl) rfl ?_ | refine LOps.step (S.store (cs' := [_, _, _, _]) rfl (Pick.there Pick.here) rfl rfl rfl rfl rfl ?_) rfl
  exact retQ (v := .mk nNum n [] []) rfl (AllRes.cons (ResIs.cellAgg (k := 4) rfl (List.Mem.head _) rfl (LV.Sub.agg (bs := [_, _, _, .list []]) ⟨LV.Sub.refl _, LV.Sub.refl _, LV.Sub.refl _, LV.Sub.nil, trivial⟩)) AllRes.nil) hw1 hr1 rfl (HSub.drop (HSub.refl _))
 rw [andz] at hk
 have hk := of_decide_eq_false hk
 repeat first | refine LCode.seq ?_ | refine LCode.region ?_ | refine LCode.skip ?_ | refine QThen.normal ?_ | refine LOps.pure (Pure.mv (lv := .atom _) rfl) rfl ?_
 refine LOps.step (S.fnH [_, _] rfl Pick.here (qnext_spec rb T i o 0 0 [40] hl) ?_) rfl
 repeat first | refine LOps.nil ?_ | refine QThen.normal ?_
 refine LCode.cond rfl (fun hp => ?_) (fun hp => ?_)
 ·rw [andz] at hp
  rw [if_pos hp] at hr
  have hr' : stO o i 0 0 (fun i o => obind (some (sBegin T [40] i o)) fun _ i o => obind (eLev T f 0 i o) fun e i o => obind (some (sEnd T [41] i o)) fun _ i o => some (.ok e i o)) = some r := hr
  repeat first | refine LCode.seq ?_ | refine LCode.region ?_ | refine LOps.pure (Pure.mv (lv := .atom _) rfl) rfl ?_
  refine LOps.step (S.callQ [_, _] rfl Pick.here hr' (fun r1 h1 => qenter_spec rb T o i o 0 0 [40] hl hT.pos hw r1 h1) fun u i1 op1 ln1 er1 hw1 hal1 hr1 => ?_) rfl
  repeat first | refine LOps.nil ?_ | refine LCode.seq ?_ | refine LCode.region ?_ | refine QThen.normal ?_ | refine LOps.pure (Pure.mv (lv := .atom _) rfl) rfl ?_
  refine LOps.step (S.callQ [_, _] rfl Pick.here hr1 (fun r1 h1 => hE f (by omega) 0 (o + 1) i1 op1 ln1 er1 r1 (by omega) hw1 h1) fun e i2 op2 ln2 er2 hw2 hal2 hr2 => ?_) rfl
  refine LOps.step (S.alloc fun b3 => ?_) rfl
  repeat first | refine LOps.nil ?_ | refine LCode.seq ?_ | refine LCode.region ?_ | refine QThen.normal ?_ | refine LOps.pure (Pure.mv (lv := .atom _) rfl) rfl ?_ | refine LOps.step (S.store (cs' := [_, _, _, _]) rfl Pick.here rfl rfl rfl rfl rfl ?_) rfl
  refine LOps.step (S.callQ [_, _] rfl (Pick.there Pick.here) hr2 (fun r1 h1 => qleave_spec rb T o i2 op2 ln2 er2 [41] hl hT.pos hw2 r1 h1) fun u2 i3 op3 ln3 er3 hw3 hal3 hr3 => ?_) rfl
  repeat first | refine LOps.nil ?_ | refine LCode.seq ?_ | refine LCode.region ?_ | refine LCode.ret ?_ | refine QThen.normal ?_ | refine QThen.ret ?_ | refine LOps.pure (Pure.ldHAgg (cs' := [_, _, _, _]) rfl (List.Mem.tail _ (List.Mem.head _)) rfl rfl) rfl ?_ | refine LOps.step (S.store (cs' := [_, _, _, _]) rfl (Pick.there (Pick.there Pick.here)) rfl rfl rfl rfl rfl ?_) rfl
  exact retQ (v := e) rfl (AllRes.cons (ResIs.cellAgg rfl (List.Mem.head _) rfl (LV.Sub.refl _)) AllRes.nil) hw3 hr3 rfl (HSub.pick (Pick.there Pick.here) (HSub.nil _))
 rw [andz] at hp
 rw [if_neg (by rw [hp]; decide), if_neg hk] at hr
 have hr' : stO o i 0 0 (fun i o => obind (some (sWord T 2 i o)) fun s i' op' => if isTok T i' [[91]] then obind (eIndex T f i' op') fun e i' op' => some (.ok (.mk nElem 0 s [e]) i' op')
   else if isTok T i' [[40]] then obind (eArgs T f i' op') fun l i' op' => some (.ok (.mk nCall 0 s l) i' op') else some (.ok (.mk nVar 0 s []) i' op')) = some r := hr
 repeat first | refine LCode.seq ?_ | refine LCode.region ?_ | refine LCode.skip ?_ | refine QThen.normal ?_ | refine LOps.pure (Pure.mv (lv := .atom _) rfl) rfl ?_
 refine LOps.step (S.callQ [_] rfl Pick.here hr' (fun r1 h1 => qname_spec rb T o i o 0 0 hl hT.pos hw r1 h1) fun s i1 op1 ln1 er1 hw1 hal1 hr1 => ?_) rfl
 repeat first | refine LOps.nil ?_ | refine LCode.seq ?_ | refine LCode.region ?_ | refine QThen.normal ?_ | refine LOps.pure (Pure.mv (lv := .atom _) rfl) rfl ?_ | refine LOps.pure (Pure.as (lv := .atom _) rfl) rfl ?_
 refine LOps.step (S.fnH [_, _] rfl Pick.here (qnext_spec rb T i1 op1 ln1 er1 [40] hl) ?_) rfl
 repeat first | refine LOps.nil ?_ | refine QThen.normal ?_
 refine LCode.cond rfl (fun hq => ?_) (fun hq => ?_)
 ·obtain ⟨he, ht⟩ := Bool.and_eq_true_iff.1 hq
  obtain rfl := of_decide_eq_true he
  obtain ⟨rfl, hi1, rfl, ho1⟩ := hw1 rfl
  have hr2 : stO o i1 0 0 (fun i o => obind (eArgs T f i o) fun l i o => some (.ok (.mk nCall 0 s l) i o)) = some r := by
   rw [stO_ok] at hr1 ⊢
   rw [if_neg (by rw [tok_excl ht (by decide)]; decide), if_pos ht] at hr1
   exact hr1
  repeat first | refine LCode.seq ?_ | refine LCode.region ?_ | refine LOps.pure (Pure.mv (lv := .atom _) rfl) rfl ?_
  refine LOps.step (S.callQ [_] rfl Pick.here hr2 (fun r1 h1 => hA f (by omega) o i1 r1 hi1 ho1 h1) fun l i2 op2 ln2 er2 hw2 hal2 hr3 => ?_) rfl
  repeat first | refine LOps.nil ?_ | refine LCode.ret ?_ | refine QThen.normal ?_ | refine QThen.ret ?_ | refine LOps.pure (Pure.bld _ (cs := [_, _, _, _]) rfl) rfl ?_ | refine LOps.step (S.store (cs' := [_, _, _, _]) rfl (Pick.there Pick.here) rfl rfl rfl rfl rfl ?_) rfl
  exact retQ (v := .mk nCall 0 s l) rfl (AllRes.cons (ResIs.cellAgg rfl (List.Mem.head _) rfl (LV.Sub.refl _)) AllRes.nil) hw2 hr3 (by rw [encE_mk]; rfl) (HSub.pick (Pick.there Pick.here) (HSub.nil _))
 repeat first | refine LCode.seq ?_ | refine LCode.region ?_ | refine LCode.skip ?_ | refine QThen.normal ?_ | refine LOps.pure (Pure.mv (lv := .atom _) rfl) rfl ?_
 refine LOps.step (S.fnH [_, _] rfl Pick.here (qnext_spec rb T i1 op1 ln1 er1 [91] hl) ?_) rfl
 repeat first | refine LOps.nil ?_ | refine QThen.normal ?_
 refine LCode.cond rfl (fun hx => ?_) (fun hx => ?_)
 ·obtain ⟨he, ht⟩ := Bool.and_eq_true_iff.1 hx
  obtain rfl := of_decide_eq_true he
  obtain ⟨rfl, hi1, rfl, ho1⟩ := hw1 rfl
  have hr2 := stO_t ht hr1
  rw [stO_ok] at hr2
  obtain ⟨g, rfl⟩ : ∃ g, f = g + 1 := by
   cases f with
   | zero => rw [eIndex] at hr2; cases hr2
   | succ g => exact ⟨g, rfl⟩
  rw [eIndex, obind_assoc] at hr2
  simp only [obind_assoc] at hr2
  have hr3 : stO o i1 0 0 (fun i o => obind (some (sBegin T [91] i o)) fun _ i o => obind (eLev T g 0 i o) fun e i o => obind (some (sEnd T [93] i o)) fun _ i o => some (.ok (.mk nElem 0 s [e]) i o)) = some r := hr2
  repeat first | refine LCode.seq ?_ | refine LCode.region ?_ | refine LOps.pure (Pure.mv (lv := .atom _) rfl) rfl ?_
  refine LOps.step (S.callQ [_, _] rfl Pick.here hr3 (fun r1 h1 => qenter_spec rb T o i1 o 0 0 [91] hl hT.pos hw1 r1 h1) fun u i2 op2 ln2 er2 hw2 hal2 hr4 => ?_) rfl
  repeat first | refine LOps.nil ?_ | refine LCode.seq ?_ | refine LCode.region ?_ | refine QThen.normal ?_ | refine LOps.pure (Pure.mv (lv := .atom _) rfl) rfl ?_
  refine LOps.step (S.callQ [_, _] rfl Pick.here hr4 (fun r1 h1 => hE g (by omega) 0 (o + 1) i2 op2 ln2 er2 r1 (by omega) hw2 h1) fun e i3 op3 ln3 er3 hw3 hal3 hr5 => ?_) rfl
  refine LOps.step (S.alloc fun b5 => ?_) rfl
  repeat first | refine LOps.nil ?_ | refine LCode.seq ?_ | refine LCode.region ?_ | refine QThen.normal ?_ | refine LOps.pure (Pure.mv (lv := .atom _) rfl) rfl ?_ | refine LOps.step (S.store (cs' := [_, _, _, _]) rfl Pick.here rfl rfl rfl rfl rfl ?_) rfl
  refine LOps.step (S.callQ [_, _] rfl (Pick.there Pick.here) hr5 (fun r1 h1 => qleave_spec rb T o i3 op3 ln3 er3 [93] hl hT.pos hw3 r1 h1) fun u2 i4 op4 ln4 er4 hw4 hal4 hr6 => ?_) rfl
  repeat first | refine LOps.nil ?_ | refine LCode.seq ?_ | refine LCode.region ?_ | refine QThen.normal ?_ | refine LOps.pure (Pure.mv (lv := .atom _) rfl) rfl ?_ | refine LOps.pure (Pure.ldHAgg (cs' := [_, _, _, _]) rfl (List.Mem.tail _ (List.Mem.head _)) rfl rfl) rfl ?_
  refine LOps.step (S.lit (es := [encE e]) [_] rfl (elemsOk.cons rfl rfl elemsOk.nil) rfl rfl rfl ?_) rfl
  repeat first | refine LOps.nil ?_ | refine LCode.ret ?_ | refine QThen.normal ?_ | refine QThen.ret ?_ | refine LOps.pure (Pure.bld _ (cs := [_, _, _, _]) rfl) rfl ?_ | refine LOps.step (S.store (cs' := [_, _, _, _]) rfl (Pick.there (Pick.there Pick.here)) rfl rfl rfl rfl rfl ?_) rfl
  exact retQ (v := .mk nElem 0 s [e]) rfl (AllRes.cons (ResIs.cellAgg rfl (List.Mem.head _) rfl (LV.Sub.refl _)) AllRes.nil) hw4 hr6 rfl (HSub.pick (Pick.there Pick.here) (HSub.nil _))
 have hr2 := stO_f hq (stO_f hx hr1)
 repeat first | refine LOps.nil ?_ | refine LCode.seq ?_ | refine LCode.region ?_ | refine LCode.skip ?_ | refine LCode.ret ?_ | refine QThen.normal ?_ | refine LOps.pure (Pure.mv (lv := .atom _) rfl) rfl ?_ | refine LOps.pure (Pure.bld _ (cs := [_, _, _, _]) rfl) rfl ?_ | refine LOps.step (S.store (cs' := [_, _, _, _]) rfl (Pick.there Pick.here) rfl rfl rfl rfl rfl ?_) rfl
 exact retQ (v := .mk nVar 0 s []) rfl (AllRes.cons (ResIs.cellAgg (k := 4) rfl (List.Mem.head _) rfl (LV.Sub.agg (bs := [_, _, _, .list []]) ⟨LV.Sub.refl _, LV.Sub.refl _, LV.Sub.refl _, LV.Sub.nil, trivial⟩)) AllRes.nil) hw1 hr2 rfl (HSub.pick (Pick.there Pick.here) (HSub.nil _))
theorem qun_spec (rb : Nat) (T : List Tok) (hT : RTOK T) (f : Nat) (hU : ∀ g, g < f → UC B0 w0 rb T g) (hP : ∀ g, g < f → PC B0 w0 rb T g) : UC B0 w0 rb T f := by
 intro o i r hi ho hr
 have hl := hT.len
 have hw : Wf T o i (o : Int) 0 0 := fun _ => ⟨rfl, hi, rfl, ho⟩
 obtain ⟨f, rfl⟩ : ∃ g, f = g + 1 := by
  cases f with
  | zero => rw [eUnary] at hr; cases hr
  | succ g => exact ⟨g, rfl⟩
 rw [eUnary] at hr
 refine LCalls.intro Tryz.func148 rfl (n := 36) rfl rfl rfl ?_
 repeat first | refine LCode.seq ?_ | refine LCode.region ?_
 refine LOps.step (S.alloc fun b2 => ?_) rfl
 repeat first | refine LOps.nil ?_ | refine LCode.seq ?_ | refine LCode.region ?_ | refine QThen.normal ?_ | refine LOps.pure (Pure.as (lv := .atom _) rfl) rfl ?_ | refine LOps.pure (Pure.mv (lv := .atom _) rfl) rfl ?_
 refine LOps.step (S.fnH [_, _] rfl (Pick.there Pick.here) (qnext_spec rb T i o 0 0 [45] hl) ?_) rfl
 repeat first | refine LOps.nil ?_ | refine QThen.normal ?_
 refine LCode.cond rfl (fun hm => ?_) (fun hm => ?_)
 ·rw [andz] at hm
  rw [if_pos hm] at hr
  have hr' : stO o i 0 0 (fun i o => obind (some (sBegin T [45] i o)) fun _ i o => obind (eUnary T f i o) fun e i o => some (.ok (.mk nNeg 0 [] [e]) i (o - 1))) = some r := hr
  repeat first | refine LOps.nil ?_ | refine LCode.seq ?_ | refine LCode.region ?_ | refine QThen.normal ?_ | refine LOps.pure (Pure.as (lv := .atom _) rfl) rfl ?_ | refine LOps.pure (Pure.mv (lv := .atom _) rfl) rfl ?_
  refine LOps.step (S.fnH [_, _] rfl Pick.here (qnext_spec rb T i o 0 0 [33] hl) ?_) rfl
  repeat first | refine LOps.nil ?_ | refine QThen.normal ?_
  refine LCode.cond rfl (fun hn => ?_) (fun hn => ?_)
  ·rw [andz, tok_excl hm (by decide)] at hn
   cases hn
  repeat first | refine LOps.nil ?_ | refine LCode.seq ?_ | refine LCode.region ?_ | refine LCode.skip ?_ | refine QThen.normal ?_ | refine LOps.pure (Pure.mv (lv := .atom _) rfl) rfl ?_ | refine LOps.pure (Pure.seq rfl rfl) rfl ?_
  refine LCode.cond rfl (fun hz => ?_) (fun hz => ?_)
  ·exact absurd hz (by decide)
  repeat first | refine LCode.seq ?_ | refine LCode.region ?_ | refine LCode.skip ?_ | refine QThen.normal ?_ | refine LOps.pure (Pure.mv (lv := .atom _) rfl) rfl ?_
  refine LOps.step (S.callQ [_, _] rfl Pick.here hr' (fun r1 h1 => qenter_spec rb T o i o 0 0 [45] hl hT.pos hw r1 h1) fun u i1 op1 ln1 er1 hw1 hal1 hr1 => ?_) rfl
  repeat first | refine LOps.nil ?_ | refine LCode.seq ?_ | refine LCode.region ?_ | refine QThen.normal ?_ | refine LOps.pure (Pure.mv (lv := .atom _) rfl) rfl ?_ | refine LOps.pure (Pure.nilCheckH rfl) rfl ?_ | refine LOps.pure (Pure.fieldH rfl) rfl ?_ | refine LOps.pure (Pure.loadH (c := .atom _) rfl (List.Mem.head _) rfl) rfl ?_ | refine LOps.pure (Pure.neq rfl rfl) rfl ?_
  refine LCode.cond rfl (fun hd => ?_) (fun hd => ?_)
  ·have he : er1 ≠ 0 := by simpa using hd
   rw [stO_dead he] at hr1
   repeat first | refine LOps.nil ?_ | refine LCode.seq ?_ | refine LCode.region ?_ | refine LCode.ret ?_ | refine QThen.normal ?_ | refine QThen.ret ?_ | refine LOps.pure (Pure.bld _ (cs := [_, _, _, _]) rfl) rfl ?_ | refine LOps.step (S.store (cs' := [_, _, _, _]) rfl (Pick.there Pick.here) rfl rfl rfl rfl rfl ?_) rfl
   exact retQ (v := .mk [] 0 [] []) rfl (AllRes.cons (ResIs.cellAgg (k := 4) rfl (List.Mem.head _) rfl (LV.Sub.agg (bs := [_, _, _, .list []]) ⟨LV.Sub.refl _, LV.Sub.refl _, LV.Sub.refl _, LV.Sub.nil, trivial⟩)) AllRes.nil) (wf_dead he) (by rw [stO_dead he]; exact hr1) rfl (HSub.pick (Pick.there Pick.here) (HSub.nil _))
  obtain rfl : er1 = 0 := by simpa using hd
  obtain ⟨rfl, hi1, rfl, ho1⟩ := hw1 rfl
  repeat first | refine LCode.seq ?_ | refine LCode.region ?_ | refine LCode.skip ?_ | refine QThen.normal ?_ | refine LOps.pure (Pure.mv (lv := .atom _) rfl) rfl ?_
  refine LOps.step (S.callQ [_] rfl Pick.here hr1 (fun r1 h1 => hU f (by omega) (o + 1) i1 r1 hi1 ho1 h1) fun e i2 op2 ln2 er2 hw2 hal2 hr2 => ?_) rfl
  refine LOps.step (S.alloc fun b5 => ?_) rfl
  repeat first | refine LOps.nil ?_ | refine LCode.seq ?_ | refine LCode.region ?_ | refine QThen.normal ?_ | refine LOps.pure (Pure.mv (lv := .atom _) rfl) rfl ?_ | refine LOps.pure (Pure.nilCheckH rfl) rfl ?_ | refine LOps.pure (Pure.fieldH rfl) rfl ?_ | refine LOps.pure (Pure.loadH (c := .atom _) rfl (List.Mem.tail _ (List.Mem.head _)) rfl) rfl ?_ | refine LOps.step (S.store (cs' := [_, _, _, _]) rfl Pick.here rfl rfl rfl rfl rfl ?_) rfl
  by_cases he : er2 = 0
  ·subst he
   obtain ⟨rfl, hi2, rfl, ho2⟩ := hw2 rfl
   refine LOps.pure (Pure.sub rfl rfl (by omega)) rfl ?_
   repeat first | refine LOps.nil ?_ | refine LCode.seq ?_ | refine LCode.region ?_ | refine QThen.normal ?_ | refine LOps.pure (Pure.mv (lv := .atom _) rfl) rfl ?_ | refine LOps.pure (Pure.nilCheckH rfl) rfl ?_ | refine LOps.pure (Pure.fieldH rfl) rfl ?_ | refine LOps.pure (Pure.ldHAgg (cs' := [_, _, _, _]) rfl (List.Mem.tail _ (List.Mem.head _)) rfl rfl) rfl ?_ | refine LOps.step (S.store (cs' := [_, _, _, _, _]) rfl (Pick.there Pick.here) rfl rfl rfl rfl rfl ?_) rfl
   refine LOps.step (S.lit (es := [encE e]) [_] rfl (elemsOk.cons rfl rfl elemsOk.nil) rfl rfl rfl ?_) rfl
   repeat first | refine LOps.nil ?_ | refine LCode.ret ?_ | refine QThen.normal ?_ | refine LOps.pure (Pure.bld _ (cs := [_, _, _, _]) rfl) rfl ?_ | refine LOps.step (S.store (cs' := [_, _, _, _]) rfl (Pick.there (Pick.there Pick.here)) rfl rfl rfl rfl rfl ?_) rfl
   exact retQ (v := .mk nNeg 0 [] [e]) (ln := 0) (er := 0) rfl (AllRes.cons (ResIs.cellAgg rfl (List.Mem.head _) rfl (LV.Sub.refl _)) AllRes.nil) (fun _ => ⟨rfl, hi2, by omega, ho⟩) hr2 rfl (HSub.pick (Pick.there Pick.here) (HSub.nil _))
  ·refine LOps.pure (Pure.subW rfl rfl) rfl ?_
   repeat first | refine LOps.nil ?_ | refine LCode.seq ?_ | refine LCode.region ?_ | refine QThen.normal ?_ | refine LOps.pure (Pure.mv (lv := .atom _) rfl) rfl ?_ | refine LOps.pure (Pure.nilCheckH rfl) rfl ?_ | refine LOps.pure (Pure.fieldH rfl) rfl ?_ | refine LOps.pure (Pure.ldHAgg (cs' := [_, _, _, _]) rfl (List.Mem.tail _ (List.Mem.head _)) rfl rfl) rfl ?_ | refine LOps.step (S.store (cs' := [_, _, _, _, _]) rfl (Pick.there Pick.here) rfl rfl rfl rfl rfl ?_) rfl
   refine LOps.step (S.lit (es := [encE e]) [_] rfl (elemsOk.cons rfl rfl elemsOk.nil) rfl rfl rfl ?_) rfl
   repeat first | refine LOps.nil ?_ | refine LCode.ret ?_ | refine QThen.normal ?_ | refine LOps.pure (Pure.bld _ (cs := [_, _, _, _]) rfl) rfl ?_ | refine LOps.step (S.store (cs' := [_, _, _, _]) rfl (Pick.there (Pick.there Pick.here)) rfl rfl rfl rfl rfl ?_) rfl
   exact retQ (v := .mk nNeg 0 [] [e]) rfl (AllRes.cons (ResIs.cellAgg rfl (List.Mem.head _) rfl (LV.Sub.refl _)) AllRes.nil) (wf_dead he) ((stO_dead he).trans ((stO_dead he).symm.trans hr2)) rfl (HSub.pick (Pick.there Pick.here) (HSub.nil _))
 rw [andz] at hm
 rw [if_neg (by rw [hm]; decide)] at hr
 repeat first | refine LCode.seq ?_ | refine LCode.region ?_ | refine LCode.skip ?_ | refine QThen.normal ?_ | refine LOps.pure (Pure.mv (lv := .atom _) rfl) rfl ?_
 refine LOps.step (S.fnH [_, _] rfl Pick.here (qnext_spec rb T i o 0 0 [33] hl) ?_) rfl
 repeat first | refine LOps.nil ?_ | refine QThen.normal ?_
 refine LCode.cond rfl (fun hn => ?_) (fun hn => ?_)
 ·rw [andz] at hn
  rw [if_pos hn] at hr
  have hr' : stO o i 0 0 (fun i o => obind (some (sBegin T [33] i o)) fun _ i o => obind (eUnary T f i o) fun e i o => some (.ok (.mk nNot 0 [] [e]) i (o - 1))) = some r := hr
  repeat first | refine LOps.nil ?_ | refine LCode.seq ?_ | refine LCode.region ?_ | refine QThen.normal ?_ | refine LOps.pure (Pure.as (lv := .atom _) rfl) rfl ?_ | refine LOps.pure (Pure.mv (lv := .atom _) rfl) rfl ?_ | refine LOps.pure (Pure.seq rfl rfl) rfl ?_
  refine LCode.cond rfl (fun hz => ?_) (fun hz => ?_)
  ·exact absurd hz (by decide)
  repeat first | refine LCode.seq ?_ | refine LCode.region ?_ | refine LCode.skip ?_ | refine QThen.normal ?_ | refine LOps.pure (Pure.mv (lv := .atom _) rfl) rfl ?_
  refine LOps.step (S.callQ [_, _] rfl Pick.here hr' (fun r1 h1 => qenter_spec rb T o i o 0 0 [33] hl hT.pos hw r1 h1) fun u i1 op1 ln1 er1 hw1 hal1 hr1 => ?_) rfl
  repeat first | refine LOps.nil ?_ | refine LCode.seq ?_ | refine LCode.region ?_ | refine QThen.normal ?_ | refine LOps.pure (Pure.mv (lv := .atom _) rfl) rfl ?_ | refine LOps.pure (Pure.nilCheckH rfl) rfl ?_ | refine LOps.pure (Pure.fieldH rfl) rfl ?_ | refine LOps.pure (Pure.loadH (c := .atom _) rfl (List.Mem.head _) rfl) rfl ?_ | refine LOps.pure (Pure.neq rfl rfl) rfl ?_
  refine LCode.cond rfl (fun hd => ?_) (fun hd => ?_)
  ·have he : er1 ≠ 0 := by simpa using hd
   rw [stO_dead he] at hr1
   repeat first | refine LOps.nil ?_ | refine LCode.seq ?_ | refine LCode.region ?_ | refine LCode.ret ?_ | refine QThen.normal ?_ | refine QThen.ret ?_ | refine LOps.pure (Pure.bld _ (cs := [_, _, _, _]) rfl) rfl ?_ | refine LOps.step (S.store (cs' := [_, _, _, _]) rfl (Pick.there Pick.here) rfl rfl rfl rfl rfl ?_) rfl
   exact retQ (v := .mk [] 0 [] []) rfl (AllRes.cons (ResIs.cellAgg (k := 4) rfl (List.Mem.head _) rfl (LV.Sub.agg (bs := [_, _, _, .list []]) ⟨LV.Sub.refl _, LV.Sub.refl _, LV.Sub.refl _, LV.Sub.nil, trivial⟩)) AllRes.nil) (wf_dead he) (by rw [stO_dead he]; exact hr1) rfl (HSub.pick (Pick.there Pick.here) (HSub.nil _))
  obtain rfl : er1 = 0 := by simpa using hd
  obtain ⟨rfl, hi1, rfl, ho1⟩ := hw1 rfl
  repeat first | refine LCode.seq ?_ | refine LCode.region ?_ | refine LCode.skip ?_ | refine QThen.normal ?_ | refine LOps.pure (Pure.mv (lv := .atom _) rfl) rfl ?_
  refine LOps.step (S.callQ [_] rfl Pick.here hr1 (fun r1 h1 => hU f (by omega) (o + 1) i1 r1 hi1 ho1 h1) fun e i2 op2 ln2 er2 hw2 hal2 hr2 => ?_) rfl
  refine LOps.step (S.alloc fun b5 => ?_) rfl
  repeat first | refine LOps.nil ?_ | refine LCode.seq ?_ | refine LCode.region ?_ | refine QThen.normal ?_ | refine LOps.pure (Pure.mv (lv := .atom _) rfl) rfl ?_ | refine LOps.pure (Pure.nilCheckH rfl) rfl ?_ | refine LOps.pure (Pure.fieldH rfl) rfl ?_ | refine LOps.pure (Pure.loadH (c := .atom _) rfl (List.Mem.tail _ (List.Mem.head _)) rfl) rfl ?_ | refine LOps.step (S.store (cs' := [_, _, _, _]) rfl Pick.here rfl rfl rfl rfl rfl ?_) rfl
  by_cases he : er2 = 0
  ·subst he
   obtain ⟨rfl, hi2, rfl, ho2⟩ := hw2 rfl
   refine LOps.pure (Pure.sub rfl rfl (by omega)) rfl ?_
   repeat first | refine LOps.nil ?_ | refine LCode.seq ?_ | refine LCode.region ?_ | refine QThen.normal ?_ | refine LOps.pure (Pure.mv (lv := .atom _) rfl) rfl ?_ | refine LOps.pure (Pure.nilCheckH rfl) rfl ?_ | refine LOps.pure (Pure.fieldH rfl) rfl ?_ | refine LOps.pure (Pure.ldHAgg (cs' := [_, _, _, _]) rfl (List.Mem.tail _ (List.Mem.head _)) rfl rfl) rfl ?_ | refine LOps.step (S.store (cs' := [_, _, _, _, _]) rfl (Pick.there Pick.here) rfl rfl rfl rfl rfl ?_) rfl
   refine LOps.step (S.lit (es := [encE e]) [_] rfl (elemsOk.cons rfl rfl elemsOk.nil) rfl rfl rfl ?_) rfl
   repeat first | refine LOps.nil ?_ | refine LCode.ret ?_ | refine QThen.normal ?_ | refine LOps.pure (Pure.bld _ (cs := [_, _, _, _]) rfl) rfl ?_ | refine LOps.step (S.store (cs' := [_, _, _, _]) rfl (Pick.there (Pick.there Pick.here)) rfl rfl rfl rfl rfl ?_) rfl
   exact retQ (v := .mk nNot 0 [] [e]) (ln := 0) (er := 0) rfl (AllRes.cons (ResIs.cellAgg rfl (List.Mem.head _) rfl (LV.Sub.refl _)) AllRes.nil) (fun _ => ⟨rfl, hi2, by omega, ho⟩) hr2 rfl (HSub.pick (Pick.there Pick.here) (HSub.nil _))
  ·refine LOps.pure (Pure.subW rfl rfl) rfl ?_
   repeat first | refine LOps.nil ?_ | refine LCode.seq ?_ | refine LCode.region ?_ | refine QThen.normal ?_ | refine LOps.pure (Pure.mv (lv := .atom _) rfl) rfl ?_ | refine LOps.pure (Pure.nilCheckH rfl) rfl ?_ | refine LOps.pure (Pure.fieldH rfl) rfl ?_ | refine LOps.pure (Pure.ldHAgg (cs' := [_, _, _, _]) rfl (List.Mem.tail _ (List.Mem.head _)) rfl rfl) rfl ?_ | refine LOps.step (S.store (cs' := [_, _, _, _, _]) rfl (Pick.there Pick.here) rfl rfl rfl rfl rfl ?_) rfl
   refine LOps.step (S.lit (es := [encE e]) [_] rfl (elemsOk.cons rfl rfl elemsOk.nil) rfl rfl rfl ?_) rfl
   repeat first | refine LOps.nil ?_ | refine LCode.ret ?_ | refine QThen.normal ?_ | refine LOps.pure (Pure.bld _ (cs := [_, _, _, _]) rfl) rfl ?_ | refine LOps.step (S.store (cs' := [_, _, _, _]) rfl (Pick.there (Pick.there Pick.here)) rfl rfl rfl rfl rfl ?_) rfl
   exact retQ (v := .mk nNot 0 [] [e]) rfl (AllRes.cons (ResIs.cellAgg rfl (List.Mem.head _) rfl (LV.Sub.refl _)) AllRes.nil) (wf_dead he) ((stO_dead he).trans ((stO_dead he).symm.trans hr2)) rfl (HSub.pick (Pick.there Pick.here) (HSub.nil _))
 rw [andz] at hn
 rw [if_neg (by rw [hn]; decide)] at hr
 have hr' := stO_pure (o := o) (i := i) (ln := 0) (er := 0) (g := ePrim T f) hr
 repeat first | refine LOps.nil ?_ | refine LCode.seq ?_ | refine LCode.region ?_ | refine LCode.skip ?_ | refine QThen.normal ?_ | refine LOps.pure (Pure.mv (lv := .atom _) rfl) rfl ?_ | refine LOps.pure (Pure.seq rfl rfl) rfl ?_
 refine LCode.cond rfl (fun hz => ?_) (fun hz => ?_)
 ·repeat first | refine LCode.seq ?_ | refine LCode.region ?_ | refine LOps.pure (Pure.mv (lv := .atom _) rfl) rfl ?_
  refine LOps.step (S.callQ [_] rfl Pick.here hr' (fun r1 h1 => hP f (by omega) o i r1 hi ho h1) fun v i1 op1 ln1 er1 hw1 hal hr1 => ?_) rfl
  repeat first | refine LOps.nil ?_ | refine LCode.ret ?_ | refine QThen.normal ?_ | refine QThen.ret ?_ | refine LOps.step (S.store (cs' := [_, _, _, _]) rfl (Pick.there Pick.here) rfl rfl rfl rfl rfl ?_) rfl
  exact retQ (v := v) rfl (AllRes.cons (ResIs.cellAgg rfl (List.Mem.head _) rfl (LV.Sub.refl _)) AllRes.nil) hw1 hr1 rfl (HSub.pick (Pick.there Pick.here) (HSub.nil _))
 ·exact absurd hz (by decide)
theorem ex_all (rb : Nat) (T : List Tok) (hT : RTOK T) (f : Nat) : EC B0 w0 rb T f ∧ UC B0 w0 rb T f ∧ PC B0 w0 rb T f ∧ AC B0 w0 rb T f := by
 induction f using Nat.strongRecOn with
 | ind f ih =>
  exact ⟨qexpr_spec rb T hT f (fun g hg => (ih g hg).1) (fun g hg => (ih g hg).2.1), qun_spec rb T hT f (fun g hg => (ih g hg).2.1) (fun g hg => (ih g hg).2.2.1),
   qprim_spec rb T hT f (fun g hg => (ih g hg).1) (fun g hg => (ih g hg).2.2.2), qargs_spec rb T hT f (fun g hg => (ih g hg).1)⟩
end
end Go.Proofs.YtfodkbchknknjaaGreatDoor
namespace Go.Proofs.YtfodkbchknknjaaGreatDoor
open Go.GL Go.RowKit Go.Stele
set_option maxRecDepth 100000
set_option maxHeartbeats 4000000
attribute [local irreducible] LOps LCode LStep LCalls Go.GL.Pure QThen QBlock RetPost LQ LAny LLate LLateOp LS
def qSms (l : List Sm) : LV := .list (l.map encS)
def SC (B0 : Nat) (w0 : World) (rb : Nat) (T : List Tok) (f : Nat) : Prop := ∀ (o i : Nat) (r : Res (List Sm)), i ≤ T.length → o ≤ 100 → sStmts T f [] i o = some r → LCalls (KC B0 w0) 67 [ptr rb 0] [rdH rb T i o 0 0] (PostQ rb T o qSms r)
def TC (B0 : Nat) (w0 : World) (rb : Nat) (T : List Tok) (f : Nat) : Prop := ∀ (o i : Nat) (r : Res Sm), i ≤ T.length → o ≤ 100 → sStmt T f i o = some r → LCalls (KC B0 w0) 107 [ptr rb 0] [rdH rb T i o 0 0] (PostQ rb T o encS r)
def BC (B0 : Nat) (w0 : World) (rb : Nat) (T : List Tok) (f : Nat) : Prop := ∀ (o i : Nat) (op ln er : Int) (r : Res (List Sm)), Wf T o i op ln er → stO o i ln er (sBlock T f) = some r → LCalls (KC B0 w0) 128 [ptr rb 0] [rdH rb T i op ln er] (PostQ rb T o qSms r)
theorem stmt_good {T : List Tok} {f i o i' o' : Nat} {s : Sm} (h : sStmt T f i o = some (.ok s i' o')) : i < i' := ((st_good T f).2.2.1 i o _ h).2.1 rfl
section
variable {B0 : Nat} {w0 : World}
theorem qstmts_dead (rb : Nat) (T : List Tok) (hT : RTOK T) (o i : Nat) (op ln er : Int) (he : er ≠ 0) : LCalls (KC B0 w0) 67 [ptr rb 0] [rdH rb T i op ln er] (PostQ rb T o qSms (.err ln er)) := by
 refine LCalls.intro Tryz.func67 rfl (n := 32) rfl rfl rfl ?_
 repeat first | refine LOps.nil ?_ | refine LCode.seq ?_ | refine LCode.region ?_ | refine LCode.block ?_ | refine QThen.normal ?_ | refine LOps.pure (Pure.as (lv := .atom _) rfl) rfl ?_
 refine LCode.loopI (fun k ls H => ls = [(0, ptr rb 0), (3, nilSlice)] ∧ H = [rdH rb T i op ln er])
  ⟨0, _, _, ⟨rfl, rfl⟩, ⟨rfl, rfl, trivial⟩, HSub.refl _⟩ ?_
 rintro k ls H ⟨rfl, rfl⟩ j hj
 have hz : decide (er = 0) = false := decide_eq_false he
 repeat first | refine LCode.seq ?_ | refine LCode.region ?_ | refine LOps.pure (Pure.mv (lv := .atom _) rfl) rfl ?_ | refine LOps.pure (Pure.nilCheckH rfl) rfl ?_ | refine LOps.pure (Pure.fieldH rfl) rfl ?_ | refine LOps.pure (Pure.loadH (c := .atom _) rfl (List.Mem.head _) rfl) rfl ?_ | refine LOps.pure (Pure.eql rfl rfl) rfl ?_
 refine LOps.bcase 9 rfl (fun h => ?_) (fun h => ?_)
 ·rw [hz] at h
  cases h
 repeat first | refine LOps.nil ?_ | refine QThen.normal ?_ | refine LOps.pure (Pure.pickF (lv := .atom _) rfl rfl) rfl ?_ | refine LOps.skip rfl rfl rfl rfl ?_
 refine LCode.cond rfl (fun h2 => ?_) (fun h2 => ?_)
 ·cases h2
 repeat first | refine LOps.nil ?_ | refine LCode.seq ?_ | refine LCode.region ?_ | refine LCode.ret ?_ | refine LCode.exit ?_ | refine QThen.normal ?_ | refine QThen.exit ?_ | refine QBlock.hit ?_ | refine LOps.pure (Pure.as (lv := .atom _) rfl) rfl ?_ | refine LOps.pure (Pure.mv (lv := .atom _) rfl) rfl ?_
 exact retQ (v := []) hj (AllRes.cons (ResIs.tmp (v := nilSlice) rfl LV.Sub.nil) AllRes.nil) (wf_dead he) (stO_dead he) rfl (HSub.refl _)
theorem qblock_spec (rb : Nat) (T : List Tok) (hT : RTOK T) (f : Nat) (hS : ∀ g, g < f → SC B0 w0 rb T g) : BC B0 w0 rb T f := by
 intro o i op ln er r hw hr
 have hl := hT.len
 obtain ⟨g, hg, hr'⟩ : ∃ g, (g < f ∨ sStmts T g [] = fun _ _ => none) ∧ stO o i ln er (fun i o => obind (some (sBegin T [123] i o)) fun _ i o => obind (sStmts T g [] i o) fun l i o => obind (some (sEnd T [125] i o)) fun _ i o => some (.ok l i o)) = some r := by
  cases f with
  | zero =>
   refine ⟨0, .inr (by funext i o; rw [sStmts]), ?_⟩
   by_cases he : er = 0
   ·subst he
    rw [stO_ok, sBlock] at hr
    cases hr
   ·rw [stO_dead he] at hr ⊢
    exact hr
  | succ g =>
   refine ⟨g, .inl (by omega), ?_⟩
   rw [← hr]
   congr 1
   funext i o
   rw [sBlock]
 refine LCalls.intro Tryz.func128 rfl (n := 11) rfl rfl rfl ?_
 repeat first | refine LOps.nil ?_ | refine LCode.seq ?_ | refine LCode.region ?_ | refine QThen.normal ?_ | refine LOps.pure (Pure.as (lv := .atom _) rfl) rfl ?_ | refine LOps.pure (Pure.mv (lv := .atom _) rfl) rfl ?_
 refine LOps.step (S.callQ [_, _] rfl Pick.here hr' (fun r1 h1 => qenter_spec rb T o i op ln er [123] hl hT.pos hw r1 h1) fun u i1 op1 ln1 er1 hw1 hal1 hr1 => ?_) rfl
 repeat first | refine LOps.nil ?_ | refine LCode.seq ?_ | refine LCode.region ?_ | refine QThen.normal ?_ | refine LOps.pure (Pure.mv (lv := .atom _) rfl) rfl ?_
 refine LOps.step (S.callQ (enc := qSms) (o' := o + 1) [_] rfl Pick.here hr1 (fun r1 h1 => ?_) fun l i2 op2 ln2 er2 hw2 hal2 hr2 => ?_) rfl
 ·by_cases he : er1 = 0
  ·subst he
   obtain ⟨rfl, hi1, rfl, ho1⟩ := hw1 rfl
   rw [stO_ok] at h1
   rcases hg with hg | hg
   ·exact hS g hg (o + 1) i1 r1 hi1 ho1 h1
   ·rw [hg] at h1
    cases h1
  ·rw [stO_dead he] at h1
   cases h1
   exact qstmts_dead rb T hT (o + 1) i1 op1 ln1 er1 he
 repeat first | refine LOps.nil ?_ | refine LCode.seq ?_ | refine LCode.region ?_ | refine QThen.normal ?_ | refine LOps.pure (Pure.as (lv := .list _) rfl) rfl ?_ | refine LOps.pure (Pure.mv (lv := .atom _) rfl) rfl ?_
 refine LOps.step (S.callQ [_, _] rfl Pick.here hr2 (fun r1 h1 => qleave_spec rb T o i2 op2 ln2 er2 [125] hl hT.pos hw2 r1 h1) fun u2 i3 op3 ln3 er3 hw3 hal3 hr3 => ?_) rfl
 repeat first | refine LOps.nil ?_ | refine LCode.seq ?_ | refine LCode.region ?_ | refine LCode.ret ?_ | refine QThen.normal ?_ | refine LOps.pure (Pure.as (lv := .list _) rfl) rfl ?_ | refine LOps.pure (Pure.mv (lv := .list _) rfl) rfl ?_
 exact retQ (v := l) rfl (AllRes.cons (ResIs.tmp (v := .list _) rfl (LV.Sub.refl _)) AllRes.nil) hw3 hr3 rfl (HSub.refl _)
theorem qstmts_spec (rb : Nat) (T : List Tok) (hT : RTOK T) (f : Nat) (hS : ∀ g, g < f → TC B0 w0 rb T g) : SC B0 w0 rb T f := by
 intro o i r hi ho hr
 have hl := hT.len
 have hml : (T.map encTok).length = T.length := List.length_map _
 refine LCalls.intro Tryz.func67 rfl (n := 32) rfl rfl rfl ?_
 repeat first | refine LOps.nil ?_ | refine LCode.seq ?_ | refine LCode.region ?_ | refine LCode.block ?_ | refine QThen.normal ?_ | refine LOps.pure (Pure.as (lv := .atom _) rfl) rfl ?_
 refine LCode.loopI (fun k ls H => ∃ (v : LV) (l : List Sm) (i2 : Nat) (op2 ln2 er2 : Int) (Ha : Heap), k ≤ f ∧ ls = [(0, ptr rb 0), (3, v)] ∧ H = rdH rb T i2 op2 ln2 er2 :: Ha ∧ Acc 6 v (l.map encS) Ha [] ∧ Wf T o i2 op2 ln2 er2 ∧ l.length ≤ T.length + 5 ∧ (er2 = 0 → l.length ≤ i2 + 1) ∧ stO o i2 ln2 er2 (sStmts T k l) = some r)
  ⟨f, _, rdH rb T i o 0 0 :: [], ⟨nilSlice, [], i, o, 0, 0, _, Nat.le_refl _, rfl, rfl, Acc.nil, fun _ => ⟨rfl, hi, rfl, ho⟩, by simp, fun _ => by simp, hr⟩, ⟨rfl, rfl, trivial⟩, HSub.refl _⟩ ?_
 rintro k ls H ⟨v, l, i2, op2, ln2, er2, Ha, hkf, rfl, rfl, hacc, hw2, hll, hla, hI⟩ j hj
 by_cases he : er2 = 0
 case neg =>
  have hz : decide (er2 = 0) = false := decide_eq_false he
  rw [stO_dead he] at hI
  repeat first | refine LCode.seq ?_ | refine LCode.region ?_ | refine LOps.pure (Pure.mv (lv := .atom _) rfl) rfl ?_ | refine LOps.pure (Pure.nilCheckH rfl) rfl ?_ | refine LOps.pure (Pure.fieldH rfl) rfl ?_ | refine LOps.pure (Pure.loadH (c := .atom _) rfl (List.Mem.head _) rfl) rfl ?_ | refine LOps.pure (Pure.eql rfl rfl) rfl ?_
  refine LOps.bcase 9 rfl (fun h => ?_) (fun h => ?_)
  ·rw [hz] at h
   cases h
  repeat first | refine LOps.nil ?_ | refine QThen.normal ?_ | refine LOps.pure (Pure.pickF (lv := .atom _) rfl rfl) rfl ?_ | refine LOps.skip rfl rfl rfl rfl ?_
  refine LCode.cond rfl (fun h2 => ?_) (fun h2 => ?_)
  ·cases h2
  repeat first | refine LCode.seq ?_ | refine LCode.region ?_ | refine LCode.exit ?_ | refine QThen.normal ?_ | refine QThen.exit ?_ | refine QBlock.hit ?_
  refine LOps.pure (Pure.mv (lv := v) rfl) rfl ?_
  refine LOps.pure (Pure.as (lv := v) rfl) rfl ?_
  repeat first | refine LOps.nil ?_ | refine LCode.ret ?_ | refine QThen.normal ?_
  exact retQ (v := l) hj (AllRes.cons (ResIs.tmp (v := v) rfl hacc.sub) AllRes.nil) hw2 ((stO_dead he).trans hI) rfl (HSub.pick Pick.here (HSub.nil _))
 subst he
 obtain ⟨rfl, hi2, rfl, ho2⟩ := hw2 rfl
 have hla := hla rfl
 rw [stO_ok] at hI
 obtain ⟨k, rfl⟩ : ∃ k', k = k' + 1 := by
  cases k with
  | zero => rw [sStmts] at hI; cases hI
  | succ k => exact ⟨k, rfl⟩
 rw [sStmts] at hI
 repeat first | refine LCode.seq ?_ | refine LCode.region ?_ | refine LOps.pure (Pure.mv (lv := .atom _) rfl) rfl ?_ | refine LOps.pure (Pure.nilCheckH rfl) rfl ?_ | refine LOps.pure (Pure.fieldH rfl) rfl ?_ | refine LOps.pure (Pure.loadH (c := .atom _) rfl (List.Mem.head _) rfl) rfl ?_ | refine LOps.pure (Pure.eql rfl rfl) rfl ?_ | refine LOps.want rfl rfl ?_
 refine LOps.bcase 9 rfl (fun h => ?_) (fun h => ?_)
 case refine_2 => cases h
 refine LOps.step (S.fnH [_, _] rfl Pick.here (qnext_spec rb T i2 o 0 0 [125] hl) ?_) rfl
 repeat first | refine LOps.nil ?_ | refine QThen.normal ?_ | refine LOps.pure (Pure.not rfl) rfl ?_ | refine LOps.pure (Pure.pickT (lv := .atom _) rfl rfl) rfl ?_ | refine LOps.want rfl rfl ?_
 refine LCode.cond rfl (fun hc => ?_) (fun hc => ?_)
 ·have hc' : isTok T i2 [[125]] = false := by
   rw [Bool.not_eq_true', andz] at hc
   exact hc
  rw [if_neg (by rw [hc']; decide)] at hI
  repeat first | refine LCode.seq ?_ | refine LCode.skip ?_ | refine LCode.block ?_ | refine QThen.normal ?_
  refine LCode.cut [(0, ptr rb 0), (3, v), (23, bool (decide (T.length ≤ i2)))] ?_ (fun j2 hj2 => ?_)
  ·refine LCode.quiet (by kernel_rfl) ?_
   repeat first | refine LQ.pure (Pure.mv (lv := .atom _) rfl) rfl ?_ | refine LQ.pure (Pure.nilCheckH rfl) rfl ?_ | refine LQ.pure (Pure.fieldH rfl) rfl ?_ | refine LQ.pure (Pure.loadH (c := .atom _) rfl (List.Mem.head _) rfl) rfl ?_ | refine LQ.pure (Pure.loadH (c := .list _) rfl (List.Mem.head _) rfl) rfl ?_ | refine LQ.pure (Pure.llen rfl) rfl ?_ | refine LQ.pure (Pure.geq rfl rfl) rfl ?_ | refine LQ.nil ?_ | refine QThen.normal ?_
   exact ⟨⟨rfl, rfl, bool_eq (by rw [decide_eq_decide]; simp), trivial⟩, rfl, rfl⟩
  refine LCode.cond rfl (fun hd => ?_) (fun hd => ?_)
  ·have hge : T.length ≤ i2 := of_decide_eq_true hd
   have hfa : sStmt T k i2 o = none ∨ sStmt T k i2 o = some (synErr T i2) := by
    have htn : ∀ xs, isTok T i2 xs = false := tok_none hge
    have hwd : ∀ n, sWord T n i2 o = synErr T i2 := fun n => by
     unfold sWord
     rw [List.getElem?_eq_none hge]
    cases k with
    | zero => left; rw [sStmt]
    | succ k =>
     rw [sStmt, if_neg (by rw [htn]; decide), if_neg (by rw [htn]; decide)]
     cases k with
     | zero => left; rw [sSimple]; rfl
     | succ k =>
      right
      rw [sSimple, if_neg (by rw [htn]; decide), if_neg (by rw [htn]; decide), hwd]
      rfl
   rcases hfa with hfa | hfa
   ·rw [hfa] at hI
    cases hI
   rw [hfa] at hI
   repeat first | refine LCode.seq ?_ | refine LCode.region ?_ | refine LOps.pure (Pure.mv (lv := .atom _) rfl) rfl ?_
   refine LOps.step (S.fnH [_, _] rfl Pick.here (qfail_alive rb T i2 o 3 hl hT.pos (by omega)) ?_) rfl
   repeat first | refine LOps.nil ?_ | refine LCode.seq ?_ | refine LCode.region ?_ | refine LCode.ret ?_ | refine QThen.normal ?_ | refine QThen.ret ?_ | refine QBlock.ret ?_ | refine LOps.pure (Pure.as (lv := .atom _) rfl) rfl ?_
   exact retQ (v := []) (hj2.trans hj) (AllRes.cons (ResIs.tmp (v := nilSlice) rfl LV.Sub.nil) AllRes.nil) (wf_dead (by decide)) ((stO_dead (by decide)).trans hI) rfl (HSub.pick Pick.here (HSub.nil _))
  have hI' : stO o i2 0 0 (fun i o => obind (sStmt T k i o) fun s i o => sStmts T k (l ++ [s]) i o) = some r := hI
  repeat first | refine LCode.region ?_ | refine LCode.skip ?_ | refine QThen.normal ?_
  refine LOps.pure (Pure.mv (lv := v) rfl) rfl ?_
  repeat first | refine LOps.pure (Pure.mv (lv := .atom _) rfl) rfl ?_
  refine LOps.step (S.callQ (op := (o : Int)) [_] rfl Pick.here hI' (fun r1 h1 => hS k (by omega) o i2 r1 hi2 ho2 h1) fun s i4 op4 ln4 er4 hw4 hal4 hI4 => ?_) rfl
  refine LOps.step (S.lit [_] rfl (elemsOk.cons rfl rfl elemsOk.nil) rfl rfl rfl ?_) rfl
  refine LOps.step (S.acc1 rfl hacc rfl (by simp; rfl) rfl (by simp; omega) fun v' H' hacc' => ?_) rfl
  refine LOps.pure (Pure.as (lv := v') rfl) rfl ?_
  repeat first | refine LOps.nil ?_ | refine QThen.normal ?_ | refine QBlock.normal ?_
  exact ⟨k, _, _, by omega, ⟨v', l ++ [s], i4, op4, ln4, er4, H', by omega, rfl, rfl, by rw [List.map_append]; exact hacc', hw4, by simp; omega, fun h4 => by
   obtain ⟨_, h5⟩ := hal4 h4
   have := stmt_good h5
   simp
   omega, hI4⟩, ⟨rfl, rfl, trivial⟩, HSub.refl _, hj2.trans hj⟩
 ·have hc' : isTok T i2 [[125]] = true := by
   rw [Bool.not_eq_false', andz] at hc
   exact hc
  rw [if_pos hc'] at hI
  repeat first | refine LCode.seq ?_ | refine LCode.region ?_ | refine LCode.exit ?_ | refine QThen.normal ?_ | refine QThen.exit ?_ | refine QBlock.hit ?_
  refine LOps.pure (Pure.mv (lv := v) rfl) rfl ?_
  refine LOps.pure (Pure.as (lv := v) rfl) rfl ?_
  repeat first | refine LOps.nil ?_ | refine LCode.ret ?_ | refine QThen.normal ?_
  exact retQ (v := l) (ln := 0) (er := 0) hj (AllRes.cons (ResIs.tmp (v := v) rfl hacc.sub) AllRes.nil) (fun _ => ⟨rfl, hi2, rfl, ho2⟩) hI rfl (HSub.pick Pick.here (HSub.nil _))
end
end Go.Proofs.YtfodkbchknknjaaGreatDoor
namespace Go.Proofs.YtfodkbchknknjaaGreatDoor
open Go.GL Go.RowKit Go.Stele
set_option maxRecDepth 100000
set_option maxHeartbeats 4000000
attribute [local irreducible] LOps LCode LStep LCalls Go.GL.Pure QThen QBlock RetPost LQ LAny LLate LLateOp LS
section
variable {B0 : Nat} {w0 : World}
theorem qstmt_spec (rb : Nat) (T : List Tok) (hT : RTOK T) (f : Nat) (hB : ∀ g, g < f → BC B0 w0 rb T g) : TC B0 w0 rb T f := by
 intro o i r hi ho hr
 have hl := hT.len
 have hE := fun g => (ex_all (B0 := B0) (w0 := w0) rb T hT g).1
 have hA := fun g => (ex_all (B0 := B0) (w0 := w0) rb T hT g).2.2.2
 have hw : Wf T o i (o : Int) 0 0 := fun _ => ⟨rfl, hi, rfl, ho⟩
 obtain ⟨f, rfl⟩ : ∃ g, f = g + 1 := by
  cases f with
  | zero => rw [sStmt] at hr; cases hr
  | succ g => exact ⟨g, rfl⟩
 rw [sStmt] at hr
 refine LCalls.intro Tryz.func107 rfl (n := 118) rfl rfl rfl ?_
 repeat first | refine LCode.seq ?_ | refine LCode.region ?_
 refine LOps.step (S.alloc fun b2 => ?_) rfl
 repeat first | refine LOps.nil ?_ | refine LCode.seq ?_ | refine LCode.region ?_ | refine QThen.normal ?_
 refine LOps.step (S.alloc fun b3 => ?_) rfl
 repeat first | refine LOps.nil ?_ | refine LCode.seq ?_ | refine LCode.region ?_ | refine LCode.block ?_ | refine QThen.normal ?_ | refine LOps.pure (Pure.mv (lv := .atom _) rfl) rfl ?_
 refine LOps.step (S.fnH [_, _] rfl (Pick.there (Pick.there Pick.here)) (qnext_spec rb T i o 0 0 kwIf hl) ?_) rfl
 repeat first | refine LOps.nil ?_ | refine QThen.normal ?_ | refine LOps.pure (Pure.as (lv := .atom _) rfl) rfl ?_
 refine LCode.cond rfl (fun hc => ?_) (fun hc => ?_)
 ·rw [andz] at hc
  have hlt := isTok_lt hc
  rw [if_pos hc] at hr
  have hr' : stO o (i + 1) 0 0 (fun i o => obind (eLev T f 0 i o) fun e i' op' => obind (sBlock T f i' op') fun th i' op' =>
   if isTok T i' [kwElse] then obind (sBlock T f (i' + 1) op') fun el i' op' => some (.ok (.mk 3 [] [] [e] th el) i' op') else some (.ok (.mk 3 [] [] [e] th []) i' op')) = some r := hr
  repeat first | refine LOps.nil ?_ | refine LCode.seq ?_ | refine LCode.region ?_ | refine QThen.normal ?_ | refine LOps.pure (Pure.mv (lv := .atom _) rfl) rfl ?_ | refine LOps.pure (Pure.nilCheckH rfl) rfl ?_ | refine LOps.pure (Pure.fieldH rfl) rfl ?_ | refine LOps.pure (Pure.loadH (c := .atom _) rfl (List.Mem.head _) rfl) rfl ?_ | refine LOps.pure (Pure.add rfl rfl (by omega)) rfl ?_ | refine LOps.step (S.store (cs' := [_, _, _, _, _]) rfl Pick.here rfl rfl rfl rfl rfl ?_) rfl | refine LOps.step (S.store (cs' := [_, _, _, _, _, _]) rfl (Pick.there Pick.here) rfl rfl rfl rfl rfl ?_) rfl
  refine LOps.step (S.callQ (i := i + 1) (op := (o : Int)) [_, _] rfl (Pick.there Pick.here) hr' (fun r1 h1 => hE f 0 o (i + 1) o 0 0 r1 (by omega) (fun _ => ⟨rfl, hlt, rfl, ho⟩) h1) fun e i1 op1 ln1 er1 hw1 hal1 hr1 => ?_) rfl
  refine LOps.step (S.lit (es := [encE e]) [_] rfl (elemsOk.cons rfl rfl elemsOk.nil) rfl rfl rfl ?_) rfl
  repeat first | refine LOps.nil ?_ | refine LCode.seq ?_ | refine LCode.region ?_ | refine QThen.normal ?_ | refine LOps.pure (Pure.mv (lv := .atom _) rfl) rfl ?_ | refine LOps.pure (Pure.fieldH rfl) rfl ?_ | refine LOps.step (S.store (cs' := [_, _, _, _, _, _]) rfl (Pick.there Pick.here) rfl rfl rfl rfl rfl ?_) rfl
  refine LOps.step (S.callQ [_] rfl (Pick.there Pick.here) hr1 (fun r1 h1 => hB f (by omega) o i1 op1 ln1 er1 r1 hw1 h1) fun th i2 op2 ln2 er2 hw2 hal2 hr2 => ?_) rfl
  repeat first | refine LOps.nil ?_ | refine LCode.seq ?_ | refine LCode.region ?_ | refine QThen.normal ?_ | refine LOps.pure (Pure.mv (lv := .atom _) rfl) rfl ?_ | refine LOps.pure (Pure.fieldH rfl) rfl ?_ | refine LOps.step (S.store (cs' := [_, _, _, _, _, _]) rfl (Pick.there Pick.here) rfl rfl rfl rfl rfl ?_) rfl
  refine LOps.step (S.fnH [_, _] rfl (Pick.there Pick.here) (qnext_spec rb T i2 op2 ln2 er2 kwElse hl) ?_) rfl
  repeat first | refine LOps.nil ?_ | refine QThen.normal ?_
  refine LCode.cond rfl (fun hd => ?_) (fun hd => ?_)
  ·obtain ⟨he, ht⟩ := Bool.and_eq_true_iff.1 hd
   obtain rfl := of_decide_eq_true he
   obtain ⟨rfl, hi2, rfl, ho2⟩ := hw2 rfl
   have hlt2 := isTok_lt ht
   have hr3a := stO_t ht hr2
   have hr3 : stO o (i2 + 1) 0 0 (fun i o => obind (sBlock T f i o) fun el i o => some (.ok (.mk 3 [] [] [e] th el) i o)) = some r := hr3a
   repeat first | refine LOps.nil ?_ | refine LCode.seq ?_ | refine LCode.region ?_ | refine QThen.normal ?_ | refine LOps.pure (Pure.mv (lv := .atom _) rfl) rfl ?_ | refine LOps.pure (Pure.nilCheckH rfl) rfl ?_ | refine LOps.pure (Pure.fieldH rfl) rfl ?_ | refine LOps.pure (Pure.loadH (c := .atom _) rfl (List.Mem.head _) rfl) rfl ?_ | refine LOps.pure (Pure.add rfl rfl (by omega)) rfl ?_ | refine LOps.step (S.store (cs' := [_, _, _, _, _]) rfl Pick.here rfl rfl rfl rfl rfl ?_) rfl
   refine LOps.step (S.callQ (i := i2 + 1) (op := (o : Int)) [_] rfl Pick.here hr3 (fun r1 h1 => hB f (by omega) o (i2 + 1) o 0 0 r1 (fun _ => ⟨rfl, hlt2, rfl, ho⟩) h1) fun el i3 op3 ln3 er3 hw3 hal3 hr4 => ?_) rfl
   repeat first | refine LOps.nil ?_ | refine LCode.seq ?_ | refine LCode.region ?_ | refine LCode.ret ?_ | refine QThen.normal ?_ | refine QThen.ret ?_ | refine QBlock.ret ?_ | refine LOps.pure (Pure.fieldH rfl) rfl ?_ | refine LOps.pure (Pure.ldHAgg (cs' := [_, _, _, _, _, _]) rfl (List.Mem.head _) rfl rfl) rfl ?_ | refine LOps.step (S.store (cs' := [_, _, _, _, _, _]) rfl (Pick.there Pick.here) rfl rfl rfl rfl rfl ?_) rfl | refine LOps.step (S.store (cs' := [_, _, _, _, _, _]) rfl (Pick.there (Pick.there Pick.here)) rfl rfl rfl rfl rfl ?_) rfl
   exact retQ (v := .mk 3 [] [] [e] th el) rfl (AllRes.cons (ResIs.cellAgg (k := 6) rfl (List.Mem.head _) rfl (LV.Sub.agg (bs := [_, _, .list [], _, _, _]) ⟨LV.Sub.refl _, LV.Sub.refl _, LV.Sub.nil, LV.Sub.refl _, LV.Sub.refl _, LV.Sub.refl _, trivial⟩)) AllRes.nil) hw3 hr4 (by rw [encS_mk]; rfl) (HSub.pick (Pick.there (Pick.there Pick.here)) (HSub.nil _))
  ·have hr3 := stO_f hd hr2
   repeat first | refine LOps.nil ?_ | refine LCode.seq ?_ | refine LCode.region ?_ | refine LCode.skip ?_ | refine LCode.ret ?_ | refine QThen.normal ?_ | refine QThen.ret ?_ | refine QBlock.ret ?_ | refine LOps.pure (Pure.ldHAgg (cs' := [_, _, _, _, _, _]) rfl (List.Mem.tail _ (List.Mem.head _)) rfl rfl) rfl ?_ | refine LOps.step (S.store (cs' := [_, _, _, _, _, _]) rfl (Pick.there (Pick.there Pick.here)) rfl rfl rfl rfl rfl ?_) rfl
   exact retQ (v := .mk 3 [] [] [e] th []) rfl (AllRes.cons (ResIs.cellAgg (k := 6) rfl (List.Mem.head _) rfl (LV.Sub.agg (bs := [_, _, .list [], _, _, .list []]) ⟨LV.Sub.refl _, LV.Sub.refl _, LV.Sub.nil, LV.Sub.refl _, LV.Sub.refl _, LV.Sub.nil, trivial⟩)) AllRes.nil) hw2 hr3 (by rw [encS_mk]; rfl) (HSub.pick (Pick.there Pick.here) (HSub.nil _))
 rw [andz] at hc
 rw [if_neg (by rw [hc]; decide)] at hr
 repeat first | refine LCode.seq ?_ | refine LCode.region ?_ | refine LOps.pure (Pure.mv (lv := .atom _) rfl) rfl ?_
 refine LOps.step (S.fnH [_, _] rfl Pick.here (qnext_spec rb T i o 0 0 kwWhile hl) ?_) rfl
 repeat first | refine LOps.nil ?_ | refine QThen.normal ?_ | refine LOps.pure (Pure.as (lv := .atom _) rfl) rfl ?_
 refine LCode.cond rfl (fun hc2 => ?_) (fun hc2 => ?_)
 ·rw [andz] at hc2
  have hlt := isTok_lt hc2
  rw [if_pos hc2] at hr
  have hr' : stO o (i + 1) 0 0 (fun i o => obind (eLev T f 0 i o) fun e i' op' => obind (sBlock T f i' op') fun th i' op' => some (.ok (.mk 4 [] [] [e] th []) i' op')) = some r := hr
  repeat first | refine LOps.nil ?_ | refine LCode.seq ?_ | refine LCode.region ?_ | refine QThen.normal ?_ | refine LOps.pure (Pure.mv (lv := .atom _) rfl) rfl ?_ | refine LOps.pure (Pure.nilCheckH rfl) rfl ?_ | refine LOps.pure (Pure.fieldH rfl) rfl ?_ | refine LOps.pure (Pure.loadH (c := .atom _) rfl (List.Mem.head _) rfl) rfl ?_ | refine LOps.pure (Pure.add rfl rfl (by omega)) rfl ?_ | refine LOps.step (S.store (cs' := [_, _, _, _, _]) rfl Pick.here rfl rfl rfl rfl rfl ?_) rfl | refine LOps.step (S.store (cs' := [_, _, _, _, _, _]) rfl (Pick.there Pick.here) rfl rfl rfl rfl rfl ?_) rfl
  refine LOps.step (S.callQ (i := i + 1) (op := (o : Int)) [_, _] rfl (Pick.there Pick.here) hr' (fun r1 h1 => hE f 0 o (i + 1) o 0 0 r1 (by omega) (fun _ => ⟨rfl, hlt, rfl, ho⟩) h1) fun e i1 op1 ln1 er1 hw1 hal1 hr1 => ?_) rfl
  refine LOps.step (S.lit (es := [encE e]) [_] rfl (elemsOk.cons rfl rfl elemsOk.nil) rfl rfl rfl ?_) rfl
  repeat first | refine LOps.nil ?_ | refine LCode.seq ?_ | refine LCode.region ?_ | refine QThen.normal ?_ | refine LOps.pure (Pure.mv (lv := .atom _) rfl) rfl ?_ | refine LOps.pure (Pure.fieldH rfl) rfl ?_ | refine LOps.step (S.store (cs' := [_, _, _, _, _, _]) rfl (Pick.there Pick.here) rfl rfl rfl rfl rfl ?_) rfl
  refine LOps.step (S.callQ [_] rfl (Pick.there Pick.here) hr1 (fun r1 h1 => hB f (by omega) o i1 op1 ln1 er1 r1 hw1 h1) fun th i2 op2 ln2 er2 hw2 hal2 hr2 => ?_) rfl
  repeat first | refine LOps.nil ?_ | refine LCode.seq ?_ | refine LCode.region ?_ | refine LCode.ret ?_ | refine QThen.normal ?_ | refine QThen.ret ?_ | refine QBlock.ret ?_ | refine LOps.pure (Pure.fieldH rfl) rfl ?_ | refine LOps.pure (Pure.ldHAgg (cs' := [_, _, _, _, _, _]) rfl (List.Mem.head _) rfl rfl) rfl ?_ | refine LOps.step (S.store (cs' := [_, _, _, _, _, _]) rfl (Pick.there Pick.here) rfl rfl rfl rfl rfl ?_) rfl | refine LOps.step (S.store (cs' := [_, _, _, _, _, _]) rfl (Pick.there (Pick.there Pick.here)) rfl rfl rfl rfl rfl ?_) rfl
  exact retQ (v := .mk 4 [] [] [e] th []) rfl (AllRes.cons (ResIs.cellAgg (k := 6) rfl (List.Mem.head _) rfl (LV.Sub.agg (bs := [_, _, .list [], _, _, .list []]) ⟨LV.Sub.refl _, LV.Sub.refl _, LV.Sub.nil, LV.Sub.refl _, LV.Sub.refl _, LV.Sub.nil, trivial⟩)) AllRes.nil) hw2 hr2 (by rw [encS_mk]; rfl) (HSub.pick (Pick.there (Pick.there Pick.here)) (HSub.nil _))
 rw [andz] at hc2
 rw [if_neg (by rw [hc2]; decide)] at hr
 obtain ⟨g, rfl⟩ : ∃ g, f = g + 1 := by
  cases f with
  | zero => rw [sSimple] at hr; cases hr
  | succ g => exact ⟨g, rfl⟩
 rw [sSimple] at hr
 repeat first | refine LCode.seq ?_ | refine LCode.region ?_ | refine LOps.pure (Pure.mv (lv := .atom _) rfl) rfl ?_
 refine LOps.step (S.fnH [_, _] rfl Pick.here (qnext_spec rb T i o 0 0 kwReturn hl) ?_) rfl
 repeat first | refine LOps.nil ?_ | refine QThen.normal ?_ | refine LOps.pure (Pure.as (lv := .atom _) rfl) rfl ?_
 refine LCode.cond rfl (fun hc3 => ?_) (fun hc3 => ?_)
 ·rw [andz] at hc3
  have hlt := isTok_lt hc3
  rw [if_pos hc3, obind_assoc] at hr
  have hr' : stO o (i + 1) 0 0 (fun i o => obind (eLev T g 0 i o) fun e i o => obind (some (sNeed T [59] i o)) fun _ i o => some (.ok (.mk 5 [] [] [e] [] []) i o)) = some r := hr
  repeat first | refine LOps.nil ?_ | refine LCode.seq ?_ | refine LCode.region ?_ | refine QThen.normal ?_ | refine LOps.pure (Pure.mv (lv := .atom _) rfl) rfl ?_ | refine LOps.pure (Pure.nilCheckH rfl) rfl ?_ | refine LOps.pure (Pure.fieldH rfl) rfl ?_ | refine LOps.pure (Pure.loadH (c := .atom _) rfl (List.Mem.head _) rfl) rfl ?_ | refine LOps.pure (Pure.add rfl rfl (by omega)) rfl ?_ | refine LOps.step (S.store (cs' := [_, _, _, _, _]) rfl Pick.here rfl rfl rfl rfl rfl ?_) rfl | refine LOps.step (S.store (cs' := [_, _, _, _, _, _]) rfl (Pick.there Pick.here) rfl rfl rfl rfl rfl ?_) rfl
  refine LOps.step (S.callQ (i := i + 1) (op := (o : Int)) [_, _] rfl (Pick.there Pick.here) hr' (fun r1 h1 => hE g 0 o (i + 1) o 0 0 r1 (by omega) (fun _ => ⟨rfl, hlt, rfl, ho⟩) h1) fun e i1 op1 ln1 er1 hw1 hal1 hr1 => ?_) rfl
  refine LOps.step (S.lit (es := [encE e]) [_] rfl (elemsOk.cons rfl rfl elemsOk.nil) rfl rfl rfl ?_) rfl
  repeat first | refine LOps.nil ?_ | refine LCode.seq ?_ | refine LCode.region ?_ | refine QThen.normal ?_ | refine QBlock.normal ?_ | refine LOps.pure (Pure.mv (lv := .atom _) rfl) rfl ?_ | refine LOps.pure (Pure.fieldH rfl) rfl ?_ | refine LOps.step (S.store (cs' := [_, _, _, _, _, _]) rfl (Pick.there Pick.here) rfl rfl rfl rfl rfl ?_) rfl
  refine LOps.step (S.callQ [_, _] rfl (Pick.there Pick.here) hr1 (fun r1 h1 => qwant_spec rb T o _ _ _ _ [59] hl hT.pos hw1 r1 h1) fun u8 i8 op8 ln8 er8 hw8 hal8 hr8 => ?_) rfl
  repeat first | refine LOps.nil ?_ | refine LCode.seq ?_ | refine LCode.region ?_ | refine LCode.ret ?_ | refine QThen.normal ?_ | refine LOps.pure (Pure.ldHAgg (cs' := [_, _, _, _, _, _]) rfl (List.Mem.tail _ (List.Mem.head _)) rfl rfl) rfl ?_ | refine LOps.step (S.store (cs' := [_, _, _, _, _, _]) rfl (Pick.there (Pick.there Pick.here)) rfl rfl rfl rfl rfl ?_) rfl
  exact retQ (v := .mk 5 [] [] [e] [] []) rfl (AllRes.cons (ResIs.cellAgg (k := 6) rfl (List.Mem.head _) rfl (LV.Sub.agg (bs := [_, _, .list _, .list _, .list [], .list []]) ⟨LV.Sub.refl _, LV.Sub.refl _, LV.Sub.nil, LV.Sub.refl _, LV.Sub.nil, LV.Sub.nil, trivial⟩)) AllRes.nil) hw8 hr8 (by rw [encS_mk]; rfl) (HSub.pick (Pick.there Pick.here) (HSub.nil _))
 rw [andz] at hc3
 rw [if_neg (by rw [hc3]; decide)] at hr
 repeat first | refine LCode.seq ?_ | refine LCode.region ?_ | refine LOps.pure (Pure.mv (lv := .atom _) rfl) rfl ?_
 refine LOps.step (S.fnH [_, _] rfl Pick.here (qnext_spec rb T i o 0 0 kwHalt hl) ?_) rfl
 repeat first | refine LOps.nil ?_ | refine QThen.normal ?_ | refine LOps.pure (Pure.as (lv := .atom _) rfl) rfl ?_
 refine LCode.cond rfl (fun hc4 => ?_) (fun hc4 => ?_)
 ·rw [andz] at hc4
  have hlt := isTok_lt hc4
  rw [if_pos hc4] at hr
  have hr' : stO o (i + 1) 0 0 (fun i o => obind (some (sNeed T [59] i o)) fun _ i o => some (.ok (.mk 7 [] [] [] [] []) i o)) = some r := hr
  have hw' : Wf T o (i + 1) (o : Int) 0 0 := fun _ => ⟨rfl, hlt, rfl, ho⟩
  repeat first | refine LOps.nil ?_ | refine LCode.seq ?_ | refine LCode.region ?_ | refine QThen.normal ?_ | refine QBlock.normal ?_ | refine LOps.pure (Pure.mv (lv := .atom _) rfl) rfl ?_ | refine LOps.pure (Pure.nilCheckH rfl) rfl ?_ | refine LOps.pure (Pure.fieldH rfl) rfl ?_ | refine LOps.pure (Pure.loadH (c := .atom _) rfl (List.Mem.head _) rfl) rfl ?_ | refine LOps.pure (Pure.add rfl rfl (by omega)) rfl ?_ | refine LOps.step (S.store (cs' := [_, _, _, _, _]) rfl Pick.here rfl rfl rfl rfl rfl ?_) rfl | refine LOps.step (S.store (cs' := [_, _, _, _, _, _]) rfl (Pick.there Pick.here) rfl rfl rfl rfl rfl ?_) rfl
  refine LOps.step (S.callQ (i := i + 1) (op := (o : Int)) [_, _] rfl (Pick.there Pick.here) hr' (fun r1 h1 => qwant_spec rb T o _ _ _ _ [59] hl hT.pos hw' r1 h1) fun u8 i8 op8 ln8 er8 hw8 hal8 hr8 => ?_) rfl
  repeat first | refine LOps.nil ?_ | refine LCode.seq ?_ | refine LCode.region ?_ | refine LCode.ret ?_ | refine QThen.normal ?_ | refine LOps.pure (Pure.ldHAgg (cs' := [_, _, _, _, _, _]) rfl (List.Mem.tail _ (List.Mem.head _)) rfl rfl) rfl ?_ | refine LOps.step (S.store (cs' := [_, _, _, _, _, _]) rfl (Pick.there (Pick.there Pick.here)) rfl rfl rfl rfl rfl ?_) rfl
  exact retQ (v := .mk 7 [] [] [] [] []) rfl (AllRes.cons (ResIs.cellAgg (k := 6) rfl (List.Mem.head _) rfl (LV.Sub.agg (bs := [_, _, .list [], .list [], .list [], .list []]) ⟨LV.Sub.refl _, LV.Sub.refl _, LV.Sub.nil, LV.Sub.nil, LV.Sub.nil, LV.Sub.nil, trivial⟩)) AllRes.nil) hw8 hr8 (by rw [encS_mk]; rfl) (HSub.pick (Pick.there Pick.here) (HSub.nil _))
 rw [andz] at hc4
 rw [if_neg (by rw [hc4]; decide), obind_assoc] at hr
 have hr' : stO o i 0 0 (fun i o => obind (some (sWord T 2 i o)) fun s i' op' => obind (if isTok T i' [[40]] then obind (eArgs T g i' op') fun l i' op' => some (.ok (.mk 6 [] [] [.mk nCall 0 s l] [] []) i' op')
   else if isTok T i' [[91]] then obind (eIndex T g i' op') fun x i' op' => obind (some (sNeed T [61] i' op')) fun _ i' op' => obind (eLev T g 0 i' op') fun e i' op' => some (.ok (.mk 2 s [x] [e] [] []) i' op')
   else obind (some (sNeed T [61] i' op')) fun _ i' op' => obind (eLev T g 0 i' op') fun e i' op' => some (.ok (.mk 1 s [] [e] [] []) i' op')) fun s i o => obind (some (sNeed T [59] i o)) fun _ i o => some (.ok s i o)) = some r := hr
 repeat first | refine LCode.seq ?_ | refine LCode.region ?_ | refine LOps.pure (Pure.mv (lv := .atom _) rfl) rfl ?_
 refine LOps.step (S.callQ [_] rfl Pick.here hr' (fun r1 h1 => qname_spec rb T o i o 0 0 hl hT.pos hw r1 h1) fun s i1 op1 ln1 er1 hw1 hal1 hr1 => ?_) rfl
 repeat first | refine LOps.nil ?_ | refine LCode.seq ?_ | refine LCode.region ?_ | refine QThen.normal ?_ | refine LOps.pure (Pure.mv (lv := .atom _) rfl) rfl ?_ | refine LOps.pure (Pure.fieldH rfl) rfl ?_ | refine LOps.step (S.store (cs' := [_, _, _, _, _, _]) rfl (Pick.there Pick.here) rfl rfl rfl rfl rfl ?_) rfl
 refine LOps.step (S.fnH [_, _] rfl (Pick.there Pick.here) (qnext_spec rb T i1 op1 ln1 er1 [40] hl) ?_) rfl
 repeat first | refine LOps.nil ?_ | refine QThen.normal ?_
 refine LCode.cond rfl (fun hq => ?_) (fun hq => ?_)
 ·obtain ⟨he, ht⟩ := Bool.and_eq_true_iff.1 hq
  obtain rfl := of_decide_eq_true he
  obtain ⟨rfl, hi1, rfl, ho1⟩ := hw1 rfl
  have hr2 : stO o i1 0 0 (fun i o => obind (eArgs T g i o) fun l i o => obind (some (sNeed T [59] i o)) fun _ i o => some (.ok (.mk 6 [] [] [.mk nCall 0 s l] [] []) i o)) = some r := by
   rw [stO_ok] at hr1 ⊢
   rw [if_pos ht, obind_assoc] at hr1
   exact hr1
  repeat first | refine LOps.nil ?_ | refine LCode.seq ?_ | refine LCode.region ?_ | refine QThen.normal ?_ | refine LOps.pure (Pure.fieldH rfl) rfl ?_ | refine LOps.step (S.store (cs' := [_, _, _, _, _, _]) rfl (Pick.there Pick.here) rfl rfl rfl rfl rfl ?_) rfl
  refine LCode.draw (m := 8) rfl [] ?_
  refine LAny.tk 0 rfl rfl (Pure.fieldH rfl) ?_
  refine LAny.tk 2 rfl rfl (Pure.mv (lv := .atom _) rfl) ?_
  refine LAny.late ?_ (HSub.nil _)
  refine LLate.two (i := 1) (j := 3) (by kernel_rfl) ?_ ?_
  ·refine LLateOp.pureH rfl rfl (Pure.loadH (c := str s) rfl (List.Mem.head _) rfl) ?_
   refine LLate.o 3 (LLateOp.whole rfl (.inl rfl) rfl (S.callQ [_] rfl (Pick.there Pick.here) hr2 (fun r1 h1 => hA g o i1 r1 hi1 ho1 h1) fun l i2 op2 ln2 er2 hw2 hal2 hr3 => ?_))
   refine LLate.o 4 (LLateOp.pureH rfl rfl (Pure.bld _ (cs := [_, _, _, _]) rfl) ?_)
   refine LLate.o 5 (LLateOp.whole rfl (.inl rfl) rfl (S.lit [_] rfl (elemsOk.cons rfl rfl elemsOk.nil) rfl rfl rfl ?_))
   refine LLate.o 6 (LLateOp.pureH rfl rfl (Pure.fieldH rfl) ?_)
   refine LLate.o 7 (LLateOp.whole rfl (.inl rfl) rfl (S.store (cs' := [_, _, _, _, _, _]) rfl (Pick.there Pick.here) rfl rfl rfl rfl rfl ?_))
   refine LLate.done (by kernel_rfl) ?_
   repeat first | refine LOps.nil ?_ | refine LCode.seq ?_ | refine LCode.region ?_ | refine QThen.normal ?_ | refine LOps.pure (Pure.mv (lv := .atom _) rfl) rfl ?_ | refine LOps.pure (Pure.fieldH rfl) rfl ?_ | refine LOps.step (S.store (cs' := [_, _, _, _, _, _]) rfl Pick.here rfl rfl rfl rfl rfl ?_) rfl
   refine LOps.step (S.callQ [_, _] rfl (Pick.there Pick.here) hr3 (fun r1 h1 => qwant_spec rb T o _ _ _ _ [59] hl hT.pos hw2 r1 h1) fun u8 i8 op8 ln8 er8 hw8 hal8 hr8 => ?_) rfl
   repeat first | refine LOps.nil ?_ | refine LCode.seq ?_ | refine LCode.region ?_ | refine LCode.ret ?_ | refine QThen.normal ?_ | refine QThen.ret ?_ | refine QBlock.ret ?_ | refine LOps.pure (Pure.ldHAgg (cs' := [_, _, _, _, _, _]) rfl (List.Mem.tail _ (List.Mem.head _)) rfl rfl) rfl ?_ | refine LOps.step (S.store (cs' := [_, _, _, _, _, _]) rfl (Pick.there (Pick.there Pick.here)) rfl rfl rfl rfl rfl ?_) rfl
   exact retQ (v := .mk 6 [] [] [.mk nCall 0 s l] [] []) rfl (AllRes.cons (ResIs.cellAgg (k := 6) rfl (List.Mem.head _) rfl (LV.Sub.agg (bs := [_, _, .list [], _, .list [], .list []]) ⟨LV.Sub.refl _, LV.Sub.refl _, LV.Sub.nil, LV.Sub.refl _, LV.Sub.nil, LV.Sub.nil, trivial⟩)) AllRes.nil) hw8 hr8 (by rw [encS_mk]; show _ = LV.agg [_, _, _, .list [encE (.mk nCall 0 s l)], _, _]; rw [encE_mk]; rfl) (HSub.pick (Pick.there Pick.here) (HSub.nil _))
  ·refine LLateOp.whole rfl (.inl rfl) rfl (S.callQ [_] rfl (Pick.there Pick.here) hr2 (fun r1 h1 => hA g o i1 r1 hi1 ho1 h1) fun l i2 op2 ln2 er2 hw2 hal2 hr3 => ?_)
   refine LLate.o 1 (LLateOp.pureH rfl rfl (Pure.loadH (c := str s) rfl (List.Mem.tail _ (List.Mem.head _)) rfl) ?_)
   refine LLate.o 4 (LLateOp.pureH rfl rfl (Pure.bld _ (cs := [_, _, _, _]) rfl) ?_)
   refine LLate.o 5 (LLateOp.whole rfl (.inl rfl) rfl (S.lit [_] rfl (elemsOk.cons rfl rfl elemsOk.nil) rfl rfl rfl ?_))
   refine LLate.o 6 (LLateOp.pureH rfl rfl (Pure.fieldH rfl) ?_)
   refine LLate.o 7 (LLateOp.whole rfl (.inl rfl) rfl (S.store (cs' := [_, _, _, _, _, _]) rfl (Pick.there Pick.here) rfl rfl rfl rfl rfl ?_))
   refine LLate.done (by kernel_rfl) ?_
   repeat first | refine LOps.nil ?_ | refine LCode.seq ?_ | refine LCode.region ?_ | refine QThen.normal ?_ | refine LOps.pure (Pure.mv (lv := .atom _) rfl) rfl ?_ | refine LOps.pure (Pure.fieldH rfl) rfl ?_ | refine LOps.step (S.store (cs' := [_, _, _, _, _, _]) rfl Pick.here rfl rfl rfl rfl rfl ?_) rfl
   refine LOps.step (S.callQ [_, _] rfl (Pick.there Pick.here) hr3 (fun r1 h1 => qwant_spec rb T o _ _ _ _ [59] hl hT.pos hw2 r1 h1) fun u8 i8 op8 ln8 er8 hw8 hal8 hr8 => ?_) rfl
   repeat first | refine LOps.nil ?_ | refine LCode.seq ?_ | refine LCode.region ?_ | refine LCode.ret ?_ | refine QThen.normal ?_ | refine QThen.ret ?_ | refine QBlock.ret ?_ | refine LOps.pure (Pure.ldHAgg (cs' := [_, _, _, _, _, _]) rfl (List.Mem.tail _ (List.Mem.head _)) rfl rfl) rfl ?_ | refine LOps.step (S.store (cs' := [_, _, _, _, _, _]) rfl (Pick.there (Pick.there Pick.here)) rfl rfl rfl rfl rfl ?_) rfl
   exact retQ (v := .mk 6 [] [] [.mk nCall 0 s l] [] []) rfl (AllRes.cons (ResIs.cellAgg (k := 6) rfl (List.Mem.head _) rfl (LV.Sub.agg (bs := [_, _, .list [], _, .list [], .list []]) ⟨LV.Sub.refl _, LV.Sub.refl _, LV.Sub.nil, LV.Sub.refl _, LV.Sub.nil, LV.Sub.nil, trivial⟩)) AllRes.nil) hw8 hr8 (by rw [encS_mk]; show _ = LV.agg [_, _, _, .list [encE (.mk nCall 0 s l)], _, _]; rw [encE_mk]; rfl) (HSub.pick (Pick.there Pick.here) (HSub.nil _))
 repeat first | refine LOps.nil ?_ | refine LCode.seq ?_ | refine LCode.region ?_ | refine LCode.skip ?_ | refine QThen.normal ?_ | refine LOps.pure (Pure.mv (lv := .atom _) rfl) rfl ?_ | refine LOps.pure (Pure.fieldH rfl) rfl ?_ | refine LOps.step (S.store (cs' := [_, _, _, _, _, _]) rfl (Pick.there Pick.here) rfl rfl rfl rfl rfl ?_) rfl
 refine LOps.step (S.fnH [_, _] rfl (Pick.there Pick.here) (qnext_spec rb T i1 op1 ln1 er1 [91] hl) ?_) rfl
 repeat first | refine LOps.nil ?_ | refine QThen.normal ?_
 refine LCode.cond rfl (fun hx => ?_) (fun hx => ?_)
 ·obtain ⟨he, ht⟩ := Bool.and_eq_true_iff.1 hx
  obtain rfl := of_decide_eq_true he
  obtain ⟨rfl, hi1, rfl, ho1⟩ := hw1 rfl
  rw [stO_ok] at hr1
  rw [if_neg (by rw [tok_excl ht (by decide)]; decide), if_pos ht] at hr1
  obtain ⟨q, rfl⟩ : ∃ q, g = q + 1 := by
   cases g with
   | zero => rw [eIndex] at hr1; cases hr1
   | succ q => exact ⟨q, rfl⟩
  rw [eIndex] at hr1
  simp only [obind_assoc] at hr1
  have hr2 : stO o i1 0 0 (fun i o => obind (some (sBegin T [91] i o)) fun _ i o => obind (eLev T q 0 i o) fun x i o => obind (some (sEnd T [93] i o)) fun _ i o => obind (some (sNeed T [61] i o)) fun _ i o => obind (eLev T (q + 1) 0 i o) fun e i o =>
   obind (some (sNeed T [59] i o)) fun _ i o => some (.ok (.mk 2 s [x] [e] [] []) i o)) = some r := hr1
  repeat first | refine LOps.nil ?_ | refine LCode.seq ?_ | refine LCode.region ?_ | refine QThen.normal ?_ | refine LOps.pure (Pure.mv (lv := .atom _) rfl) rfl ?_ | refine LOps.pure (Pure.fieldH rfl) rfl ?_ | refine LOps.step (S.store (cs' := [_, _, _, _, _, _]) rfl (Pick.there Pick.here) rfl rfl rfl rfl rfl ?_) rfl
  refine LOps.step (S.callQ [_, _] rfl (Pick.there Pick.here) hr2 (fun r1 h1 => qenter_spec rb T o i1 o 0 0 [91] hl hT.pos hw1 r1 h1) fun u i2 op2 ln2 er2 hw2 hal2 hr3 => ?_) rfl
  repeat first | refine LOps.nil ?_ | refine LCode.seq ?_ | refine LCode.region ?_ | refine QThen.normal ?_ | refine LOps.pure (Pure.mv (lv := .atom _) rfl) rfl ?_
  refine LOps.step (S.callQ [_, _] rfl Pick.here hr3 (fun r1 h1 => hE q 0 (o + 1) i2 op2 ln2 er2 r1 (by omega) hw2 h1) fun x i3 op3 ln3 er3 hw3 hal3 hr4 => ?_) rfl
  refine LOps.step (S.lit (es := [encE x]) [_] rfl (elemsOk.cons rfl rfl elemsOk.nil) rfl rfl rfl ?_) rfl
  repeat first | refine LOps.nil ?_ | refine LCode.region ?_ | refine QThen.normal ?_ | refine LOps.pure (Pure.mv (lv := .atom _) rfl) rfl ?_ | refine LOps.pure (Pure.fieldH rfl) rfl ?_ | refine LOps.step (S.store (cs' := [_, _, _, _, _, _]) rfl (Pick.there Pick.here) rfl rfl rfl rfl rfl ?_) rfl
  refine LOps.step (S.callQ [_, _] rfl (Pick.there Pick.here) hr4 (fun r1 h1 => qleave_spec rb T o i3 op3 ln3 er3 [93] hl hT.pos hw3 r1 h1) fun u2 i4 op4 ln4 er4 hw4 hal4 hr5 => ?_) rfl
  repeat first | refine LOps.nil ?_ | refine LCode.seq ?_ | refine LCode.region ?_ | refine QThen.normal ?_ | refine LOps.pure (Pure.mv (lv := .atom _) rfl) rfl ?_
  refine LOps.step (S.callQ [_, _] rfl Pick.here hr5 (fun r1 h1 => qwant_spec rb T o i4 op4 ln4 er4 [61] hl hT.pos hw4 r1 h1) fun u3 i5 op5 ln5 er5 hw5 hal5 hr6 => ?_) rfl
  repeat first | refine LOps.nil ?_ | refine LCode.region ?_ | refine QThen.normal ?_ | refine LOps.pure (Pure.mv (lv := .atom _) rfl) rfl ?_
  refine LOps.step (S.callQ [_, _] rfl Pick.here hr6 (fun r1 h1 => hE (q + 1) 0 o i5 op5 ln5 er5 r1 (by omega) hw5 h1) fun e i6 op6 ln6 er6 hw6 hal6 hr7 => ?_) rfl
  refine LOps.step (S.lit (es := [encE e]) [_] rfl (elemsOk.cons rfl rfl elemsOk.nil) rfl rfl rfl ?_) rfl
  repeat first | refine LOps.nil ?_ | refine LCode.seq ?_ | refine LCode.region ?_ | refine QThen.normal ?_ | refine QBlock.normal ?_ | refine LOps.pure (Pure.mv (lv := .atom _) rfl) rfl ?_ | refine LOps.pure (Pure.fieldH rfl) rfl ?_ | refine LOps.step (S.store (cs' := [_, _, _, _, _, _]) rfl (Pick.there Pick.here) rfl rfl rfl rfl rfl ?_) rfl
  refine LOps.step (S.callQ [_, _] rfl (Pick.there Pick.here) hr7 (fun r1 h1 => qwant_spec rb T o _ _ _ _ [59] hl hT.pos hw6 r1 h1) fun u8 i8 op8 ln8 er8 hw8 hal8 hr8 => ?_) rfl
  repeat first | refine LOps.nil ?_ | refine LCode.seq ?_ | refine LCode.region ?_ | refine LCode.ret ?_ | refine QThen.normal ?_ | refine LOps.pure (Pure.ldHAgg (cs' := [_, _, _, _, _, _]) rfl (List.Mem.tail _ (List.Mem.head _)) rfl rfl) rfl ?_ | refine LOps.step (S.store (cs' := [_, _, _, _, _, _]) rfl (Pick.there (Pick.there Pick.here)) rfl rfl rfl rfl rfl ?_) rfl
  exact retQ (v := .mk 2 s [x] [e] [] []) rfl (AllRes.cons (ResIs.cellAgg (k := 6) rfl (List.Mem.head _) rfl (LV.Sub.agg (bs := [_, _, .list _, .list _, .list [], .list []]) ⟨LV.Sub.refl _, LV.Sub.refl _, LV.Sub.refl _, LV.Sub.refl _, LV.Sub.nil, LV.Sub.nil, trivial⟩)) AllRes.nil) hw8 hr8 (by rw [encS_mk]; rfl) (HSub.pick (Pick.there Pick.here) (HSub.nil _))
 have hr2 : stO o i1 ln1 er1 (fun i o => obind (some (sNeed T [61] i o)) fun _ i o => obind (eLev T g 0 i o) fun e i o => obind (some (sNeed T [59] i o)) fun _ i o => some (.ok (.mk 1 s [] [e] [] []) i o)) = some r := by
  by_cases he : er1 = 0
  ·subst he
   have h1 : isTok T i1 [[40]] = false := by rw [andz] at hq; exact hq
   have h2 : isTok T i1 [[91]] = false := by rw [andz] at hx; exact hx
   rw [stO_ok] at hr1 ⊢
   rw [if_neg (by rw [h1]; decide), if_neg (by rw [h2]; decide)] at hr1
   simp only [obind_assoc] at hr1
   exact hr1
  ·rw [stO_dead he] at hr1 ⊢
   exact hr1
 repeat first | refine LCode.seq ?_ | refine LCode.region ?_ | refine LCode.skip ?_ | refine QThen.normal ?_ | refine LOps.pure (Pure.mv (lv := .atom _) rfl) rfl ?_
 refine LOps.step (S.callQ [_, _] rfl Pick.here hr2 (fun r1 h1 => qwant_spec rb T o i1 op1 ln1 er1 [61] hl hT.pos hw1 r1 h1) fun u3 i5 op5 ln5 er5 hw5 hal5 hr6 => ?_) rfl
 repeat first | refine LOps.nil ?_ | refine LCode.region ?_ | refine QThen.normal ?_ | refine LOps.pure (Pure.mv (lv := .atom _) rfl) rfl ?_
 refine LOps.step (S.callQ [_, _] rfl Pick.here hr6 (fun r1 h1 => hE g 0 o i5 op5 ln5 er5 r1 (by omega) hw5 h1) fun e i6 op6 ln6 er6 hw6 hal6 hr7 => ?_) rfl
 refine LOps.step (S.lit (es := [encE e]) [_] rfl (elemsOk.cons rfl rfl elemsOk.nil) rfl rfl rfl ?_) rfl
 repeat first | refine LOps.nil ?_ | refine LCode.seq ?_ | refine LCode.region ?_ | refine QThen.normal ?_ | refine QBlock.normal ?_ | refine LOps.pure (Pure.mv (lv := .atom _) rfl) rfl ?_ | refine LOps.pure (Pure.fieldH rfl) rfl ?_ | refine LOps.step (S.store (cs' := [_, _, _, _, _, _]) rfl (Pick.there Pick.here) rfl rfl rfl rfl rfl ?_) rfl
 refine LOps.step (S.callQ [_, _] rfl (Pick.there Pick.here) hr7 (fun r1 h1 => qwant_spec rb T o _ _ _ _ [59] hl hT.pos hw6 r1 h1) fun u8 i8 op8 ln8 er8 hw8 hal8 hr8 => ?_) rfl
 repeat first | refine LOps.nil ?_ | refine LCode.seq ?_ | refine LCode.region ?_ | refine LCode.ret ?_ | refine QThen.normal ?_ | refine LOps.pure (Pure.ldHAgg (cs' := [_, _, _, _, _, _]) rfl (List.Mem.tail _ (List.Mem.head _)) rfl rfl) rfl ?_ | refine LOps.step (S.store (cs' := [_, _, _, _, _, _]) rfl (Pick.there (Pick.there Pick.here)) rfl rfl rfl rfl rfl ?_) rfl
 exact retQ (v := .mk 1 s [] [e] [] []) rfl (AllRes.cons (ResIs.cellAgg (k := 6) rfl (List.Mem.head _) rfl (LV.Sub.agg (bs := [_, _, .list _, .list _, .list [], .list []]) ⟨LV.Sub.refl _, LV.Sub.refl _, LV.Sub.nil, LV.Sub.refl _, LV.Sub.nil, LV.Sub.nil, trivial⟩)) AllRes.nil) hw8 hr8 (by rw [encS_mk]; rfl) (HSub.pick (Pick.there Pick.here) (HSub.nil _))
theorem qst_all (rb : Nat) (T : List Tok) (hT : RTOK T) (f : Nat) : BC B0 w0 rb T f ∧ SC B0 w0 rb T f ∧ TC B0 w0 rb T f := by
 induction f using Nat.strongRecOn with
 | ind f ih =>
  exact ⟨qblock_spec rb T hT f (fun g hg => (ih g hg).2.1), qstmts_spec rb T hT f (fun g hg => (ih g hg).2.2), qstmt_spec rb T hT f (fun g hg => (ih g hg).1)⟩
end
end Go.Proofs.YtfodkbchknknjaaGreatDoor
namespace Go.Proofs.YtfodkbchknknjaaGreatDoor
open Go.GL Go.RowKit Go.Stele
set_option maxRecDepth 100000
set_option maxHeartbeats 4000000
attribute [local irreducible] LOps LCode LStep LCalls Go.GL.Pure QThen QBlock RetPost LQ LAny LLate LLateOp LS
theorem stO_bf {A B : Type} {T : List Tok} {o i : Nat} {ln er : Int} {xs : List (List UInt8)} {a b : Nat → Nat → OR A} {K : A → Nat → Nat → OR B} {r : Res B} (hc : (decide (er = 0) && isTok T i xs) = false)
  (h : stO o i ln er (fun i o => obind (if isTok T i xs then a i o else b i o) K) = some r) : stO o i ln er (fun i o => obind (b i o) K) = some r := by
 by_cases he : er = 0
 ·subst he
  rw [andz] at hc
  rw [stO_ok, hc] at h
  exact h
 ·rw [stO_dead he] at h ⊢
  exact h
theorem stO_bt {A B : Type} {T : List Tok} {o i : Nat} {ln : Int} {xs : List (List UInt8)} {a b : Nat → Nat → OR A} {K : A → Nat → Nat → OR B} {r : Res B} (ht : isTok T i xs = true)
  (h : stO o i ln 0 (fun i o => obind (if isTok T i xs then a i o else b i o) K) = some r) : stO o i ln 0 (fun i o => obind (a i o) K) = some r := by
 rw [stO_ok, ht] at h
 exact h
theorem vars_next {B : Type} {T : List Tok} {k o i : Nat} {ln : Int} {l : List (List UInt8)} {K : List (List UInt8) → Nat → Nat → OR B} {r : Res B} (ht : isTok T i [kwVar] = true) (h : stO o i ln 0 (fun i o => obind (sVars T k l i o) K) = some r) :
  ∃ g, k = g + 1 ∧ stO o (i + 1) ln 0 (fun i o => obind (sNames T g i o) fun ns i o => obind (some (sNeed T [59] i o)) fun _ i o => obind (sVars T g (l ++ ns) i o) K) = some r := by
 rw [stO_ok] at h
 cases k with
 | zero => rw [sVars] at h; cases h
 | succ g =>
  rw [sVars, if_pos ht] at h
  simp only [obind_assoc] at h
  exact ⟨g, rfl, h⟩
theorem vars_end {B : Type} {T : List Tok} {k o i : Nat} {ln er : Int} {l : List (List UInt8)} {K : List (List UInt8) → Nat → Nat → OR B} {r : Res B} (hc : (decide (er = 0) && isTok T i [kwVar]) = false) (h : stO o i ln er (fun i o => obind (sVars T k l i o) K) = some r) : stO o i ln er (K l) = some r := by
 by_cases he : er = 0
 ·subst he
  rw [andz] at hc
  rw [stO_ok] at h ⊢
  cases k with
  | zero => rw [sVars] at h; cases h
  | succ g =>
   rw [sVars, if_neg (by rw [hc]; decide)] at h
   exact h
 ·rw [stO_dead he] at h ⊢
  exact h
section
variable {B0 : Nat} {w0 : World}
theorem qfunc_spec (rb : Nat) (T : List Tok) (hT : RTOK T) (f o i : Nat) (hi : i < T.length) (ho : o ≤ 100) (r : Res FnD) (hr : sFunc T f (i + 1) o = some r) :
  LCalls (KC B0 w0) 37 [ptr rb 0] [rdH rb T i o 0 0] (PostQ rb T o encFn r) := by
 have hl := hT.len
 have hS := (qst_all (B0 := B0) (w0 := w0) rb T hT f).2.1
 have hr' : stO o (i + 1) 0 0 (fun i o => obind (some (sWord T 2 i o)) fun nm i' op' => obind (some (sBegin T [40] i' op')) fun _ i' op' =>
  obind (if isTok T i' [[41]] then some (.ok [] i' op') else sNames T f i' op') fun ps i' op' => obind (some (sEnd T [41] i' op')) fun _ i' op' =>
  obind (some (sBegin T [123] i' op')) fun _ i' op' => obind (sVars T f [] i' op') fun ls i' op' => obind (sStmts T f [] i' op') fun b i' op' =>
  obind (some (sEnd T [125] i' op')) fun _ i' op' => some (.ok ⟨nm, ps, ls, b⟩ i' op')) = some r := hr
 refine LCalls.intro Tryz.func37 rfl (n := 49) rfl rfl rfl ?_
 repeat first | refine LCode.seq ?_ | refine LCode.region ?_
 refine LOps.step (S.alloc fun b2 => ?_) rfl
 repeat first | refine LOps.nil ?_ | refine LCode.seq ?_ | refine LCode.region ?_ | refine QThen.normal ?_
 refine LOps.step (S.alloc fun b3 => ?_) rfl
 repeat first | refine LOps.nil ?_ | refine LCode.seq ?_ | refine LCode.region ?_ | refine QThen.normal ?_ | refine LOps.pure (Pure.mv (lv := .atom _) rfl) rfl ?_ | refine LOps.pure (Pure.nilCheckH rfl) rfl ?_ | refine LOps.pure (Pure.fieldH rfl) rfl ?_ | refine LOps.pure (Pure.loadH (c := .atom _) rfl (List.Mem.tail _ (List.Mem.tail _ (List.Mem.head _))) rfl) rfl ?_ | refine LOps.pure (Pure.add rfl rfl (by omega)) rfl ?_ | refine LOps.step (S.store (cs' := [_, _, _, _, _]) rfl (Pick.there (Pick.there Pick.here)) rfl rfl rfl rfl rfl ?_) rfl
 refine LOps.step (S.callQ (i := i + 1) (op := (o : Int)) [_] rfl Pick.here hr' (fun r1 h1 => qname_spec rb T o (i + 1) o 0 0 hl hT.pos (fun _ => ⟨rfl, hi, rfl, ho⟩) r1 h1) fun s i1 op1 ln1 er1 hw1 hal1 hr1 => ?_) rfl
 repeat first | refine LOps.nil ?_ | refine LCode.seq ?_ | refine LCode.region ?_ | refine QThen.normal ?_ | refine LOps.pure (Pure.mv (lv := .atom _) rfl) rfl ?_ | refine LOps.pure (Pure.fieldH rfl) rfl ?_ | refine LOps.step (S.store (cs' := [_, _, _, _]) rfl (Pick.there Pick.here) rfl rfl rfl rfl rfl ?_) rfl
 refine LOps.step (S.callQ [_, _] rfl (Pick.there Pick.here) hr1 (fun r1 h1 => qenter_spec rb T o i1 op1 ln1 er1 [40] hl hT.pos hw1 r1 h1) fun u i2 op2 ln2 er2 hw2 hal2 hr2 => ?_) rfl
 repeat first | refine LOps.nil ?_ | refine LCode.seq ?_ | refine LCode.region ?_ | refine QThen.normal ?_ | refine LOps.pure (Pure.mv (lv := .atom _) rfl) rfl ?_
 refine LOps.step (S.fnH [_, _] rfl Pick.here (qnext_spec rb T i2 op2 ln2 er2 [41] hl) ?_) rfl
 repeat first | refine LOps.nil ?_ | refine QThen.normal ?_ | refine LOps.pure (Pure.not rfl) rfl ?_
 refine LCode.mid (A := List (List UInt8) × Nat × Int × Int × Int) (fun _ => [(0, ptr rb 0), (2, ptr b2 0), (3, ptr b3 0)]) (fun a => (b3, .cells 53 [str s, .list (a.1.map str), nilSlice, nilSlice]) :: rdH rb T a.2.1 a.2.2.1 a.2.2.2.1 a.2.2.2.2 :: [(b2, .cells 53 [str [], nilSlice, nilSlice, nilSlice])])
  (fun a => Wf T (o + 1) a.2.1 a.2.2.1 a.2.2.2.1 a.2.2.2.2 ∧ stO (o + 1) a.2.1 a.2.2.2.1 a.2.2.2.2 (fun i' op' => obind (some (sEnd T [41] i' op')) fun _ i' op' => obind (some (sBegin T [123] i' op')) fun _ i' op' => obind (sVars T f [] i' op') fun ls i' op' =>
   obind (sStmts T f [] i' op') fun b i' op' => obind (some (sEnd T [125] i' op')) fun _ i' op' => some (.ok ⟨s, a.1, ls, b⟩ i' op')) = some r) ?_ ?_
 ·refine LCode.cond rfl (fun hc => ?_) (fun hc => ?_)
  ·have hc' : (decide (er2 = 0) && isTok T i2 [[41]]) = false := by simpa only [Bool.not_eq_true'] using hc
   have hr3 := stO_bf hc' hr2
   repeat first | refine LCode.region ?_ | refine LOps.pure (Pure.mv (lv := .atom _) rfl) rfl ?_
   refine LOps.step (S.callB [_] rfl Pick.here hr3 (fun r1 h1 => qnames_spec rb T hT f (o + 1) i2 op2 ln2 er2 hw2 r1 h1) fun ns i3 op3 ln3 er3 hb3 hw3 hal3 hr4 => ?_) rfl
   repeat first | refine LOps.nil ?_ | refine QThen.normal ?_ | refine LOps.pure (Pure.fieldH rfl) rfl ?_ | refine LOps.step (S.store (cs' := [_, _, _, _]) rfl (Pick.there Pick.here) rfl rfl rfl rfl rfl ?_) rfl
   exact ⟨(ns, i3, op3, ln3, er3), ⟨hw3, hr4⟩, ⟨rfl, rfl, rfl, trivial⟩, rfl, rfl⟩
  ·have hc' : (decide (er2 = 0) && isTok T i2 [[41]]) = true := by simpa only [Bool.not_eq_false'] using hc
   obtain ⟨he, ht⟩ := Bool.and_eq_true_iff.1 hc'
   obtain rfl := of_decide_eq_true he
   have hr3 := stO_bt ht hr2
   refine LCode.cellSub (Pick.there Pick.here) (cs' := [str s, .list [], nilSlice, nilSlice]) ⟨LV.Sub.refl _, LV.Sub.nil, LV.Sub.refl _, LV.Sub.refl _, trivial⟩ ?_
   repeat first | refine LCode.skip ?_ | refine QThen.normal ?_
   exact ⟨([], i2, op2, ln2, 0), ⟨hw2, hr3⟩, ⟨rfl, rfl, rfl, trivial⟩, rfl, rfl⟩
 rintro ⟨ps, i3, op3, ln3, er3⟩ ⟨hw3, hr3⟩ j hj
 repeat first | refine LCode.seq ?_ | refine LCode.region ?_ | refine LOps.pure (Pure.mv (lv := .atom _) rfl) rfl ?_
 refine LOps.step (S.callQ [_, _] rfl (Pick.there Pick.here) hr3 (fun r1 h1 => qleave_spec rb T o i3 op3 ln3 er3 [41] hl hT.pos hw3 r1 h1) fun u2 i4 op4 ln4 er4 hw4 hal4 hr4 => ?_) rfl
 repeat first | refine LOps.nil ?_ | refine LCode.seq ?_ | refine LCode.region ?_ | refine QThen.normal ?_ | refine LOps.pure (Pure.mv (lv := .atom _) rfl) rfl ?_
 refine LOps.step (S.callQ [_, _] rfl Pick.here hr4 (fun r1 h1 => qenter_spec rb T o i4 op4 ln4 er4 [123] hl hT.pos hw4 r1 h1) fun u3 i5 op5 ln5 er5 hw5 hal5 hr5 => ?_) rfl
 repeat first | refine LOps.nil ?_ | refine LCode.seq ?_ | refine LCode.block ?_ | refine QThen.normal ?_
 refine LCode.loopI (fun k ls H => ∃ (v : LV) (l : List (List UInt8)) (i6 : Nat) (op6 ln6 er6 : Int) (Ha : Heap), ls = [(0, ptr rb 0), (2, ptr b2 0), (3, ptr b3 0)] ∧
   H = rdH rb T i6 op6 ln6 er6 :: (b3, .cells 53 [str s, .list (ps.map str), v, nilSlice]) :: (b2, .cells 53 [str [], nilSlice, nilSlice, nilSlice]) :: Ha ∧ Acc 1 v (l.map str) Ha [] ∧ Wf T (o + 1) i6 op6 ln6 er6 ∧ l.length ≤ 400000 ∧ (er6 = 0 → l.length ≤ i6) ∧
   stO (o + 1) i6 ln6 er6 (fun i o => obind (sVars T k l i o) fun ls i o => obind (sStmts T f [] i o) fun b i o => obind (some (sEnd T [125] i o)) fun _ i o => some (.ok ⟨s, ps, ls, b⟩ i o)) = some r)
  ⟨f, _, _, ⟨nilSlice, [], i5, op5, ln5, er5, [], rfl, rfl, Acc.nil, hw5, by simp, fun _ => by simp, hr5⟩, ⟨rfl, rfl, rfl, trivial⟩, HSub.refl _⟩ ?_
 rintro k ls H ⟨v, l, i6, op6, ln6, er6, Ha, rfl, rfl, hacc, hw6, hll, hla, hI⟩ j2 hj2
 repeat first | refine LCode.seq ?_ | refine LCode.region ?_ | refine LOps.pure (Pure.mv (lv := .atom _) rfl) rfl ?_
 refine LOps.step (S.fnH [_, _] rfl Pick.here (qnext_spec rb T i6 op6 ln6 er6 kwVar hl) ?_) rfl
 repeat first | refine LOps.nil ?_ | refine QThen.normal ?_
 refine LCode.cond rfl (fun hc => ?_) (fun hc => ?_)
 ·obtain ⟨he, ht⟩ := Bool.and_eq_true_iff.1 hc
  obtain rfl := of_decide_eq_true he
  obtain ⟨rfl, hi6, rfl, ho6⟩ := hw6 rfl
  have hlt := isTok_lt ht
  have hla := hla rfl
  obtain ⟨k, rfl, hI2⟩ := vars_next ht hI
  have hwn : Wf T (o + 1) (i6 + 1) ((o + 1 : Nat) : Int) 0 0 := fun _ => ⟨rfl, hlt, rfl, ho6⟩
  repeat first | refine LOps.nil ?_ | refine LCode.seq ?_ | refine LCode.region ?_ | refine LCode.skip ?_ | refine LCode.block ?_ | refine QThen.normal ?_ | refine LOps.pure (Pure.mv (lv := .atom _) rfl) rfl ?_ | refine LOps.pure (Pure.nilCheckH rfl) rfl ?_ | refine LOps.pure (Pure.fieldH rfl) rfl ?_ | refine LOps.pure (Pure.loadH (c := .atom _) rfl (List.Mem.head _) rfl) rfl ?_ | refine LOps.pure (Pure.add rfl rfl (by omega)) rfl ?_ | refine LOps.step (S.store (cs' := [_, _, _, _, _]) rfl Pick.here rfl rfl rfl rfl rfl ?_) rfl
  refine LCode.draw (m := 7) rfl [] ?_
  refine LAny.tk 0 rfl rfl (Pure.fieldH rfl) ?_
  refine LAny.tk 2 rfl rfl (Pure.mv (lv := .atom _) rfl) ?_
  refine LAny.late ?_ (HSub.nil _)
  refine LLate.two (i := 1) (j := 3) (by kernel_rfl) ?_ ?_
  ·refine LLateOp.pureH rfl rfl (Pure.loadH (c := v) rfl (List.Mem.tail _ (List.Mem.head _)) rfl) ?_
   refine LLate.o 3 (LLateOp.whole rfl (.inl rfl) rfl (S.callB (i := i6 + 1) (op := ((o + 1 : Nat) : Int)) [_] rfl Pick.here hI2 (fun r1 h1 => qnames_spec rb T hT k (o + 1) (i6 + 1) _ 0 0 hwn r1 h1) fun ns i7 op7 ln7 er7 hb7 hw7 hal7 hI3 => ?_))
   refine LLate.o 4 (LLateOp.whole rfl (.inl rfl) rfl (S.accF (A := [_, _, _]) (H1 := Ha) (by exact List.perm_append_comm (l₁ := [_, _, _])) rfl hacc rfl (strs_len ns) (strs_ok ns) (by simp; omega) fun v' H' ha' => ?_))
   refine LLate.o 5 (LLateOp.pureH rfl rfl (Pure.fieldH rfl) ?_)
   refine LLate.o 6 (LLateOp.whole rfl (.inl rfl) rfl (S.store (cs' := [_, _, v', _]) rfl (Pick.there Pick.here) (Acc.cell ha').1 rfl rfl (Acc.cell ha').2 rfl ?_))
   refine LLate.done (by kernel_rfl) ?_
   repeat first | refine QThen.normal ?_
   repeat first | refine LCode.region ?_ | refine LOps.pure (Pure.mv (lv := .atom _) rfl) rfl ?_
   refine LOps.step (S.callQ [_, _] rfl (Pick.there Pick.here) hI3 (fun r1 h1 => qwant_spec rb T (o + 1) i7 op7 ln7 er7 [59] hl hT.pos hw7 r1 h1) fun u4 i8 op8 ln8 er8 hw8 hal8 hI4 => ?_) rfl
   repeat first | refine LOps.nil ?_ | refine QThen.normal ?_ | refine QBlock.normal ?_
   exact ⟨k, _, _, by omega, ⟨v', l ++ ns, i8, op8, ln8, er8, H', rfl, rfl, by rw [List.map_append]; exact ha', hw8, by simp; omega, fun h8 => by
    obtain ⟨h7, h9⟩ := hal8 h8
    obtain ⟨_, h10⟩ := hal7 h7
    have h11 := names_len h10
    injection h9 with h9
    have h12 := sNeed_good T [59] i7 (o + 1)
    rw [h9] at h12
    obtain ⟨h13, _⟩ := h12
    simp
    omega, hI4⟩, ⟨rfl, rfl, rfl, trivial⟩, HSub.refl _, hj2⟩
  ·refine LLateOp.whole rfl (.inl rfl) rfl (S.callB (i := i6 + 1) (op := ((o + 1 : Nat) : Int)) [_] rfl Pick.here hI2 (fun r1 h1 => qnames_spec rb T hT k (o + 1) (i6 + 1) _ 0 0 hwn r1 h1) fun ns i7 op7 ln7 er7 hb7 hw7 hal7 hI3 => ?_)
   refine LLate.o 1 (LLateOp.pureH rfl rfl (Pure.loadH (c := v) rfl (List.Mem.tail _ (List.Mem.head _)) rfl) ?_)
   refine LLate.o 4 (LLateOp.whole rfl (.inl rfl) rfl (S.accF (A := [_, _, _]) (H1 := Ha) (by exact List.perm_append_comm (l₁ := [_, _, _])) rfl hacc rfl (strs_len ns) (strs_ok ns) (by simp; omega) fun v' H' ha' => ?_))
   refine LLate.o 5 (LLateOp.pureH rfl rfl (Pure.fieldH rfl) ?_)
   refine LLate.o 6 (LLateOp.whole rfl (.inl rfl) rfl (S.store (cs' := [_, _, v', _]) rfl (Pick.there Pick.here) (Acc.cell ha').1 rfl rfl (Acc.cell ha').2 rfl ?_))
   refine LLate.done (by kernel_rfl) ?_
   repeat first | refine QThen.normal ?_
   repeat first | refine LCode.region ?_ | refine LOps.pure (Pure.mv (lv := .atom _) rfl) rfl ?_
   refine LOps.step (S.callQ [_, _] rfl (Pick.there Pick.here) hI3 (fun r1 h1 => qwant_spec rb T (o + 1) i7 op7 ln7 er7 [59] hl hT.pos hw7 r1 h1) fun u4 i8 op8 ln8 er8 hw8 hal8 hI4 => ?_) rfl
   repeat first | refine LOps.nil ?_ | refine QThen.normal ?_ | refine QBlock.normal ?_
   exact ⟨k, _, _, by omega, ⟨v', l ++ ns, i8, op8, ln8, er8, H', rfl, rfl, by rw [List.map_append]; exact ha', hw8, by simp; omega, fun h8 => by
    obtain ⟨h7, h9⟩ := hal8 h8
    obtain ⟨_, h10⟩ := hal7 h7
    have h11 := names_len h10
    injection h9 with h9
    have h12 := sNeed_good T [59] i7 (o + 1)
    rw [h9] at h12
    obtain ⟨h13, _⟩ := h12
    simp
    omega, hI4⟩, ⟨rfl, rfl, rfl, trivial⟩, HSub.refl _, hj2⟩
 ·have hr6 := vars_end hc hI
  repeat first | refine LCode.seq ?_ | refine LCode.region ?_ | refine LCode.exit ?_ | refine QThen.normal ?_ | refine QThen.exit ?_ | refine QBlock.hit ?_ | refine LOps.pure (Pure.mv (lv := .atom _) rfl) rfl ?_
  refine LOps.cellSub (Pick.there Pick.here) (cs' := [str s, .list (ps.map str), .list (l.map str), nilSlice]) ⟨LV.Sub.refl _, LV.Sub.refl _, hacc.sub, LV.Sub.refl _, trivial⟩ ?_
  refine LOps.step (S.callQ (enc := qSms) (o' := o + 1) [_] rfl (Pick.there Pick.here) hr6 (fun r1 h1 => ?_) fun ss i7 op7 ln7 er7 hw7 hal7 hr7 => ?_) rfl
  ·by_cases he : er6 = 0
   ·subst he
    obtain ⟨rfl, hi6, rfl, ho6⟩ := hw6 rfl
    rw [stO_ok] at h1
    exact hS (o + 1) i6 r1 hi6 ho6 h1
   ·rw [stO_dead he] at h1
    cases h1
    exact qstmts_dead rb T hT (o + 1) i6 op6 ln6 er6 he
  repeat first | refine LOps.nil ?_ | refine LCode.seq ?_ | refine LCode.region ?_ | refine QThen.normal ?_ | refine LOps.pure (Pure.mv (lv := .atom _) rfl) rfl ?_ | refine LOps.pure (Pure.fieldH rfl) rfl ?_ | refine LOps.step (S.store (cs' := [_, _, _, _]) rfl (Pick.there Pick.here) rfl rfl rfl rfl rfl ?_) rfl
  refine LOps.step (S.callQ [_, _] rfl (Pick.there Pick.here) hr7 (fun r1 h1 => qleave_spec rb T o i7 op7 ln7 er7 [125] hl hT.pos hw7 r1 h1) fun u5 i8 op8 ln8 er8 hw8 hal8 hr8 => ?_) rfl
  repeat first | refine LOps.nil ?_ | refine LCode.seq ?_ | refine LCode.region ?_ | refine LCode.ret ?_ | refine QThen.normal ?_ | refine LOps.pure (Pure.ldHAgg (cs' := [_, _, _, _]) rfl (List.Mem.tail _ (List.Mem.head _)) rfl rfl) rfl ?_ | refine LOps.step (S.store (cs' := [_, _, _, _]) rfl (Pick.there (Pick.there Pick.here)) rfl rfl rfl rfl rfl ?_) rfl
  exact retQ (v := ⟨s, ps, l, ss⟩) (hj2.trans hj) (AllRes.cons (ResIs.cellAgg (k := 4) rfl (List.Mem.head _) rfl (LV.Sub.refl _)) AllRes.nil) hw8 hr8 rfl (HSub.pick (Pick.there Pick.here) (HSub.nil _))
end
end Go.Proofs.YtfodkbchknknjaaGreatDoor
