/- The law of the layout: every token on a line of its own, walked. -/
import Derived.Test.YtfodkbchknknjaaGreatDoorLawA
import Derived.Test.YtfodkbchknknjaaGreatDoorPEq
import Derived.Test.YtfodkbchknknjaaGreatDoorParSim
set_option linter.unusedVariables false
set_option linter.unusedSimpArgs false
namespace Go.Proofs.YtfodkbchknknjaaGreatDoor
open Go.GL Go.RowKit Go.Stele
set_option maxRecDepth 100000
set_option maxHeartbeats 4000000
def joined (T : List Tok) : List UInt8 := Go.Lib.join (T.map (·.text)) [10]
theorem lay_parse {s : List UInt8} {T : List Tok} (hs : s.length ≤ 1500) (hT : lexAllP s = .ok T) :
    T.length ≤ 1500 ∧ (joined T).length ≤ 37500 ∧ (parseP s).2.2 = (parseP (joined T)).2.2 ∧ (parseP s).1 = (parseP (joined T)).1 ∧ 0 ≤ (parseP (joined T)).2.1 ∧ (parseP (joined T)).2.1 ≤ (T.length : Int) := by
  have hT' := hT
  unfold lexAllP at hT'
  rw [if_neg (by omega)] at hT'
  have hag := lexP_again _ _ _ _ hT'
  have hTl := (lexP_ok _ _ _ _ hT').1
  have hJl := join_len T hag
  have hJ : lexAllP (joined T) = .ok (reline T 1) := by
    unfold lexAllP
    rw [if_neg (by unfold joined; omega)]
    exact lexAt_join T 1 hag
  have hS := prog_sim (SameT.of (reline_kt T 1)) (10 * T.length + 20) noPr 0 0
  refine ⟨by omega, by unfold joined; omega, ?_⟩
  unfold parseP
  rw [hT, hJ]
  simp only
  rw [reline_len]
  by_cases hne : T = []
  · subst hne
    have h1 : ∀ T' : List Tok, T' = [] → sProg T' (10 * ([] : List Tok).length + 20) noPr 0 0 = some (.ok noPr 0 0) := fun T' hT' => by
      subst hT'
      rfl
    rw [h1 [] rfl, h1 (reline [] 1) rfl]
    exact ⟨rfl, rfl, by decide, by decide⟩
  have hfl := fail_reline hne
  match sProg T (10 * T.length + 20) noPr 0 0, sProg (reline T 1) (10 * T.length + 20) noPr 0 0, hS with
  | none, none, _ => exact ⟨rfl, rfl, Int.le_refl 0, Int.natCast_nonneg _⟩
  | some (.ok v i op), some (.ok v' i' op'), ⟨h1, h2, h3⟩ =>
    subst h1 h2 h3
    exact ⟨rfl, rfl, Int.le_refl 0, Int.natCast_nonneg _⟩
  | some (.err l e), some (.err l' e'), ⟨h1, i, h2⟩ =>
    subst h1 h2
    exact ⟨rfl, rfl, (hfl i).1, (hfl i).2⟩
theorem cells_of_rows {w : World} {L : Live} {b : Nat} : ∀ (k off : Nat) (ws : List (List UInt8)), RepRows w L b k off (ws.map str) → ∀ (j : Nat) x, (ws.map fun l => (⟨l.toArray⟩ : ByteArray))[j]? = some x → k = 1 ∧ w.cell? ⟨b, off + j, none⟩ = some (.string x)
  | k, off, [], _, j, x, h => by simp at h
  | k, off, s :: ws, h, 0, x, hx => by
    simp only [List.map_cons, RepRows] at h
    obtain ⟨⟨hk, _, y, hy, hr⟩, _⟩ := h
    simp only [Rep] at hr
    simp at hx
    rw [← hx, Nat.add_zero, hy, hr]
    exact ⟨hk.symm, rfl⟩
  | k, off, s :: ws, h, j + 1, x, hx => by
    simp only [List.map_cons, RepRows] at h
    obtain ⟨⟨hk, _⟩, h2⟩ := h
    have := cells_of_rows k (off + k) ws h2 j x (by simpa using hx)
    refine ⟨hk.symm, ?_⟩
    rw [← this.2, ← hk, Nat.add_assoc, Nat.add_comm 1 j]
section
variable {B0 : Nat} {w0 : World}
theorem join_spec (ws : List (List UInt8)) (hn : ws.length ≤ 100000) (hl : (Go.Lib.join ws [10]).length ≤ 1000000) : LCalls (KC B0 w0) 22 [.list (ws.map str), str [10]] [] (Ret (str (Go.Lib.join ws [10]))) := fun xs w L hv hH => by
  simp only [RepL] at hv
  obtain ⟨y, ys, rfl, hy, z, zs, rfl, hz, rfl⟩ := hv
  simp only [Rep] at hy hz
  obtain ⟨a, cap, rfl, hcap, hrows⟩ := hy
  subst hz
  rw [List.length_map] at hcap
  have hmap : (ws.map fun l => (⟨l.toArray⟩ : ByteArray)).map (·.data.toList) = ws := by
    rw [List.map_map]
    conv => rhs; rw [← List.map_id ws]
    rfl
  have hc : Calls Tryz.prog 22 #[.slice a ws.length cap, .string ⟨#[10]⟩] w fun e w' => e = .returned (.string ⟨(Go.Lib.join ws [10]).toArray⟩) ∧ Below w.heap.size w w' := by
    by_cases hne : ws = []
    · subst hne
      exact (Tryz.strings_Join_none a cap ⟨#[10]⟩ w).mono fun e w' he => ⟨by rw [he.1]; rfl, by rw [he.2]; exact Below.refl _ _⟩
    · obtain ⟨b, off, k, rfl, hr⟩ := hrows (by simpa using hne)
      have hcells := fun j x hx => (cells_of_rows k off ws hr j x hx).2
      have hb : b < w.heap.size := by
        obtain ⟨s, r, rfl⟩ := List.exists_cons_of_ne_nil hne
        have := hcells 0 _ rfl
        exact World.block_lt_of_cell? _ _ this
      have := Tryz.strings_Join b off cap (ws.map fun l => (⟨l.toArray⟩ : ByteArray)) ⟨#[10]⟩ w hcells hb (by rw [List.length_map]; omega) (by rw [List.length_map]; exact hcap) (by rw [hmap]; show (Go.Lib.join ws [10]).length ≤ _; omega)
      rw [List.length_map, hmap] at this
      exact this
  rw [List.length_map]
  refine hc.mono fun e w' he => ?_
  obtain ⟨rfl, hb⟩ := he
  obtain ⟨h1, h2⟩ := fr_below hH hb
  exact ⟨str (Go.Lib.join ws [10]), [], L, h1, h2, rep_atom, rfl, rfl⟩
theorem lay_spec (hG : GW B0 w0) (s : List UInt8) : LCalls (KC B0 w0) 6 [str s] [] (Ret (bool true)) := by
  refine LCalls.intro Tryz.func6 rfl (n := 72) rfl rfl rfl ?_
  repeat first
    | refine LOps.nil ?_
    | refine LCode.seq ?_
    | refine LCode.region ?_
    | refine LOps.pure (Pure.as (lv := .atom _) rfl) rfl ?_
  refine LOps.step (S.fn [] rfl (alive_spec hG) ?_) rfl
  repeat first
    | refine LOps.nil ?_
    | refine QThen.normal ?_
    | refine LOps.pure (Pure.not rfl) rfl ?_
  refine LCode.cond rfl (fun h0 => ?_) (fun h0 => ?_)
  · cases h0
  repeat first
    | refine LOps.nil ?_
    | refine LCode.seq ?_
    | refine LCode.region ?_
    | refine LCode.skip ?_
    | refine QThen.normal ?_
    | refine LOps.pure (Pure.mv (lv := .atom _) rfl) rfl ?_
    | refine LOps.pure (Pure.slen rfl) rfl ?_
    | refine LOps.pure (Pure.gtr rfl rfl) rfl ?_
  refine LCode.cond rfl (fun h1 => ?_) (fun h1 => ?_)
  · repeat first
      | refine LOps.nil ?_
      | refine LCode.seq ?_
      | refine LCode.region ?_
      | refine LCode.ret ?_
      | refine QThen.ret ?_
      | refine LOps.pure (Pure.as (lv := .atom _) rfl) rfl ?_
    exact retRet rfl (AllRes.cons (ResIs.tmp (v := .atom _) rfl (LV.Sub.refl _)) AllRes.nil) rfl
  have hlen : s.length ≤ 1500 := by have := of_decide_eq_false h1; omega
  repeat first
    | refine LCode.seq ?_
    | refine LCode.region ?_
    | refine LCode.skip ?_
    | refine LOps.pure (Pure.mv (lv := .atom _) rfl) rfl ?_
  have htok := Tokens_spec hG s (by omega)
  cases hT : lexAllP s with
  | error le =>
    obtain ⟨l, e⟩ := le
    rw [hT] at htok
    have he := lexAllP_err hT
    refine LOps.step (S.fn [_] rfl htok ?_) rfl
    refine LOps.pure (Pure.mv rfl) rfl ?_
    refine LOps.pure (Pure.extract (vs := [.list [], int .i64 l, int .i64 e]) rfl rfl) rfl ?_
    refine LOps.pure (Pure.extract (vs := [.list [], int .i64 l, int .i64 e]) rfl rfl) rfl ?_
    refine LOps.pure (Pure.extract (vs := [.list [], int .i64 l, int .i64 e]) rfl rfl) rfl ?_
    repeat first
      | refine LOps.nil ?_
      | refine LCode.seq ?_
      | refine LCode.region ?_
      | refine QThen.normal ?_
      | refine LOps.pure (Pure.as (lv := .atom _) rfl) rfl ?_
      | refine LOps.pure (Pure.mv (lv := .atom _) rfl) rfl ?_
      | refine LOps.pure (Pure.as (lv := .list _) rfl) rfl ?_
      | refine LOps.pure (Pure.neq rfl rfl) rfl ?_
    refine LCode.cond rfl (fun h2 => ?_) (fun h2 => ?_)
    · repeat first
        | refine LOps.nil ?_
        | refine LCode.seq ?_
        | refine LCode.region ?_
        | refine LCode.ret ?_
        | refine QThen.ret ?_
        | refine LOps.pure (Pure.as (lv := .atom _) rfl) rfl ?_
      exact retRet rfl (AllRes.cons (ResIs.tmp (v := .atom _) rfl (LV.Sub.refl _)) AllRes.nil) rfl
    · exact absurd (by simpa using h2) he
  | ok T =>
    rw [hT] at htok
    obtain ⟨k1, k2, k3, k4, k5, k6⟩ := lay_parse hlen hT
    have hp := parse_spec hG s (by omega)
    have hq := parse_spec hG (joined T) (by omega)
    have hpo := parseP_ok s
    generalize parseP s = r at k3 k4 hp hpo
    generalize parseP (joined T) = r' at k3 k4 k5 k6 hq
    obtain ⟨p, l, e⟩ := r
    obtain ⟨p', l', e'⟩ := r'
    simp only at k3 k4 k5 k6 hpo
    subst k3 k4
    refine LOps.step (S.fn [_] rfl htok ?_) rfl
    refine LOps.pure (Pure.mv rfl) rfl ?_
    refine LOps.pure (Pure.extract (vs := [.list (T.map encTok), int .i64 0, int .i64 0]) rfl rfl) rfl ?_
    refine LOps.pure (Pure.extract (vs := [.list (T.map encTok), int .i64 0, int .i64 0]) rfl rfl) rfl ?_
    refine LOps.pure (Pure.extract (vs := [.list (T.map encTok), int .i64 0, int .i64 0]) rfl rfl) rfl ?_
    repeat first
      | refine LOps.nil ?_
      | refine LCode.seq ?_
      | refine LCode.region ?_
      | refine QThen.normal ?_
      | refine LOps.pure (Pure.as (lv := .atom _) rfl) rfl ?_
      | refine LOps.pure (Pure.mv (lv := .atom _) rfl) rfl ?_
      | refine LOps.pure (Pure.as (lv := .list _) rfl) rfl ?_
      | refine LOps.pure (Pure.neq rfl rfl) rfl ?_
    refine LCode.cond rfl (fun h2 => ?_) (fun h2 => ?_)
    · cases h2
    repeat first
      | refine LOps.nil ?_
      | refine LCode.seq ?_
      | refine LCode.region ?_
      | refine LCode.skip ?_
      | refine LCode.block ?_
      | refine LOps.pure (Pure.as (lv := .atom _) rfl) rfl ?_
    refine LCode.loopI (fun k ls H => ∃ (v : LV) (i : Nat), i ≤ T.length ∧ k = T.length - i ∧ ls = [(0, str s), (3, .list (T.map encTok)), (6, v), (7, int .i64 i)] ∧ Acc 1 v (((T.take i).map (·.text)).map str) H [])
      ⟨_, _, _, ⟨nilSlice, 0, Nat.zero_le _, rfl, rfl, by simpa using Acc.nil⟩, ⟨rfl, rfl, rfl, rfl, trivial⟩, HSub.refl _⟩ ?_
    rintro k ls H ⟨v, i, hi, rfl, rfl, hacc⟩ j hj
    repeat first
      | refine LOps.nil ?_
      | refine LCode.seq ?_
      | refine LCode.region ?_
      | refine QThen.normal ?_
      | refine LOps.pure (Pure.mv (lv := .atom _) rfl) rfl ?_
      | refine LOps.pure (Pure.mv (lv := .list _) rfl) rfl ?_
      | refine LOps.pure (Pure.llen rfl) rfl ?_
      | refine LOps.pure (Pure.lss rfl rfl) rfl ?_
    refine LCode.cond rfl (fun hc => ?_) (fun hc => ?_)
    · have hlt : i < T.length := by
        have := of_decide_eq_true hc
        simp only [List.length_map] at this
        omega
      repeat first
        | refine LCode.seq ?_
        | refine LCode.region ?_
        | refine LCode.skip ?_
        | refine LCode.block ?_
      refine LOps.pure (Pure.mv (lv := v) rfl) rfl ?_
      repeat first
        | refine LOps.pure (Pure.mv (lv := .atom _) rfl) rfl ?_
        | refine LOps.pure (Pure.mv (lv := .list _) rfl) rfl ?_
      refine LOps.pure (Pure.ixRef (el' := encTok T[i]) (cs := [_, _, _]) rfl rfl (by omega) (map_get _ _ _ hlt) rfl rfl) rfl ?_
      repeat first
        | refine LOps.pure (Pure.field1 rfl rfl) rfl ?_
        | refine LOps.pure (Pure.loadRef (c := .atom _) rfl rfl) rfl ?_
      refine LOps.step (S.lit [_] rfl (elemsOk.cons rfl rfl elemsOk.nil) rfl rfl rfl ?_) rfl
      refine LOps.step (S.acc rfl hacc rfl (by simp; rfl) rfl (by simp; omega) fun v' H' hacc' => ?_) rfl
      refine LOps.pure (Pure.as (lv := v') rfl) rfl ?_
      repeat first
        | refine LOps.nil ?_
        | refine LCode.region ?_
        | refine QThen.normal ?_
        | refine LOps.pure (Pure.as (lv := .atom _) rfl) rfl ?_
        | refine LOps.pure (Pure.mv (lv := .atom _) rfl) rfl ?_
        | refine LOps.pure (Pure.add rfl rfl (by omega)) rfl ?_
      exact ⟨_, _, _, by omega, ⟨v', i + 1, by omega, rfl, rfl, by
        rw [List.take_succ_eq_append_getElem hlt, List.map_append, List.map_append]
        exact hacc'⟩, ⟨rfl, rfl, rfl, int_eq (by omega), trivial⟩, HSub.refl _, hj⟩
    · have hi' : i = T.length := by
        have := of_decide_eq_false hc
        simp only [List.length_map] at this
        omega
      subst hi'
      rw [List.take_length] at hacc
      refine LCode.sub (d := 6) (v := v) rfl hacc.sub ?_
      refine LCode.weak (HSub.nil _) ?_
      repeat first
        | refine LCode.seq ?_
        | refine LCode.region ?_
        | refine LCode.exit ?_
        | refine LOps.pure (Pure.mv (lv := .atom _) rfl) rfl ?_
      refine LOps.step (S.fn [_] rfl hp ?_) rfl
      refine LOps.pure (Pure.mv rfl) rfl ?_
      refine LOps.pure (Pure.extract (vs := [encPr p, int .i64 l, int .i64 e]) rfl rfl) rfl ?_
      refine LOps.pure (Pure.extract (vs := [encPr p, int .i64 l, int .i64 e]) rfl rfl) rfl ?_
      refine LOps.pure (Pure.extract (vs := [encPr p, int .i64 l, int .i64 e]) rfl rfl) rfl ?_
      refine LOps.step (S.alloc fun b8 => ?_) rfl
      repeat first
        | refine LOps.nil ?_
        | refine LCode.seq ?_
        | refine LCode.region ?_
        | refine LOps.pure (Pure.as (lv := .atom _) rfl) rfl ?_
        | refine LOps.pure (Pure.mv (lv := .list _) rfl) rfl ?_
        | refine LOps.step (S.store (cs' := [_, _, _]) rfl Pick.here rfl rfl rfl rfl rfl ?_) rfl
      refine LOps.step (S.fn [_, _] rfl (join_spec (T.map (·.text)) (by rw [List.length_map]; omega) (by show (joined T).length ≤ _; omega)) ?_) rfl
      refine LOps.step (S.fn [_] rfl hq ?_) rfl
      refine LOps.pure (Pure.mv rfl) rfl ?_
      refine LOps.pure (Pure.extract (vs := [encPr p, int .i64 l', int .i64 e]) rfl rfl) rfl ?_
      refine LOps.pure (Pure.extract (vs := [encPr p, int .i64 l', int .i64 e]) rfl rfl) rfl ?_
      refine LOps.pure (Pure.extract (vs := [encPr p, int .i64 l', int .i64 e]) rfl rfl) rfl ?_
      refine LOps.step (S.alloc fun b11 => ?_) rfl
      repeat first
        | refine LOps.nil ?_
        | refine LCode.seq ?_
        | refine LCode.region ?_
        | refine LOps.pure (Pure.as (lv := .atom _) rfl) rfl ?_
        | refine LOps.pure (Pure.mv (lv := .atom _) rfl) rfl ?_
        | refine LOps.pure (Pure.eql rfl rfl) rfl ?_
        | refine LOps.step (S.store (cs' := [_, _, _]) rfl Pick.here rfl rfl rfl rfl rfl ?_) rfl
      refine LOps.bcase 57 rfl (fun hh => ?_) (fun hh => absurd hh (by simp))
      repeat first
        | refine LOps.pure (Pure.ldHAgg (cs' := [_, _, _]) rfl (List.Mem.head _) rfl rfl) rfl ?_
        | refine LOps.pure (Pure.ldHAgg (cs' := [_, _, _]) rfl (List.Mem.tail _ (List.Mem.head _)) rfl rfl) rfl ?_
        | refine LOps.want rfl rfl ?_
      refine LOps.step (S.fn [_, _] rfl (by
        have := pequal_spec (B0 := B0) (w0 := w0) p p hpo hpo
        rw [(eqPr_iff _ _).2 rfl] at this
        exact this) ?_) rfl
      repeat first
        | refine LOps.pure (Pure.mv (lv := .atom _) rfl) rfl ?_
        | refine LOps.pure (Pure.pickT (lv := .atom _) rfl rfl) rfl ?_
        | refine LOps.pure (Pure.geq rfl rfl) rfl ?_
        | refine LOps.want rfl rfl ?_
      refine LOps.bcase 66 rfl (fun h5 => ?_) (fun h5 => absurd h5 (by simpa using k5))
      repeat first
        | refine LOps.nil ?_
        | refine LCode.ret ?_
        | refine LOps.pure (Pure.as (lv := .atom _) rfl) rfl ?_
        | refine LOps.pure (Pure.mv (lv := .atom _) rfl) rfl ?_
        | refine LOps.pure (Pure.mv (lv := .list _) rfl) rfl ?_
        | refine LOps.pure (Pure.llen rfl) rfl ?_
        | refine LOps.pure (Pure.pickT (lv := .atom _) rfl rfl) rfl ?_
        | refine LOps.pure (Pure.leq rfl rfl) rfl ?_
        | refine LOps.want rfl rfl ?_
      exact retRet hj (AllRes.cons (ResIs.tmp (v := .atom _) rfl (LV.Sub.refl _)) AllRes.nil) (bool_eq (by simpa using k6))
end
end Go.Proofs.YtfodkbchknknjaaGreatDoor
