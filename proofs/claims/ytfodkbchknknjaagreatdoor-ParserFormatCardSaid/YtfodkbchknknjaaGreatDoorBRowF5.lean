/- Texts joined: Fmt5, ParTok, LexJoin, ParNodes, RtPrint, ParExt, RtLex, RtSize, Fmt6, ParP8. -/
import Derived.Lib.Join
import Derived.Test.YtfodkbchknknjaaGreatDoorBRowF1
import Derived.Test.YtfodkbchknknjaaGreatDoorBRowF2
import Derived.Test.YtfodkbchknknjaaGreatDoorBRowF3
import Derived.Test.YtfodkbchknknjaaGreatDoorBRowF4
set_option linter.unusedVariables false
set_option linter.unusedSimpArgs false
namespace Go.Proofs.YtfodkbchknknjaaGreatDoor
open Go.GL Go.RowKit Go.Stele
set_option maxRecDepth 100000
set_option maxHeartbeats 4000000
section
variable {C : Ctx} {e : Env} {dst : Option Nat} {ty : TypeId} {pos : String} {aft : Array Edge} {g : Option (Nat × Bool)} {K : LV → Heap → Prop} {X : List PanicEntry → Heap → Prop}
/-- A call that turns the builder; a block ahead of it stays. -/
theorem S.callBH {f : FuncId} [TEnter C.P f] (args : List Operand) {ats : Array TypeId} {avs : List LV} {R : Heap → Prop} {q : Nat × LObj} {H1 : Heap} (has : args.map e.ev = avs)
  (hc : LCalls C f avs H1 (fun r H' => (∃ x, r = .ret x) ∧ R H')) (hk : ∀ v H', R H' → K v (q :: H')) :
  LStep C ⟨dst, .call { callee := .value (.func f), args := args.toArray, argTypes := ats }, ty, pos, aft, g⟩ e (q :: H1) K X := by
 refine LStep.conseq (K := fun lv H' => ∃ H2, H' = H2 ++ [q] ∧ R H2) (S.callH (H1 := H1) (F := [q]) args has (List.perm_append_singleton _ _).symm hc (fun v H' h => ⟨H', rfl, h.2⟩) (fun ch H' h => by
  obtain ⟨⟨x, hx⟩, _⟩ := h
  cases hx)) ?_
 rintro lv H' ⟨H2, rfl, h⟩
 exact ⟨lv, [q] ++ H2, LV.Sub.refl _, ⟨[], by simp⟩, hk _ _ h⟩
end
attribute [local irreducible] LOps LCode LStep LCalls Go.GL.Pure QThen QBlock RetPost LQ LAny LLate LLateOp
section
variable {B0 : Nat} {w0 : World}
theorem one_spec (l : List Ex) (hn : l.length ≤ 1000000000) (hl : (fOne l).length ≤ 1000000000) (he : ∀ e ∈ l, LCalls (KC B0 w0) 118 [encE e] [] (Ret (str (fE e)))) :
  LCalls (KC B0 w0) 86 [.list (l.map encE)] [] (Ret (str (fOne l))) := by
 refine LCalls.intro Tryz.func86 rfl (n := 5) rfl rfl rfl ?_
 repeat first | refine LOps.nil ?_ | refine LCode.seq ?_ | refine LCode.region ?_ | refine QThen.normal ?_ | refine LOps.pure (Pure.as (lv := .atom _) rfl) rfl ?_ | refine LOps.pure (Pure.mv (lv := .list _) rfl) rfl ?_
 refine LOps.step (S.fn [_] rfl (list_spec l hn hl he) ?_) rfl
 repeat first | refine LOps.nil ?_ | refine LCode.ret ?_ | refine QThen.normal ?_ | refine LOps.pure (Pure.as (lv := .atom _) rfl) rfl ?_
 exact retRet rfl (AllRes.cons (ResIs.tmp (v := .atom _) rfl (LV.Sub.refl _)) AllRes.nil) rfl
theorem nExs_lens : ∀ l : List Ex, l.length ≤ nExs l
 | [] => Nat.zero_le _
 | e :: r => by
  have h1 := nExs_lens r
  obtain ⟨op, num, name, args⟩ := e
  rw [nExs, nEx, List.length_cons]
  omega
theorem one_ok (hG : GW B0 w0) (l : List Ex) (hk : okEs l) (hn : nExs l ≤ 1000000000) (hl : (fOne l).length ≤ 1000000000) : LCalls (KC B0 w0) 86 [.list (l.map encE)] [] (Ret (str (fOne l))) :=
 one_spec l (by have := nExs_lens l; omega) hl fun e he => fexpr_spec hG _ e (Nat.le_refl _) (okEs_mem hk he) (by
  have := join_mem comSp (List.mem_map_of_mem (f := fE) he)
  have h2 : (Go.Lib.join (l.map fE) comSp).length ≤ 1000000000 := hl
  omega)
mutual
def okS : Sm → Prop
 | .mk _ _ index value thn els => okEs index ∧ okEs value ∧ okSs thn ∧ okSs els
def okSs : List Sm → Prop
 | [] => True
 | s :: r => okS s ∧ okSs r
end
theorem okSs_mem : ∀ {l : List Sm} {s : Sm}, okSs l → s ∈ l → okS s
 | s :: r, x, h, hx => by
  rw [okSs] at h
  rcases List.mem_cons.mp hx with hx | hx
  ·exact hx ▸ h.1
  ·exact okSs_mem h.2 hx
theorem fSs_mem (ind : List UInt8) : ∀ {l : List Sm} {i : Nat} (h : i < l.length), (fSs ind (l.take i)).length + (fS ind l[i]).length ≤ (fSs ind l).length := by
 intro l i h
 have h1 := fSs_take ind h
 have h2 : fSs ind l = fSs ind (l.take (i + 1)) ++ fSs ind (l.drop (i + 1)) := by rw [← fSs_append, List.take_append_drop]
 rw [h2, h1]
 simp only [List.length_append]
 omega
theorem nSms_lens : ∀ l : List Sm, l.length ≤ nSms l
 | [] => Nat.zero_le _
 | s :: r => by
  have h1 := nSms_lens r
  obtain ⟨k, name, i, v, t, e⟩ := s
  rw [nSms, nSm, List.length_cons]
  omega
theorem lines_step (hG : GW B0 w0) (n : Nat) (ih : ∀ (l : List Sm) (ind acc : List UInt8) (b : Nat) (H : Heap), nSms l < n → okSs l → acc.length + (fSs ind l).length ≤ 1000000000 → BH b acc H →
   LCalls (KC B0 w0) 52 [ptr b 0, .list (l.map encS), str ind] H (fun r H' => (∃ x, r = .ret x) ∧ BH b (acc ++ fSs ind l) H'))
  (l : List Sm) (ind acc : List UInt8) (b : Nat) (H : Heap) (hn : nSms l ≤ n) (hn2 : n ≤ 1000000000) (hk : okSs l) (hl : acc.length + (fSs ind l).length ≤ 1000000000) (hB : BH b acc H) :
  LCalls (KC B0 w0) 52 [ptr b 0, .list (l.map encS), str ind] H (fun r H' => (∃ x, r = .ret x) ∧ BH b (acc ++ fSs ind l) H') := by
 have hla : (l.map encS).length = l.length := List.length_map _
 have hlen := nSms_lens l
 refine LCalls.intro Tryz.func52 rfl (n := 116) rfl rfl rfl ?_
 repeat first | refine LOps.nil ?_ | refine LCode.seq ?_ | refine LCode.region ?_ | refine LCode.block ?_ | refine QThen.normal ?_ | refine LOps.pure (Pure.as (lv := .atom _) rfl) rfl ?_ | refine LOps.pure (Pure.mv (lv := .list _) rfl) rfl ?_ | refine LOps.pure (Pure.mv (lv := .atom _) rfl) rfl ?_ | refine LOps.pure (Pure.llen rfl) rfl ?_
 refine LCode.loopI (fun k ls H => ∃ i, i ≤ l.length ∧ k = l.length - i ∧ ls = [(0, ptr b 0), (2, str ind), (6, .atom (.func (.func 86) #[] #[])), (10, .list (l.map encS)), (11, int .i64 l.length), (12, int .i64 i)] ∧ BH b (acc ++ fSs ind (l.take i)) H)
  ⟨_, _, _, ⟨0, Nat.zero_le _, rfl, rfl, by simpa [fSs] using hB⟩, ⟨rfl, rfl, rfl, rfl, int_eq (by omega), rfl, trivial⟩, HSub.refl _⟩ ?_
 rintro k ls H ⟨i, hi, rfl, rfl, hB⟩ j hj
 repeat first | refine LOps.nil ?_ | refine LCode.seq ?_ | refine LCode.region ?_ | refine QThen.normal ?_ | refine LOps.pure (Pure.lss rfl rfl) rfl ?_
 refine LCode.cond rfl (fun hc => ?_) (fun hc => ?_)
 ·have hlt : i < l.length := by have := of_decide_eq_true hc; omega
  have hm := fSs_mem ind hlt
  have hke := okSs_mem hk (List.getElem_mem hlt)
  have hne := nSms_mem (List.getElem_mem hlt)
  have hta := fSs_take ind hlt
  repeat first | refine LCode.seq ?_ | refine LCode.region ?_ | refine LCode.skip ?_ | refine LCode.block ?_ | refine QThen.normal ?_
  refine LOps.pure (Pure.ixRef (el' := encS l[i]) (cs := [_, _, _, _, _, _]) rfl rfl (by omega) (map_get _ _ _ hlt) rfl rfl) rfl ?_
  repeat first | refine LOps.pure (Pure.ldRefAgg (cs' := [_, _, _, _, _, _]) rfl rfl rfl) rfl ?_
  refine LOps.step (S.alloc fun b8 => ?_) rfl
  repeat first | refine LOps.nil ?_ | refine LCode.seq ?_ | refine LCode.region ?_ | refine QThen.normal ?_ | refine LOps.pure (Pure.mv (lv := .atom _) rfl) rfl ?_ | refine LOps.step (S.store (cs' := [_, _, _, _, _, _]) rfl Pick.here rfl rfl rfl rfl rfl ?_) rfl
  generalize l[i] = s at hm hke hne hta ⊢
  obtain ⟨kind, name, index, value, thn, els⟩ := s
  rw [fS_mk] at hm hta
  simp only [List.length_append] at hm
  rw [okS] at hke
  rw [nSm] at hne
  obtain ⟨hk1, hk2, hk3, hk4⟩ := hke
  refine LOps.step (S.callBH [_, _] rfl (writeString_spec b _ ind H hB (by simp only [List.length_append]; omega)) fun v H2 hB2 => ?_) rfl
  repeat first | refine LOps.nil ?_ | refine LCode.seq ?_ | refine LCode.region ?_ | refine LCode.block ?_ | refine QThen.normal ?_ | refine LOps.pure (Pure.as (lv := .atom _) rfl) rfl ?_ | refine LOps.pure (Pure.fieldH rfl) rfl ?_ | refine LOps.pure (Pure.loadH (c := .atom _) rfl (List.Mem.head _) rfl) rfl ?_ | refine LOps.pure (Pure.eql rfl rfl) rfl ?_
  refine LCode.cond rfl (fun h1 => ?_) (fun h1 => ?_)
  ·have e1 : kind = 1 := of_decide_eq_true h1
   rw [fLine, if_pos e1] at hm hta
   simp only [List.length_append, List.length_cons, List.length_nil] at hm
   refine LCode.draw (m := 11) rfl [(b8, .cells 80 [int .i64 kind, str name, .list (index.map encE), .list (value.map encE), .list (encThen (.mk kind name index value thn els)), .list (encElse (.mk kind name index value thn els))])] ?_
   refine LAny.tk 0 rfl rfl (Pure.mv (lv := .atom _) rfl) ?_
   refine LAny.tk 1 rfl rfl (Pure.fieldH rfl) ?_
   refine LAny.tk 2 rfl rfl (Pure.loadH (c := .atom _) rfl (List.Mem.head _) rfl) ?_
   refine LAny.tk 3 rfl rfl (Pure.sadd rfl rfl (by first | omega | (simp only [List.length_append, List.length_cons, List.length_nil]; omega))) ?_
   refine LAny.tk 4 rfl rfl (Pure.mv (lv := .atom _) rfl) ?_
   refine LAny.tk 5 rfl rfl (Pure.fieldH rfl) ?_
   refine LAny.tk 6 rfl rfl (Pure.loadH (c := .list _) rfl (List.Mem.head _) rfl) ?_
   refine LAny.late ?_ (HSub.pick Pick.here (HSub.nil _))
   refine LLate.o 7 (LLateOp.step (H1 := []) rfl (.inl rfl) rfl (List.Perm.refl _) (HSub.pick Pick.here (HSub.nil _)) (S.fnV [_] rfl rfl (one_ok hG value hk2 (by omega) (by omega)) ?_))
   refine LLate.o 8 (LLateOp.pureH rfl rfl (Pure.sadd rfl rfl (by simp only [List.length_append, List.length_cons, List.length_nil]; omega)) ?_)
   refine LLate.o 9 (LLateOp.pureH rfl rfl (Pure.sadd rfl rfl (by simp only [List.length_append, List.length_cons, List.length_nil]; omega)) ?_)
   refine LLate.o 10 (LLateOp.step (H1 := H2) (F := [(b8, .cells 80 [int .i64 kind, str name, .list (index.map encE), .list (value.map encE), .list (encThen (.mk kind name index value thn els)), .list (encElse (.mk kind name index value thn els))])]) rfl (.inl rfl) rfl (List.perm_append_singleton _ _).symm (HSub.refl _) (LStep.call (args := [_, _]) (writeString_spec b _ (name ++ [32, 61, 32] ++ fOne value ++ [59, 10]) H2 hB2 (by simp only [List.length_append, List.length_cons, List.length_nil]; omega)) (fun v3 H3 h3 => ?_) (fun ch H3 h3 => ?_)))
   rotate_left
   ·obtain ⟨⟨x, hx⟩, _⟩ := h3
    cases hx
   obtain ⟨_, hB3⟩ := h3
   refine LLate.done (by kernel_rfl) ?_
   repeat first | refine QThen.normal ?_ | refine QBlock.normal ?_
   repeat first | refine LOps.nil ?_ | refine LCode.region ?_ | refine QThen.normal ?_ | refine LOps.pure (Pure.mv (lv := .atom _) rfl) rfl ?_ | refine LOps.pure (Pure.add rfl rfl (by omega)) rfl ?_
   exact ⟨_, _, _, by omega, ⟨i + 1, by omega, rfl, rfl, by rw [hta]; simpa only [List.append_assoc] using hB3⟩, ⟨rfl, rfl, rfl, rfl, rfl, int_eq (by omega), trivial⟩, ⟨_, List.Perm.refl _⟩, hj⟩
  have e1 : ¬ kind = 1 := of_decide_eq_false h1
  repeat first | refine LOps.nil ?_ | refine LCode.seq ?_ | refine LCode.region ?_ | refine QThen.normal ?_ | refine LOps.pure (Pure.as (lv := .atom _) rfl) rfl ?_ | refine LOps.pure (Pure.eql rfl rfl) rfl ?_
  refine LCode.cond rfl (fun h2 => ?_) (fun h2 => ?_)
  ·have e2 : kind = 2 := of_decide_eq_true h2
   rw [fLine, if_neg e1, if_pos e2] at hm hta
   simp only [List.length_append, List.length_cons, List.length_nil] at hm
   refine LCode.draw (m := 17) rfl [(b8, .cells 80 [int .i64 kind, str name, .list (index.map encE), .list (value.map encE), .list (encThen (.mk kind name index value thn els)), .list (encElse (.mk kind name index value thn els))])] ?_
   refine LAny.tk 0 rfl rfl (Pure.mv (lv := .atom _) rfl) ?_
   refine LAny.tk 1 rfl rfl (Pure.fieldH rfl) ?_
   refine LAny.tk 2 rfl rfl (Pure.loadH (c := .atom _) rfl (List.Mem.head _) rfl) ?_
   refine LAny.tk 3 rfl rfl (Pure.sadd rfl rfl (by first | omega | (simp only [List.length_append, List.length_cons, List.length_nil]; omega))) ?_
   refine LAny.tk 4 rfl rfl (Pure.mv (lv := .atom _) rfl) ?_
   refine LAny.tk 5 rfl rfl (Pure.fieldH rfl) ?_
   refine LAny.tk 6 rfl rfl (Pure.loadH (c := .list _) rfl (List.Mem.head _) rfl) ?_
   refine LAny.tk 10 rfl rfl (Pure.mv (lv := .atom _) rfl) ?_
   refine LAny.tk 11 rfl rfl (Pure.fieldH rfl) ?_
   refine LAny.tk 12 rfl rfl (Pure.loadH (c := .list _) rfl (List.Mem.head _) rfl) ?_
   refine LAny.late ?_ (HSub.pick Pick.here (HSub.nil _))
   refine LLate.o 7 (LLateOp.step (H1 := []) rfl (.inl rfl) rfl (List.Perm.refl _) (HSub.pick Pick.here (HSub.nil _)) (S.fnV [_] rfl rfl (one_ok hG index hk1 (by omega) (by omega)) ?_))
   refine LLate.any [(b8, .cells 80 [int .i64 kind, str name, .list (index.map encE), .list (value.map encE), .list (encThen (.mk kind name index value thn els)), .list (encElse (.mk kind name index value thn els))])] (fun _ h => h) ?_
   refine LAny.tk 8 rfl rfl (Pure.sadd rfl rfl (by first | omega | (simp only [List.length_append, List.length_cons, List.length_nil]; omega))) ?_
   refine LAny.tk 9 rfl rfl (Pure.sadd rfl rfl (by first | omega | (simp only [List.length_append, List.length_cons, List.length_nil]; omega))) ?_
   refine LAny.late ?_ (HSub.pick Pick.here (HSub.nil _))
   refine LLate.o 13 (LLateOp.step (H1 := []) rfl (.inl rfl) rfl (List.Perm.refl _) (HSub.pick Pick.here (HSub.nil _)) (S.fnV [_] rfl rfl (one_ok hG value hk2 (by omega) (by omega)) ?_))
   refine LLate.o 14 (LLateOp.pureH rfl rfl (Pure.sadd rfl rfl (by simp only [List.length_append, List.length_cons, List.length_nil]; omega)) ?_)
   refine LLate.o 15 (LLateOp.pureH rfl rfl (Pure.sadd rfl rfl (by simp only [List.length_append, List.length_cons, List.length_nil]; omega)) ?_)
   refine LLate.o 16 (LLateOp.step (H1 := H2) (F := [(b8, .cells 80 [int .i64 kind, str name, .list (index.map encE), .list (value.map encE), .list (encThen (.mk kind name index value thn els)), .list (encElse (.mk kind name index value thn els))])]) rfl (.inl rfl) rfl (List.perm_append_singleton _ _).symm (HSub.refl _) (LStep.call (args := [_, _]) (writeString_spec b _ (name ++ [91] ++ fOne index ++ [93, 32, 61, 32] ++ fOne value ++ [59, 10]) H2 hB2 (by simp only [List.length_append, List.length_cons, List.length_nil]; omega)) (fun v3 H3 h3 => ?_) (fun ch H3 h3 => ?_)))
   rotate_left
   ·obtain ⟨⟨x, hx⟩, _⟩ := h3
    cases hx
   obtain ⟨_, hB3⟩ := h3
   refine LLate.done (by kernel_rfl) ?_
   repeat first | refine QThen.normal ?_ | refine QBlock.normal ?_
   repeat first | refine LOps.nil ?_ | refine LCode.region ?_ | refine QThen.normal ?_ | refine LOps.pure (Pure.mv (lv := .atom _) rfl) rfl ?_ | refine LOps.pure (Pure.add rfl rfl (by omega)) rfl ?_
   exact ⟨_, _, _, by omega, ⟨i + 1, by omega, rfl, rfl, by rw [hta]; simpa only [List.append_assoc] using hB3⟩, ⟨rfl, rfl, rfl, rfl, rfl, int_eq (by omega), trivial⟩, ⟨_, List.Perm.refl _⟩, hj⟩
  have e2 : ¬ kind = 2 := of_decide_eq_false h2
  repeat first | refine LOps.nil ?_ | refine LCode.seq ?_ | refine LCode.region ?_ | refine QThen.normal ?_ | refine LOps.pure (Pure.as (lv := .atom _) rfl) rfl ?_ | refine LOps.pure (Pure.eql rfl rfl) rfl ?_
  refine LCode.cond rfl (fun h3 => ?_) (fun h3 => ?_)
  ·have e3 : kind = 6 := of_decide_eq_true h3
   rw [fLine, if_neg e1, if_neg e2, if_pos e3] at hm hta
   simp only [List.length_append, List.length_cons, List.length_nil] at hm
   repeat first | refine LCode.region ?_ | refine LOps.pure (Pure.mv (lv := .atom _) rfl) rfl ?_ | refine LOps.pure (Pure.fieldH rfl) rfl ?_ | refine LOps.pure (Pure.loadH (c := .list _) rfl (List.Mem.head _) rfl) rfl ?_
   refine LOps.step (S.fnV [_] rfl rfl (one_ok hG value hk2 (by omega) (by omega)) ?_) rfl
   repeat first | refine LOps.pure (Pure.sadd rfl rfl (by first | omega | (simp only [List.length_append, List.length_cons, List.length_nil]; omega))) rfl ?_
   refine LOps.step (S.callBH [_, _] rfl (writeString_spec b _ (fOne value ++ [59, 10]) H2 hB2 (by simp only [List.length_append, List.length_cons, List.length_nil]; omega)) fun v3 H3 hB3 => ?_) rfl
   repeat first | refine LOps.nil ?_ | refine LCode.region ?_ | refine QThen.normal ?_ | refine QBlock.normal ?_ | refine LOps.pure (Pure.mv (lv := .atom _) rfl) rfl ?_ | refine LOps.pure (Pure.add rfl rfl (by omega)) rfl ?_
   exact ⟨_, _, _, by omega, ⟨i + 1, by omega, rfl, rfl, by rw [hta]; simpa only [List.append_assoc] using hB3⟩, ⟨rfl, rfl, rfl, rfl, rfl, int_eq (by omega), trivial⟩, HSub.drop (HSub.refl _), hj⟩
  have e3 : ¬ kind = 6 := of_decide_eq_false h3
  repeat first | refine LOps.nil ?_ | refine LCode.seq ?_ | refine LCode.region ?_ | refine QThen.normal ?_ | refine LOps.pure (Pure.as (lv := .atom _) rfl) rfl ?_ | refine LOps.pure (Pure.eql rfl rfl) rfl ?_
  refine LCode.cond rfl (fun h4 => ?_) (fun h4 => ?_)
  ·have e4 : kind = 5 := of_decide_eq_true h4
   rw [fLine, if_neg e1, if_neg e2, if_neg e3, if_pos e4] at hm hta
   simp only [List.length_append, List.length_cons, List.length_nil] at hm
   repeat first | refine LCode.region ?_ | refine LOps.pure (Pure.mv (lv := .atom _) rfl) rfl ?_ | refine LOps.pure (Pure.fieldH rfl) rfl ?_ | refine LOps.pure (Pure.loadH (c := .list _) rfl (List.Mem.head _) rfl) rfl ?_
   refine LOps.step (S.fnV [_] rfl rfl (one_ok hG value hk2 (by omega) (by omega)) ?_) rfl
   repeat first | refine LOps.pure (Pure.sadd rfl rfl (by first | omega | (simp only [List.length_append, List.length_cons, List.length_nil]; omega))) rfl ?_
   refine LOps.step (S.callBH [_, _] rfl (writeString_spec b _ ([114, 101, 116, 117, 114, 110, 32] ++ fOne value ++ [59, 10]) H2 hB2 (by simp only [List.length_append, List.length_cons, List.length_nil]; omega)) fun v3 H3 hB3 => ?_) rfl
   repeat first | refine LOps.nil ?_ | refine LCode.region ?_ | refine QThen.normal ?_ | refine QBlock.normal ?_ | refine LOps.pure (Pure.mv (lv := .atom _) rfl) rfl ?_ | refine LOps.pure (Pure.add rfl rfl (by omega)) rfl ?_
   exact ⟨_, _, _, by omega, ⟨i + 1, by omega, rfl, rfl, by rw [hta]; simpa only [List.append_assoc] using hB3⟩, ⟨rfl, rfl, rfl, rfl, rfl, int_eq (by omega), trivial⟩, HSub.drop (HSub.refl _), hj⟩
  have e4 : ¬ kind = 5 := of_decide_eq_false h4
  repeat first | refine LOps.nil ?_ | refine LCode.seq ?_ | refine LCode.region ?_ | refine QThen.normal ?_ | refine LOps.pure (Pure.as (lv := .atom _) rfl) rfl ?_ | refine LOps.pure (Pure.eql rfl rfl) rfl ?_
  refine LCode.cond rfl (fun h5 => ?_) (fun h5 => ?_)
  ·have e5 : kind = 7 := of_decide_eq_true h5
   rw [fLine, if_neg e1, if_neg e2, if_neg e3, if_neg e4, if_pos e5] at hm hta
   simp only [List.length_append, List.length_cons, List.length_nil] at hm
   repeat first | refine LCode.region ?_ | refine LOps.pure (Pure.mv (lv := .atom _) rfl) rfl ?_
   refine LOps.step (S.callBH [_, _] rfl (writeString_spec b _ ([104, 97, 108, 116, 59, 10]) H2 hB2 (by simp only [List.length_append, List.length_cons, List.length_nil]; omega)) fun v3 H3 hB3 => ?_) rfl
   repeat first | refine LOps.nil ?_ | refine LCode.region ?_ | refine QThen.normal ?_ | refine QBlock.normal ?_ | refine LOps.pure (Pure.mv (lv := .atom _) rfl) rfl ?_ | refine LOps.pure (Pure.add rfl rfl (by omega)) rfl ?_
   exact ⟨_, _, _, by omega, ⟨i + 1, by omega, rfl, rfl, by rw [hta]; simpa only [List.append_assoc] using hB3⟩, ⟨rfl, rfl, rfl, rfl, rfl, int_eq (by omega), trivial⟩, HSub.drop (HSub.refl _), hj⟩
  have e5 : ¬ kind = 7 := of_decide_eq_false h5
  repeat first | refine LOps.nil ?_ | refine LCode.seq ?_ | refine LCode.region ?_ | refine QThen.normal ?_ | refine LOps.pure (Pure.as (lv := .atom _) rfl) rfl ?_ | refine LOps.pure (Pure.eql rfl rfl) rfl ?_
  refine LCode.cut [(0, ptr b 0), (2, str ind), (6, .atom (.func (.func 86) #[] #[])), (8, ptr b8 0), (10, .list (l.map encS)), (11, int .i64 l.length), (12, int .i64 i), (76, bool (decide (kind = 3 ∨ kind = 4)))] ?_ (fun j2 hj2 => ?_)
  ·refine LCode.cond rfl (fun h6 => ?_) (fun h6 => ?_)
   ·have e6 : kind = 3 := of_decide_eq_true h6
    repeat first | refine LCode.skip ?_ | refine QThen.normal ?_
    exact ⟨⟨rfl, rfl, rfl, rfl, rfl, rfl, rfl, bool_eq (by simp [e6]; rfl), trivial⟩, rfl, rfl⟩
   ·have e6 : ¬ kind = 3 := of_decide_eq_false h6
    repeat first | refine LOps.nil ?_ | refine LCode.region ?_ | refine QThen.normal ?_ | refine LOps.pure (Pure.as (lv := .atom _) rfl) rfl ?_ | refine LOps.pure (Pure.eql rfl rfl) rfl ?_
    exact ⟨⟨rfl, rfl, rfl, rfl, rfl, rfl, rfl, bool_eq (by simp [e6]; exact Iff.rfl), trivial⟩, rfl, rfl⟩
  refine LCode.cond rfl (fun h6 => ?_) (fun h6 => ?_)
  ·have e6 : kind = 3 ∨ kind = 4 := of_decide_eq_true h6
   rw [fLine, if_neg e1, if_neg e2, if_neg e3, if_neg e4, if_neg e5, if_pos e6] at hm hta
   obtain ⟨word, hw⟩ : ∃ w : List UInt8, w = (if kind = 4 then [119, 104, 105, 108, 101, 32] else [105, 102, 32]) := ⟨_, rfl⟩
   rw [← hw] at hm hta
   simp only [List.length_append, List.length_cons, List.length_nil] at hm
   repeat first | refine LOps.nil ?_ | refine LCode.seq ?_ | refine LCode.region ?_ | refine QThen.normal ?_ | refine LOps.pure (Pure.as (lv := .atom _) rfl) rfl ?_ | refine LOps.pure (Pure.fieldH rfl) rfl ?_ | refine LOps.pure (Pure.loadH (c := .atom _) rfl (List.Mem.head _) rfl) rfl ?_ | refine LOps.pure (Pure.eql rfl rfl) rfl ?_
   refine LCode.cut [(0, ptr b 0), (2, str ind), (6, .atom (.func (.func 86) #[] #[])), (8, ptr b8 0), (9, str word), (10, .list (l.map encS)), (11, int .i64 l.length), (12, int .i64 i)] ?_ (fun j3 hj3 => ?_)
   ·refine LCode.cond rfl (fun h7 => ?_) (fun h7 => ?_)
    ·have e7 : kind = 4 := of_decide_eq_true h7
     repeat first | refine LOps.nil ?_ | refine LCode.region ?_ | refine QThen.normal ?_ | refine LOps.pure (Pure.as (lv := .atom _) rfl) rfl ?_
     exact ⟨⟨rfl, rfl, rfl, rfl, str_eq (by rw [hw, if_pos e7]), rfl, rfl, rfl, trivial⟩, rfl, rfl⟩
    ·have e7 : ¬ kind = 4 := of_decide_eq_false h7
     repeat first | refine LCode.skip ?_ | refine QThen.normal ?_
     exact ⟨⟨rfl, rfl, rfl, rfl, str_eq (by rw [hw, if_neg e7]), rfl, rfl, rfl, trivial⟩, rfl, rfl⟩
   repeat first | refine LCode.seq ?_ | refine LCode.region ?_ | refine LOps.pure (Pure.mv (lv := .atom _) rfl) rfl ?_ | refine LOps.pure (Pure.fieldH rfl) rfl ?_ | refine LOps.pure (Pure.loadH (c := .list _) rfl (List.Mem.head _) rfl) rfl ?_
   refine LOps.step (S.fnV [_] rfl rfl (one_ok hG value hk2 (by omega) (by omega)) ?_) rfl
   repeat first | refine LOps.pure (Pure.sadd rfl rfl (by first | omega | (simp only [List.length_append, List.length_cons, List.length_nil]; omega))) rfl ?_
   refine LOps.step (S.callBH [_, _] rfl (writeString_spec b _ (word ++ fOne value ++ [32, 123, 10]) H2 hB2 (by simp only [List.length_append, List.length_cons, List.length_nil]; omega)) fun v3 H3 hB3 => ?_) rfl
   repeat first | refine LOps.nil ?_ | refine LCode.seq ?_ | refine LCode.region ?_ | refine QThen.normal ?_ | refine LOps.pure (Pure.mv (lv := .atom _) rfl) rfl ?_ | refine LOps.pure (Pure.fieldH rfl) rfl ?_ | refine LOps.pure (Pure.sadd rfl rfl (by first | omega | (simp only [List.length_append, List.length_cons, List.length_nil]; omega))) rfl ?_ | refine LOps.pure (Pure.loadH (c := .list _) rfl (List.Mem.head _) rfl) rfl ?_
   refine LOps.step (S.callBH [_, _, _] (show _ = [ptr b 0, .list (encThen (.mk kind name index value thn els)), str (ind2 ind)] from rfl) (by
    rw [encThen_eq]
    exact ih thn (ind2 ind) _ b H3 (by omega) hk3 (by simp only [List.length_append, List.length_cons, List.length_nil]; omega) hB3) fun v4 H4 hB4 => ?_) rfl
   repeat first | refine LOps.nil ?_ | refine LCode.seq ?_ | refine LCode.region ?_ | refine QThen.normal ?_ | refine LOps.pure (Pure.llen rfl) rfl ?_ | refine LOps.pure (Pure.fieldH rfl) rfl ?_ | refine LOps.pure (Pure.loadH (c := .list _) rfl (List.Mem.head _) rfl) rfl ?_ | refine LOps.pure (Pure.gtr rfl rfl) rfl ?_
   have hel : (encElse (.mk kind name index value thn els)).length = els.length := by
    rw [encElse_eq, List.length_map]
    rfl
   refine LCode.cond rfl (fun h8 => ?_) (fun h8 => ?_)
   ·have hne : els.isEmpty = false := by
     have := of_decide_eq_true h8
     cases els with
     | nil => simp only [List.length_nil] at hel; omega
     | cons _ _ => rfl
    rw [hne, if_neg (by decide)] at hm hta
    simp only [List.length_append, List.length_cons, List.length_nil] at hm
    repeat first | refine LCode.seq ?_ | refine LCode.region ?_ | refine LOps.pure (Pure.mv (lv := .atom _) rfl) rfl ?_ | refine LOps.pure (Pure.sadd rfl rfl (by first | omega | (simp only [List.length_append, List.length_cons, List.length_nil]; omega))) rfl ?_
    refine LOps.step (S.callBH [_, _] rfl (writeString_spec b _ (ind ++ [125, 32, 101, 108, 115, 101, 32, 123, 10]) H4 hB4 (by simp only [List.length_append, List.length_cons, List.length_nil]; omega)) fun v5 H5 hB5 => ?_) rfl
    repeat first | refine LOps.nil ?_ | refine LCode.region ?_ | refine QThen.normal ?_ | refine LOps.pure (Pure.mv (lv := .atom _) rfl) rfl ?_ | refine LOps.pure (Pure.fieldH rfl) rfl ?_ | refine LOps.pure (Pure.sadd rfl rfl (by first | omega | (simp only [List.length_append, List.length_cons, List.length_nil]; omega))) rfl ?_ | refine LOps.pure (Pure.loadH (c := .list _) rfl (List.Mem.head _) rfl) rfl ?_
    refine LOps.step (S.callBH [_, _, _] (show _ = [ptr b 0, .list (encElse (.mk kind name index value thn els)), str (ind2 ind)] from rfl) (by
     rw [encElse_eq]
     exact ih els (ind2 ind) _ b H5 (by omega) hk4 (by simp only [List.length_append, List.length_cons, List.length_nil]; omega) hB5) fun v6 H6 hB6 => ?_) rfl
    repeat first | refine LOps.nil ?_ | refine LCode.region ?_ | refine QThen.normal ?_ | refine LOps.pure (Pure.mv (lv := .atom _) rfl) rfl ?_ | refine LOps.pure (Pure.sadd rfl rfl (by first | omega | (simp only [List.length_append, List.length_cons, List.length_nil]; omega))) rfl ?_
    refine LOps.step (S.callBH [_, _] rfl (writeString_spec b _ (ind ++ [125, 10]) H6 hB6 (by simp only [List.length_append, List.length_cons, List.length_nil]; omega)) fun v7 H7 hB7 => ?_) rfl
    repeat first | refine LOps.nil ?_ | refine LCode.region ?_ | refine QThen.normal ?_ | refine QBlock.normal ?_ | refine LOps.pure (Pure.mv (lv := .atom _) rfl) rfl ?_ | refine LOps.pure (Pure.add rfl rfl (by omega)) rfl ?_
    exact ⟨_, _, _, by omega, ⟨i + 1, by omega, rfl, rfl, by rw [hta]; simpa only [List.append_assoc] using hB7⟩, ⟨rfl, rfl, rfl, rfl, rfl, int_eq (by omega), trivial⟩, HSub.drop (HSub.refl _), hj3.trans (hj2.trans hj)⟩
   ·have hne : els.isEmpty = true := by
     have := of_decide_eq_false h8
     cases els with
     | nil => rfl
     | cons _ _ => simp only [List.length_cons] at hel; omega
    rw [hne, if_pos rfl] at hm hta
    simp only [List.length_append, List.length_cons, List.length_nil] at hm
    repeat first | refine LCode.region ?_ | refine LCode.skip ?_ | refine QThen.normal ?_ | refine LOps.pure (Pure.mv (lv := .atom _) rfl) rfl ?_ | refine LOps.pure (Pure.sadd rfl rfl (by first | omega | (simp only [List.length_append, List.length_cons, List.length_nil]; omega))) rfl ?_
    refine LOps.step (S.callBH [_, _] rfl (writeString_spec b _ (ind ++ [125, 10]) H4 hB4 (by simp only [List.length_append, List.length_cons, List.length_nil]; omega)) fun v7 H7 hB7 => ?_) rfl
    repeat first | refine LOps.nil ?_ | refine LCode.region ?_ | refine QThen.normal ?_ | refine QBlock.normal ?_ | refine LOps.pure (Pure.mv (lv := .atom _) rfl) rfl ?_ | refine LOps.pure (Pure.add rfl rfl (by omega)) rfl ?_
    exact ⟨_, _, _, by omega, ⟨i + 1, by omega, rfl, rfl, by rw [hta]; simpa only [List.append_assoc, List.append_nil, List.nil_append] using hB7⟩, ⟨rfl, rfl, rfl, rfl, rfl, int_eq (by omega), trivial⟩, HSub.drop (HSub.refl _), hj3.trans (hj2.trans hj)⟩
  ·have e6 : ¬ (kind = 3 ∨ kind = 4) := of_decide_eq_false h6
   rw [fLine, if_neg e1, if_neg e2, if_neg e3, if_neg e4, if_neg e5, if_neg e6] at hm hta
   repeat first | refine LOps.nil ?_ | refine LCode.region ?_ | refine LCode.skip ?_ | refine QThen.normal ?_ | refine QBlock.normal ?_ | refine LOps.pure (Pure.mv (lv := .atom _) rfl) rfl ?_ | refine LOps.pure (Pure.add rfl rfl (by omega)) rfl ?_
   exact ⟨_, _, _, by omega, ⟨i + 1, by omega, rfl, rfl, by rw [hta]; simpa only [List.append_assoc, List.append_nil] using hB2⟩, ⟨rfl, rfl, rfl, rfl, rfl, int_eq (by omega), trivial⟩, HSub.drop (HSub.refl _), hj2.trans hj⟩
 ·have hi' : i = l.length := by have := of_decide_eq_false hc; omega
  subst hi'
  rw [List.take_length] at hB
  repeat first | refine LCode.exit ?_ | refine QThen.exit ?_ | refine QBlock.hit ?_
  exact RetPost.normal hj AllRes.nil (HSub.refl _) ⟨⟨_, rfl⟩, hB⟩
theorem lines_spec (hG : GW B0 w0) : ∀ (n : Nat) (l : List Sm) (ind acc : List UInt8) (b : Nat) (H : Heap), nSms l ≤ n → n ≤ 1000000000 → okSs l → acc.length + (fSs ind l).length ≤ 1000000000 → BH b acc H →
   LCalls (KC B0 w0) 52 [ptr b 0, .list (l.map encS), str ind] H (fun r H' => (∃ x, r = .ret x) ∧ BH b (acc ++ fSs ind l) H') := by
 intro n
 induction n with
 | zero => exact fun l ind acc b H hn hn2 hk hl hB => lines_step hG 0 (fun _ _ _ _ _ h => by omega) l ind acc b H hn hn2 hk hl hB
 | succ n ih => exact fun l ind acc b H hn hn2 hk hl hB => lines_step hG (n + 1) (fun l ind acc b H h hk hl hB => ih l ind acc b H (by omega) (by omega) hk hl hB) l ind acc b H hn hn2 hk hl hB
end
end Go.Proofs.YtfodkbchknknjaaGreatDoor
namespace Go.Stele
open Go.Lib
theorem pu_append (M : Nat) : ∀ (l r : List UInt8) (acc u : Nat), parseUintM M acc l = .ok u → parseUintM M acc (l ++ r) = parseUintM M u r
 | [], r, acc, u, h => by
  rw [parseUintM] at h
  cases h
  rfl
 | c :: l, r, acc, u, h => by
  rw [parseUintM] at h
  rw [List.cons_append, parseUintM]
  split at h
  ·rename_i hc
   rw [if_pos hc]
   split at h
   ·cases h
   ·rename_i h1
    rw [if_neg h1]
    split at h
    ·cases h
    ·rename_i h2
     rw [if_neg h2]
     exact pu_append M l r _ u h
  ·cases h
theorem digit_toNat {d : Nat} (h : d < 10) : (UInt8.ofNat (48 + d)).toNat = 48 + d := by
 rw [UInt8.toNat_ofNat']
 omega
theorem pu_dec (M : Nat) (hM : M ≤ 4294967295) (u : Nat) (hu : u ≤ M) : parseUintM M 0 (decDigits u) = .ok u := by
 induction u using Nat.strongRecOn with
 | _ u ih =>
  have one : ∀ a d, d < 10 → a * 10 + d ≤ M → parseUintM M a [UInt8.ofNat (48 + d)] = .ok (a * 10 + d) := fun a d hd ha => by
   rw [parseUintM, digit_toNat hd, if_pos (by omega), if_neg (by omega), if_neg (by omega), parseUintM]
   congr 1
   omega
  rw [decDigits]
  split
  ·have := one 0 u (by assumption) (by omega)
   simpa using this
  ·rw [pu_append M _ _ 0 (u / 10) (ih (u / 10) (by omega) (by omega)), one _ _ (by omega) (by omega)]
   congr 1
   omega
theorem decDigits_ne (u : Nat) : decDigits u ≠ [] := by
 rw [decDigits]
 split <;> simp
theorem pu32_dec (u : Nat) (hu : u < 4294967296) : parseUintB 32 (decDigits u) = .ok u := by
 rw [parseUintB, if_neg (decDigits_ne u)]
 exact pu_dec _ (by decide) u (by omega)
theorem nDigits_le : ∀ (k u : Nat), u < 10 ^ (k + 1) → nDigits u ≤ k + 1
 | 0, u, h => by rw [nDigits_small (by simpa using h)]; omega
 | k + 1, u, h => by
  by_cases hu : u < 10
  ·rw [nDigits_small hu]; omega
  ·rw [nDigits_big hu]
   have := nDigits_le k (u / 10) (by rw [Nat.pow_succ] at h; omega)
   omega
theorem dec_len {u : Nat} (hu : u < 4294967296) : (decDigits u).length ≤ 10 := by
 rw [decDigits_length]
 exact nDigits_le 9 u (by omega)
theorem pu32_lt {l : List UInt8} {u : Nat} (h : parseUintB 32 l = .ok u) : u < 4294967296 := by
 have key : ∀ (l : List UInt8) (acc u : Nat), acc ≤ 4294967295 → parseUintM 4294967295 acc l = .ok u → u ≤ 4294967295 := by
  intro l
  induction l with
  | nil => intro acc u ha h; rw [parseUintM] at h; cases h; exact ha
  | cons c l ih =>
   intro acc u ha h
   rw [parseUintM] at h
   split at h
   ·split at h
    ·cases h
    ·split at h
     ·cases h
     ·exact ih _ _ (by omega) h
   ·cases h
 rw [parseUintB] at h
 split at h
 ·cases h
 ·have := key _ _ _ (by omega) h
  omega
/-- What a token is. -/
def TokOk (t : Tok) : Prop := t.text.length ≤ 100 ∧ (t.kind = 1 → ∃ u, u < 4294967296 ∧ parseUintB 32 t.text = .ok u ∧ t.text = decDigits u)
theorem lexToken_ok (s : List UInt8) (h : (lexToken s).2.2 = 0) : TokOk (lexToken s).1 := by
 match s with
 | [] => simp [lexToken, tokErr] at h
 | c :: r =>
  simp only [lexToken] at h ⊢
  split at h <;> rename_i hc
  ·rw [if_pos hc]
   unfold lexNumber at h ⊢
   split at h
   ·simp [tokErr] at h
   ·rename_i hw
    rw [if_neg hw]
    split at h
    ·rename_i u hu
     have hlt := pu32_lt hu
     exact ⟨by have := dec_len hlt; simp only; omega, fun _ => ⟨u, hlt, pu32_dec u hlt, rfl⟩⟩
    ·simp [tokErr] at h
  ·rw [if_neg hc]
   split at h <;> rename_i hl
   ·rw [if_pos hl]
    unfold lexName at h ⊢
    split at h
    ·simp [tokErr] at h
    ·rename_i hw
     rw [if_neg hw]
     refine ⟨by simp only; omega, fun hk => ?_⟩
     simp only at hk
     split at hk <;> cases hk
   ·rw [if_neg hl]
    split at h <;> rename_i hq
    ·rw [if_pos hq]
     unfold lexLiteral at h ⊢
     split at h
     ·split at h
      ·simp [tokErr] at h
      ·rename_i hx
       rename_i heq
       rename_i b _ _
       rw [if_neg hx]
       have hb : b.toNat < 4294967296 := Nat.lt_trans (UInt8.toNat_lt b) (by decide)
       exact ⟨by have := dec_len hb; simp only; omega, fun _ => ⟨b.toNat, hb, pu32_dec _ hb, rfl⟩⟩
     ·simp [tokErr] at h
    ·rw [if_neg hq]
     unfold lexSign at h ⊢
     split at h
     ·rename_i x hx
      have h2 := List.mem_of_find?_eq_some hx
      have : ∀ x ∈ signs, x.length ≤ 100 := by decide
      exact ⟨this x h2, fun hk => by cases hk⟩
     ·simp [tokErr] at h
theorem map_ok {A B : Type} {f : A → B} {r : Except (Int × Int) A} {b : B} (h : r.map f = .ok b) : ∃ a, r = .ok a ∧ f a = b := by
 cases r with
 | ok a => exact ⟨a, rfl, by injection h⟩
 | error e => cases h
theorem lexP_ok : ∀ (f : Nat) (s : List UInt8) (line : Int) (T : List Tok), lexP f s line = .ok T → T.length ≤ f ∧ ∀ t ∈ T, TokOk t
 | 0, s, line, T, h => by
  rw [lexP] at h
  cases h
  exact ⟨Nat.le_refl _, by simp⟩
 | f + 1, s, line, T, h => by
  rw [lexP] at h
  split at h
  ·cases h
   exact ⟨Nat.zero_le _, by simp⟩
  ·split at h
   ·split at h
    ·cases h
    ·rename_i he
     obtain ⟨T', h1, rfl⟩ := map_ok h
     obtain ⟨k1, k2⟩ := lexP_ok f _ _ _ h1
     refine ⟨by rw [List.length_cons]; omega, fun t ht => ?_⟩
     rcases List.mem_cons.1 ht with rfl | ht
     ·exact lexToken_ok s (by omega)
     ·exact k2 t ht
   ·obtain ⟨k1, k2⟩ := lexP_ok f _ _ _ h
    exact ⟨by omega, k2⟩
end Go.Stele
namespace Go.Stele
open Go.Lib
/-- A token's text is read as that token. -/
def Again (t : Tok) : Prop := t.text.length ≤ 24 ∧ t.text ≠ [] ∧ skipLen t.text = 0 ∧ (10 : UInt8) ∉ t.text ∧ lexToken t.text = (⟨t.kind, t.text, 0⟩, t.text.length, 0)
theorem skip_head {c : UInt8} {r : List UInt8} (hw : isWhite c = false) (h47 : c ≠ 47) : skipLen (c :: r) = 0 := by
 have h : ([47, 47] : List UInt8).isPrefixOf (c :: r) = false := by
  cases h : ([47, 47] : List UInt8).isPrefixOf (c :: r) with
  | false => rfl
  | true =>
   simp only [List.isPrefixOf, Bool.and_eq_true, beq_iff_eq] at h
   exact absurd h.1.symm h47
 unfold skipLen
 rw [h, if_neg (by decide), List.takeWhile_cons_of_neg (by rw [hw]; decide)]
 rfl
theorem digit_of {d : Nat} (h : d < 10) : isDigit (UInt8.ofNat (48 + d)) = true := by
 have h1 : (UInt8.ofNat (48 + d)).toNat = 48 + d := digit_toNat h
 unfold isDigit cv
 rw [h1]
 simp
 omega
theorem dec_digits (u : Nat) : ∀ c ∈ decDigits u, isDigit c = true := by
 induction u using Nat.strongRecOn with
 | ind u ih =>
  intro c hc
  by_cases h : u < 10
  ·rw [decDigits_one h] at hc
   rw [List.mem_singleton.1 hc]
   exact digit_of h
  ·rw [decDigits, dif_neg h] at hc
   rcases List.mem_append.1 hc with hc | hc
   ·exact ih (u / 10) (by omega) c hc
   ·rw [List.mem_singleton.1 hc]
    exact digit_of (by omega)
theorem digit_white {c : UInt8} (h : isDigit c = true) : isWhite c = false ∧ c ≠ 47 := by
 unfold isDigit at h
 rw [Bool.and_eq_true, decide_eq_true_eq, decide_eq_true_eq] at h
 refine ⟨?_, fun hc => ?_⟩
 ·unfold isWhite
  simp only [Bool.or_eq_false_iff, decide_eq_false_iff_not]
  omega
 ·subst hc
  exact absurd h.1 (by decide)
theorem letter_white {c : UInt8} (h : isLetter c = true) : isWhite c = false ∧ c ≠ 47 := by
 unfold isLetter at h
 rw [Bool.and_eq_true, decide_eq_true_eq, decide_eq_true_eq] at h
 refine ⟨?_, fun hc => ?_⟩
 ·unfold isWhite
  simp only [Bool.or_eq_false_iff, decide_eq_false_iff_not]
  omega
 ·subst hc
  exact absurd h.1 (by decide)
theorem tw_self {p : UInt8 → Bool} : ∀ {s : List UInt8}, (∀ c ∈ s, p c = true) → s.takeWhile p = s
 | [], _ => rfl
 | c :: s, h => by rw [List.takeWhile_cons_of_pos (h c (List.mem_cons_self ..)), tw_self fun d hd => h d (List.mem_cons_of_mem _ hd)]
theorem tw_mem {p : UInt8 → Bool} : ∀ {s : List UInt8} {c : UInt8}, c ∈ s.takeWhile p → p c = true
 | [], _, h => by cases h
 | d :: s, c, h => by
  by_cases hd : p d = true
  ·rw [List.takeWhile_cons_of_pos hd] at h
   rcases List.mem_cons.1 h with rfl | h
   ·exact hd
   ·exact tw_mem h
  ·rw [List.takeWhile_cons_of_neg hd] at h
   cases h
theorem again_dec {u : Nat} (hu : u < 4294967296) (l : Int) : Again ⟨1, decDigits u, l⟩ := by
 have hd := dec_digits u
 have hne := decDigits_ne u
 refine ⟨by have := dec_len hu; simp only; omega, hne, ?_, fun h => by have := hd _ h; exact absurd this (by decide), ?_⟩
 ·show skipLen (decDigits u) = 0
  cases hD : decDigits u with
  | nil => exact absurd hD hne
  | cons c r =>
   have := digit_white (hd c (by rw [hD]; exact List.mem_cons_self ..))
   exact skip_head this.1 this.2
 ·show lexToken (decDigits u) = (⟨1, decDigits u, 0⟩, (decDigits u).length, 0)
  have h1 : lexToken (decDigits u) = lexNumber (decDigits u) := by
   cases hD : decDigits u with
   | nil => exact absurd hD hne
   | cons c r => rw [lexToken, if_pos (hd c (by rw [hD]; exact List.mem_cons_self ..))]
  rw [h1]
  unfold lexNumber
  rw [tw_self hd, pu32_dec u hu, if_neg]
  unfold wordNext
  rw [List.getElem?_eq_none (Nat.le_refl _)]
  decide
theorem again_sign : ∀ x ∈ signs, x.length ≤ 24 ∧ x ≠ [] ∧ skipLen x = 0 ∧ (10 : UInt8) ∉ x ∧ lexToken x = (⟨4, x, 0⟩, x.length, 0) := by decide +kernel
theorem lexToken_again (s : List UInt8) (h : (lexToken s).2.2 = 0) : Again (lexToken s).1 := by
 match s with
 | [] => simp [lexToken, tokErr] at h
 | c :: r =>
  simp only [lexToken] at h ⊢
  split at h <;> rename_i hc
  ·rw [if_pos hc]
   unfold lexNumber at h ⊢
   split at h
   ·simp [tokErr] at h
   ·rename_i hw
    rw [if_neg hw]
    split at h
    ·rename_i u hu
     exact again_dec (pu32_lt hu) 0
    ·simp [tokErr] at h
  ·rw [if_neg hc]
   split at h <;> rename_i hl
   ·rw [if_pos hl]
    unfold lexName at h ⊢
    split at h
    ·simp [tokErr] at h
    ·rename_i hw
     rw [if_neg hw]
     have hin : isInner c = true := by simp [isInner, hl]
     have hW : (c :: r).takeWhile isInner = c :: r.takeWhile isInner := List.takeWhile_cons_of_pos hin
     have hall : ∀ d ∈ (c :: r).takeWhile isInner, isInner d = true := fun d hd => tw_mem hd
     have hww := letter_white hl
     refine ⟨by simp only; omega, by simp only; rw [hW]; simp, by simp only; rw [hW]; exact skip_head hww.1 hww.2, fun h10 => absurd (hall _ h10) (by decide), ?_⟩
     simp only
     have h1 : lexToken ((c :: r).takeWhile isInner) = lexName ((c :: r).takeWhile isInner) := by
      rw [hW, lexToken, if_neg hc, if_pos hl]
     rw [h1]
     unfold lexName
     rw [tw_self hall, if_neg hw]
   ·rw [if_neg hl]
    split at h <;> rename_i hq
    ·rw [if_pos hq]
     unfold lexLiteral at h ⊢
     split at h
     ·split at h
      ·simp [tokErr] at h
      ·rename_i hx
       rename_i heq
       rename_i b _ _
       rw [if_neg hx]
       exact again_dec (Nat.lt_trans (UInt8.toNat_lt b) (by decide)) 0
     ·simp [tokErr] at h
    ·rw [if_neg hq]
     unfold lexSign at h ⊢
     split at h
     ·rename_i x hx
      exact again_sign x (List.mem_of_find?_eq_some hx)
     ·simp [tokErr] at h
theorem lexP_again : ∀ (f : Nat) (s : List UInt8) (line : Int) (T : List Tok), lexP f s line = .ok T → ∀ t ∈ T, Again t
 | 0, s, line, T, h => by
  rw [lexP] at h
  cases h
  simp
 | f + 1, s, line, T, h => by
  rw [lexP] at h
  split at h
  ·cases h
   simp
  ·split at h
   ·split at h
    ·cases h
    ·rename_i he
     obtain ⟨T', h1, rfl⟩ := map_ok h
     have k2 := lexP_again f _ _ _ h1
     intro t ht
     rcases List.mem_cons.1 ht with rfl | ht
     ·exact lexToken_again s (by omega)
     ·exact k2 t ht
   ·exact lexP_again f _ _ _ h
end Go.Stele
namespace Go.Stele
/-- What a step hands back has at most as many nodes as it has read tokens; m stood before. -/
def Nd {A : Type} (f : A → Nat) (m i : Nat) (r : OR A) : Prop := ∀ v i' op', r = some (.ok v i' op') → f v + i ≤ m + i'
theorem nd_bind {A B : Type} {f : A → Nat} {g : B → Nat} {m m' i j : Nat} {r : OR A} {k : A → Nat → Nat → OR B} (hr : Nd f m j r) (hk : ∀ v i' op', r = some (.ok v i' op') → f v + j ≤ m + i' → Nd g m' i (k v i' op')) : Nd g m' i (obind r k) := fun v i' op' h => by
 rcases obind_some h with ⟨u, i1, op1, h1, h2⟩ | ⟨l, e, _, h⟩
 ·exact hk u i1 op1 h1 (hr u i1 op1 h1) v i' op' h2
 ·cases h
theorem nd_ok {A : Type} {f : A → Nat} {m i : Nat} {v : A} {i' op' : Nat} (h : f v + i ≤ m + i') : Nd f m i (some (.ok v i' op')) := fun u j o hu => by cases hu; exact h
theorem nd_none {A : Type} {f : A → Nat} {m i : Nat} : Nd f m i none := fun _ _ _ h => by cases h
theorem nd_word {T : List Tok} {k : Int} {i op : Nat} {s : List UInt8} {i' op' : Nat} (h : some (sWord T k i op) = some (.ok s i' op')) : i' = i + 1 ∧ op' = op := by
 injection h with h
 unfold sWord at h
 split at h
 ·split at h
  ·cases h; exact ⟨rfl, rfl⟩
  ·cases h
 ·cases h
theorem nd_need {T : List Tok} {x : List UInt8} {i op : Nat} {u : Unit} {i' op' : Nat} (h : some (sNeed T x i op) = some (.ok u i' op')) : i' = i + 1 ∧ op' = op := by
 injection h with h
 unfold sNeed at h
 split at h
 ·cases h; exact ⟨rfl, rfl⟩
 ·cases h
theorem nd_begin {T : List Tok} {x : List UInt8} {i op : Nat} {u : Unit} {i' op' : Nat} (h : some (sBegin T x i op) = some (.ok u i' op')) : i' = i + 1 := by
 injection h with h
 exact (sBegin_ok h).1
theorem nd_end {T : List Tok} {x : List UInt8} {i op : Nat} {u : Unit} {i' op' : Nat} (h : some (sEnd T x i op) = some (.ok u i' op')) : i' = i + 1 := by
 injection h with h
 exact (sEnd_ok h).1
theorem nd_any {A B : Type} {g : B → Nat} {m i : Nat} {r : OR A} {k : A → Nat → Nat → OR B} (hk : ∀ v i' op', r = some (.ok v i' op') → Nd g m i (k v i' op')) : Nd g m i (obind r k) := fun v i' op' h => by
 rcases obind_some h with ⟨u, i1, op1, h1, h2⟩ | ⟨l, e, _, h⟩
 ·exact hk u i1 op1 h1 v i' op' h2
 ·cases h
theorem nExs_app (a b : List Ex) : nExs (a ++ b) = nExs a + nExs b := by
 induction a with
 | nil => simp [nExs]
 | cons x a ih => rw [List.cons_append, nExs, nExs, ih]; omega
theorem nSms_app (a b : List Sm) : nSms (a ++ b) = nSms a + nSms b := by
 induction a with
 | nil => simp [nSms]
 | cons x a ih => rw [List.cons_append, nSms, nSms, ih]; omega
theorem nFns_app (a b : List FnD) : nFns (a ++ b) = nFns a + nFns b := by
 induction a with
 | nil => simp [nFns]
 | cons x a ih => rw [List.cons_append, nFns, nFns, ih]; omega
theorem ex_nd (T : List Tok) : ∀ f : Nat, (∀ k i op, Nd nEx 0 i (eLev T f k i op)) ∧ (∀ k e i op, Nd nEx (nEx e) i (eLoop T f k e i op)) ∧ (∀ i op, Nd nEx 0 i (eUnary T f i op)) ∧ (∀ i op, Nd nEx 0 i (ePrim T f i op)) ∧ (∀ i op, Nd nEx 0 i (eIndex T f i op)) ∧
  (∀ i op, Nd (fun v => nExs v + 2) 0 i (eArgs T f i op)) ∧ (∀ acc i op, Nd nExs (nExs acc) i (eArgsLoop T f acc i op))
 | 0 => ⟨fun _ _ _ => by rw [eLev]; exact nd_none, fun _ _ _ _ => by rw [eLoop]; exact nd_none, fun _ _ => by rw [eUnary]; exact nd_none, fun _ _ => by rw [ePrim]; exact nd_none, fun _ _ => by rw [eIndex]; exact nd_none, fun _ _ => by rw [eArgs]; exact nd_none, fun _ _ _ => by rw [eArgsLoop]; exact nd_none⟩
 | f + 1 => by
  obtain ⟨hL, hO, hU, hP, hI, hA, hB⟩ := ex_nd T f
  have neg : ∀ (x nm : List UInt8) (i op : Nat), Nd nEx 0 i (obind (some (sBegin T x i op)) fun _ i' op' => obind (eUnary T f i' op') fun e i' op' => some (.ok (Ex.mk nm 0 [] [e]) i' (op' - 1))) := fun x nm i op =>
   nd_any fun _ i1 op1 h1 => nd_bind (hU i1 op1) fun v i2 op2 _ h2 => nd_ok (by
    have := nd_begin h1
    simp only [nEx, nExs]
    omega)
  refine ⟨fun k i op => ?_, fun k e i op => ?_, fun i op => ?_, fun i op => ?_, fun i op => ?_, fun i op => ?_, fun acc i op => ?_⟩
  ·rw [eLev]
   split
   ·exact hU i op
   ·exact nd_bind (hL (k + 1) i op) fun v i' op' _ h1 w j o hw => by
     have := hO k v i' op' w j o hw
     omega
  ·rw [eLoop]
   split
   ·refine nd_bind (hL (k + 1) (i + 1) op) fun v i' op' _ h1 => ?_
    split
    ·exact nd_ok (by simp only [nEx, nExs]; omega)
    ·intro w j o hw
     have := hO k _ i' op' w j o hw
     simp only [nEx, nExs] at this
     omega
   ·exact nd_ok (Nat.le_refl _)
  ·rw [eUnary]
   split
   ·exact neg _ _ _ _
   ·split
    ·exact neg _ _ _ _
    ·exact hP i op
  ·rw [ePrim]
   split
   ·exact nd_any fun _ i1 op1 h1 => nd_bind (hL 0 i1 op1) fun v i2 op2 _ h2 => nd_any fun _ i3 op3 h3 => nd_ok (by
     have := nd_begin h1
     have := nd_end h3
     omega)
   ·split
    ·exact nd_any fun n i1 op1 h1 => nd_ok (by
      have : i1 = i + 1 := by
       injection h1 with h1
       unfold sNumber Res.bind at h1
       split at h1
       ·rename_i h
        cases h1
        exact (nd_word (congrArg some h)).1
       ·cases h1
      simp only [nEx, nExs]
      omega)
    ·refine nd_any fun s i1 op1 h1 => ?_
     have h1' := (nd_word h1).1
     split
     ·exact nd_bind (hI i1 op1) fun v i2 op2 _ h2 => nd_ok (by simp only [nEx, nExs]; omega)
     ·split
      ·exact nd_bind (hA i1 op1) fun v i2 op2 _ h2 => nd_ok (by simp only [nEx]; omega)
      ·exact nd_ok (by simp only [nEx, nExs]; omega)
  ·rw [eIndex]
   exact nd_any fun _ i1 op1 h1 => nd_bind (hL 0 i1 op1) fun v i2 op2 _ h2 => nd_any fun _ i3 op3 h3 => nd_ok (by
    have := nd_begin h1
    have := nd_end h3
    omega)
  ·rw [eArgs]
   exact nd_any fun _ i1 op1 h1 => nd_bind (hB [] i1 op1) fun v i2 op2 _ h2 => nd_any fun _ i3 op3 h3 => nd_ok (by
    have := nd_begin h1
    have := nd_end h3
    simp only [nExs] at h2
    omega)
  ·rw [eArgsLoop]
   split
   ·exact nd_ok (Nat.le_refl _)
   ·refine nd_any fun _ i1 op1 h1 => nd_bind (hL 0 i1 op1) fun v i2 op2 _ h2 w j o hw => ?_
    have : i ≤ i1 := by
     injection h1 with h1
     split at h1
     ·cases h1; exact Nat.le_refl _
     ·have := (nd_need (congrArg some h1)).1; omega
    have := hB _ i2 op2 w j o hw
    rw [nExs_app] at this
    simp only [nExs] at this
    omega
theorem st_nd (T : List Tok) : ∀ f : Nat, (∀ i op, Nd nSms 0 i (sBlock T f i op)) ∧ (∀ acc i op, Nd nSms (nSms acc) i (sStmts T f acc i op)) ∧ (∀ i op, Nd nSm 0 i (sStmt T f i op)) ∧ (∀ i op, Nd nSm 0 i (sSimple T f i op))
 | 0 => ⟨fun _ _ => by rw [sBlock]; exact nd_none, fun _ _ _ => by rw [sStmts]; exact nd_none, fun _ _ => by rw [sStmt]; exact nd_none, fun _ _ => by rw [sSimple]; exact nd_none⟩
 | f + 1 => by
  obtain ⟨hB, hL, hS, hM⟩ := st_nd T f
  obtain ⟨eL, _, _, _, eI, eA, _⟩ := ex_nd T f
  refine ⟨fun i op => ?_, fun acc i op => ?_, fun i op => ?_, fun i op => ?_⟩
  ·rw [sBlock]
   exact nd_any fun _ i1 op1 h1 => nd_bind (hL [] i1 op1) fun v i2 op2 _ h2 => nd_any fun _ i3 op3 h3 => nd_ok (by
    have := nd_begin h1
    have := nd_end h3
    simp only [nSms] at h2
    omega)
  ·rw [sStmts]
   split
   ·exact nd_ok (Nat.le_refl _)
   ·refine nd_bind (hS i op) fun v i1 op1 _ h1 w j o hw => ?_
    have := hL _ i1 op1 w j o hw
    rw [nSms_app] at this
    simp only [nSms] at this
    omega
  ·rw [sStmt]
   split
   ·refine nd_bind (eL 0 (i + 1) op) fun v i1 op1 _ h1 => nd_bind (hB i1 op1) fun th i2 op2 _ h2 => ?_
    split
    ·exact nd_bind (hB (i2 + 1) op2) fun el i3 op3 _ h3 => nd_ok (by simp only [nSm, nExs]; omega)
    ·exact nd_ok (by simp only [nSm, nExs, nSms]; omega)
   ·split
    ·exact nd_bind (eL 0 (i + 1) op) fun v i1 op1 _ h1 => nd_bind (hB i1 op1) fun th i2 op2 _ h2 => nd_ok (by simp only [nSm, nExs, nSms]; omega)
    ·exact nd_bind (hM i op) fun v i1 op1 _ h1 => nd_any fun _ i2 op2 h2 => nd_ok (by have := (nd_need h2).1; omega)
  ·rw [sSimple]
   split
   ·exact nd_bind (eL 0 (i + 1) op) fun v i1 op1 _ h1 => nd_ok (by simp only [nSm, nExs, nSms]; omega)
   ·split
    ·exact nd_ok (by simp only [nSm, nExs, nSms]; omega)
    ·refine nd_any fun s i1 op1 h1 => ?_
     have h1' := (nd_word h1).1
     split
     ·exact nd_bind (eA i1 op1) fun l i2 op2 _ h2 => nd_ok (by simp only [nSm, nExs, nSms, nEx]; omega)
     ·split
      ·exact nd_bind (eI i1 op1) fun x i2 op2 _ h2 => nd_any fun _ i3 op3 h3 => nd_bind (eL 0 i3 op3) fun v i4 op4 _ h4 => nd_ok (by have := (nd_need h3).1; simp only [nSm, nExs, nSms]; omega)
      ·exact nd_any fun _ i3 op3 h3 => nd_bind (eL 0 i3 op3) fun v i4 op4 _ h4 => nd_ok (by have := (nd_need h3).1; simp only [nSm, nExs, nSms]; omega)
theorem namesLoop_nd (T : List Tok) : ∀ (f : Nat) (acc : List (List UInt8)) (i op : Nat), Nd List.length acc.length i (sNamesLoop T f acc i op)
 | 0, _, _, _ => by rw [sNamesLoop]; exact nd_none
 | f + 1, acc, i, op => by
  rw [sNamesLoop]
  split
  ·refine nd_any fun s i1 op1 h1 w j o hw => ?_
   have := (nd_word h1).1
   have := namesLoop_nd T f _ i1 op1 w j o hw
   rw [List.length_append, List.length_singleton] at this
   omega
  ·exact nd_ok (Nat.le_refl _)
theorem names_nd (T : List Tok) (f i op : Nat) : Nd List.length 0 i (sNames T f i op) := nd_any fun s i1 op1 h1 w j o hw => by
 have := (nd_word h1).1
 have := namesLoop_nd T f _ i1 op1 w j o hw
 rw [List.length_singleton] at this
 omega
theorem vars_nd (T : List Tok) : ∀ (f : Nat) (acc : List (List UInt8)) (i op : Nat), Nd List.length acc.length i (sVars T f acc i op)
 | 0, _, _, _ => by rw [sVars]; exact nd_none
 | f + 1, acc, i, op => by
  rw [sVars]
  split
  ·refine nd_bind (names_nd T f (i + 1) op) fun l i1 op1 _ h1 => nd_any fun _ i2 op2 h2 w j o hw => ?_
   have := (nd_need h2).1
   have := vars_nd T f _ i2 op2 w j o hw
   rw [List.length_append] at this
   omega
  ·exact nd_ok (Nat.le_refl _)
theorem func_nd (T : List Tok) (f i op : Nat) : Nd nFn 0 i (sFunc T f i op) := by
 unfold sFunc
 refine nd_any fun s i1 op1 h1 => nd_any fun _ i2 op2 h2 => nd_bind (f := List.length) (m := 0) (j := i2) ?_ fun ps i3 op3 _ h3 => nd_any fun _ i4 op4 h4 => nd_any fun _ i5 op5 h5 => nd_bind (vars_nd T f [] i5 op5) fun ls i6 op6 _ h6 => nd_bind ((st_nd T f).2.1 [] i6 op6) fun b i7 op7 _ h7 => nd_any fun _ i8 op8 h8 => nd_ok ?_
 ·split
  ·exact nd_ok (by simp)
  ·exact names_nd T f i2 op2
 ·have := (nd_word h1).1
  have := nd_begin h2
  have := nd_end h4
  have := nd_begin h5
  have := nd_end h8
  simp only [nSms, List.length_nil] at h6 h7
  simp only [nFn]
  omega
/-- Arrays have names and sizes out of the tokens. -/
def ArOk (a : Ar) : Prop := a.name.length ≤ 1000000000 ∧ a.size ≤ 4294967296
theorem array_nd {T : List Tok} (hT : ∀ t ∈ T, TokOk t) {i op : Nat} {a : Ar} {i' op' : Nat} (h : sArray T i op = some (.ok a i' op')) : i < i' ∧ ArOk a := by
 unfold sArray at h
 rcases obind_some h with ⟨s, i1, op1, h1, h⟩ | ⟨l, e, _, h⟩
 ·rcases obind_some h with ⟨_, i2, op2, h2, h⟩ | ⟨l, e, _, h⟩
  ·rcases obind_some h with ⟨n, i3, op3, h3, h⟩ | ⟨l, e, _, h⟩
   ·rcases obind_some h with ⟨_, i4, op4, h4, h⟩ | ⟨l, e, _, h⟩
    ·rcases obind_some h with ⟨_, i5, op5, h5, h⟩ | ⟨l, e, _, h⟩
     ·cases h
      have e1 := (nd_word h1).1
      have e2 := nd_begin h2
      have e4 := nd_end h4
      have e5 := (nd_need h5).1
      injection h3 with h3
      unfold sNumber Res.bind at h3
      split at h3
      ·rename_i t i6 op6 h6
       cases h3
       have e6 := (nd_word (congrArg some h6)).1
       refine ⟨by omega, ?_, ?_⟩
       ·injection h1 with h1
        unfold sWord at h1
        split at h1
        ·rename_i t1 ht1
         split at h1
         ·cases h1
          have := (hT t1 (List.mem_of_getElem? ht1)).1
          show t1.text.length ≤ _
          omega
         ·cases h1
        ·cases h1
       ·unfold sWord at h6
        split at h6
        ·rename_i t1 ht1
         split at h6
         ·rename_i hk
          cases h6
          obtain ⟨u, hu, hp, _⟩ := (hT t1 (List.mem_of_getElem? ht1)).2 hk
          show numOf t1.text ≤ _
          rw [numOf, hp]
          simp only
          omega
         ·cases h6
        ·cases h6
      ·cases h3
     ·cases h
    ·cases h
   ·cases h
  ·cases h
 ·cases h
theorem prog_nd {T : List Tok} (hT : ∀ t ∈ T, TokOk t) : ∀ (f : Nat) (p : Pr) (i op : Nat) (q : Pr) (i' op' : Nat), (∀ a ∈ p.arrays, ArOk a) → sProg T f p i op = some (.ok q i' op') → nPr q + i ≤ nPr p + i' ∧ ∀ a ∈ q.arrays, ArOk a
 | 0, _, _, _, _, _, _, _, h => by rw [sProg] at h; cases h
 | f + 1, p, i, op, q, i', op', ha, h => by
  rw [sProg] at h
  split at h
  ·cases h
   exact ⟨Nat.le_refl _, ha⟩
  ·split at h
   ·rcases obind_some h with ⟨l, i1, op1, h1, h⟩ | ⟨l, e, _, h⟩
    ·have e1 := vars_nd T f [] i op _ _ _ h1
     obtain ⟨e2, e3⟩ := prog_nd hT f _ i1 op1 q i' op' (by exact ha) h
     refine ⟨?_, e3⟩
     simp only [nPr, List.length_append, List.length_nil] at e1 e2 ⊢
     omega
    ·cases h
   ·split at h
    ·rcases obind_some h with ⟨a, i1, op1, h1, h⟩ | ⟨l, e, _, h⟩
     ·obtain ⟨e1, e0⟩ := array_nd hT h1
      obtain ⟨e2, e3⟩ := prog_nd hT f _ i1 op1 q i' op' (by
       intro b hb
       rcases List.mem_append.1 hb with hb | hb
       ·exact ha b hb
       ·rw [List.mem_singleton.1 hb]; exact e0) h
      refine ⟨?_, e3⟩
      simp only [nPr, List.length_append, List.length_singleton] at e2 ⊢
      omega
     ·cases h
    ·split at h
     ·rcases obind_some h with ⟨a, i1, op1, h1, h⟩ | ⟨l, e, _, h⟩
      ·have e1 := func_nd T f _ _ _ _ _ h1
       obtain ⟨e2, e3⟩ := prog_nd hT f _ i1 op1 q i' op' (by exact ha) h
       refine ⟨?_, e3⟩
       simp only [nPr, nFns_app, nFns] at e2 ⊢
       omega
      ·cases h
     ·cases h
end Go.Stele
namespace Go.Stele
abbrev KT := Int × List UInt8
def sg (c : UInt8) : KT := (4, [c])
def NameOk (x : List UInt8) : Prop := Again ⟨2, x, 0⟩
mutual
/-- The expression, printed at this level: its tokens, and how many constructs are open within. -/
inductive PE : Ex → Nat → List KT → Nat → Prop
 | num {n k : Nat} (h : n < 4294967296) : PE (.mk nNum n [] []) k [(1, Go.Lib.decDigits n)] 0
 | var {s : List UInt8} {k : Nat} (h : NameOk s) : PE (.mk nVar 0 s []) k [(2, s)] 0
 | elem {s : List UInt8} {k : Nat} {a : Ex} {ts : List KT} {d : Nat} (h : NameOk s) (ha : PE a 0 ts d) : PE (.mk nElem 0 s [a]) k ((2, s) :: sg 91 :: (ts ++ [sg 93])) (d + 1)
 | call {s : List UInt8} {k : Nat} {l : List Ex} {ts : List KT} {d : Nat} (h : NameOk s) (hl : PEs l ts d) : PE (.mk nCall 0 s l) k ((2, s) :: sg 40 :: (ts ++ [sg 41])) (d + 1)
 | neg {k : Nat} {a : Ex} {ts : List KT} {d : Nat} (ha : PE a 6 ts d) : PE (.mk nNeg 0 [] [a]) k (sg 45 :: ts) (d + 1)
 | not {k : Nat} {a : Ex} {ts : List KT} {d : Nat} (ha : PE a 6 ts d) : PE (.mk nNot 0 [] [a]) k (sg 33 :: ts) (d + 1)
 | bin {s k : Nat} {op : List UInt8} {a b : Ex} {t1 t2 : List KT} {d1 d2 : Nat} (hs : s < 6) (ho : op ∈ lvOps s) (hk : k ≤ s) (ha : PE a (leftLv s) t1 d1) (hb : PE b (s + 1) t2 d2) : PE (.mk op 0 [] [a, b]) k (t1 ++ (4, op) :: t2) (max d1 d2)
 | par {s k : Nat} {op : List UInt8} {a b : Ex} {t1 t2 : List KT} {d1 d2 : Nat} (hs : s < 6) (ho : op ∈ lvOps s) (hk : s < k) (ha : PE a (leftLv s) t1 d1) (hb : PE b (s + 1) t2 d2) : PE (.mk op 0 [] [a, b]) k (sg 40 :: ((t1 ++ (4, op) :: t2) ++ [sg 41])) (max d1 d2 + 1)
/-- Expressions with commas between them. -/
inductive PEs : List Ex → List KT → Nat → Prop
 | nil : PEs [] [] 0
 | one {a : Ex} {ts : List KT} {d : Nat} (ha : PE a 0 ts d) : PEs [a] ts d
 | more {a b : Ex} {l : List Ex} {t1 t2 : List KT} {d1 d2 : Nat} (ha : PE a 0 t1 d1) (hl : PEs (b :: l) t2 d2) : PEs (a :: b :: l) (t1 ++ sg 44 :: t2) (max d1 d2)
end
theorem PE.weak {e : Ex} {k k' : Nat} {ts : List KT} {d : Nat} (h : PE e k ts d) (hk : k' ≤ k) : ∃ ts' d', PE e k' ts' d' ∧ ts'.length ≤ ts.length ∧ d' ≤ d := by
 cases h with
 | num h => exact ⟨_, _, .num h, Nat.le_refl _, Nat.le_refl _⟩
 | var h => exact ⟨_, _, .var h, Nat.le_refl _, Nat.le_refl _⟩
 | elem h ha => exact ⟨_, _, .elem h ha, Nat.le_refl _, Nat.le_refl _⟩
 | call h ha => exact ⟨_, _, .call h ha, Nat.le_refl _, Nat.le_refl _⟩
 | neg ha => exact ⟨_, _, .neg ha, Nat.le_refl _, Nat.le_refl _⟩
 | not ha => exact ⟨_, _, .not ha, Nat.le_refl _, Nat.le_refl _⟩
 | bin hs ho hk2 ha hb => exact ⟨_, _, .bin hs ho (by omega) ha hb, Nat.le_refl _, Nat.le_refl _⟩
 | par hs ho hk2 ha hb =>
  rename_i s _ _ _ _ _ _ _
  by_cases h2 : k' ≤ s
  ·exact ⟨_, _, .bin hs ho h2 ha hb, by simp only [List.length_append, List.length_cons, List.length_nil]; omega, by omega⟩
  ·exact ⟨_, _, .par hs ho (by omega) ha hb, Nat.le_refl _, Nat.le_refl _⟩
theorem PE.paren {e : Ex} {ts : List KT} {d : Nat} (h : PE e 0 ts d) : ∃ ts' d', PE e 6 ts' d' ∧ ts'.length ≤ ts.length + 2 ∧ d' ≤ d + 1 := by
 cases h with
 | num h => exact ⟨_, _, .num h, by omega, by omega⟩
 | var h => exact ⟨_, _, .var h, by omega, by omega⟩
 | elem h ha => exact ⟨_, _, .elem h ha, by omega, by omega⟩
 | call h ha => exact ⟨_, _, .call h ha, by omega, by omega⟩
 | neg ha => exact ⟨_, _, .neg ha, by omega, by omega⟩
 | not ha => exact ⟨_, _, .not ha, by omega, by omega⟩
 | bin hs ho hk2 ha hb => exact ⟨_, _, .par hs ho hs ha hb, by simp only [List.length_append, List.length_cons, List.length_nil]; omega, by omega⟩
 | par hs ho hk2 ha hb => omega
theorem PEs.snoc : ∀ {l : List Ex} {a : Ex} {t0 t1 : List KT} {d0 d1 : Nat}, PEs l t0 d0 → PE a 0 t1 d1 → ∃ t, PEs (l ++ [a]) t (max d0 d1) ∧ t.length = t0.length + (if l = [] then 0 else 1) + t1.length := by
 intro l
 induction l with
 | nil =>
  intro a t0 t1 d0 d1 h h1
  cases h with
  | nil => exact ⟨t1, by rw [Nat.zero_max]; exact .one h1, by simp⟩
 | cons b l ih =>
  intro a t0 t1 d0 d1 h h1
  cases h with
  | one hb => exact ⟨_, .more hb (.one h1), by simp only [List.length_append, List.length_cons]; simp; omega⟩
  | more hb hl =>
   obtain ⟨t, g1, g2⟩ := ih hl h1
   exact ⟨_, by rw [Nat.max_assoc]; exact .more hb g1, by simp only [List.length_append, List.length_cons, g2]; simp; omega⟩
/-! ### What is read can be printed -/
def Wh {A : Type} (P : A → Nat → Nat → Prop) (r : OR A) : Prop := ∀ v i op, r = some (.ok v i op) → P v i op
theorem wh_bind {A B : Type} {r : OR A} {k : A → Nat → Nat → OR B} {P : A → Nat → Nat → Prop} {Q : B → Nat → Nat → Prop} (hr : Wh P r) (hk : ∀ v i op, P v i op → Wh Q (k v i op)) : Wh Q (obind r k) := fun v i op h => by
 rcases obind_some h with ⟨w, i1, op1, h1, h2⟩ | ⟨_, _, _, h2⟩
 ·exact hk _ _ _ (hr _ _ _ h1) v i op h2
 ·cases h2
theorem wh_any {A B : Type} {r : OR A} {k : A → Nat → Nat → OR B} {Q : B → Nat → Nat → Prop} (hk : ∀ v i op, r = some (.ok v i op) → Wh Q (k v i op)) : Wh Q (obind r k) := wh_bind (fun _ _ _ h => h) hk
theorem wh_ok {A : Type} {P : A → Nat → Nat → Prop} {v : A} {i op : Nat} (h : P v i op) : Wh P (some (.ok v i op)) := fun _ _ _ e => by cases e; exact h
theorem wh_none {A : Type} {P : A → Nat → Nat → Prop} : Wh P none := fun _ _ _ e => by cases e
theorem wh_mono {A : Type} {P Q : A → Nat → Nat → Prop} {r : OR A} (h : Wh P r) (hPQ : ∀ v i op, P v i op → Q v i op) : Wh Q r := fun v i op e => hPQ _ _ _ (h v i op e)
theorem wh_begin {B : Type} {T : List Tok} {x : List UInt8} {i op : Nat} {k : Unit → Nat → Nat → OR B} {Q : B → Nat → Nat → Prop} (hk : op < 100 → Wh Q (k () (i + 1) (op + 1))) : Wh Q (obind (some (sBegin T x i op)) k) := wh_any fun v i1 op1 h => by
 injection h with h
 obtain ⟨rfl, rfl, h3, _⟩ := sBegin_ok h
 exact hk h3
theorem wh_end {B : Type} {T : List Tok} {x : List UInt8} {i op : Nat} {k : Unit → Nat → Nat → OR B} {Q : B → Nat → Nat → Prop} (hk : Wh Q (k () (i + 1) (op - 1))) : Wh Q (obind (some (sEnd T x i op)) k) := wh_any fun v i1 op1 h => by
 injection h with h
 obtain ⟨rfl, rfl, _⟩ := sEnd_ok h
 exact hk
theorem wh_need {B : Type} {T : List Tok} {x : List UInt8} {i op : Nat} {k : Unit → Nat → Nat → OR B} {Q : B → Nat → Nat → Prop} (hk : Wh Q (k () (i + 1) op)) : Wh Q (obind (some (sNeed T x i op)) k) := wh_any fun v i1 op1 h => by
 obtain ⟨rfl, rfl⟩ := nd_need h
 exact hk
theorem word_again {T : List Tok} (hT : ∀ t ∈ T, Again t) {i op i' op' : Nat} {s : List UInt8} (h : sWord T 2 i op = .ok s i' op') : NameOk s ∧ i' = i + 1 ∧ op' = op := by
 unfold sWord at h
 split at h
 ·rename_i t ht
  split at h
  ·rename_i hk
   cases h
   have := hT t (List.mem_of_getElem? ht)
   refine ⟨?_, rfl, rfl⟩
   unfold NameOk
   unfold Again at this ⊢
   rw [hk] at this
   exact this
  ·cases h
 ·cases h
theorem wh_name {B : Type} {T : List Tok} (hT : ∀ t ∈ T, Again t) {i op : Nat} {k : List UInt8 → Nat → Nat → OR B} {Q : B → Nat → Nat → Prop} (hk : ∀ s, NameOk s → Wh Q (k s (i + 1) op)) : Wh Q (obind (some (sWord T 2 i op)) k) := wh_any fun v i1 op1 h => by
 injection h with h
 obtain ⟨h1, rfl, rfl⟩ := word_again hT h
 exact hk v h1
theorem numOf_lt (s : List UInt8) : numOf s < 4294967296 := by
 unfold numOf
 split
 ·rename_i u h
  exact pu32_lt h
 ·decide
theorem wh_number {B : Type} {T : List Tok} {i op : Nat} {k : Nat → Nat → Nat → OR B} {Q : B → Nat → Nat → Prop} (hk : ∀ n, n < 4294967296 → Wh Q (k n (i + 1) op)) : Wh Q (obind (some (sNumber T i op)) k) := wh_any fun v i1 op1 h => by
 injection h with h
 unfold sNumber Res.bind at h
 split at h
 ·rename_i h1
  cases h
  obtain ⟨rfl, rfl⟩ := nd_word (congrArg some h1)
  exact hk _ (numOf_lt _)
 ·cases h
theorem isTok_text {T : List Tok} {i : Nat} {xs : List (List UInt8)} (h : isTok T i xs = true) : textAt T i ∈ xs := by
 unfold isTok at h
 unfold textAt
 split at h
 ·rename_i t ht
  simp only [Bool.and_eq_true] at h
  simpa using h.2
 ·cases h
def SE (k i op : Nat) (e : Ex) (i' op' : Nat) : Prop := op' = op ∧ ∃ ts d, PE e k ts d ∧ ts.length + i ≤ i' ∧ d ≤ 100 - op
def SX (i op : Nat) (e : Ex) (i' op' : Nat) : Prop := op' = op ∧ ∃ ts d, PE e 0 ts d ∧ ts.length + 2 + i ≤ i' ∧ d + 1 ≤ 100 - op
def SA (i op : Nat) (l : List Ex) (i' op' : Nat) : Prop := op' = op ∧ ∃ ts d, PEs l ts d ∧ ts.length + 2 + i ≤ i' ∧ d + 1 ≤ 100 - op
def SL (i op : Nat) (l : List Ex) (i' op' : Nat) : Prop := op' = op ∧ ∃ ts d, PEs l ts d ∧ ts.length + i ≤ i' ∧ d ≤ 100 - op
theorem ex_src {T : List Tok} (hT : ∀ t ∈ T, Again t) : ∀ f : Nat, (∀ k i op, k ≤ 6 → Wh (SE k i op) (eLev T f k i op)) ∧ (∀ k e i0 i op ts d, k < 6 → PE e (leftLv k) ts d → ts.length + i0 ≤ i → d ≤ 100 - op → Wh (SE k i0 op) (eLoop T f k e i op)) ∧
  (∀ i op, Wh (SE 6 i op) (eUnary T f i op)) ∧ (∀ i op, Wh (SE 6 i op) (ePrim T f i op)) ∧ (∀ i op, Wh (SX i op) (eIndex T f i op)) ∧ (∀ i op, Wh (SA i op) (eArgs T f i op)) ∧
  (∀ acc i0 i op ts d, PEs acc ts d → ts.length + i0 ≤ i → d ≤ 100 - op → Wh (SL i0 op) (eArgsLoop T f acc i op))
 | 0 => ⟨fun _ _ _ _ => by rw [eLev]; exact wh_none, fun _ _ _ _ _ _ _ _ _ _ _ => by rw [eLoop]; exact wh_none, fun _ _ => by rw [eUnary]; exact wh_none, fun _ _ => by rw [ePrim]; exact wh_none, fun _ _ => by rw [eIndex]; exact wh_none, fun _ _ => by rw [eArgs]; exact wh_none, fun _ _ _ _ _ _ _ _ _ => by rw [eArgsLoop]; exact wh_none⟩
 | f + 1 => by
  obtain ⟨hL, hO, hU, hP, hI, hA, hB⟩ := ex_src hT f
  refine ⟨fun k i op hk => ?_, fun k e i0 i op ts d hk hP0 hts hd => ?_, fun i op => ?_, fun i op => ?_, fun i op => ?_, fun i op => ?_, fun acc i0 i op ts d hP0 hts hd => ?_⟩
  ·rw [eLev]
   split
   ·rename_i h6
    subst h6
    exact hU i op
   ·refine wh_bind (hL (k + 1) i op (by omega)) fun v i' op' h => ?_
    obtain ⟨rfl, ts, d, h1, h2, h3⟩ := h
    obtain ⟨ts', d', g1, g2, g3⟩ := h1.weak (k' := leftLv k) (by unfold leftLv; split <;> omega)
    exact hO k v i i' _ ts' d' (by omega) g1 (by omega) (by omega)
  ·rw [eLoop]
   split
   ·rename_i ht
    refine wh_bind (hL (k + 1) (i + 1) op (by omega)) fun v i' op' h => ?_
    obtain ⟨rfl, t2, d2, h1, h2, h3⟩ := h
    have hb : PE (.mk (textAt T i) 0 [] [e, v]) k (ts ++ (4, textAt T i) :: t2) (max d d2) := .bin hk (isTok_text ht) (Nat.le_refl _) hP0 h1
    split
    ·exact wh_ok ⟨rfl, _, _, hb, by simp only [List.length_append, List.length_cons]; omega, by omega⟩
    ·rename_i h22
     refine hO k _ i0 i' _ _ _ hk (by rw [leftLv, if_neg h22]; exact hb) (by simp only [List.length_append, List.length_cons]; omega) (by omega)
   ·obtain ⟨ts', d', g1, g2, g3⟩ := hP0.weak (k' := k) (by unfold leftLv; split <;> omega)
    exact wh_ok ⟨rfl, ts', d', g1, by omega, by omega⟩
  ·rw [eUnary]
   split
   ·refine wh_begin fun ho => wh_bind (hU (i + 1) (op + 1)) fun v i' op' h => ?_
    obtain ⟨rfl, ts, d, h1, h2, h3⟩ := h
    exact wh_ok ⟨by omega, _, _, .neg h1, by simp only [List.length_cons]; omega, by omega⟩
   ·split
    ·refine wh_begin fun ho => wh_bind (hU (i + 1) (op + 1)) fun v i' op' h => ?_
     obtain ⟨rfl, ts, d, h1, h2, h3⟩ := h
     exact wh_ok ⟨by omega, _, _, .not h1, by simp only [List.length_cons]; omega, by omega⟩
    ·exact hP i op
  ·rw [ePrim]
   split
   ·refine wh_begin fun ho => wh_bind (hL 0 (i + 1) (op + 1) (by omega)) fun v i' op' h => wh_end ?_
    obtain ⟨rfl, ts, d, h1, h2, h3⟩ := h
    obtain ⟨ts', d', g1, g2, g3⟩ := h1.paren
    exact wh_ok ⟨by omega, ts', d', g1, by omega, by omega⟩
   ·split
    ·exact wh_number fun n hn => wh_ok ⟨rfl, _, _, .num hn, by simp only [List.length_cons, List.length_nil]; omega, by omega⟩
    ·refine wh_name hT fun s hs => ?_
     split
     ·refine wh_bind (hI (i + 1) op) fun v i' op' h => ?_
      obtain ⟨rfl, ts, d, h1, h2, h3⟩ := h
      exact wh_ok ⟨rfl, _, _, .elem hs h1, by simp only [List.length_cons, List.length_append, List.length_nil]; omega, by omega⟩
     ·split
      ·refine wh_bind (hA (i + 1) op) fun v i' op' h => ?_
       obtain ⟨rfl, ts, d, h1, h2, h3⟩ := h
       exact wh_ok ⟨rfl, _, _, .call hs h1, by simp only [List.length_cons, List.length_append, List.length_nil]; omega, by omega⟩
      ·exact wh_ok ⟨rfl, _, _, .var hs, by simp only [List.length_cons, List.length_nil]; omega, by omega⟩
  ·rw [eIndex]
   refine wh_begin fun ho => wh_bind (hL 0 (i + 1) (op + 1) (by omega)) fun v i' op' h => wh_end ?_
   obtain ⟨rfl, ts, d, h1, h2, h3⟩ := h
   exact wh_ok ⟨by omega, ts, d, h1, by omega, by omega⟩
  ·rw [eArgs]
   refine wh_begin fun ho => wh_bind (hB [] (i + 1) (i + 1) (op + 1) [] 0 .nil (by simp) (by omega)) fun v i' op' h => wh_end ?_
   obtain ⟨rfl, ts, d, h1, h2, h3⟩ := h
   exact wh_ok ⟨by omega, ts, d, h1, by omega, by omega⟩
  ·rw [eArgsLoop]
   split
   ·exact wh_ok ⟨rfl, ts, d, hP0, by omega, by omega⟩
   ·refine wh_any fun _ i1 op1 h1 => ?_
    have hi : i1 = i + (if acc = [] then 0 else 1) ∧ op1 = op := by
     injection h1 with h1
     split at h1
     ·rename_i ha
      cases h1
      rw [if_pos ha]
      exact ⟨rfl, rfl⟩
     ·rename_i ha
      rw [if_neg ha]
      exact nd_need (congrArg some h1)
    obtain ⟨rfl, rfl⟩ := hi
    refine wh_bind (hL 0 _ op1 (by omega)) fun v i' op' h => ?_
    obtain ⟨rfl, t2, d2, h1, h2, h3⟩ := h
    obtain ⟨t, g1, g2⟩ := hP0.snoc h1
    exact hB _ i0 i' _ t _ g1 (by omega) (by omega)
/-! ### Statements -/
mutual
inductive PS : Sm → List KT → Nat → Prop
 | assign {s : List UInt8} {e : Ex} {ts : List KT} {d : Nat} (h : NameOk s) (he : PE e 0 ts d) : PS (.mk 1 s [] [e] [] []) ((2, s) :: sg 61 :: (ts ++ [sg 59])) d
 | store {s : List UInt8} {x e : Ex} {t1 t2 : List KT} {d1 d2 : Nat} (h : NameOk s) (hx : PE x 0 t1 d1) (he : PE e 0 t2 d2) : PS (.mk 2 s [x] [e] [] []) ((2, s) :: sg 91 :: (t1 ++ sg 93 :: sg 61 :: (t2 ++ [sg 59]))) (max (d1 + 1) d2)
 | call {s : List UInt8} {l : List Ex} {ts : List KT} {d : Nat} (h : NameOk s) (hl : PEs l ts d) : PS (.mk 6 [] [] [.mk nCall 0 s l] [] []) ((2, s) :: sg 40 :: (ts ++ [sg 41, sg 59])) (d + 1)
 | ret {e : Ex} {ts : List KT} {d : Nat} (he : PE e 0 ts d) : PS (.mk 5 [] [] [e] [] []) ((3, kwReturn) :: (ts ++ [sg 59])) d
 | halt : PS (.mk 7 [] [] [] [] []) [(3, kwHalt), sg 59] 0
 | ifElse {e : Ex} {th el : List Sm} {ts t1 t2 : List KT} {d d1 d2 : Nat} (he : PE e 0 ts d) (h1 : PSs th t1 d1) (h2 : PSs el t2 d2) (hne : el ≠ []) :
   PS (.mk 3 [] [] [e] th el) ((3, kwIf) :: (ts ++ sg 123 :: (t1 ++ sg 125 :: (3, kwElse) :: sg 123 :: (t2 ++ [sg 125])))) (max d (max (d1 + 1) (d2 + 1)))
 | ifThen {e : Ex} {th : List Sm} {ts t1 : List KT} {d d1 : Nat} (he : PE e 0 ts d) (h1 : PSs th t1 d1) : PS (.mk 3 [] [] [e] th []) ((3, kwIf) :: (ts ++ sg 123 :: (t1 ++ [sg 125]))) (max d (d1 + 1))
 | while {e : Ex} {th : List Sm} {ts t1 : List KT} {d d1 : Nat} (he : PE e 0 ts d) (h1 : PSs th t1 d1) : PS (.mk 4 [] [] [e] th []) ((3, kwWhile) :: (ts ++ sg 123 :: (t1 ++ [sg 125]))) (max d (d1 + 1))
inductive PSs : List Sm → List KT → Nat → Prop
 | nil : PSs [] [] 0
 | cons {s : Sm} {l : List Sm} {t1 t2 : List KT} {d1 d2 : Nat} (h : PS s t1 d1) (hl : PSs l t2 d2) : PSs (s :: l) (t1 ++ t2) (max d1 d2)
end
theorem PSs.snoc : ∀ {l : List Sm} {a : Sm} {t0 t1 : List KT} {d0 d1 : Nat}, PSs l t0 d0 → PS a t1 d1 → PSs (l ++ [a]) (t0 ++ t1) (max d0 d1) := by
 intro l
 induction l with
 | nil =>
  intro a t0 t1 d0 d1 h h1
  cases h with
  | nil =>
   have := PSs.cons h1 .nil
   rw [List.append_nil, Nat.max_zero] at this
   rw [Nat.zero_max]
   exact this
 | cons b l ih =>
  intro a t0 t1 d0 d1 h h1
  cases h with
  | cons hb hl =>
   rw [List.append_assoc, Nat.max_assoc]
   exact .cons hb (ih hl h1)
def SS (i op : Nat) (s : Sm) (i' op' : Nat) : Prop := op' = op ∧ ∃ ts d, PS s ts d ∧ ts.length + i ≤ i' ∧ d ≤ 100 - op
/-- A simple statement stands ahead of its semicolon. -/
def SM (i op : Nat) (s : Sm) (i' op' : Nat) : Prop := op' = op ∧ ∃ ts d, PS s ts d ∧ ts.length + i ≤ i' + 1 ∧ d ≤ 100 - op
def SSs (i op : Nat) (s : List Sm) (i' op' : Nat) : Prop := op' = op ∧ ∃ ts d, PSs s ts d ∧ ts.length + i ≤ i' ∧ d ≤ 100 - op
def SB (i op : Nat) (s : List Sm) (i' op' : Nat) : Prop := op' = op ∧ ∃ ts d, PSs s ts d ∧ ts.length + 2 + i ≤ i' ∧ d + 1 ≤ 100 - op
theorem st_src {T : List Tok} (hT : ∀ t ∈ T, Again t) : ∀ f : Nat, (∀ i op, Wh (SB i op) (sBlock T f i op)) ∧ (∀ acc i0 i op ts d, PSs acc ts d → ts.length + i0 ≤ i → d ≤ 100 - op → Wh (SSs i0 op) (sStmts T f acc i op)) ∧
  (∀ i op, Wh (SS i op) (sStmt T f i op)) ∧ (∀ i op, Wh (SM i op) (sSimple T f i op))
 | 0 => ⟨fun _ _ => by rw [sBlock]; exact wh_none, fun _ _ _ _ _ _ _ _ _ => by rw [sStmts]; exact wh_none, fun _ _ => by rw [sStmt]; exact wh_none, fun _ _ => by rw [sSimple]; exact wh_none⟩
 | f + 1 => by
  obtain ⟨hB, hL, hS, hM⟩ := st_src hT f
  obtain ⟨eL, _, _, _, eI, eA, _⟩ := ex_src hT f
  refine ⟨fun i op => ?_, fun acc i0 i op ts d hP0 hts hd => ?_, fun i op => ?_, fun i op => ?_⟩
  ·rw [sBlock]
   refine wh_begin fun ho => wh_bind (hL [] (i + 1) (i + 1) (op + 1) [] 0 .nil (by simp) (by omega)) fun v i' op' h => wh_end ?_
   obtain ⟨rfl, ts, d, h1, h2, h3⟩ := h
   exact wh_ok ⟨by omega, ts, d, h1, by omega, by omega⟩
  ·rw [sStmts]
   split
   ·exact wh_ok ⟨rfl, ts, d, hP0, hts, hd⟩
   ·refine wh_bind (hS i op) fun v i' op' h => ?_
    obtain ⟨rfl, t2, d2, h1, h2, h3⟩ := h
    exact hL _ i0 i' _ _ _ (hP0.snoc h1) (by simp only [List.length_append]; omega) (by omega)
  ·rw [sStmt]
   split
   ·refine wh_bind (eL 0 (i + 1) op (by omega)) fun v i1 op1 h => ?_
    obtain ⟨rfl, t1, d1, g1, g2, g3⟩ := h
    refine wh_bind (hB i1 _) fun th i2 op2 h => ?_
    obtain ⟨rfl, t2, d2, k1, k2, k3⟩ := h
    split
    ·refine wh_bind (hB (i2 + 1) _) fun el i3 op3 h => ?_
     obtain ⟨rfl, t3, d3, l1, l2, l3⟩ := h
     by_cases hne : el = []
     ·subst hne
      exact wh_ok ⟨rfl, _, _, .ifThen g1 k1, by simp only [List.length_cons, List.length_append, List.length_nil]; omega, by omega⟩
     ·exact wh_ok ⟨rfl, _, _, .ifElse g1 k1 l1 hne, by simp only [List.length_cons, List.length_append, List.length_nil]; omega, by omega⟩
    ·exact wh_ok ⟨rfl, _, _, .ifThen g1 k1, by simp only [List.length_cons, List.length_append, List.length_nil]; omega, by omega⟩
   ·split
    ·refine wh_bind (eL 0 (i + 1) op (by omega)) fun v i1 op1 h => ?_
     obtain ⟨rfl, t1, d1, g1, g2, g3⟩ := h
     refine wh_bind (hB i1 _) fun th i2 op2 h => ?_
     obtain ⟨rfl, t2, d2, k1, k2, k3⟩ := h
     exact wh_ok ⟨rfl, _, _, .while g1 k1, by simp only [List.length_cons, List.length_append, List.length_nil]; omega, by omega⟩
    ·refine wh_bind (hM i op) fun v i1 op1 h => wh_need ?_
     obtain ⟨rfl, t1, d1, g1, g2, g3⟩ := h
     exact wh_ok ⟨rfl, _, _, g1, by omega, by omega⟩
  ·rw [sSimple]
   split
   ·refine wh_bind (eL 0 (i + 1) op (by omega)) fun v i1 op1 h => ?_
    obtain ⟨rfl, t1, d1, g1, g2, g3⟩ := h
    exact wh_ok ⟨rfl, _, _, .ret g1, by simp only [List.length_cons, List.length_append, List.length_nil]; omega, by omega⟩
   ·split
    ·exact wh_ok ⟨rfl, _, _, .halt, by simp only [List.length_cons, List.length_append, List.length_nil]; omega, by omega⟩
    ·refine wh_name hT fun s hs => ?_
     split
     ·refine wh_bind (eA (i + 1) op) fun v i1 op1 h => ?_
      obtain ⟨rfl, t1, d1, g1, g2, g3⟩ := h
      exact wh_ok ⟨rfl, _, _, .call hs g1, by simp only [List.length_cons, List.length_append, List.length_nil]; omega, by omega⟩
     ·split
      ·refine wh_bind (eI (i + 1) op) fun v i1 op1 h => wh_need ?_
       obtain ⟨rfl, t1, d1, g1, g2, g3⟩ := h
       refine wh_bind (eL 0 (i1 + 1) _ (by omega)) fun e i2 op2 h => ?_
       obtain ⟨rfl, t2, d2, k1, k2, k3⟩ := h
       exact wh_ok ⟨rfl, _, _, .store hs g1 k1, by simp only [List.length_cons, List.length_append, List.length_nil]; omega, by omega⟩
      ·refine wh_need (wh_bind (eL 0 (i + 1 + 1) op (by omega)) fun e i2 op2 h => ?_)
       obtain ⟨rfl, t2, d2, k1, k2, k3⟩ := h
       exact wh_ok ⟨rfl, _, _, .assign hs k1, by simp only [List.length_cons, List.length_append, List.length_nil]; omega, by omega⟩
/-! ### Declarations -/
/-- Names with commas between them. -/
def commas : List (List UInt8) → List KT
 | [] => []
 | [a] => [(2, a)]
 | a :: b :: l => (2, a) :: sg 44 :: commas (b :: l)
theorem commas_len : ∀ l : List (List UInt8), (commas l).length = 2 * l.length - 1
 | [] => rfl
 | [a] => rfl
 | a :: b :: l => by
  rw [commas, List.length_cons, List.length_cons, commas_len (b :: l)]
  simp only [List.length_cons]
  omega
/-- A row of variables declared, if there are any. -/
def varK (l : List (List UInt8)) : List KT := if l = [] then [] else (3, kwVar) :: (commas l ++ [sg 59])
theorem varK_len (l : List (List UInt8)) : (varK l).length = if l = [] then 0 else 2 * l.length + 1 := by
 unfold varK
 split
 ·rfl
 ·rename_i h
  have : 0 < l.length := List.length_pos_iff.2 h
  simp only [List.length_cons, List.length_append, commas_len, List.length_nil]
  omega
def AllOk (l : List (List UInt8)) : Prop := ∀ x ∈ l, NameOk x
theorem AllOk.app {a b : List (List UInt8)} (ha : AllOk a) (hb : AllOk b) : AllOk (a ++ b) := fun x hx => by
 rcases List.mem_append.1 hx with h | h
 ·exact ha x h
 ·exact hb x h
inductive PF : FnD → List KT → Nat → Prop
 | mk {nm : List UInt8} {ps ls : List (List UInt8)} {b : List Sm} {ts : List KT} {d : Nat} (h : NameOk nm) (hp : AllOk ps) (hl : AllOk ls) (hb : PSs b ts d) :
   PF ⟨nm, ps, ls, b⟩ ((3, kwFunc) :: (2, nm) :: sg 40 :: (commas ps ++ sg 41 :: sg 123 :: (varK ls ++ (ts ++ [sg 125])))) (d + 1)
inductive PFs : List FnD → List KT → Prop
 | nil : PFs [] []
 | cons {f : FnD} {l : List FnD} {t1 t2 : List KT} {d : Nat} (h : PF f t1 d) (hd : d ≤ 100) (hl : PFs l t2) : PFs (f :: l) (t1 ++ t2)
def arK (a : Ar) : List KT := [(3, kwArray), (2, a.name), sg 91, (1, Go.Lib.decDigits a.size), sg 93, sg 59]
def ArsOk (l : List Ar) : Prop := ∀ a ∈ l, NameOk a.name ∧ a.size < 4294967296
/-- A program, printed. -/
inductive PP : Pr → List KT → Prop
 | mk {v : List (List UInt8)} {a : List Ar} {f : List FnD} {ts : List KT} (hv : AllOk v) (ha : ArsOk a) (hf : PFs f ts) : PP ⟨v, a, f⟩ (varK v ++ ((a.map arK).flatten ++ ts))
theorem PFs.snoc : ∀ {l : List FnD} {a : FnD} {t0 t1 : List KT} {d : Nat}, PFs l t0 → PF a t1 d → d ≤ 100 → PFs (l ++ [a]) (t0 ++ t1) := by
 intro l
 induction l with
 | nil =>
  intro a t0 t1 d h h1 hd
  cases h with
  | nil =>
   have := PFs.cons h1 hd .nil
   rw [List.append_nil] at this
   exact this
 | cons b l ih =>
  intro a t0 t1 d h h1 hd
  cases h with
  | cons hb hd' hl =>
   rw [List.append_assoc]
   exact .cons hb hd' (ih hl h1 hd)
theorem namesLoop_src {T : List Tok} (hT : ∀ t ∈ T, Again t) : ∀ (f : Nat) (acc : List (List UInt8)) (i op : Nat), AllOk acc → Wh (fun l i' op' => op' = op ∧ AllOk l ∧ acc.length ≤ l.length ∧ 2 * l.length + i ≤ 2 * acc.length + i') (sNamesLoop T f acc i op)
 | 0, _, _, _, _ => by rw [sNamesLoop]; exact wh_none
 | f + 1, acc, i, op, ha => by
  rw [sNamesLoop]
  split
  ·refine wh_name hT fun s hs => wh_mono (namesLoop_src hT f (acc ++ [s]) (i + 1 + 1) op (ha.app fun x hx => by cases List.mem_singleton.1 hx; exact hs)) fun l i' op' h => ?_
   obtain ⟨rfl, h1, h2, h3⟩ := h
   rw [List.length_append, List.length_singleton] at h2 h3
   exact ⟨rfl, h1, by omega, by omega⟩
  ·exact wh_ok ⟨rfl, ha, Nat.le_refl _, by omega⟩
theorem names_src {T : List Tok} (hT : ∀ t ∈ T, Again t) (f i op : Nat) : Wh (fun l i' op' => op' = op ∧ AllOk l ∧ 0 < l.length ∧ 2 * l.length + i ≤ 1 + i') (sNames T f i op) :=
 wh_name hT fun s hs => wh_mono (namesLoop_src hT f [s] (i + 1) op fun x hx => by cases List.mem_singleton.1 hx; exact hs) fun l i' op' h => by
  obtain ⟨rfl, h1, h2, h3⟩ := h
  rw [List.length_singleton] at h2 h3
  exact ⟨rfl, h1, by omega, by omega⟩
theorem vars_src {T : List Tok} (hT : ∀ t ∈ T, Again t) : ∀ (f : Nat) (acc : List (List UInt8)) (i op : Nat), AllOk acc → Wh (fun l i' op' => op' = op ∧ AllOk l ∧ acc.length ≤ l.length ∧ (if acc.length = l.length then i ≤ i' else 2 * l.length + 1 + i ≤ 2 * acc.length + i')) (sVars T f acc i op)
 | 0, _, _, _, _ => by rw [sVars]; exact wh_none
 | f + 1, acc, i, op, ha => by
  rw [sVars]
  split
  ·refine wh_bind (names_src hT f (i + 1) op) fun l i1 op1 h => wh_need ?_
   obtain ⟨rfl, h1, h2, h3⟩ := h
   refine wh_mono (vars_src hT f (acc ++ l) (i1 + 1) _ (ha.app h1)) fun l2 i' op' h => ?_
   obtain ⟨rfl, g1, g2, g3⟩ := h
   rw [List.length_append] at g2 g3
   refine ⟨rfl, g1, by omega, ?_⟩
   rw [if_neg (by omega)]
   split at g3 <;> omega
  ·exact wh_ok ⟨rfl, ha, Nat.le_refl _, by rw [if_pos rfl]; omega⟩
theorem func_src {T : List Tok} (hT : ∀ t ∈ T, Again t) (f i : Nat) : Wh (fun a i' op' => op' = 0 ∧ ∃ ts d, PF a ts d ∧ d ≤ 100 ∧ ts.length + i ≤ i' + 1) (sFunc T f i 0) := by
 unfold sFunc
 refine wh_name hT fun nm hnm => wh_begin fun _ => wh_bind (P := fun ps i' op' => op' = 1 ∧ AllOk ps ∧ 2 * ps.length - 1 + (i + 1 + 1) ≤ i') ?_ fun ps i1 op1 h => wh_end (wh_begin fun _ => ?_)
 ·split
  ·exact wh_ok ⟨rfl, (fun x hx => by cases hx), by simp⟩
  ·exact wh_mono (names_src hT f _ _) fun l i' op' h => ⟨h.1, h.2.1, by omega⟩
 obtain ⟨rfl, h1, h2⟩ := h
 refine wh_bind (vars_src hT f [] _ _ fun x hx => by cases hx) fun ls i2 op2 h => ?_
 obtain ⟨rfl, g1, _, g3⟩ := h
 refine wh_bind ((st_src hT f).2.1 [] i2 i2 _ [] 0 .nil (by simp) (by omega)) fun b i3 op3 h => wh_end ?_
 obtain ⟨rfl, ts, d, k1, k2, k3⟩ := h
 refine wh_ok ⟨by omega, _, _, .mk hnm h1 g1 k1, by omega, ?_⟩
 simp only [List.length_cons, List.length_append, List.length_nil, commas_len, varK_len] at g3 ⊢
 by_cases hl : ls = []
 ·subst hl
  simp only [List.length_nil, if_pos] at g3 ⊢
  omega
 ·have : ¬ 0 = ls.length := fun h => hl (List.eq_nil_of_length_eq_zero h.symm)
  rw [if_neg this] at g3
  rw [if_neg hl]
  omega
theorem array_src {T : List Tok} (hT : ∀ t ∈ T, Again t) (i : Nat) : Wh (fun a i' op' => op' = 0 ∧ NameOk a.name ∧ a.size < 4294967296 ∧ 5 + i ≤ i') (sArray T i 0) := by
 unfold sArray
 exact wh_name hT fun nm hnm => wh_begin fun _ => wh_number fun n hn => wh_end (wh_need (wh_ok ⟨rfl, hnm, hn, by omega⟩))
/-- How many tokens a program takes at least. -/
def ntK (v : Nat) (a : Nat) (t : Nat) : Nat := (if v = 0 then 0 else 2 * v + 1) + 6 * a + t
theorem prog_src {T : List Tok} (hT : ∀ t ∈ T, Again t) : ∀ (f : Nat) (v : List (List UInt8)) (a : List Ar) (fs : List FnD) (ts : List KT) (i : Nat), AllOk v → ArsOk a → PFs fs ts → ntK v.length a.length ts.length ≤ i → i ≤ T.length →
  Wh (fun q _ _ => ∃ v' a' f' t', q = ⟨v', a', f'⟩ ∧ AllOk v' ∧ ArsOk a' ∧ PFs f' t' ∧ ntK v'.length a'.length t'.length ≤ T.length) (sProg T f ⟨v, a, fs⟩ i 0)
 | 0, _, _, _, _, _, _, _, _, _, _ => by rw [sProg]; exact wh_none
 | f + 1, v, a, fs, ts, i, hv, ha, hf, hi, hT' => by
  rw [sProg]
  split
  ·exact wh_ok ⟨_, _, _, _, rfl, hv, ha, hf, by omega⟩
  rename_i hlt
  split
  ·rename_i hw
   refine wh_any fun l i1 op1 h1 => ?_
   have hg := (sVars_good T f [] i 0 _ h1).2.2.1 hT'
   obtain ⟨rfl, g1, _, g3⟩ := vars_src hT f [] i 0 (fun x hx => by cases hx) _ _ _ h1
   refine prog_src hT f (v ++ l) a fs ts i1 (hv.app g1) ha hf ?_ hg
   rw [List.length_append]
   simp only [List.length_nil] at g3
   unfold ntK at hi ⊢
   split at g3
   ·rename_i h0
    rw [← h0, Nat.add_zero]
    omega
   ·rw [if_neg (by omega)]
    split at hi <;> omega
  ·split
   ·refine wh_any fun l i1 op1 h1 => ?_
    have hg := (sArray_good T (i + 1) 0 _ h1).2.2.1 (by omega)
    obtain ⟨rfl, g1, g2, g3⟩ := array_src hT (i + 1) _ _ _ h1
    refine prog_src hT f v (a ++ [l]) fs ts i1 hv (fun x hx => ?_) hf ?_ hg
    ·rcases List.mem_append.1 hx with h | h
     ·exact ha x h
     ·cases List.mem_singleton.1 h; exact ⟨g1, g2⟩
    ·rw [List.length_append, List.length_singleton]
     unfold ntK at hi ⊢
     omega
   ·split
    ·refine wh_any fun l i1 op1 h1 => ?_
     have hg := (sFunc_good T f (i + 1) 0 _ h1).2.2.1 (by omega)
     obtain ⟨rfl, t1, d, g1, g2, g3⟩ := func_src hT f (i + 1) _ _ _ h1
     refine prog_src hT f v a (fs ++ [l]) (ts ++ t1) i1 hv ha (hf.snoc g1 g2) ?_ hg
     rw [List.length_append]
     unfold ntK at hi ⊢
     omega
    ·exact fun _ _ _ e => by cases e
theorem arK_len : ∀ a : List Ar, ((a.map arK).flatten).length = 6 * a.length
 | [] => rfl
 | a :: l => by
  rw [List.map_cons, List.flatten_cons, List.length_append, arK_len l, List.length_cons]
  simp only [arK, List.length_cons, List.length_nil]
  omega
/-- What is parsed can be printed with no more tokens. -/
theorem src_print {T : List Tok} (hT : ∀ t ∈ T, Again t) {f i op : Nat} {p : Pr} (h : sProg T f ⟨[], [], []⟩ 0 0 = some (.ok p i op)) : ∃ ts, PP p ts ∧ ts.length ≤ T.length := by
 obtain ⟨v, a, fs, t, rfl, h1, h2, h3, h4⟩ := prog_src hT f [] [] [] [] 0 (fun x hx => by cases hx) (fun x hx => by cases hx) .nil (by simp [ntK]) (Nat.zero_le _) _ _ _ h
 refine ⟨_, .mk h1 h2 h3, ?_⟩
 simp only [List.length_append, varK_len, arK_len]
 unfold ntK at h4
 by_cases hv : v = []
 ·subst hv
  simp only [List.length_nil, if_pos] at h4 ⊢
  omega
 ·have : ¬ v.length = 0 := fun h => hv (List.eq_nil_of_length_eq_zero h)
  rw [if_neg this] at h4
  rw [if_neg hv]
  omega
end Go.Stele
namespace Go.Stele
section
variable {T T' : List Tok} {d m : Nat}
end
/-- An error has a number that is not 0. -/
def EN {A : Type} (r : OR A) : Prop := ∀ l e, r = some (.err l e) → ¬ e = 0
theorem EN.none {A : Type} : EN (none : OR A) := fun _ _ h => by cases h
theorem EN.ok {A : Type} {v : A} {i op : Nat} : EN (some (.ok v i op)) := fun _ _ h => by cases h
theorem EN.bind {A B : Type} {r : OR A} {f : A → Nat → Nat → OR B} (h : EN r) (hf : ∀ v i op, EN (f v i op)) : EN (obind r f) := fun l e hq => by
 rcases obind_some hq with ⟨v, i, op, _, h2⟩ | ⟨l', e', h1, h2⟩
 ·exact hf _ _ _ _ _ h2
 ·cases h2
  exact h _ _ h1
theorem EN.ite {A : Type} {c : Prop} [Decidable c] {a b : OR A} (h1 : EN a) (h2 : EN b) : EN (if c then a else b) := by
 split
 ·exact h1
 ·exact h2
theorem EN.syn {A : Type} {T : List Tok} {i : Nat} : EN (A := A) (some (synErr T i)) := fun l e h => by
 cases h
 decide
theorem EN.word {T : List Tok} {k : Int} {i op : Nat} : EN (some (sWord T k i op)) := by
 unfold sWord
 split
 ·split
  ·exact EN.ok
  ·exact EN.syn
 ·exact EN.syn
theorem EN.need {T : List Tok} {x : List UInt8} {i op : Nat} : EN (some (sNeed T x i op)) := by
 unfold sNeed
 split
 ·exact EN.ok
 ·exact EN.syn
theorem EN.begin {T : List Tok} {x : List UInt8} {i op : Nat} : EN (some (sBegin T x i op)) := by
 unfold sBegin
 split
 ·split
  ·intro l e h
   cases h
   decide
  ·exact EN.ok
 ·exact EN.syn
theorem EN.end' {T : List Tok} {x : List UInt8} {i op : Nat} : EN (some (sEnd T x i op)) := by
 unfold sEnd sNeed
 split
 ·exact EN.ok
 ·exact EN.syn
theorem EN.number {T : List Tok} {i op : Nat} : EN (some (sNumber T i op)) := by
 unfold sNumber sWord
 split
 ·split
  ·exact EN.ok
  ·exact EN.syn
 ·exact EN.syn
theorem namesLoop_en (T : List Tok) : ∀ (f : Nat) (acc : List (List UInt8)) (i op : Nat), EN (sNamesLoop T f acc i op)
 | 0, _, _, _ => EN.none
 | f + 1, acc, i, op => by
  rw [sNamesLoop]
  exact EN.ite (EN.bind EN.word fun _ _ _ => namesLoop_en T f _ _ _) EN.ok
theorem names_en (T : List Tok) (f i op : Nat) : EN (sNames T f i op) := EN.bind EN.word fun _ _ _ => namesLoop_en T f _ _ _
theorem ex_en (T : List Tok) : ∀ f : Nat, (∀ k i op, EN (eLev T f k i op)) ∧ (∀ k e i op, EN (eLoop T f k e i op)) ∧ (∀ i op, EN (eUnary T f i op)) ∧ (∀ i op, EN (ePrim T f i op)) ∧ (∀ i op, EN (eIndex T f i op)) ∧ (∀ i op, EN (eArgs T f i op)) ∧ (∀ acc i op, EN (eArgsLoop T f acc i op))
 | 0 => ⟨fun _ _ _ => by rw [eLev]; exact EN.none, fun _ _ _ _ => by rw [eLoop]; exact EN.none, fun _ _ => by rw [eUnary]; exact EN.none, fun _ _ => by rw [ePrim]; exact EN.none, fun _ _ => by rw [eIndex]; exact EN.none, fun _ _ => by rw [eArgs]; exact EN.none, fun _ _ _ => by rw [eArgsLoop]; exact EN.none⟩
 | f + 1 => by
  obtain ⟨hL, hO, hU, hP, hI, hA, hB⟩ := ex_en T f
  refine ⟨fun k i op => ?_, fun k e i op => ?_, fun i op => ?_, fun i op => ?_, fun i op => ?_, fun i op => ?_, fun acc i op => ?_⟩
  ·rw [eLev]
   exact EN.ite (hU _ _) (EN.bind (hL _ _ _) fun _ _ _ => hO _ _ _ _)
  ·rw [eLoop]
   exact EN.ite (EN.bind (hL _ _ _) fun _ _ _ => EN.ite EN.ok (hO _ _ _ _)) EN.ok
  ·rw [eUnary]
   exact EN.ite (EN.bind EN.begin fun _ _ _ => EN.bind (hU _ _) fun _ _ _ => EN.ok) (EN.ite (EN.bind EN.begin fun _ _ _ => EN.bind (hU _ _) fun _ _ _ => EN.ok) (hP _ _))
  ·rw [ePrim]
   exact EN.ite (EN.bind EN.begin fun _ _ _ => EN.bind (hL _ _ _) fun _ _ _ => EN.bind EN.end' fun _ _ _ => EN.ok) (EN.ite (EN.bind EN.number fun _ _ _ => EN.ok) (EN.bind EN.word fun _ _ _ => EN.ite (EN.bind (hI _ _) fun _ _ _ => EN.ok) (EN.ite (EN.bind (hA _ _) fun _ _ _ => EN.ok) EN.ok)))
  ·rw [eIndex]
   exact EN.bind EN.begin fun _ _ _ => EN.bind (hL _ _ _) fun _ _ _ => EN.bind EN.end' fun _ _ _ => EN.ok
  ·rw [eArgs]
   exact EN.bind EN.begin fun _ _ _ => EN.bind (hB _ _ _) fun _ _ _ => EN.bind EN.end' fun _ _ _ => EN.ok
  ·rw [eArgsLoop]
   refine EN.ite EN.ok (EN.bind ?_ fun _ _ _ => EN.bind (hL _ _ _) fun _ _ _ => hB _ _ _)
   split
   ·exact EN.ok
   ·exact EN.need
theorem st_en (T : List Tok) : ∀ f : Nat, (∀ i op, EN (sBlock T f i op)) ∧ (∀ acc i op, EN (sStmts T f acc i op)) ∧ (∀ i op, EN (sStmt T f i op)) ∧ (∀ i op, EN (sSimple T f i op))
 | 0 => ⟨fun _ _ => by rw [sBlock]; exact EN.none, fun _ _ _ => by rw [sStmts]; exact EN.none, fun _ _ => by rw [sStmt]; exact EN.none, fun _ _ => by rw [sSimple]; exact EN.none⟩
 | f + 1 => by
  obtain ⟨hB, hS, hT, hM⟩ := st_en T f
  obtain ⟨hL, _, _, _, hI, hA, _⟩ := ex_en T f
  refine ⟨fun i op => ?_, fun acc i op => ?_, fun i op => ?_, fun i op => ?_⟩
  ·rw [sBlock]
   exact EN.bind EN.begin fun _ _ _ => EN.bind (hS _ _ _) fun _ _ _ => EN.bind EN.end' fun _ _ _ => EN.ok
  ·rw [sStmts]
   exact EN.ite EN.ok (EN.bind (hT _ _) fun _ _ _ => hS _ _ _)
  ·rw [sStmt]
   exact EN.ite (EN.bind (hL _ _ _) fun _ _ _ => EN.bind (hB _ _) fun _ _ _ => EN.ite (EN.bind (hB _ _) fun _ _ _ => EN.ok) EN.ok) (EN.ite (EN.bind (hL _ _ _) fun _ _ _ => EN.bind (hB _ _) fun _ _ _ => EN.ok) (EN.bind (hM _ _) fun _ _ _ => EN.bind EN.need fun _ _ _ => EN.ok))
  ·rw [sSimple]
   exact EN.ite (EN.bind (hL _ _ _) fun _ _ _ => EN.ok) (EN.ite EN.ok (EN.bind EN.word fun _ _ _ => EN.ite (EN.bind (hA _ _) fun _ _ _ => EN.ok) (EN.ite (EN.bind (hI _ _) fun _ _ _ => EN.bind EN.need fun _ _ _ => EN.bind (hL _ _ _) fun _ _ _ => EN.ok) (EN.bind EN.need fun _ _ _ => EN.bind (hL _ _ _) fun _ _ _ => EN.ok))))
theorem vars_en (T : List Tok) : ∀ (f : Nat) (acc : List (List UInt8)) (i op : Nat), EN (sVars T f acc i op)
 | 0, _, _, _ => EN.none
 | f + 1, acc, i, op => by
  rw [sVars]
  exact EN.ite (EN.bind (names_en T f _ _) fun _ _ _ => EN.bind EN.need fun _ _ _ => vars_en T f _ _ _) EN.ok
theorem func_en (T : List Tok) (f i op : Nat) : EN (sFunc T f i op) := by
 unfold sFunc
 exact EN.bind EN.word fun _ _ _ => EN.bind EN.begin fun _ _ _ => EN.bind (EN.ite EN.ok (names_en T f _ _)) fun _ _ _ => EN.bind EN.end' fun _ _ _ => EN.bind EN.begin fun _ _ _ => EN.bind (vars_en T f _ _ _) fun _ _ _ => EN.bind ((st_en T f).2.1 _ _ _) fun _ _ _ => EN.bind EN.end' fun _ _ _ => EN.ok
theorem array_en (T : List Tok) (i op : Nat) : EN (sArray T i op) := by
 unfold sArray
 exact EN.bind EN.word fun _ _ _ => EN.bind EN.begin fun _ _ _ => EN.bind EN.number fun _ _ _ => EN.bind EN.end' fun _ _ _ => EN.bind EN.need fun _ _ _ => EN.ok
theorem prog_en (T : List Tok) : ∀ (f : Nat) (p : Pr) (i op : Nat), EN (sProg T f p i op)
 | 0, _, _, _ => EN.none
 | f + 1, p, i, op => by
  rw [sProg]
  exact EN.ite EN.ok (EN.ite (EN.bind (vars_en T f _ _ _) fun _ _ _ => prog_en T f _ _ _) (EN.ite (EN.bind (array_en T _ _) fun _ _ _ => prog_en T f _ _ _) (EN.ite (EN.bind (func_en T f _ _) fun _ _ _ => prog_en T f _ _ _) EN.syn)))
end Go.Stele
set_option maxRecDepth 100000
namespace Go.Stele
open Go.Lib
theorem again_sg {x : List UInt8} (h : x ∈ signs) : Again ⟨4, x, 0⟩ := again_sign x h
theorem op_facts1 : ∀ s, s < 6 → ∀ o ∈ lvOps s, o ≠ nNum ∧ o ≠ nVar ∧ o ≠ nElem ∧ o ≠ nCall := by decide +kernel
theorem op_facts2 : ∀ s, s < 6 → ∀ o ∈ lvOps s, o ≠ nNeg ∧ o ≠ nNot ∧ strengthP o = s ∧ o ∈ signs := by decide +kernel
theorem op_facts (s : Nat) (hs : s < 6) (o : List UInt8) (ho : o ∈ lvOps s) : o ≠ nNum ∧ o ≠ nVar ∧ o ≠ nElem ∧ o ≠ nCall ∧ o ≠ nNeg ∧ o ≠ nNot ∧ strengthP o = s ∧ o ∈ signs := by
 obtain ⟨h1, h2, h3, h4⟩ := op_facts1 s hs o ho
 exact ⟨h1, h2, h3, h4, op_facts2 s hs o ho⟩
theorem opnd_no {o t : List UInt8} {k : Nat} (h : k ≤ strengthP o) : opnd (o, t) k = t := by
 unfold opnd
 rw [if_neg (by simp only; omega)]
theorem fE_num (n : Nat) : fE (.mk nNum n [] []) = decDigits n := by
 rw [fE_mk, fNode, if_pos rfl]
theorem fE_var (s : List UInt8) : fE (.mk nVar 0 s []) = s := by
 rw [fE_mk, fNode, if_neg (by decide), if_pos rfl]
theorem fE_elem (s : List UInt8) (a : Ex) : fE (.mk nElem 0 s [a]) = s ++ [91] ++ fE a ++ [93] := by
 rw [fE_mk, fNode, if_neg (by decide), if_neg (by decide), if_pos ⟨rfl, rfl⟩]
 rfl
theorem fE_call (s : List UInt8) (l : List Ex) : fE (.mk nCall 0 s l) = s ++ [40] ++ join (l.map fE) comSp ++ [41] := by
 rw [fE_mk, fNode, if_neg (by decide), if_neg (by decide), if_neg (fun h => absurd h.1 (by decide)), if_pos rfl, List.map_map]
 rfl
theorem fE_neg (a : Ex) : fE (.mk nNeg 0 [] [a]) = 45 :: opnd (exOp a, fE a) 6 := by
 rw [fE_mk, fNode, if_neg (by decide), if_neg (by decide), if_neg (fun h => absurd h.1 (by decide)), if_neg (by decide), if_pos ⟨rfl, rfl⟩]
 rfl
theorem fE_not (a : Ex) : fE (.mk nNot 0 [] [a]) = 33 :: opnd (exOp a, fE a) 6 := by
 rw [fE_mk, fNode, if_neg (by decide), if_neg (by decide), if_neg (fun h => absurd h.1 (by decide)), if_neg (by decide), if_neg (fun h => absurd h.1 (by decide)), if_pos ⟨rfl, rfl⟩]
 rfl
theorem fE_bin {s : Nat} {o : List UInt8} (hs : s < 6) (ho : o ∈ lvOps s) (a b : Ex) : fE (.mk o 0 [] [a, b]) = opnd (exOp a, fE a) (leftLv s) ++ [32] ++ o ++ [32] ++ opnd (exOp b, fE b) (s + 1) := by
 obtain ⟨h1, h2, h3, h4, h5, h6, h7, _⟩ := op_facts s hs o ho
 rw [fE_mk, fNode, if_neg h1, if_neg h2, if_neg (fun h => h3 h.1), if_neg h4, if_neg (fun h => h5 h.1), if_neg (fun h => h6 h.1), if_pos (by rfl), h7]
 rfl
theorem join_two (x y : List UInt8) (r : List (List UInt8)) : join (x :: y :: r) comSp = x ++ (44 :: 32 :: join (y :: r) comSp) := by
 have h : join (x :: y :: r) comSp = x ++ comSp ++ join (y :: r) comSp := by simp [join]
 rw [h, List.append_assoc]
 rfl
/-! ### Statements -/
theorem fOne_one (e : Ex) : fOne [e] = fE e := by
 unfold fOne
 rw [show List.map fE [e] = [fE e] from rfl, join_one]
/-! ### Declarations -/
end Go.Stele
set_option maxRecDepth 100000
namespace Go.Stele
open Go.Lib
theorem NameOk.len {s : List UInt8} (h : NameOk s) : s.length ≤ 24 := h.1
theorem opnd_le (o t : List UInt8) (k : Nat) : (opnd (o, t) k).length ≤ t.length + 2 := by
 unfold opnd
 split
 ·simp only [List.length_append, List.length_cons, List.length_nil]
  omega
 ·simp only
  omega
theorem opnd_ge (o t : List UInt8) (k : Nat) : t.length ≤ (opnd (o, t) k).length := by
 unfold opnd
 split
 ·simp only [List.length_append, List.length_cons, List.length_nil]
  omega
 ·simp only
  omega
/-- A text is no longer than 26 characters for each token. -/
def ZE (e : Ex) : Prop := ∀ (k : Nat) (ts : List KT) (d : Nat), k ≤ 6 → PE e k ts d → (opnd (exOp e, fE e) k).length ≤ 26 * ts.length
theorem ZE.zero {e : Ex} (h : ZE e) {ts : List KT} {d : Nat} (hp : PE e 0 ts d) : (fE e).length ≤ 26 * ts.length := by
 have := h 0 ts d (by omega) hp
 rwa [opnd_no (Nat.zero_le _)] at this
theorem list_size : ∀ (l : List Ex) (ts : List KT) (d : Nat), (∀ x ∈ l, ZE x) → PEs l ts d → (join (l.map fE) comSp).length ≤ 26 * ts.length
 | [], ts, d, _, hp => Nat.zero_le _
 | a :: l, ts, d, hl, hp => by
  cases hp with
  | one ha =>
   rw [show List.map fE [a] = [fE a] from rfl, join_one]
   exact (hl a (List.mem_cons_self ..)).zero ha
  | @more _ b l t1 t2 d1 d2 ha hr =>
   have h1 := (hl a (List.mem_cons_self ..)).zero ha
   have h2 := list_size (b :: l) t2 d2 (fun x hx => hl x (List.mem_cons_of_mem _ hx)) hr
   rw [List.map_cons] at h2
   rw [List.map_cons, List.map_cons, join_two]
   simp only [List.length_append, List.length_cons]
   omega
theorem ex_size : ∀ (n : Nat) (e : Ex), nEx e ≤ n → ZE e
 | 0, .mk _ _ _ _, hn => by rw [nEx] at hn; omega
 | n + 1, e, hn => by
  intro k ts d hk hp
  have bin : ∀ {s : Nat} {o : List UInt8} {a b : Ex} {t1 t2 : List KT} {d1 d2 : Nat}, nEx (.mk o 0 [] [a, b]) ≤ n + 1 → s < 6 → o ∈ lvOps s → PE a (leftLv s) t1 d1 → PE b (s + 1) t2 d2 → (fE (.mk o 0 [] [a, b])).length ≤ 26 * (t1 ++ (4, o) :: t2).length := by
   intro s o a b t1 t2 d1 d2 hn hs ho pa pb
   obtain ⟨_, _, _, _, _, _, _, h8⟩ := op_facts s hs o ho
   have h9 : o.length ≤ 24 := (again_sg h8).1
   simp only [nEx, nExs] at hn
   have h1 := ex_size n a (by omega) (leftLv s) t1 d1 (by unfold leftLv; split <;> omega) pa
   have h2 := ex_size n b (by omega) (s + 1) t2 d2 (by omega) pb
   rw [fE_bin hs ho]
   simp only [List.length_append, List.length_cons, List.length_nil]
   omega
  cases hp with
  | num h =>
   rename_i m
   show (opnd (nNum, fE _) k).length ≤ _
   rw [opnd_no (by rw [show strengthP nNum = 7 from rfl]; omega), fE_num]
   have := dec_len h
   simp only [List.length_cons, List.length_nil]
   omega
  | var h =>
   show (opnd (nVar, fE _) k).length ≤ _
   rw [opnd_no (by rw [show strengthP nVar = 7 from rfl]; omega), fE_var]
   have := h.len
   simp only [List.length_cons, List.length_nil]
   omega
  | elem h ha =>
   rename_i s a t1 d1
   simp only [nEx, nExs] at hn
   show (opnd (nElem, fE _) k).length ≤ _
   rw [opnd_no (by rw [show strengthP nElem = 7 from rfl]; omega), fE_elem]
   have := h.len
   have h1 := (ex_size n a (by omega)).zero ha
   simp only [List.length_append, List.length_cons, List.length_nil]
   omega
  | call h ha =>
   rename_i s l t1 d1
   simp only [nEx] at hn
   show (opnd (nCall, fE _) k).length ≤ _
   rw [opnd_no (by rw [show strengthP nCall = 7 from rfl]; omega), fE_call]
   have := h.len
   have h1 := list_size l t1 d1 (fun x hx => ex_size n x (by have := nExs_mem hx; omega)) ha
   simp only [List.length_append, List.length_cons, List.length_nil]
   omega
  | neg ha =>
   simp only [nEx, nExs] at hn
   show (opnd (nNeg, fE _) k).length ≤ _
   rw [opnd_no (by rw [show strengthP nNeg = 6 from rfl]; omega), fE_neg]
   have h1 := ex_size n _ (by omega) 6 _ _ (by omega) ha
   simp only [List.length_cons]
   omega
  | not ha =>
   simp only [nEx, nExs] at hn
   show (opnd (nNot, fE _) k).length ≤ _
   rw [opnd_no (by rw [show strengthP nNot = 6 from rfl]; omega), fE_not]
   have h1 := ex_size n _ (by omega) 6 _ _ (by omega) ha
   simp only [List.length_cons]
   omega
  | par hs ho hk2 ha hb =>
   have h1 := bin hn hs ho ha hb
   refine Nat.le_trans (opnd_le _ _ k) ?_
   simp only [List.length_append, List.length_cons, List.length_nil] at h1 ⊢
   omega
  | bin hs ho hk2 ha hb =>
   obtain ⟨_, _, _, _, _, _, h7, _⟩ := op_facts _ hs _ ho
   simp only [exOp]
   rw [opnd_no (by omega)]
   exact bin hn hs ho ha hb
theorem ze (e : Ex) : ZE e := ex_size _ e (Nat.le_refl _)
theorem ind2_len (ind : List UInt8) : (ind2 ind).length = ind.length + 2 := by simp [ind2]
theorem sm_size : ∀ (n : Nat), (∀ (s : Sm), nSm s ≤ n → ∀ (ts : List KT) (d M : Nat) (ind : List UInt8), PS s ts d → ind.length + 2 * d + 40 ≤ M → (fS ind s).length ≤ ts.length * M) ∧
  (∀ (l : List Sm), nSms l ≤ n → ∀ (ts : List KT) (d M : Nat) (ind : List UInt8), PSs l ts d → ind.length + 2 * d + 40 ≤ M → (fSs ind l).length ≤ ts.length * M)
 | 0 => by
  refine ⟨fun s hn => ?_, fun l hn ts d M ind hp hM => ?_⟩
  ·obtain ⟨k, a, b, c, d, e⟩ := s
   rw [nSm] at hn
   omega
  ·cases hp with
   | nil => exact Nat.zero_le _
   | cons h1 h2 =>
    rename_i s _ _ _ _ _
    obtain ⟨k, a, b, c, d, e⟩ := s
    rw [nSms, nSm] at hn
    omega
 | n + 1 => by
  obtain ⟨hS, hL⟩ := sm_size n
  have hS' : ∀ (s : Sm), nSm s ≤ n + 1 → ∀ (ts : List KT) (d M : Nat) (ind : List UInt8), PS s ts d → ind.length + 2 * d + 40 ≤ M → (fS ind s).length ≤ ts.length * M := by
   intro s hn ts d M ind hp hM
   have em : ∀ (t : Nat), 26 * t ≤ t * M := fun t => by rw [Nat.mul_comm]; exact Nat.mul_le_mul_left t (by omega)
   cases hp with
   | assign hs he =>
    rename_i s e t1
    have h1 := (ze e).zero he
    have h2 := em t1.length
    have h3 := hs.len
    rw [fS_mk, fLine, if_pos rfl, fOne_one]
    simp only [List.length_append, List.length_cons, List.length_nil, Nat.add_mul, Nat.one_mul, Nat.zero_mul, Nat.zero_add]
    omega
   | store hs hx he =>
    rename_i s x e t1 t2 d1 d2
    have h1 := (ze x).zero hx
    have h1' := (ze e).zero he
    have h2 := em t1.length
    have h2' := em t2.length
    have h3 := hs.len
    rw [fS_mk, fLine, if_neg (by decide), if_pos rfl, fOne_one, fOne_one]
    simp only [List.length_append, List.length_cons, List.length_nil, Nat.add_mul, Nat.one_mul, Nat.zero_mul, Nat.zero_add]
    omega
   | call hs hl =>
    rename_i s l t1 d1
    have h1 := list_size l t1 d1 (fun x _ => ze x) hl
    have h2 := em t1.length
    have h3 := hs.len
    rw [fS_mk, fLine, if_neg (by decide), if_neg (by decide), if_pos rfl, fOne_one, fE_call]
    simp only [List.length_append, List.length_cons, List.length_nil, Nat.add_mul, Nat.one_mul, Nat.zero_mul, Nat.zero_add]
    omega
   | ret he =>
    rename_i e t1
    have h1 := (ze e).zero he
    have h2 := em t1.length
    rw [fS_mk, fLine, if_neg (by decide), if_neg (by decide), if_neg (by decide), if_pos rfl, fOne_one]
    simp only [List.length_append, List.length_cons, List.length_nil, Nat.add_mul, Nat.one_mul, Nat.zero_mul, Nat.zero_add]
    omega
   | halt =>
    rw [fS_mk, fLine, if_neg (by decide), if_neg (by decide), if_neg (by decide), if_neg (by decide), if_pos rfl]
    simp only [List.length_append, List.length_cons, List.length_nil, Nat.add_mul, Nat.one_mul, Nat.zero_mul, Nat.zero_add]
    omega
   | ifElse he g1 g2 hne =>
    rename_i e th el t0 t1 t2 d0 d1 d2
    simp only [nSm] at hn
    have h1 := (ze e).zero he
    have h2 := em t0.length
    have k1 := hL th (by omega) t1 d1 M (ind2 ind) g1 (by rw [ind2_len]; omega)
    have k2 := hL el (by omega) t2 d2 M (ind2 ind) g2 (by rw [ind2_len]; omega)
    have hem : el.isEmpty = false := by cases el <;> simp_all
    rw [fS_mk, fLine, if_neg (by decide), if_neg (by decide), if_neg (by decide), if_neg (by decide), if_neg (by decide), if_pos (by decide), if_neg (by decide), fOne_one, hem, if_neg (by decide)]
    simp only [List.length_append, List.length_cons, List.length_nil, Nat.add_mul, Nat.one_mul, Nat.zero_mul, Nat.zero_add]
    omega
   | ifThen he g1 =>
    rename_i e th t0 t1 d0 d1
    simp only [nSm] at hn
    have h1 := (ze e).zero he
    have h2 := em t0.length
    have k1 := hL th (by omega) t1 d1 M (ind2 ind) g1 (by rw [ind2_len]; omega)
    rw [fS_mk, fLine, if_neg (by decide), if_neg (by decide), if_neg (by decide), if_neg (by decide), if_neg (by decide), if_pos (by decide), if_neg (by decide), fOne_one, if_pos (by rfl)]
    simp only [List.length_append, List.length_cons, List.length_nil, Nat.add_mul, Nat.one_mul, Nat.zero_mul, Nat.zero_add]
    omega
   | «while» he g1 =>
    rename_i e th t0 t1 d0 d1
    simp only [nSm] at hn
    have h1 := (ze e).zero he
    have h2 := em t0.length
    have k1 := hL th (by omega) t1 d1 M (ind2 ind) g1 (by rw [ind2_len]; omega)
    rw [fS_mk, fLine, if_neg (by decide), if_neg (by decide), if_neg (by decide), if_neg (by decide), if_neg (by decide), if_pos (by decide), if_pos rfl, fOne_one, if_pos (by rfl)]
    simp only [List.length_append, List.length_cons, List.length_nil, Nat.add_mul, Nat.one_mul, Nat.zero_mul, Nat.zero_add]
    omega
  refine ⟨hS', fun l hn ts d M ind hp hM => ?_⟩
  cases hp with
  | nil => exact Nat.zero_le _
  | cons h1 h2 =>
   rename_i s l t1 t2 d1 d2
   have hpos : 0 < nSm s := by obtain ⟨k, a, b, c, d, e⟩ := s; rw [nSm]; omega
   rw [nSms] at hn
   have k1 := hS' s (by omega) t1 d1 M ind h1 (by omega)
   have k2 := hL l (by omega) t2 d2 M ind h2 (by omega)
   rw [fSs, List.length_append, List.length_append, Nat.add_mul]
   omega
theorem names_size : ∀ (l : List (List UInt8)), AllOk l → (join l comSp).length ≤ 26 * (commas l).length
 | [], _ => Nat.zero_le _
 | [a], ha => by
  rw [join_one]
  have := (ha a (List.mem_cons_self ..)).len
  simp only [commas, List.length_cons, List.length_nil]
  omega
 | a :: b :: l, ha => by
  have h1 := names_size (b :: l) fun x hx => ha x (List.mem_cons_of_mem _ hx)
  have := (ha a (List.mem_cons_self ..)).len
  rw [join_two]
  simp only [commas, List.length_append, List.length_cons]
  omega
theorem varsT_size {l : List (List UInt8)} (hl : AllOk l) : (if l = [] then [] else varsT l).length ≤ 26 * (varK l).length := by
 have h1 := names_size l hl
 unfold varK varsT
 split
 ·exact Nat.zero_le _
 ·simp only [List.length_append, List.length_cons, List.length_nil]
  omega
theorem fn_size {a : FnD} {ts : List KT} {d : Nat} (hp : PF a ts d) (hd : d ≤ 100) : (fFn a).length ≤ 242 * ts.length := by
 cases hp with
 | mk hn hps hls hb =>
  rename_i nm ps ls b t1 d1
  have h1 := names_size ps hps
  have h2 := varsT_size hls
  have h3 := hn.len
  have h4 := (sm_size _).2 b (Nat.le_refl _) t1 d1 242 [32, 32] hb (by simp only [List.length_cons, List.length_nil]; omega)
  unfold fFn
  by_cases hl0 : ls = []
  ·rw [if_pos hl0]
   simp only [List.length_append, List.length_cons, List.length_nil]
   omega
  ·rw [if_neg hl0] at h2
   rw [if_neg hl0]
   simp only [List.length_append, List.length_cons, List.length_nil] at h2 ⊢
   omega
theorem ars_size : ∀ (l : List Ar), ArsOk l → ((l.map fAr).flatten).length ≤ 242 * ((l.map arK).flatten).length
 | [], _ => Nat.zero_le _
 | a :: l, hl => by
  have h1 := ars_size l fun x hx => hl x (List.mem_cons_of_mem _ hx)
  have h2 := (hl a (List.mem_cons_self ..)).1.len
  have h3 := dec_len (hl a (List.mem_cons_self ..)).2
  rw [List.map_cons, List.map_cons, List.flatten_cons, List.flatten_cons, List.length_append, List.length_append]
  have h4 : (fAr a).length ≤ 242 * (arK a).length := by
   unfold fAr arK
   simp only [List.length_append, List.length_cons, List.length_nil]
   omega
  omega
theorem fns_size : ∀ (l : List FnD) {ts : List KT}, PFs l ts → ((l.map fFn).flatten).length ≤ 242 * ts.length
 | [], _, hp => Nat.zero_le _
 | a :: l, _, hp => by
  cases hp with
  | cons hf hd hl =>
   have h1 := fn_size hf hd
   have h2 := fns_size l hl
   rw [List.map_cons, List.flatten_cons, List.length_append, List.length_append]
   omega
/-- A printed program has at most 242 characters for each token. -/
theorem print_size {p : Pr} {ts : List KT} (hp : PP p ts) : (formatP p).length ≤ 242 * ts.length := by
 cases hp with
 | mk hv ha hf =>
  have h1 := varsT_size hv
  have h2 := ars_size _ ha
  have h3 := fns_size _ hf
  unfold formatP
  simp only [List.length_append] at h1 h2 h3 ⊢
  omega
theorem pes_len : ∀ (l : List Ex) (ts : List KT) (d : Nat), PEs l ts d → l.length ≤ ts.length + 1
 | [], _, _, _ => Nat.zero_le _
 | a :: l, ts, d, hp => by
  cases hp with
  | one ha => simp only [List.length_cons, List.length_nil]; omega
  | @more _ b l t1 t2 d1 d2 ha hr =>
   have := pes_len (b :: l) t2 d2 hr
   simp only [List.length_cons, List.length_append] at this ⊢
   omega
theorem pes_mem : ∀ (l : List Ex) (ts : List KT) (d : Nat), PEs l ts d → ∀ x ∈ l, ∃ t d', PE x 0 t d' ∧ t.length ≤ ts.length
 | [], _, _, _, _, hx => by cases hx
 | a :: l, ts, d, hp, x, hx => by
  cases hp with
  | one ha =>
   rcases List.mem_cons.1 hx with rfl | hx
   ·exact ⟨_, _, ha, Nat.le_refl _⟩
   ·cases hx
  | @more _ b l t1 t2 d1 d2 ha hr =>
   rcases List.mem_cons.1 hx with rfl | hx
   ·exact ⟨_, _, ha, by simp only [List.length_append]; omega⟩
   ·obtain ⟨t, d', h1, h2⟩ := pes_mem (b :: l) t2 d2 hr x hx
    exact ⟨t, d', h1, by simp only [List.length_append, List.length_cons]; omega⟩
end Go.Stele
namespace Go.Proofs.YtfodkbchknknjaaGreatDoor
open Go.GL Go.RowKit Go.Stele
set_option maxRecDepth 100000
set_option maxHeartbeats 4000000
/-! ### A printed program is small -/
theorem okEs_of {l : List Ex} (h : ∀ x ∈ l, okE x) : okEs l := by
 induction l with
 | nil => trivial
 | cons a l ih => exact ⟨h a (List.mem_cons_self ..), ih fun x hx => h x (List.mem_cons_of_mem _ hx)⟩
theorem pe_ok : ∀ (n : Nat) (e : Ex), nEx e ≤ n → ∀ (k : Nat) (ts : List KT) (d : Nat), PE e k ts d → ts.length ≤ 100000 → okE e
 | 0, .mk _ _ _ _, hn => by rw [nEx] at hn; omega
 | n + 1, e, hn => by
  intro k ts d h hz
  cases h with
  | num h => exact ⟨h, by simp, trivial⟩
  | var h => exact ⟨by decide, by simp, trivial⟩
  | elem h ha =>
   simp only [nEx, nExs] at hn
   simp only [List.length_cons, List.length_append, List.length_nil] at hz
   exact ⟨by decide, by simp, pe_ok n _ (by omega) _ _ _ ha (by omega), trivial⟩
  | call h ha =>
   rename_i s l t1 d1
   simp only [nEx] at hn
   simp only [List.length_cons, List.length_append, List.length_nil] at hz
   refine ⟨by decide, by have := pes_len l t1 d1 ha; omega, okEs_of fun x hx => ?_⟩
   obtain ⟨t, d', h1, h2⟩ := pes_mem l t1 d1 ha x hx
   exact pe_ok n x (by have := nExs_mem hx; omega) _ _ _ h1 (by omega)
  | neg ha =>
   simp only [nEx, nExs] at hn
   simp only [List.length_cons] at hz
   exact ⟨by decide, by simp, pe_ok n _ (by omega) _ _ _ ha (by omega), trivial⟩
  | not ha =>
   simp only [nEx, nExs] at hn
   simp only [List.length_cons] at hz
   exact ⟨by decide, by simp, pe_ok n _ (by omega) _ _ _ ha (by omega), trivial⟩
  | par hs ho hk2 ha hb =>
   simp only [nEx, nExs] at hn
   simp only [List.length_cons, List.length_append, List.length_nil] at hz
   exact ⟨by decide, by simp, pe_ok n _ (by omega) _ _ _ ha (by omega), pe_ok n _ (by omega) _ _ _ hb (by omega), trivial⟩
  | bin hs ho hk2 ha hb =>
   simp only [nEx, nExs] at hn
   simp only [List.length_cons, List.length_append, List.length_nil] at hz
   exact ⟨by decide, by simp, pe_ok n _ (by omega) _ _ _ ha (by omega), pe_ok n _ (by omega) _ _ _ hb (by omega), trivial⟩
theorem peOk {e : Ex} {k : Nat} {ts : List KT} {d : Nat} (h : PE e k ts d) (hz : ts.length ≤ 100000) : okE e := pe_ok _ e (Nat.le_refl _) k ts d h hz
theorem ps_ok : ∀ (n : Nat), (∀ (s : Sm), nSm s ≤ n → ∀ (ts : List KT) (d : Nat), PS s ts d → ts.length ≤ 100000 → okS s) ∧
  (∀ (l : List Sm), nSms l ≤ n → ∀ (ts : List KT) (d : Nat), PSs l ts d → ts.length ≤ 100000 → okSs l)
 | 0 => by
  refine ⟨fun s hn => ?_, fun l hn ts d hp hz => ?_⟩
  ·obtain ⟨k, a, b, c, d, e⟩ := s
   rw [nSm] at hn
   omega
  ·cases hp with
   | nil => trivial
   | cons h1 h2 =>
    rename_i s _ _ _ _ _
    obtain ⟨k, a, b, c, d, e⟩ := s
    rw [nSms, nSm] at hn
    omega
 | n + 1 => by
  obtain ⟨hS, hL⟩ := ps_ok n
  have hS' : ∀ (s : Sm), nSm s ≤ n + 1 → ∀ (ts : List KT) (d : Nat), PS s ts d → ts.length ≤ 100000 → okS s := by
   intro s hn ts d hp hz
   cases hp with
   | assign hs he =>
    simp only [List.length_cons, List.length_append, List.length_nil] at hz
    exact ⟨trivial, ⟨peOk he (by omega), trivial⟩, trivial, trivial⟩
   | store hs hx he =>
    simp only [List.length_cons, List.length_append, List.length_nil] at hz
    exact ⟨⟨peOk hx (by omega), trivial⟩, ⟨peOk he (by omega), trivial⟩, trivial, trivial⟩
   | call hs hl =>
    rename_i s l t1 d1
    simp only [List.length_cons, List.length_append, List.length_nil] at hz
    have : PE (.mk nCall 0 s l) 0 ((2, s) :: sg 40 :: (t1 ++ [sg 41])) (d1 + 1) := .call hs hl
    exact ⟨trivial, ⟨peOk this (by simp only [List.length_cons, List.length_append, List.length_nil]; omega), trivial⟩, trivial, trivial⟩
   | ret he =>
    simp only [List.length_cons, List.length_append, List.length_nil] at hz
    exact ⟨trivial, ⟨peOk he (by omega), trivial⟩, trivial, trivial⟩
   | halt => exact ⟨trivial, trivial, trivial, trivial⟩
   | ifElse he g1 g2 hne =>
    simp only [nSm] at hn
    simp only [List.length_cons, List.length_append, List.length_nil] at hz
    exact ⟨trivial, ⟨peOk he (by omega), trivial⟩, hL _ (by omega) _ _ g1 (by omega), hL _ (by omega) _ _ g2 (by omega)⟩
   | ifThen he g1 =>
    simp only [nSm] at hn
    simp only [List.length_cons, List.length_append, List.length_nil] at hz
    exact ⟨trivial, ⟨peOk he (by omega), trivial⟩, hL _ (by omega) _ _ g1 (by omega), trivial⟩
   | «while» he g1 =>
    simp only [nSm] at hn
    simp only [List.length_cons, List.length_append, List.length_nil] at hz
    exact ⟨trivial, ⟨peOk he (by omega), trivial⟩, hL _ (by omega) _ _ g1 (by omega), trivial⟩
  refine ⟨hS', fun l hn ts d hp hz => ?_⟩
  cases hp with
  | nil => trivial
  | cons h1 h2 =>
   rename_i s l t1 t2 d1 d2
   have hpos : 0 < nSm s := by obtain ⟨k, a, b, c, d, e⟩ := s; rw [nSm]; omega
   rw [nSms] at hn
   simp only [List.length_append] at hz
   exact ⟨hS' s (by omega) _ _ h1 (by omega), hL l (by omega) _ _ h2 (by omega)⟩
theorem pssOk {l : List Sm} {ts : List KT} {d : Nat} (h : PSs l ts d) (hz : ts.length ≤ 100000) : okSs l := (ps_ok _).2 l (Nat.le_refl _) ts d h hz
attribute [local irreducible] LOps LCode LStep LCalls Go.GL.Pure QThen QBlock RetPost LQ LAny LLate LLateOp
section
variable {B0 : Nat} {w0 : World}
/-- What the walk of Format asks of a program. -/
structure FmtOk (p : Pr) : Prop where
 vars : p.vars.length ≤ 1000000000
 arrays : p.arrays.length ≤ 1000000000
 size : ∀ a ∈ p.arrays, a.size < 4294967296
 funcs : p.funcs.length ≤ 1000000000
 params : ∀ f ∈ p.funcs, f.params.length ≤ 1000000000 ∧ f.locals.length ≤ 1000000000 ∧ nSms f.body ≤ 1000000000 ∧ okSs f.body
 len : (formatP p).length ≤ 100000000
theorem flat_take {A : Type} (f : A → List UInt8) {l : List A} {i : Nat} (h : i < l.length) : ((l.take (i + 1)).map f).flatten = ((l.take i).map f).flatten ++ f l[i] := by
 rw [List.take_succ_eq_append_getElem h, List.map_append, List.flatten_append]
 simp
theorem flat_mem {A : Type} (f : A → List UInt8) {l : List A} {i : Nat} (h : i < l.length) : ((l.take i).map f).flatten.length + (f l[i]).length ≤ ((l.map f).flatten).length := by
 have h1 := flat_take f h
 have h2 : (l.map f).flatten = ((l.take (i + 1)).map f).flatten ++ ((l.drop (i + 1)).map f).flatten := by rw [← List.flatten_append, ← List.map_append, List.take_append_drop]
 rw [h2, h1]
 simp only [List.length_append]
 omega
theorem hsub_two (a b : Nat × LObj) (H : Heap) : HSub (b :: H) (H ++ [a, b]) := ⟨[a], (List.perm_append_comm (l₁ := H) (l₂ := [a, b])).trans (List.Perm.trans (List.Perm.swap b a H) (List.Perm.cons b (List.perm_append_singleton a H).symm))⟩
theorem hsub_one (a : Nat × LObj) (H : Heap) : HSub (a :: H) (H ++ [a]) := ⟨[], by rw [List.append_nil]; exact List.perm_append_singleton a H⟩
theorem Format_spec (hG : GW B0 w0) (p : Pr) (hp : FmtOk p) : LCalls (KC B0 w0) 23 [encPr p] [] (Ret (str (formatP p))) := by
 obtain ⟨vars, arrays, funcs⟩ := p
 obtain ⟨p1, p2, p3, p4, p5, p6⟩ := hp
 simp only at p1 p2 p3 p4 p5
 have hlv : (vars.map str).length = vars.length := List.length_map _
 have hla : (arrays.map encAr).length = arrays.length := List.length_map _
 have hlf : (funcs.map encFn).length = funcs.length := List.length_map _
 unfold formatP at p6 ⊢
 simp only [List.length_append] at p6
 simp only
 obtain ⟨V, hV⟩ : ∃ V, V = (if vars = [] then [] else varsT vars) := ⟨_, rfl⟩
 rw [← hV] at p6 ⊢
 rw [encPr]
 simp only
 refine LCalls.intro Tryz.func23 rfl (n := 69) rfl rfl rfl ?_
 repeat first | refine LCode.seq ?_ | refine LCode.region ?_
 refine LOps.step (S.box (cs := [.list (vars.map str), .list (arrays.map encAr), .list (funcs.map encFn)]) rfl fun b1 => ?_) rfl
 repeat first | refine LOps.nil ?_ | refine LCode.seq ?_ | refine LCode.region ?_ | refine QThen.normal ?_ | refine LOps.pure (Pure.as (lv := .atom _) rfl) rfl ?_
 refine LOps.step (S.alloc fun b3 => ?_) rfl
 repeat first | refine LOps.nil ?_ | refine LCode.seq ?_ | refine LCode.region ?_ | refine QThen.normal ?_ | refine LOps.pure (Pure.fieldH rfl) rfl ?_ | refine LOps.pure (Pure.loadH (c := .list _) rfl (List.Mem.tail _ (List.Mem.head _)) rfl) rfl ?_ | refine LOps.pure (Pure.llen rfl) rfl ?_ | refine LOps.pure (Pure.gtr rfl rfl) rfl ?_
 refine LCode.weak (HSub.pick (Pick.there Pick.here) (HSub.refl _)) ?_
 have hB0 : BH b3 [] [(b3, .cells 87 [.atom (.pointer none), .atom (.slice none 0 0)])] := ⟨_, _, [], .inl rfl, BRow.nil, rfl⟩
 refine LCode.midC (A := Heap) (fun _ => [(1, ptr b1 0), (3, ptr b3 0)]) (fun H => (b1, .cells 27 [.list (vars.map str), .list (arrays.map encAr), .list (funcs.map encFn)]) :: H) (fun H => BH b3 V H) ?_ (fun H hB j hj => ?_)
 ·refine LCode.cond rfl (fun h1 => ?_) (fun h1 => ?_)
  ·have hne : vars ≠ [] := by
    rintro rfl
    exact absurd h1 (by decide)
   rw [if_neg hne] at hV
   have hVl : V.length = 4 + (Go.Lib.join vars comSp).length + 2 := by
    rw [hV]
    simp only [varsT, List.length_append, List.length_cons, List.length_nil]
   repeat first | refine LCode.region ?_ | refine LOps.pure (Pure.fieldH rfl) rfl ?_ | refine LOps.pure (Pure.loadH (c := .list _) rfl (List.Mem.head _) rfl) rfl ?_
   refine LOps.step (S.fn [_, _] rfl (joinS_spec comSp vars (by omega) (by omega)) ?_) rfl
   repeat first | refine LOps.pure (Pure.sadd rfl rfl (by simp only [List.length_append, List.length_cons, List.length_nil]; omega)) rfl ?_
   refine LOps.step (S.callBH [_, _] rfl (writeString_spec b3 [] (varsT vars) _ hB0 (by rw [← hV]; simp only [List.length_nil]; omega)) fun v H2 hB2 => ?_) rfl
   repeat first | refine LOps.nil ?_ | refine QThen.normal ?_
   exact ⟨H2, by rw [hV]; exact hB2, ⟨rfl, rfl, trivial⟩, HSub.refl _, rfl⟩
  ·have hne : vars = [] := by
    have := of_decide_eq_false h1
    rw [hlv] at this
    exact List.eq_nil_of_length_eq_zero (by omega)
   rw [if_pos hne] at hV
   repeat first | refine LCode.skip ?_ | refine QThen.normal ?_
   exact ⟨_, by rw [hV]; exact hB0, ⟨rfl, rfl, trivial⟩, HSub.refl _, rfl⟩
 repeat first | refine LOps.nil ?_ | refine LCode.seq ?_ | refine LCode.region ?_ | refine LCode.block ?_ | refine QThen.normal ?_ | refine LOps.pure (Pure.fieldH rfl) rfl ?_ | refine LOps.pure (Pure.loadH (c := .list _) rfl (List.Mem.head _) rfl) rfl ?_ | refine LOps.pure (Pure.llen rfl) rfl ?_ | refine LOps.pure (Pure.mv (lv := .atom _) rfl) rfl ?_
 refine LCode.loopI (fun k ls H => ∃ i, i ≤ arrays.length ∧ k = arrays.length - i ∧ ls = [(1, ptr b1 0), (3, ptr b3 0), (19, .list (arrays.map encAr)), (20, int .i64 arrays.length), (21, int .i64 i)] ∧ ∃ H', H = (b1, .cells 27 [.list (vars.map str), .list (arrays.map encAr), .list (funcs.map encFn)]) :: H' ∧ BH b3 (V ++ ((arrays.take i).map fAr).flatten) H')
  ⟨_, _, _, ⟨0, Nat.zero_le _, rfl, rfl, _, rfl, by simpa using hB⟩, ⟨rfl, rfl, rfl, int_eq (by omega), rfl, trivial⟩, HSub.refl _⟩ ?_
 clear hB hB0
 rintro k ls H ⟨i, hi, rfl, rfl, H', rfl, hB⟩ j1 hj1
 repeat first | refine LOps.nil ?_ | refine LCode.seq ?_ | refine LCode.region ?_ | refine QThen.normal ?_ | refine LOps.pure (Pure.lss rfl rfl) rfl ?_
 refine LCode.cond rfl (fun hc => ?_) (fun hc => ?_)
 ·have hlt : i < arrays.length := by have := of_decide_eq_true hc; omega
  have hm := flat_mem fAr hlt
  have hsz := p3 arrays[i] (List.getElem_mem hlt)
  have hta := flat_take fAr hlt
  repeat first | refine LCode.seq ?_ | refine LCode.region ?_ | refine LCode.skip ?_ | refine LCode.block ?_ | refine QThen.normal ?_
  refine LOps.pure (Pure.ixRef (el' := encAr arrays[i]) (cs := [_, _]) rfl rfl (by omega) (map_get _ _ _ hlt) rfl rfl) rfl ?_
  repeat first | refine LOps.pure (Pure.ldRefAgg (cs' := [_, _]) rfl rfl rfl) rfl ?_
  refine LOps.step (S.alloc fun b5 => ?_) rfl
  repeat first | refine LOps.nil ?_ | refine QThen.normal ?_ | refine LOps.step (S.store (cs' := [_, _]) rfl Pick.here rfl rfl rfl rfl rfl ?_) rfl
  generalize arrays[i] = a at hm hsz hta ⊢
  obtain ⟨nm, sz⟩ := a
  simp only at hsz
  have hdl := dec_len hsz
  rw [show fAr ⟨nm, sz⟩ = [97, 114, 114, 97, 121, 32] ++ nm ++ [91] ++ Go.Lib.decDigits sz ++ [93, 59, 10] from rfl] at hm hta
  simp only [List.length_append, List.length_cons, List.length_nil] at hm
  refine LCode.draw (m := 10) rfl [(b5, .cells 70 [str nm, int .i64 sz])] ?_
  refine LAny.tk 0 rfl rfl (Pure.fieldH rfl) ?_
  refine LAny.tk 1 rfl rfl (Pure.loadH (c := .atom _) rfl (List.Mem.head _) rfl) ?_
  refine LAny.tk 2 rfl rfl (Pure.sadd rfl rfl (by simp only [List.length_append, List.length_cons, List.length_nil]; omega)) ?_
  refine LAny.tk 3 rfl rfl (Pure.sadd rfl rfl (by simp only [List.length_append, List.length_cons, List.length_nil]; omega)) ?_
  refine LAny.tk 4 rfl rfl (Pure.fieldH rfl) ?_
  refine LAny.tk 5 rfl rfl (Pure.loadH (c := .atom _) rfl (List.Mem.head _) rfl) ?_
  refine LAny.late ?_ (HSub.pick Pick.here (HSub.nil _))
  refine LLate.o 6 (LLateOp.step (H1 := []) rfl (.inl rfl) rfl (List.Perm.refl _) (HSub.pick Pick.here (HSub.nil _)) (S.fn [_] rfl (itoa_spec hG sz (by omega)) ?_))
  refine LLate.o 7 (LLateOp.pureH rfl rfl (Pure.sadd rfl rfl (by simp only [List.length_append, List.length_cons, List.length_nil]; omega)) ?_)
  refine LLate.o 8 (LLateOp.pureH rfl rfl (Pure.sadd rfl rfl (by simp only [List.length_append, List.length_cons, List.length_nil]; omega)) ?_)
  refine LLate.o 9 (LLateOp.step (H1 := H') (F := [(b5, .cells 70 [str nm, int .i64 sz]), (b1, .cells 27 [.list (vars.map str), .list (arrays.map encAr), .list (funcs.map encFn)])]) rfl (.inl rfl) rfl (List.perm_append_comm (l₁ := [_, _])) (HSub.pick Pick.here (HSub.nil _)) (LStep.call (args := [_, _]) (writeString_spec b3 _ ([97, 114, 114, 97, 121, 32] ++ nm ++ [91] ++ Go.Lib.decDigits sz ++ [93, 59, 10]) H' hB (by simp only [List.length_append, List.length_cons, List.length_nil]; omega)) (fun v3 H3 h3 => ?_) (fun ch H3 h3 => ?_)))
  rotate_left
  ·obtain ⟨⟨x, hx⟩, _⟩ := h3
   cases hx
  obtain ⟨_, hB3⟩ := h3
  refine LLate.done (by kernel_rfl) ?_
  repeat first | refine QThen.normal ?_ | refine QBlock.normal ?_
  repeat first | refine LOps.nil ?_ | refine LCode.region ?_ | refine QThen.normal ?_ | refine LOps.pure (Pure.mv (lv := .atom _) rfl) rfl ?_ | refine LOps.pure (Pure.add rfl rfl (by omega)) rfl ?_
  exact ⟨_, _, _, by omega, ⟨i + 1, by omega, rfl, rfl, H3, rfl, by rw [hta]; simpa only [List.append_assoc] using hB3⟩, ⟨rfl, rfl, rfl, rfl, int_eq (by omega), trivial⟩, hsub_two _ _ _, hj1⟩
 have hi' : i = arrays.length := by have := of_decide_eq_false hc; omega
 subst hi'
 rw [List.take_length] at hB
 clear hi hc
 generalize hA : (arrays.map fAr).flatten = A at hB p6 ⊢
 repeat first | refine LOps.nil ?_ | refine LCode.seq ?_ | refine LCode.region ?_ | refine LCode.exit ?_ | refine LCode.block ?_ | refine QThen.normal ?_ | refine QThen.exit ?_ | refine QBlock.hit ?_ | refine LOps.pure (Pure.fieldH rfl) rfl ?_ | refine LOps.pure (Pure.loadH (c := .list _) rfl (List.Mem.head _) rfl) rfl ?_ | refine LOps.pure (Pure.llen rfl) rfl ?_ | refine LOps.pure (Pure.mv (lv := .atom _) rfl) rfl ?_
 refine LCode.loopI (fun k ls H => ∃ i, i ≤ funcs.length ∧ k = funcs.length - i ∧ ls = [(3, ptr b3 0), (37, .list (funcs.map encFn)), (38, int .i64 funcs.length), (39, int .i64 i)] ∧ BH b3 (V ++ A ++ ((funcs.take i).map fFn).flatten) H)
  ⟨_, _, _, ⟨0, Nat.zero_le _, rfl, rfl, by simpa using hB⟩, ⟨rfl, rfl, int_eq (by omega), rfl, trivial⟩, HSub.drop (HSub.refl _)⟩ ?_
 clear hB
 rintro k ls H ⟨i, hi, rfl, rfl, hB⟩ j2 hj2
 repeat first | refine LOps.nil ?_ | refine LCode.seq ?_ | refine LCode.region ?_ | refine QThen.normal ?_ | refine LOps.pure (Pure.lss rfl rfl) rfl ?_
 refine LCode.cond rfl (fun hc => ?_) (fun hc => ?_)
 ·have hlt : i < funcs.length := by have := of_decide_eq_true hc; omega
  have hm := flat_mem fFn hlt
  have hpf := p5 funcs[i] (List.getElem_mem hlt)
  have hta := flat_take fFn hlt
  repeat first | refine LCode.seq ?_ | refine LCode.region ?_ | refine LCode.skip ?_ | refine LCode.block ?_ | refine QThen.normal ?_
  refine LOps.pure (Pure.ixRef (el' := encFn funcs[i]) (cs := [_, _, _, _]) rfl rfl (by omega) (map_get _ _ _ hlt) rfl rfl) rfl ?_
  repeat first | refine LOps.pure (Pure.ldRefAgg (cs' := [_, _, _, _]) rfl rfl rfl) rfl ?_
  refine LOps.step (S.alloc fun b7 => ?_) rfl
  repeat first | refine LOps.nil ?_ | refine LCode.seq ?_ | refine QThen.normal ?_ | refine LOps.step (S.store (cs' := [_, _, _, _]) rfl Pick.here rfl rfl rfl rfl rfl ?_) rfl
  generalize funcs[i] = a at hm hpf hta ⊢
  obtain ⟨nm, ps, lo, bd⟩ := a
  obtain ⟨q1, q2, q3, q4⟩ := hpf
  simp only at q1 q2 q3 q4
  have hll : (lo.map str).length = lo.length := List.length_map _
  rw [show fFn ⟨nm, ps, lo, bd⟩ = [102, 117, 110, 99, 32] ++ nm ++ [40] ++ Go.Lib.join ps comSp ++ [41, 32, 123, 10] ++ (if lo = [] then [] else [32, 32] ++ varsT lo) ++ fSs [32, 32] bd ++ [125, 10] from rfl] at hm hta
  simp only [List.length_append, List.length_cons, List.length_nil] at hm
  refine LCode.draw (m := 10) rfl [(b7, .cells 53 [str nm, .list (ps.map str), .list (lo.map str), .list (bd.map encS)])] ?_
  refine LAny.tk 0 rfl rfl (Pure.fieldH rfl) ?_
  refine LAny.tk 1 rfl rfl (Pure.loadH (c := .atom _) rfl (List.Mem.head _) rfl) ?_
  refine LAny.tk 2 rfl rfl (Pure.sadd rfl rfl (by simp only [List.length_append, List.length_cons, List.length_nil]; omega)) ?_
  refine LAny.tk 3 rfl rfl (Pure.sadd rfl rfl (by simp only [List.length_append, List.length_cons, List.length_nil]; omega)) ?_
  refine LAny.tk 4 rfl rfl (Pure.fieldH rfl) ?_
  refine LAny.tk 5 rfl rfl (Pure.loadH (c := .list _) rfl (List.Mem.head _) rfl) ?_
  refine LAny.late ?_ (HSub.pick Pick.here (HSub.nil _))
  refine LLate.o 6 (LLateOp.step (H1 := []) rfl (.inl rfl) rfl (List.Perm.refl _) (HSub.pick Pick.here (HSub.nil _)) (S.fn [_, _] rfl (joinS_spec comSp ps q1 (by omega)) ?_))
  refine LLate.o 7 (LLateOp.pureH rfl rfl (Pure.sadd rfl rfl (by simp only [List.length_append, List.length_cons, List.length_nil]; omega)) ?_)
  refine LLate.o 8 (LLateOp.pureH rfl rfl (Pure.sadd rfl rfl (by simp only [List.length_append, List.length_cons, List.length_nil]; omega)) ?_)
  refine LLate.o 9 (LLateOp.step (H1 := H) (F := [(b7, .cells 53 [str nm, .list (ps.map str), .list (lo.map str), .list (bd.map encS)])]) rfl (.inl rfl) rfl (List.perm_append_singleton _ _).symm (HSub.refl _) (LStep.call (args := [_, _]) (writeString_spec b3 _ ([102, 117, 110, 99, 32] ++ nm ++ [40] ++ Go.Lib.join ps comSp ++ [41, 32, 123, 10]) H hB (by simp only [List.length_append, List.length_cons, List.length_nil]; omega)) (fun v3 H3 h3 => ?_) (fun ch H3 h3 => ?_)))
  rotate_left
  ·obtain ⟨⟨x, hx⟩, _⟩ := h3
   cases hx
  obtain ⟨_, hB3⟩ := h3
  refine LLate.done (by kernel_rfl) ?_
  repeat first | refine QThen.normal ?_
  refine LCode.weak (H' := (b7, .cells 53 [str nm, .list (ps.map str), .list (lo.map str), .list (bd.map encS)]) :: H3) (hsub_one _ _) ?_
  repeat first | refine LOps.nil ?_ | refine LCode.seq ?_ | refine LCode.region ?_ | refine QThen.normal ?_ | refine LOps.pure (Pure.fieldH rfl) rfl ?_ | refine LOps.pure (Pure.loadH (c := .list _) rfl (List.Mem.head _) rfl) rfl ?_ | refine LOps.pure (Pure.llen rfl) rfl ?_ | refine LOps.pure (Pure.gtr rfl rfl) rfl ?_
  refine LCode.cond rfl (fun h1 => ?_) (fun h1 => ?_)
  ·have hne : lo ≠ [] := by
    rintro rfl
    exact absurd h1 (by decide)
   rw [if_neg hne] at hm hta
   rw [show varsT lo = [118, 97, 114, 32] ++ Go.Lib.join lo comSp ++ [59, 10] from rfl] at hm hta
   simp only [List.length_append, List.length_cons, List.length_nil] at hm
   repeat first | refine LCode.region ?_ | refine LOps.pure (Pure.fieldH rfl) rfl ?_ | refine LOps.pure (Pure.loadH (c := .list _) rfl (List.Mem.head _) rfl) rfl ?_
   refine LOps.step (S.fn [_, _] rfl (joinS_spec comSp lo q2 (by omega)) ?_) rfl
   repeat first | refine LOps.pure (Pure.sadd rfl rfl (by simp only [List.length_append, List.length_cons, List.length_nil]; omega)) rfl ?_
   refine LOps.step (S.callBH [_, _] rfl (writeString_spec b3 _ ([32, 32, 118, 97, 114, 32] ++ Go.Lib.join lo comSp ++ [59, 10]) H3 hB3 (by simp only [List.length_append, List.length_cons, List.length_nil]; omega)) fun v4 H4 hB4 => ?_) rfl
   repeat first | refine LOps.nil ?_ | refine LCode.seq ?_ | refine LCode.region ?_ | refine QThen.normal ?_ | refine LOps.pure (Pure.fieldH rfl) rfl ?_ | refine LOps.pure (Pure.loadH (c := .list _) rfl (List.Mem.head _) rfl) rfl ?_
   refine LOps.step (S.callBH [_, _, _] rfl (lines_spec hG _ bd [32, 32] _ b3 H4 (Nat.le_refl _) q3 q4 (by simp only [List.length_append, List.length_cons, List.length_nil]; omega) hB4) fun v5 H5 hB5 => ?_) rfl
   repeat first | refine LOps.nil ?_ | refine LCode.region ?_ | refine QThen.normal ?_
   refine LOps.step (S.callBH [_, _] rfl (writeString_spec b3 _ [125, 10] H5 hB5 (by simp only [List.length_append, List.length_cons, List.length_nil]; omega)) fun v6 H6 hB6 => ?_) rfl
   repeat first | refine LOps.nil ?_ | refine LCode.region ?_ | refine QThen.normal ?_ | refine QBlock.normal ?_ | refine LOps.pure (Pure.mv (lv := .atom _) rfl) rfl ?_ | refine LOps.pure (Pure.add rfl rfl (by omega)) rfl ?_
   exact ⟨_, _, _, by omega, ⟨i + 1, by omega, rfl, rfl, by rw [hta]; simpa only [List.append_assoc, List.cons_append, List.nil_append] using hB6⟩, ⟨rfl, rfl, rfl, int_eq (by omega), trivial⟩, HSub.drop (HSub.refl _), hj2⟩
  ·have hne : lo = [] := by
    have := of_decide_eq_false h1
    rw [hll] at this
    exact List.eq_nil_of_length_eq_zero (by omega)
   rw [if_pos hne] at hm hta
   simp only [List.length_append, List.length_cons, List.length_nil] at hm
   repeat first | refine LCode.seq ?_ | refine LCode.region ?_ | refine LCode.skip ?_ | refine QThen.normal ?_ | refine LOps.pure (Pure.fieldH rfl) rfl ?_ | refine LOps.pure (Pure.loadH (c := .list _) rfl (List.Mem.head _) rfl) rfl ?_
   refine LOps.step (S.callBH [_, _, _] rfl (lines_spec hG _ bd [32, 32] _ b3 H3 (Nat.le_refl _) q3 q4 (by simp only [List.length_append, List.length_cons, List.length_nil]; omega) hB3) fun v5 H5 hB5 => ?_) rfl
   repeat first | refine LOps.nil ?_ | refine LCode.region ?_ | refine QThen.normal ?_
   refine LOps.step (S.callBH [_, _] rfl (writeString_spec b3 _ [125, 10] H5 hB5 (by simp only [List.length_append, List.length_cons, List.length_nil]; omega)) fun v6 H6 hB6 => ?_) rfl
   repeat first | refine LOps.nil ?_ | refine LCode.region ?_ | refine QThen.normal ?_ | refine QBlock.normal ?_ | refine LOps.pure (Pure.mv (lv := .atom _) rfl) rfl ?_ | refine LOps.pure (Pure.add rfl rfl (by omega)) rfl ?_
   exact ⟨_, _, _, by omega, ⟨i + 1, by omega, rfl, rfl, by rw [hta]; simpa only [List.append_assoc, List.cons_append, List.nil_append] using hB6⟩, ⟨rfl, rfl, rfl, int_eq (by omega), trivial⟩, HSub.drop (HSub.refl _), hj2⟩
 ·have hi' : i = funcs.length := by have := of_decide_eq_false hc; omega
  subst hi'
  rw [List.take_length] at hB
  repeat first | refine LCode.seq ?_ | refine LCode.region ?_ | refine LCode.exit ?_ | refine QThen.normal ?_ | refine QThen.exit ?_ | refine QBlock.hit ?_
  refine LOps.step (S.callH (H1 := H) (F := []) [_] rfl (by simp) (string_spec b3 _ H hB (by simp only [List.length_append, List.length_cons, List.length_nil]; omega)) (fun x H' h => ?_) (fun ch H' h => ?_)) rfl
  ·obtain ⟨hx, hH⟩ := h
   cases hx
   repeat first | refine LOps.nil ?_ | refine LCode.ret ?_ | refine QThen.normal ?_ | refine LOps.pure (Pure.as (lv := .atom _) rfl) rfl ?_
   exact retRet (hj2.trans (hj1.trans hj)) (AllRes.cons (ResIs.tmp (v := .atom _) rfl (LV.Sub.refl _)) AllRes.nil) rfl
  ·cases h.1
end
end Go.Proofs.YtfodkbchknknjaaGreatDoor
namespace Go.Proofs.YtfodkbchknknjaaGreatDoor
open Go.GL Go.RowKit Go.Stele
set_option maxRecDepth 100000
set_option maxHeartbeats 4000000
attribute [local irreducible] LOps LCode LStep LCalls Go.GL.Pure QThen QBlock RetPost LQ LAny LLate LLateOp LCodeR LOpsW RetPostM LIter LYield
def lvs : List (List (List UInt8)) := [lvOps 0, lvOps 1, lvOps 2, lvOps 3, lvOps 4, lvOps 5]
theorem lvs_at (q : Nat) (h : q < 6) : backArgs lvs q = [int .i64 (((5 - q : Nat) : Int)), .list ((lvOps (5 - q)).map str)] := by
 have : q = 0 ∨ q = 1 ∨ q = 2 ∨ q = 3 ∨ q = 4 ∨ q = 5 := by omega
 rcases this with rfl | rfl | rfl | rfl | rfl | rfl <;> rfl
theorem RetPostM.mkRet {C : Ctx} {n : Nat} {e : Env} {H H' : Heap} {R : LRes → Heap → Prop} {rs : List ResultVar} {vs : List LV} {D : Nat} (hd : e.ds = [{ target := .collected D, args := #[] }]) (F : Heap) (hp : H.Perm ((D, .obj (.deferred (some []))) :: F)) (h : AllRes C n e F rs vs) (hH : HSub H' F) (hR : R (.ret (resLV vs)) H') :
  RetPostM C n rs R .ret e H := by
 unfold RetPostM
 exact ⟨D, F, hd, hp, vs, H', h, hH, hR⟩
theorem RetPostM.mkPanic {C : Ctx} {n : Nat} {e : Env} {H H' : Heap} {R : LRes → Heap → Prop} {rs : List ResultVar} {ch : List PanicEntry} {D : Nat} (hd : e.ds = [{ target := .collected D, args := #[] }]) (F : Heap) (hp : H.Perm ((D, .obj (.deferred (some []))) :: F)) (hH : HSub H' F) (hR : R (.panic ch) H') :
  RetPostM C n rs R (.panic ch) e H := by
 unfold RetPostM
 exact .inr ⟨D, F, hd, hp, H', hH, hR⟩
section
variable {B0 : Nat} {w0 : World}
theorem expr_spec (sb : Nat) (T : List Tok) (f : Nat) (hC : CloC B0 w0 sb T f) : ExprC B0 w0 sb T f := by
 intro i op r hi ho hr
 refine LCalls.introM Tryz.func144 rfl (n := 20) rfl rfl rfl ?_
 repeat first | refine LCode.seq ?_ | refine LCode.region ?_
 refine LOps.step (S.box rfl fun b1 => ?_) rfl
 refine LOps.step (S.alloc fun b2 => ?_) rfl
 repeat first | refine LOps.nil ?_ | refine LCode.seq ?_ | refine LCode.region ?_ | refine QThen.normal ?_ | refine LOps.pure (Pure.loadH (c := .atom _) rfl (List.Mem.tail _ (List.Mem.head _)) rfl) rfl ?_ | refine LOps.pure (Pure.makeFunc rfl rfl) rfl ?_
 refine LOps.step (S.alloc fun b3 => ?_) rfl
 repeat first | refine LOps.nil ?_ | refine LCode.seq ?_ | refine LCode.region ?_ | refine QThen.normal ?_ | refine LOps.step (S.store (cs' := [_]) rfl Pick.here rfl rfl rfl rfl rfl ?_) rfl
 refine LOps.step (S.fn [] rfl levels_spec ?_) rfl
 refine LOps.step (S.call0 [_] rfl (backward_spec levelsLV) (fun v H' h => ?_) (fun ch H' h => ?_)) rfl
 ·obtain ⟨bB, h, rfl⟩ := h
  cases h
  repeat first | refine LOps.nil ?_ | refine LCode.block ?_ | refine QThen.normal ?_
  have hexit : ∀ (first caps : Array Value) (fn : FuncId) (Hclo F : Heap), Clo sb 0 fn first caps Hclo → TEnter Tryz.prog fn := fun _ _ _ _ _ h => h.enter
  refine LCode.rangeFunc (g := .tmp 9) (ps := [10, 11]) (caps := #[.pointer (some ⟨bB, 0, none⟩)]) (by rfl) lvs.length (backArgs lvs)
   [(b3, .cells 148 [.atom (.func (.func 164) #[.pointer (some ⟨sb, 0, none⟩)] #[])]), (b2, .cells 38 [str [], int .u32 0, str [], nilSlice]), (b1, .cells 59 [ptr sb 0]), srcH sb T i op] [(bB, .cells 159 [.list levelsLV])]
   (List.perm_append_singleton _ _).symm (iter_spec bB lvs (by decide)) (fun k hk => by rw [lvs_at k hk]; rfl) (by rfl)
   (fun q Hq => ∃ (fn : FuncId) (first caps : Array Value) (Hclo : Heap), Clo sb (6 - q) fn first caps Hclo ∧ Hq = (b3, .cells 148 [.atom (.func (.func fn) first caps)]) :: (b2, .cells 38 [str [], int .u32 0, str [], nilSlice]) :: (b1, .cells 59 [ptr sb 0]) :: srcH sb T i op :: Hclo)
   ⟨_, _, _, [], .un, rfl⟩ ?_ ?_
  ·rintro q Hq hq ⟨fn, first, caps, Hclo, hclo, rfl⟩ j hjd hja l D o oD
   have hq6 : q < 6 := hq
   have hj1 : j.s 1 = ptr b1 0 := hja 1 _ rfl
   have hj3 : j.s 3 = ptr b3 0 := hja 3 _ rfl
   rw [lvs_at q hq6, ← Env.slots_self (e := j) (l := [(1, ptr b1 0), (3, ptr b3 0)]) (by
    intro p hp
    simp only [List.mem_cons, List.not_mem_nil, or_false] at hp
    rcases hp with rfl | rfl
    ·exact hj1
    ·exact hj3)]
   refine LCodeR.seq ?_
   refine LCodeR.region rfl ?_
   repeat first | refine LOps.nil ?_ | refine QThen.normal ?_ | refine LOps.pure (Pure.as (lv := .atom _) rfl) rfl ?_
   refine LCodeR.region rfl ?_
   repeat first | refine LOps.nil ?_ | refine QThen.normal ?_ | refine LOps.pure (Pure.as (lv := .list _) rfl) rfl ?_
   refine ⟨hjd, _, rfl, fun o' => ?_⟩
   refine LCodeR.block ?_
   refine LCodeR.region rfl ?_
   repeat first | refine LOps.pure (Pure.loadH (c := .atom _) rfl (List.Mem.tail _ (List.Mem.tail _ (List.Mem.head _))) rfl) rfl ?_ | refine LOps.pure (Pure.loadH (c := .atom _) rfl (List.Mem.tail _ (List.Mem.tail _ (List.Mem.tail _ (List.Mem.tail _ (List.Mem.head _))))) rfl) rfl ?_ | refine LOps.pure (Pure.mv (lv := .list _) rfl) rfl ?_ | refine LOps.pure (Pure.mv (lv := .atom _) rfl) rfl ?_ | refine LOps.pure (Pure.eql rfl rfl) rfl ?_
   refine LOps.step (S.call0 [_, _, _, _] rfl (binary_spec sb ((lvOps (5 - q)).map str) (decide (((5 - q : Nat) : Int) = 2)) fn first caps) (fun v H' h => ?_) (fun ch H' h => ?_)) rfl
   ·obtain ⟨bo, bs, bp, bn, h, rfl⟩ := h
    cases h
    repeat first | refine LOps.nil ?_ | refine QThen.normal ?_ | refine LOps.step (S.store (cs' := [_]) rfl (Pick.there (Pick.there (Pick.there (Pick.there (Pick.there (Pick.there Pick.here)))))) rfl rfl rfl rfl rfl ?_) rfl
    refine ⟨(b3, .cells 148 [.atom (.func (.func 176) #[] #[.pointer (some ⟨bo, 0, none⟩), .pointer (some ⟨bs, 0, none⟩), .pointer (some ⟨bp, 0, none⟩), .pointer (some ⟨bn, 0, none⟩)])]) :: (b2, .cells 38 [str [], int .u32 0, str [], nilSlice]) :: (b1, .cells 59 [ptr sb 0]) :: srcH sb T i op ::
     (bo, .cells 148 [.atom (.func (.func fn) first caps)]) :: (bs, .cells 59 [ptr sb 0]) :: (bp, .cells 23 [.list ((lvOps (5 - q)).map str)]) :: (bn, .cells 4 [bool (decide (((5 - q : Nat) : Int) = 2))]) :: Hclo, ?_, _, _, _, _, ?_, rfl⟩
    ·exact HSub.pick (Pick.there (Pick.there (Pick.there (Pick.there (Pick.there Pick.here))))) (HSub.pick (Pick.there (Pick.there (Pick.there (Pick.there (Pick.there Pick.here))))) (HSub.pick Pick.here (HSub.pick (Pick.there (Pick.there (Pick.there (Pick.there Pick.here)))) (HSub.pick (Pick.there (Pick.there (Pick.there (Pick.there Pick.here)))) (HSub.pick (Pick.there (Pick.there (Pick.there (Pick.there Pick.here)))) (HSub.refl _))))))
    ·have e1 : 6 - (q + 1) = 5 - q := by omega
     have e2 : 6 - q = 5 - q + 1 := by omega
     rw [e1]
     rw [e2] at hclo
     exact .bin hclo
   ·obtain ⟨_, _, _, _, h, _⟩ := h
    cases h
  ·rintro D H' ⟨fn, first, caps, Hclo, hclo, rfl⟩
   have hclo0 : Clo sb 0 fn first caps Hclo := hclo
   have hen := hexit _ _ _ _ [] hclo0
   repeat first | refine LCode.seq ?_ | refine QThen.normal ?_ | refine QBlock.normal ?_
   refine LCode.weak (H' := (D, .obj (.deferred (some []))) :: (b3, .cells 148 [.atom (.func (.func fn) first caps)]) :: (b2, .cells 38 [str [], int .u32 0, str [], nilSlice]) :: (b1, .cells 59 [ptr sb 0]) :: srcH sb T i op :: Hclo) ⟨[(bB, .cells 159 [.list levelsLV])], List.Perm.refl _⟩ ?_
   repeat first | refine LCode.region ?_ | refine LOps.pure (Pure.loadH (c := .atom _) rfl (List.Mem.tail _ (List.Mem.head _)) rfl) rfl ?_
   refine LOps.step (S.callClo (F := [(D, .obj (.deferred (some []))), (b3, .cells 148 [.atom (.func (.func fn) first caps)]), (b2, .cells 38 [str [], int .u32 0, str [], nilSlice]), (b1, .cells 59 [ptr sb 0])]) (Hc := Hclo) rfl (Pick.there (Pick.there (Pick.there (Pick.there Pick.here)))) (hC _ _ _ _ _ _ _ r hclo0 hi ho hr) (fun v i1 op1 h1 => ?_) (fun l er i1 op1 h1 e' he' => ?_)) rfl
   ·repeat first | refine LOps.nil ?_ | refine LCode.ret ?_ | refine QThen.normal ?_ | refine LOps.step (S.store (cs' := [_, _, _, _]) rfl (Pick.there (Pick.there (Pick.there Pick.here))) rfl rfl rfl rfl rfl ?_) rfl
    exact RetPostM.mkRet rfl _ (Pick.there (Pick.there Pick.here)) (AllRes.cons (ResIs.cellAgg rfl (List.Mem.head _) rfl (LV.Sub.refl _)) AllRes.nil) (HSub.pick (Pick.there Pick.here) (HSub.nil _)) (by rw [h1]; exact ⟨rfl, rfl⟩)
   ·repeat first | refine QThen.panic ?_
    refine RetPostM.mkPanic (he'.trans rfl) (srcH sb T i1 op1 :: (Hclo ++ [(b3, .cells 148 [.atom (.func (.func fn) first caps)]), (b2, .cells 38 [str [], int .u32 0, str [], nilSlice]), (b1, .cells 59 [ptr sb 0])])) ?_ (HSub.pick Pick.here (HSub.nil _)) (by rw [h1]; exact ⟨rfl, i1, op1, rfl⟩)
    exact (List.Perm.cons _ List.perm_middle).trans (List.Perm.swap _ _ _)
 ·obtain ⟨bB, h, _⟩ := h
  cases h
theorem all_spec (hG : GW B0 w0) (sb : Nat) (T : List Tok) (hT : TOK T) : ∀ f : Nat, CloC B0 w0 sb T f ∧ ExprC B0 w0 sb T f := by
 intro f
 induction f using Nat.strongRecOn with
 | _ f ih =>
  have hC : CloC B0 w0 sb T f := by
   intro k fn first caps Hc i op r hclo hi ho hr
   cases hclo with
   | un =>
    obtain ⟨f, rfl⟩ : ∃ g, f = g + 1 := by
     cases f with
     | zero => rw [eLev] at hr; cases hr
     | succ g => exact ⟨g, rfl⟩
    rw [eLev, if_pos rfl] at hr
    refine LCalls.mono (unary_spec hG sb T hT f (fun g hg => (ih g (by omega)).2) i op r hi ho hr) ?_
    intro r' H h
    cases r with
    | ok v i' op' => exact h
    | err l e => exact h
   | bin h => exact bin_spec hG sb T hT f (fun g hg => (ih g hg).1) _ _ _ _ _ _ _ _ _ h i op r hi ho hr
  exact ⟨hC, expr_spec sb T f hC⟩
end
end Go.Proofs.YtfodkbchknknjaaGreatDoor
