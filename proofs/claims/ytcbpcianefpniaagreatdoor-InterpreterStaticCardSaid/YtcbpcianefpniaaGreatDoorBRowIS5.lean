/- Texts joined: Lex6, ParP1, ParP2, ParP3, ParP4, ParP5, ParP6, GlRange, ParP7. -/
import Derived.RangeFuncFrom
import Derived.RangeFuncLeaves
import Derived.TacticsIn
import Derived.Test.YtcbpcianefpniaaGreatDoorBRowIS1
import Derived.Test.YtcbpcianefpniaaGreatDoorBRowIS2
import Derived.Test.YtcbpcianefpniaaGreatDoorBRowIS4
set_option linter.unusedVariables false
set_option linter.unusedSimpArgs false
namespace Go.Proofs.YtcbpcianefpniaaGreatDoor
open Go.GL Go.RowKit Go.Stele
set_option maxRecDepth 100000
set_option maxHeartbeats 4000000
attribute [local irreducible] LOps LCode LStep LCalls Go.GL.Pure QThen QBlock RetPost
def lexAllP (s : List UInt8) : Except (Int × Int) (List Tok) := if 60000 < s.length then .error (0, 6) else lexP s.length s 1
def encLex : Except (Int × Int) (List Tok) → LV
 | .ok T => .tuple [.list (T.map encTok), int .i64 0, int .i64 0]
 | .error (l, e) => .tuple [.list [], int .i64 l, int .i64 e]
theorem map_map_ex {A B D : Type} (f : A → B) (h : B → D) (r : Except (Int × Int) A) : (r.map f).map h = r.map (fun x => h (f x)) := by cases r <;> rfl
section
variable {B0 : Nat} {w0 : World}
theorem Tokens_spec (hG : GW B0 w0) (s : List UInt8) (hs : s.length ≤ 1000000000) : LCalls (KC B0 w0) 37 [str s] [] (Ret (encLex (lexAllP s))) := by
 refine LCalls.intro Tryz.func37 rfl (n := 49) rfl rfl rfl ?_
 repeat first | refine LOps.nil ?_ | refine LCode.seq ?_ | refine LCode.region ?_ | refine QThen.normal ?_ | refine LOps.pure (Pure.as (lv := .atom _) rfl) rfl ?_ | refine LOps.pure (Pure.mv (lv := .atom _) rfl) rfl ?_ | refine LOps.pure (Pure.slen rfl) rfl ?_ | refine LOps.pure (Pure.gtr rfl rfl) rfl ?_
 refine LCode.cond rfl (fun hc => ?_) (fun hc => ?_)
 ·repeat first | refine LOps.nil ?_ | refine LCode.seq ?_ | refine LCode.region ?_ | refine LCode.ret ?_ | refine QThen.normal ?_ | refine QThen.ret ?_ | refine LOps.pure (Pure.as (lv := .atom _) rfl) rfl ?_
  exact retRet rfl (AllRes.cons (ResIs.tmp (v := nilSlice) rfl LV.Sub.nil) (AllRes.cons (ResIs.tmp (v := .atom _) rfl (LV.Sub.refl _)) (AllRes.cons (ResIs.tmp (v := .atom _) rfl (LV.Sub.refl _)) AllRes.nil))) (by
   rw [lexAllP, if_pos (by have := of_decide_eq_true hc; omega)]
   rfl)
 ·have hlen : s.length ≤ 60000 := by have := of_decide_eq_false hc; omega
  repeat first | refine LOps.nil ?_ | refine LCode.seq ?_ | refine LCode.region ?_ | refine LCode.skip ?_ | refine LCode.block ?_ | refine QThen.normal ?_ | refine LOps.pure (Pure.as (lv := .atom _) rfl) rfl ?_ | refine LOps.pure (Pure.mv (lv := .atom _) rfl) rfl ?_
  refine LCode.loopI (fun k ls H => ∃ (v : LV) (out : List Tok) (rest : List UInt8) (line : Int) (fuel : Nat), k = rest.length ∧ ls = [(5, v), (6, int .i64 line), (7, str rest)] ∧ Acc 3 v (out.map encTok) H [] ∧
    rest.length ≤ fuel ∧ 0 ≤ line ∧ line + rest.length ≤ 60001 ∧ out.length + rest.length ≤ 60000 ∧ lexP s.length s 1 = (lexP fuel rest line).map (out ++ ·))
   ⟨_, _, _, ⟨nilSlice, [], s, 1, s.length, rfl, rfl, Acc.nil, by omega, by omega, by omega, by simp; omega, by cases lexP s.length s 1 <;> rfl⟩, ⟨rfl, rfl, rfl, trivial⟩, HSub.refl _⟩ ?_
  rintro k ls H ⟨v, out, rest, line, fuel, rfl, rfl, hacc, hf, hl0, hl1, ho, hI⟩ j hj
  repeat first | refine LOps.nil ?_ | refine LCode.seq ?_ | refine LCode.region ?_ | refine QThen.normal ?_ | refine LOps.pure (Pure.mv (lv := .atom _) rfl) rfl ?_ | refine LOps.pure (Pure.sneq rfl rfl) rfl ?_
  refine LCode.cond rfl (fun hne => ?_) (fun hne => ?_)
  ·have hrest : rest ≠ [] := by simpa using hne
   obtain ⟨f, rfl⟩ : ∃ f, fuel = f + 1 := ⟨fuel - 1, by
    have : 0 < rest.length := List.length_pos_iff.2 hrest
    omega⟩
   rw [lexP, if_neg hrest] at hI
   have hsk := skipLen_le rest
   repeat first | refine LCode.seq ?_ | refine LCode.region ?_ | refine LCode.skip ?_ | refine LCode.block ?_ | refine QThen.normal ?_ | refine LOps.pure (Pure.mv (lv := .atom _) rfl) rfl ?_
   refine LOps.step (S.fn [_] rfl (skip_spec rest (by omega)) ?_) rfl
   repeat first | refine LOps.nil ?_ | refine LCode.seq ?_ | refine LCode.region ?_ | refine QThen.normal ?_ | refine LOps.pure (Pure.as (lv := .atom _) rfl) rfl ?_ | refine LOps.pure (Pure.mv (lv := .atom _) rfl) rfl ?_ | refine LOps.pure (Pure.eql rfl rfl) rfl ?_
   refine LCode.cond rfl (fun hz => ?_) (fun hz => ?_)
   ·have hz' : skipLen rest = 0 := by have := of_decide_eq_true hz; omega
    rw [if_pos hz'] at hI
    repeat first | refine LCode.seq ?_ | refine LCode.region ?_ | refine LOps.pure (Pure.mv (lv := .atom _) rfl) rfl ?_
    refine LOps.step (S.fn [_] rfl (token_spec hG rest (by omega) hrest) ?_) rfl
    repeat first | refine LOps.pure (Pure.mv (lv := .tuple _) rfl) rfl ?_ | refine LOps.pure (Pure.extract (c := .agg _) rfl rfl) rfl ?_ | refine LOps.pure (Pure.extract (c := .atom _) rfl rfl) rfl ?_
    refine LOps.step (S.alloc fun b => ?_) rfl
    repeat first | refine LOps.nil ?_ | refine LCode.seq ?_ | refine LCode.region ?_ | refine QThen.normal ?_ | refine LOps.pure (Pure.as (lv := .atom _) rfl) rfl ?_ | refine LOps.pure (Pure.mv (lv := .atom _) rfl) rfl ?_ | refine LOps.pure (Pure.neq rfl rfl) rfl ?_ | refine LOps.step (S.store (cs' := [_, _, _]) rfl Pick.here rfl rfl rfl rfl rfl ?_) rfl
    refine LCode.cond rfl (fun he => ?_) (fun he => ?_)
    ·have he' : (lexToken rest).2.2 ≠ 0 := by simpa using he
     rw [if_pos he'] at hI
     repeat first | refine LOps.nil ?_ | refine LCode.seq ?_ | refine LCode.region ?_ | refine LCode.ret ?_ | refine QThen.normal ?_ | refine QThen.ret ?_ | refine QBlock.ret ?_ | refine LOps.pure (Pure.as (lv := .atom _) rfl) rfl ?_ | refine LOps.pure (Pure.mv (lv := .atom _) rfl) rfl ?_
     exact retRet hj (AllRes.cons (ResIs.tmp (v := nilSlice) rfl LV.Sub.nil) (AllRes.cons (ResIs.tmp (v := .atom _) rfl (LV.Sub.refl _)) (AllRes.cons (ResIs.tmp (v := .atom _) rfl (LV.Sub.refl _)) AllRes.nil))) (by
      rw [lexAllP, if_neg (by omega), hI]
      rfl)
    ·have he' : (lexToken rest).2.2 = 0 := by simpa using he
     rw [if_neg (by simpa using he')] at hI
     obtain ⟨hs0, hs1⟩ := lexToken_size rest he'
     repeat first | refine LOps.nil ?_ | refine LCode.seq ?_ | refine LCode.region ?_ | refine LCode.skip ?_ | refine QThen.normal ?_ | refine LOps.pure (Pure.mv (lv := .atom _) rfl) rfl ?_ | refine LOps.pure (Pure.fieldH rfl) rfl ?_ | refine LOps.step (S.store (cs' := [_, _, _]) rfl Pick.here rfl rfl rfl rfl rfl ?_) rfl
     refine LOps.pure (Pure.mv (lv := v) rfl) rfl ?_
     repeat first | refine LOps.pure (Pure.ldHAgg (cs' := [_, _, _]) rfl (List.Mem.head _) rfl rfl) rfl ?_
     refine LOps.step (S.lit [_] rfl (elemsOk.cons rfl rfl elemsOk.nil) rfl rfl rfl ?_) rfl
     refine LOps.weak (HSub.drop (HSub.refl _)) ?_
     refine LOps.step (S.acc rfl hacc rfl (by simp; rfl) rfl (by simp; omega) fun v' H' hacc' => ?_) rfl
     refine LOps.pure (Pure.as (lv := v') rfl) rfl ?_
     repeat first | refine LOps.nil ?_ | refine LCode.seq ?_ | refine LCode.region ?_ | refine QThen.normal ?_ | refine LOps.pure (Pure.as (lv := .atom _) rfl) rfl ?_ | refine LOps.pure (Pure.mv (lv := .atom _) rfl) rfl ?_
     refine LOps.pure (Pure.sslice (i := 0) (j := (lexToken rest).2.1) rfl rfl ⟨_, rfl⟩ (by omega) (by omega) (by omega)) rfl ?_
     refine LOps.step (S.fn [_, _] rfl (countNl_spec _) ?_) rfl
     have hcnt : (List.drop (Int.toNat 0) (List.take ((lexToken rest).2.1 : Int).toNat rest)).count 10 ≤ (lexToken rest).2.1 := Nat.le_trans List.count_le_length (by simp; omega)
     repeat first | refine LOps.nil ?_ | refine LCode.region ?_ | refine QThen.normal ?_ | refine LOps.pure (Pure.as (lv := .atom _) rfl) rfl ?_ | refine LOps.pure (Pure.mv (lv := .atom _) rfl) rfl ?_ | refine LOps.pure (Pure.add rfl rfl (by omega)) rfl ?_
     refine LOps.pure (Pure.sslice (i := (lexToken rest).2.1) (j := rest.length) rfl ⟨_, rfl⟩ rfl (by omega) (by omega) (by omega)) rfl ?_
     repeat first | refine LOps.nil ?_ | refine QThen.normal ?_ | refine QBlock.normal ?_ | refine LOps.pure (Pure.as (lv := .atom _) rfl) rfl ?_
     have hacc2 : Acc 3 v' ((out ++ [{ (lexToken rest).1 with line := line }]).map encTok) H' [] := by
      rw [List.map_append]
      exact hacc'
     exact ⟨_, _, _, by simp only [List.length_drop]; omega, ⟨v', out ++ [{ (lexToken rest).1 with line := line }], rest.drop (lexToken rest).2.1, line + ((rest.take (lexToken rest).2.1).count 10 : Nat), f, rfl, rfl, hacc2,
      by simp only [List.length_drop]; omega, by omega, by simp only [List.length_drop]; simp at hcnt; omega, by simp only [List.length_drop, List.length_append, List.length_singleton]; omega, by
       rw [hI, map_map_ex]
       congr 1
       funext x
       simp⟩, ⟨rfl, int_eq (by simp), str_eq (by simp), trivial⟩, HSub.refl _, hj⟩
   ·have hz' : ¬ skipLen rest = 0 := by have := of_decide_eq_false hz; omega
    rw [if_neg hz'] at hI
    repeat first | refine LCode.seq ?_ | refine LCode.region ?_ | refine LCode.skip ?_ | refine QThen.normal ?_ | refine LOps.pure (Pure.mv (lv := .atom _) rfl) rfl ?_
    refine LOps.pure (Pure.sslice (i := 0) (j := skipLen rest) rfl rfl ⟨_, rfl⟩ (by omega) (by omega) (by omega)) rfl ?_
    refine LOps.step (S.fn [_, _] rfl (countNl_spec _) ?_) rfl
    have hcnt : (List.drop (Int.toNat 0) (List.take (skipLen rest : Int).toNat rest)).count 10 ≤ skipLen rest := Nat.le_trans List.count_le_length (by simp; omega)
    repeat first | refine LOps.nil ?_ | refine LCode.region ?_ | refine QThen.normal ?_ | refine LOps.pure (Pure.as (lv := .atom _) rfl) rfl ?_ | refine LOps.pure (Pure.mv (lv := .atom _) rfl) rfl ?_ | refine LOps.pure (Pure.add rfl rfl (by omega)) rfl ?_
    refine LOps.pure (Pure.sslice (i := skipLen rest) (j := rest.length) rfl ⟨_, rfl⟩ rfl (by omega) (by omega) (by omega)) rfl ?_
    repeat first | refine LOps.nil ?_ | refine QThen.normal ?_ | refine QBlock.normal ?_ | refine LOps.pure (Pure.as (lv := .atom _) rfl) rfl ?_
    exact ⟨_, _, _, by simp only [List.length_drop]; omega, ⟨v, out, rest.drop (skipLen rest), line + ((rest.take (skipLen rest)).count 10 : Nat), f, rfl, rfl, hacc,
      by simp only [List.length_drop]; omega, by omega, by simp only [List.length_drop]; simp at hcnt; omega, by simp only [List.length_drop]; omega, hI⟩, ⟨rfl, int_eq (by simp), str_eq (by simp), trivial⟩, HSub.refl _, hj⟩
  ·have hrest : rest = [] := by simpa using hne
   repeat first | refine LCode.seq ?_ | refine LCode.region ?_ | refine LCode.exit ?_ | refine QThen.normal ?_ | refine QThen.exit ?_ | refine QBlock.hit ?_
   refine LOps.pure (Pure.mv (lv := v) rfl) rfl ?_
   refine LOps.pure (Pure.as (lv := v) rfl) rfl ?_
   repeat first | refine LOps.nil ?_ | refine LCode.ret ?_ | refine QThen.normal ?_ | refine LOps.pure (Pure.as (lv := .atom _) rfl) rfl ?_
   exact retRet hj (AllRes.cons (ResIs.tmp (v := v) rfl hacc.sub) (AllRes.cons (ResIs.tmp (v := .atom _) rfl (LV.Sub.refl _)) (AllRes.cons (ResIs.tmp (v := .atom _) rfl (LV.Sub.refl _)) AllRes.nil))) (by
    rw [lexAllP, if_neg (by omega), hI, hrest]
    cases fuel <;> simp [lexP, Except.map, encLex, resLV])
end
end Go.Proofs.YtcbpcianefpniaaGreatDoor
namespace Go.Proofs.YtcbpcianefpniaaGreatDoor
open Go.GL Go.RowKit Go.Stele
set_option maxRecDepth 100000
set_option maxHeartbeats 4000000
attribute [local irreducible] LOps LCode LStep LCalls Go.GL.Pure QThen QBlock RetPost LQ LAny LLate LLateOp
@[reducible] def srcH (sb : Nat) (T : List Tok) (i op : Nat) : Nat × LObj := (sb, .cells 95 [.list (T.map encTok), int .i64 i, int .i64 op])
def pan (l e : Int) : List PanicEntry := [{ v := .iface 91 (.agg #[.int .i64 l, .int .i64 e]), recovered := false }]
def PostP {A : Type} (sb : Nat) (T : List Tok) (enc : A → LV) (res : Res A) (r : LRes) (H : Heap) : Prop := match res with
 | .ok v i op => r = .ret (enc v) ∧ H = [srcH sb T i op]
 | .err l e => r = .panic (pan l e) ∧ ∃ i op : Nat, H = [srcH sb T i op]
def encU : Unit → LV := fun _ => .tuple []
theorem map_get {A : Type} (f : A → LV) (l : List A) (i : Nat) (h : i < l.length) : (l.map f)[((i : Nat) : Int).toNat]? = some (f l[i]) := by
 rw [Int.toNat_natCast, List.getElem?_map, List.getElem?_eq_getElem h]
 rfl
section
variable {B0 : Nat} {w0 : World}
theorem is_spec (sb : Nat) (T : List Tok) (i op : Nat) (xs : List (List UInt8)) (hT : T.length ≤ 100000) (hi : i ≤ 1000000) (hx : xs.length ≤ 1000) :
  LCalls (KC B0 w0) 87 [ptr sb 0, .list (xs.map str)] [srcH sb T i op] (fun r H => r = .ret (bool (isTok T i xs)) ∧ H = [srcH sb T i op]) := by
 refine LCalls.intro Tryz.func87 rfl (n := 40) rfl rfl rfl ?_
 repeat first | refine LOps.nil ?_ | refine LCode.seq ?_ | refine LCode.region ?_ | refine QThen.normal ?_ | refine LOps.pure (Pure.as (lv := .atom _) rfl) rfl ?_
 refine LCode.cut [(0, ptr sb 0), (1, .list (xs.map str)), (15, bool (decide (T.length ≤ i)))] ?_ (fun j hj => ?_)
 ·refine LCode.quiet (by kernel_rfl) ?_
  repeat first | refine LQ.pure (Pure.mv (lv := .atom _) rfl) rfl ?_ | refine LQ.pure (Pure.nilCheckH rfl) rfl ?_ | refine LQ.pure (Pure.fieldH rfl) rfl ?_ | refine LQ.pure (Pure.loadH (c := .atom _) rfl (List.Mem.head _) rfl) rfl ?_ | refine LQ.pure (Pure.loadH (c := .list _) rfl (List.Mem.head _) rfl) rfl ?_ | refine LQ.pure (Pure.llen rfl) rfl ?_ | refine LQ.pure (Pure.geq rfl rfl) rfl ?_ | refine LQ.nil ?_ | refine QThen.normal ?_
  exact ⟨⟨rfl, rfl, bool_eq (by rw [decide_eq_decide]; simp), trivial⟩, rfl, rfl⟩
 ·skip
  refine LCode.cond rfl (fun hc => ?_) (fun hc => ?_)
  ·repeat first | refine LOps.nil ?_ | refine LCode.seq ?_ | refine LCode.region ?_ | refine LCode.ret ?_ | refine QThen.normal ?_ | refine QThen.ret ?_ | refine LOps.pure (Pure.as (lv := .atom _) rfl) rfl ?_
   exact RetPost.ret hj (AllRes.cons (ResIs.tmp (v := .atom _) rfl (LV.Sub.refl _)) AllRes.nil) (HSub.refl _) ⟨by rw [isTok, List.getElem?_eq_none (of_decide_eq_true hc)]; rfl, rfl⟩
  ·have hlt : i < T.length := by have := of_decide_eq_false hc; omega
   repeat first | refine LCode.seq ?_ | refine LCode.skip ?_ | refine QThen.normal ?_
   refine LCode.draw (m := 12) rfl [srcH sb T i op] ?_
   refine LAny.tk 0 rfl rfl (Pure.mv (lv := .atom _) rfl) ?_
   refine LAny.tk 1 rfl rfl (Pure.nilCheckH rfl) ?_
   refine LAny.tk 2 rfl rfl (Pure.fieldH rfl) ?_
   refine LAny.tk 3 rfl rfl (Pure.loadH (c := .list _) rfl (List.Mem.head _) rfl) ?_
   refine LAny.tk 4 rfl rfl (Pure.mv (lv := .atom _) rfl) ?_
   refine LAny.tk 5 rfl rfl (Pure.nilCheckH rfl) ?_
   refine LAny.tk 6 rfl rfl (Pure.fieldH rfl) ?_
   refine LAny.tk 7 rfl rfl (Pure.loadH (c := .atom _) rfl (List.Mem.head _) rfl) ?_
   refine LAny.take (i := 8) (HSub.refl _) rfl (by kernel_rfl) (by kernel_rfl) (by kernel_rfl) rfl (Pure.ixRef (el' := encTok T[i]) (cs := [_, _, _]) rfl rfl (by omega) (map_get _ _ _ hlt) rfl rfl) ?_
   refine LAny.tk 9 rfl rfl (Pure.ldRefAgg (cs' := [_, _, _]) rfl rfl rfl) ?_
   refine LAny.late ?_ (HSub.refl _)
   refine LLate.o 10 (LLateOp.step (H1 := []) (F := [srcH sb T i op]) rfl (.inl rfl) rfl (List.Perm.refl _) (HSub.refl _) (S.alloc fun b => ?_))
   refine LLate.o 11 (LLateOp.step (H1 := [(b, _)]) (F := [srcH sb T i op]) rfl (.inl rfl) rfl (List.Perm.refl _) (HSub.refl _) (S.store (cs' := [_, _, _]) rfl Pick.here rfl rfl rfl rfl rfl ?_))
   refine LLate.done (by kernel_rfl) ?_
   repeat first | refine LCode.seq ?_ | refine LCode.region ?_ | refine QThen.normal ?_ | refine LOps.pure (Pure.mv (lv := .atom _) rfl) rfl ?_ | refine LOps.pure (Pure.fieldH rfl) rfl ?_ | refine LOps.pure (Pure.loadH (c := .atom _) rfl (List.Mem.head _) rfl) rfl ?_ | refine LOps.pure (Pure.eql rfl rfl) rfl ?_
   have hsp : isTok T i xs = ((decide (T[i].kind = 3) || decide (T[i].kind = 4)) && xs.contains T[i].text) := by rw [isTok, List.getElem?_eq_getElem hlt]
   rw [hsp]
   refine LOps.bcase 29 rfl (fun h3 => ?_) (fun h3 => ?_)
   ·repeat first | refine LOps.pure (Pure.mv (lv := .atom _) rfl) rfl ?_ | refine LOps.pure (Pure.fieldH rfl) rfl ?_ | refine LOps.pure (Pure.loadH (c := .atom _) rfl (List.Mem.head _) rfl) rfl ?_ | refine LOps.pure (Pure.pickT (lv := .atom _) rfl rfl) rfl ?_ | refine LOps.pure (Pure.mv (lv := .list _) rfl) rfl ?_ | refine LOps.want rfl rfl ?_ | refine LOps.skip rfl rfl rfl rfl ?_
    refine LOps.step (S.fn [_, _] rfl (Contains_spec xs T[i].text (by omega)) ?_) rfl
    repeat first | refine LOps.nil ?_ | refine LCode.ret ?_ | refine QThen.normal ?_ | refine LOps.pure (Pure.as (lv := .atom _) rfl) rfl ?_ | refine LOps.pure (Pure.pickT (lv := .atom _) rfl rfl) rfl ?_
    exact RetPost.ret hj (AllRes.cons (ResIs.tmp (v := .atom _) rfl (LV.Sub.refl _)) AllRes.nil) (HSub.drop (HSub.refl _)) ⟨by rw [h3]; rfl, rfl⟩
   ·repeat first | refine LOps.pure (Pure.mv (lv := .atom _) rfl) rfl ?_ | refine LOps.pure (Pure.fieldH rfl) rfl ?_ | refine LOps.pure (Pure.loadH (c := .atom _) rfl (List.Mem.head _) rfl) rfl ?_ | refine LOps.pure (Pure.eql rfl rfl) rfl ?_ | refine LOps.pure (Pure.pickF (lv := .atom _) rfl rfl) rfl ?_ | refine LOps.want rfl rfl ?_
    refine LOps.bcase 34 rfl (fun h4 => ?_) (fun h4 => ?_)
    ·repeat first | refine LOps.pure (Pure.fieldH rfl) rfl ?_ | refine LOps.pure (Pure.loadH (c := .atom _) rfl (List.Mem.head _) rfl) rfl ?_ | refine LOps.pure (Pure.mv (lv := .list _) rfl) rfl ?_ | refine LOps.want rfl rfl ?_
     refine LOps.step (S.fn [_, _] rfl (Contains_spec xs T[i].text (by omega)) ?_) rfl
     repeat first | refine LOps.nil ?_ | refine LCode.ret ?_ | refine QThen.normal ?_ | refine LOps.pure (Pure.as (lv := .atom _) rfl) rfl ?_ | refine LOps.pure (Pure.pickT (lv := .atom _) rfl rfl) rfl ?_
     exact RetPost.ret hj (AllRes.cons (ResIs.tmp (v := .atom _) rfl (LV.Sub.refl _)) AllRes.nil) (HSub.drop (HSub.refl _)) ⟨by rw [h3, h4]; rfl, rfl⟩
    ·repeat first | refine LOps.nil ?_ | refine LCode.ret ?_ | refine QThen.normal ?_ | refine LOps.pure (Pure.as (lv := .atom _) rfl) rfl ?_ | refine LOps.pure (Pure.pickF (lv := .atom _) rfl rfl) rfl ?_ | refine LOps.skip rfl rfl rfl rfl ?_
     exact RetPost.ret hj (AllRes.cons (ResIs.tmp (v := .atom _) rfl (LV.Sub.refl _)) AllRes.nil) (HSub.drop (HSub.refl _)) ⟨by rw [h3, h4]; rfl, rfl⟩
end
end Go.Proofs.YtcbpcianefpniaaGreatDoor
namespace Go.Proofs.YtcbpcianefpniaaGreatDoor
open Go.GL Go.RowKit Go.Stele
set_option maxRecDepth 100000
set_option maxHeartbeats 4000000
section steps
variable {C : Ctx} {e : Env} {H : Heap} {dst : Option Nat} {ty : TypeId} {pos : String} {aft : Array Edge} {g : Option (Nat × Bool)} {K : LV → Heap → Prop} {X : List PanicEntry → Heap → Prop}
theorem S.fnH {f : FuncId} [TEnter C.P f] (args : List Operand) {ats : Array TypeId} {av : List LV} {lv : LV} {p p' : Nat × LObj} {F : Heap} (has : args.map e.ev = av) (hp : Pick p H F) (hc : LCalls C f av [p] (fun r H => r = .ret lv ∧ H = [p'])) (hk : K lv (p' :: F)) :
  LStep C ⟨dst, .call { callee := .value (.func f), args := args.toArray, argTypes := ats }, ty, pos, aft, g⟩ e H K X :=
 S.call1 args has hp hc (by rintro v H' ⟨h, rfl⟩; cases h; exact hk) (by rintro ch H' ⟨h, _⟩; cases h)
theorem S.callP {A : Type} {enc : A → LV} {res : Res A} {sb i op : Nat} {T : List Tok} {f : FuncId} [TEnter C.P f] (args : List Operand) {ats : Array TypeId} {av : List LV} {F : Heap} (has : args.map e.ev = av) (hp : Pick (srcH sb T i op) H F)
  (hc : LCalls C f av [srcH sb T i op] (PostP sb T enc res)) (hk : ∀ v i' op', res = .ok v i' op' → K (enc v) (srcH sb T i' op' :: F)) (hx : ∀ l er i' op', res = .err l er → X (pan l er) (srcH sb T i' op' :: F)) :
  LStep C ⟨dst, .call { callee := .value (.func f), args := args.toArray, argTypes := ats }, ty, pos, aft, g⟩ e H K X := by
 refine S.call1 args has hp hc ?_ ?_
 ·intro v H' h
  cases hr : res with
  | ok u i' op' =>
   rw [hr] at h
   obtain ⟨h1, rfl⟩ := h
   cases h1
   exact hk _ _ _ hr
  | err l er =>
   rw [hr] at h
   obtain ⟨h1, _⟩ := h
   cases h1
 ·intro ch H' h
  cases hr : res with
  | ok u i' op' =>
   rw [hr] at h
   obtain ⟨h1, _⟩ := h
   cases h1
  | err l er =>
   rw [hr] at h
   obtain ⟨h1, i', op', rfl⟩ := h
   cases h1
   exact hx _ _ _ _ hr
theorem retP {A : Type} {enc : A → LV} {res : Res A} {sb : Nat} {T : List Tok} {n : Nat} {rs : List ResultVar} {vs : List LV} {v : A} {i op : Nat} (hd : e.ds = []) (h : AllRes C n e H rs vs) (hr : res = .ok v i op) (hv : resLV vs = enc v) (hH : HSub [srcH sb T i op] H) :
  RetPost C n rs (PostP sb T enc res) .ret e H := RetPost.ret hd h hH (by rw [hr]; exact ⟨by rw [hv], rfl⟩)
theorem retPn {A : Type} {enc : A → LV} {res : Res A} {sb : Nat} {T : List Tok} {n : Nat} {rs : List ResultVar} {vs : List LV} {v : A} {i op : Nat} (hd : e.ds = []) (h : AllRes C n e H rs vs) (hr : res = .ok v i op) (hv : resLV vs = enc v) (hH : HSub [srcH sb T i op] H) :
  RetPost C n rs (PostP sb T enc res) .normal e H := RetPost.normal hd h hH (by rw [hr]; exact ⟨by rw [hv], rfl⟩)
theorem panP {A : Type} {enc : A → LV} {res : Res A} {sb : Nat} {T : List Tok} {n : Nat} {rs : List ResultVar} {i op : Nat} {l er : Int} (hd : e.ds = []) (hr : res = .err l er) (hH : HSub [srcH sb T i op] H) :
  RetPost C n rs (PostP sb T enc res) (.panic (pan l er)) e H := RetPost.panic hd hH (by rw [hr]; exact ⟨rfl, i, op, rfl⟩)
end steps
attribute [local irreducible] LOps LCode LStep LCalls Go.GL.Pure QThen QBlock RetPost LQ LAny LLate LLateOp
section
variable {B0 : Nat} {w0 : World}
theorem fail_spec {A : Type} (enc : A → LV) (sb : Nat) (T : List Tok) (i op : Nat) (er : Int) (hT : T.length ≤ 100000) (hi : i ≤ 1000000) :
  LCalls (KC B0 w0) 92 [ptr sb 0, int .i64 er] [srcH sb T i op] (PostP sb T enc (.err (failLine T i) er)) := by
 have hml : (T.map encTok).length = T.length := List.length_map _
 refine LCalls.intro Tryz.func92 rfl (n := 31) rfl rfl rfl ?_
 repeat first | refine LOps.nil ?_ | refine LCode.seq ?_ | refine LCode.region ?_ | refine QThen.normal ?_ | refine LOps.pure (Pure.as (lv := .atom _) rfl) rfl ?_ | refine LOps.pure (Pure.mv (lv := .atom _) rfl) rfl ?_ | refine LOps.pure (Pure.nilCheckH rfl) rfl ?_ | refine LOps.pure (Pure.fieldH rfl) rfl ?_ | refine LOps.pure (Pure.loadH (c := .list _) rfl (List.Mem.head _) rfl) rfl ?_ | refine LOps.pure (Pure.llen rfl) rfl ?_ | refine LOps.pure (Pure.gtr rfl rfl) rfl ?_
 refine LCode.cut [(0, ptr sb 0), (1, int .i64 er), (4, int .i64 (failLine T i))] ?_ (fun j hj => ?_)
 ·refine LCode.cond rfl (fun hc => ?_) (fun hc => ?_)
  ·have hpos : 0 < T.length := by have := of_decide_eq_true hc; simp at this; omega
   have hmin : min i (T.length - 1) < T.length := by omega
   have hmv : (if ((T.map encTok).length : Int) - 1 < (i : Int) then ((T.map encTok).length : Int) - 1 else (i : Int)) = ((min i (T.length - 1) : Nat) : Int) := by
    rw [List.length_map]
    split <;> omega
   refine LCode.quiet (by kernel_rfl) ?_
   repeat first | refine LQ.pure (Pure.mv (lv := .atom _) rfl) rfl ?_ | refine LQ.pure (Pure.nilCheckH rfl) rfl ?_ | refine LQ.pure (Pure.fieldH rfl) rfl ?_ | refine LQ.pure (Pure.loadH (c := .list _) rfl (List.Mem.head _) rfl) rfl ?_ | refine LQ.pure (Pure.loadH (c := .atom _) rfl (List.Mem.head _) rfl) rfl ?_ | refine LQ.pure (Pure.sub rfl rfl (by omega)) rfl ?_ | refine LQ.pure (Pure.minI rfl rfl) rfl ?_
   refine LQ.pure (Pure.ixRef (n := ((min i (T.length - 1) : Nat) : Int)) (el' := encTok T[min i (T.length - 1)]) (cs := [_, _, _]) rfl (congrArg (int .i64) hmv) (by omega) (map_get _ _ _ hmin) rfl rfl) rfl ?_
   repeat first | refine LQ.pure (Pure.as (lv := .atom _) rfl) rfl ?_ | refine LQ.pure (Pure.field1 rfl rfl) rfl ?_ | refine LQ.pure (Pure.loadRef (c := .atom _) rfl rfl) rfl ?_ | refine LQ.nil ?_ | refine QThen.normal ?_
   exact ⟨⟨rfl, rfl, int_eq (by rw [failLine, List.getElem?_eq_getElem hmin]), trivial⟩, rfl, rfl⟩
  ·have hz : T = [] := by
    have := of_decide_eq_false hc
    exact List.length_eq_zero_iff.1 (by omega)
   repeat first | refine LCode.skip ?_ | refine QThen.normal ?_
   exact ⟨⟨rfl, rfl, int_eq (by rw [failLine, hz]; rfl), trivial⟩, rfl, rfl⟩
 ·repeat first | refine LCode.region ?_ | refine LOps.pure (Pure.mv (lv := .atom _) rfl) rfl ?_ | refine LOps.pure (Pure.bld _ (cs := [_, _]) rfl) rfl ?_ | refine LOps.pure (Pure.makeInterfaceAgg (vs := [_, _]) rfl) rfl ?_
  refine LOps.step (LStep.panic rfl fun e' he' => ?_) rfl
  exact panP (he'.trans hj) rfl (HSub.refl _)
theorem take_spec (sb : Nat) (T : List Tok) (i op : Nat) (x : List UInt8) (hT : T.length ≤ 100000) (hi : i ≤ 1000000) :
  LCalls (KC B0 w0) 89 [ptr sb 0, str x] [srcH sb T i op] (fun r H => r = .ret (bool (isTok T i [x])) ∧ H = [srcH sb T (if isTok T i [x] then i + 1 else i) op]) := by
 refine LCalls.intro Tryz.func89 rfl (n := 17) rfl rfl rfl ?_
 repeat first | refine LOps.nil ?_ | refine LCode.seq ?_ | refine LCode.region ?_ | refine QThen.normal ?_ | refine LOps.pure (Pure.as (lv := .atom _) rfl) rfl ?_ | refine LOps.pure (Pure.mv (lv := .atom _) rfl) rfl ?_
 refine LOps.step (S.lit [_] rfl (elemsOk.cons rfl rfl elemsOk.nil) rfl rfl rfl ?_) rfl
 refine LOps.step (S.fnH [_, _] rfl Pick.here (is_spec sb T i op [x] hT hi (by simp)) ?_) rfl
 repeat first | refine LOps.nil ?_ | refine QThen.normal ?_ | refine LOps.pure (Pure.not rfl) rfl ?_
 refine LCode.cond rfl (fun hc => ?_) (fun hc => ?_)
 ·have h : isTok T i [x] = false := by simpa using hc
  repeat first | refine LOps.nil ?_ | refine LCode.seq ?_ | refine LCode.region ?_ | refine LCode.ret ?_ | refine QThen.normal ?_ | refine QThen.ret ?_ | refine LOps.pure (Pure.as (lv := .atom _) rfl) rfl ?_
  exact RetPost.ret rfl (AllRes.cons (ResIs.tmp (v := .atom _) rfl (LV.Sub.refl _)) AllRes.nil) (HSub.refl _) ⟨by rw [h]; rfl, by rw [h]; rfl⟩
 ·have h : isTok T i [x] = true := by simpa using hc
  repeat first | refine LOps.nil ?_ | refine LCode.seq ?_ | refine LCode.region ?_ | refine LCode.skip ?_ | refine LCode.ret ?_ | refine QThen.normal ?_ | refine LOps.pure (Pure.as (lv := .atom _) rfl) rfl ?_ | refine LOps.pure (Pure.mv (lv := .atom _) rfl) rfl ?_ | refine LOps.pure (Pure.nilCheckH rfl) rfl ?_ | refine LOps.pure (Pure.fieldH rfl) rfl ?_ | refine LOps.pure (Pure.loadH (c := .atom _) rfl (List.Mem.head _) rfl) rfl ?_ | refine LOps.pure (Pure.add rfl rfl (by omega)) rfl ?_ | refine LOps.step (S.store (cs' := [_, _, _]) rfl Pick.here rfl rfl rfl rfl rfl ?_) rfl
  exact RetPost.ret rfl (AllRes.cons (ResIs.tmp (v := .atom _) rfl (LV.Sub.refl _)) AllRes.nil) (HSub.refl _) ⟨by rw [h]; rfl, by rw [h]; rfl⟩
theorem need_spec (sb : Nat) (T : List Tok) (i op : Nat) (x : List UInt8) (hT : T.length ≤ 100000) (hi : i ≤ 1000000) :
  LCalls (KC B0 w0) 138 [ptr sb 0, str x] [srcH sb T i op] (PostP sb T encU (sNeed T x i op)) := by
 refine LCalls.intro Tryz.func138 rfl (n := 10) rfl rfl rfl ?_
 repeat first | refine LCode.seq ?_ | refine LCode.region ?_ | refine LOps.pure (Pure.mv (lv := .atom _) rfl) rfl ?_
 refine LOps.step (S.fnH [_, _] rfl Pick.here (take_spec sb T i op x hT hi) ?_) rfl
 repeat first | refine LOps.nil ?_ | refine QThen.normal ?_ | refine LOps.pure (Pure.not rfl) rfl ?_
 refine LCode.cond rfl (fun hc => ?_) (fun hc => ?_)
 ·have h : isTok T i [x] = false := by simpa using hc
  simp only [h, Bool.false_eq_true, if_false]
  repeat first | refine LCode.region ?_ | refine LOps.pure (Pure.mv (lv := .atom _) rfl) rfl ?_
  refine LOps.step (S.callP [_, _] rfl Pick.here (fail_spec encU sb T i op 3 hT hi) (fun _ _ _ h => by cases h) (fun l er i' op' h e' he' => ?_)) rfl
  cases h
  exact panP (he'.trans rfl) (by rw [sNeed, h, if_neg (by decide)]; rfl) (HSub.refl _)
 ·have h : isTok T i [x] = true := by simpa using hc
  simp only [h, if_true]
  repeat first | refine LCode.skip ?_
  exact retPn rfl AllRes.nil (by rw [sNeed, h, if_pos rfl]) rfl (HSub.refl _)
theorem word_spec (sb : Nat) (T : List Tok) (i op : Nat) (k : Int) (hT : T.length ≤ 100000) (hi : i ≤ 1000000) :
  LCalls (KC B0 w0) 139 [ptr sb 0, int .i64 k] [srcH sb T i op] (PostP sb T str (sWord T k i op)) := by
 have hml : (T.map encTok).length = T.length := List.length_map _
 refine LCalls.intro Tryz.func139 rfl (n := 51) rfl rfl rfl ?_
 repeat first | refine LOps.nil ?_ | refine LCode.seq ?_ | refine LCode.region ?_ | refine QThen.normal ?_ | refine LOps.pure (Pure.as (lv := .atom _) rfl) rfl ?_
 refine LCode.cut [(0, ptr sb 0), (1, int .i64 k), (29, bool (match T[i]? with | some t => !decide (t.kind = k) | none => true))] ?_ (fun j hj => ?_)
 ·refine LCode.quiet (by kernel_rfl) ?_
  repeat first | refine LQ.pure (Pure.mv (lv := .atom _) rfl) rfl ?_ | refine LQ.pure (Pure.nilCheckH rfl) rfl ?_ | refine LQ.pure (Pure.fieldH rfl) rfl ?_ | refine LQ.pure (Pure.loadH (c := .atom _) rfl (List.Mem.head _) rfl) rfl ?_ | refine LQ.pure (Pure.loadH (c := .list _) rfl (List.Mem.head _) rfl) rfl ?_ | refine LQ.pure (Pure.llen rfl) rfl ?_ | refine LQ.pure (Pure.geq rfl rfl) rfl ?_
  refine LQ.bcase 15 rfl (fun h => ?_) (fun h => ?_)
  ·have hge : T.length ≤ i := by have := of_decide_eq_true h; omega
   repeat first | refine LQ.pure (Pure.pickT (lv := .atom _) rfl rfl) rfl ?_ | refine LQ.skip rfl rfl rfl rfl ?_ | refine LQ.nil ?_ | refine QThen.normal ?_
   exact ⟨⟨rfl, rfl, bool_eq (by rw [List.getElem?_eq_none hge]), trivial⟩, rfl, rfl⟩
  ·have hlt : i < T.length := by have := of_decide_eq_false h; omega
   repeat first | refine LQ.pure (Pure.mv (lv := .atom _) rfl) rfl ?_ | refine LQ.pure (Pure.nilCheckH rfl) rfl ?_ | refine LQ.pure (Pure.fieldH rfl) rfl ?_ | refine LQ.pure (Pure.loadH (c := .atom _) rfl (List.Mem.head _) rfl) rfl ?_ | refine LQ.pure (Pure.loadH (c := .list _) rfl (List.Mem.head _) rfl) rfl ?_ | refine LQ.want rfl rfl ?_
   refine LQ.pure (Pure.ixRef (el' := encTok T[i]) (cs := [_, _, _]) rfl rfl (by omega) (map_get _ _ _ hlt) rfl rfl) rfl ?_
   repeat first | refine LQ.pure (Pure.mv (lv := .atom _) rfl) rfl ?_ | refine LQ.pure (Pure.field1 rfl rfl) rfl ?_ | refine LQ.pure (Pure.loadRef (c := .atom _) rfl rfl) rfl ?_ | refine LQ.pure (Pure.neq rfl rfl) rfl ?_ | refine LQ.pure (Pure.pickF (lv := .atom _) rfl rfl) rfl ?_ | refine LQ.want rfl rfl ?_ | refine LQ.nil ?_ | refine QThen.normal ?_
   exact ⟨⟨rfl, rfl, bool_eq (by rw [List.getElem?_eq_getElem hlt]), trivial⟩, rfl, rfl⟩
 ·skip
  refine LCode.cond rfl (fun hc => ?_) (fun hc => ?_)
  ·have hs : sWord T k i op = synErr T i := by
    unfold sWord
    cases hg : T[i]? with
    | none => rfl
    | some t =>
     rw [hg] at hc
     have : ¬ t.kind = k := by simpa using hc
     simp only
     rw [if_neg this]
   repeat first | refine LCode.region ?_ | refine LOps.pure (Pure.mv (lv := .atom _) rfl) rfl ?_
   refine LOps.step (S.callP [_, _] rfl Pick.here (fail_spec str sb T i op 3 hT hi) (fun _ _ _ h => by cases h) (fun l er i' op' h e' he' => ?_)) rfl
   cases h
   repeat first | refine QThen.panic ?_
   exact panP (he'.trans hj) hs (HSub.refl _)
  ·have hlt : i < T.length := by
    rcases Nat.lt_or_ge i T.length with h | h
    ·exact h
    ·rw [List.getElem?_eq_none h] at hc; cases hc
   rw [List.getElem?_eq_getElem hlt] at hc
   have hk : T[i].kind = k := by simpa using hc
   have hs : sWord T k i op = .ok T[i].text (i + 1) op := by rw [sWord, List.getElem?_eq_getElem hlt]; simp only; rw [if_pos hk]
   repeat first | refine LOps.nil ?_ | refine LCode.seq ?_ | refine LCode.region ?_ | refine LCode.skip ?_ | refine QThen.normal ?_ | refine LOps.pure (Pure.mv (lv := .atom _) rfl) rfl ?_ | refine LOps.pure (Pure.nilCheckH rfl) rfl ?_ | refine LOps.pure (Pure.fieldH rfl) rfl ?_ | refine LOps.pure (Pure.loadH (c := .atom _) rfl (List.Mem.head _) rfl) rfl ?_ | refine LOps.pure (Pure.add rfl rfl (by omega)) rfl ?_ | refine LOps.step (S.store (cs' := [_, _, _]) rfl Pick.here rfl rfl rfl rfl rfl ?_) rfl
   refine LCode.cut [(0, ptr sb 0), (4, str T[i].text)] ?_ (fun j2 hj2 => ?_)
   ·refine LCode.quiet (by kernel_rfl) ?_
    repeat first | refine LQ.pure (Pure.mv (lv := .atom _) rfl) rfl ?_ | refine LQ.pure (Pure.nilCheckH rfl) rfl ?_ | refine LQ.pure (Pure.fieldH rfl) rfl ?_ | refine LQ.pure (Pure.loadH (c := .atom _) rfl (List.Mem.head _) rfl) rfl ?_ | refine LQ.pure (Pure.loadH (c := .list _) rfl (List.Mem.head _) rfl) rfl ?_ | refine LQ.pure (Pure.sub rfl rfl (by omega)) rfl ?_
    refine LQ.pure (Pure.ixRef (n := ((i : Nat) : Int)) (el' := encTok T[i]) (cs := [_, _, _]) rfl (int_eq (by omega)) (by omega) (map_get _ _ _ hlt) rfl rfl) rfl ?_
    repeat first | refine LQ.pure (Pure.as (lv := .atom _) rfl) rfl ?_ | refine LQ.pure (Pure.field1 rfl rfl) rfl ?_ | refine LQ.pure (Pure.loadRef (c := .atom _) rfl rfl) rfl ?_ | refine LQ.nil ?_ | refine QThen.normal ?_
    exact ⟨⟨rfl, rfl, trivial⟩, rfl, rfl⟩
   ·repeat first | refine LCode.ret ?_
    exact retP (hj2.trans hj) (AllRes.cons (ResIs.tmp (v := .atom _) rfl (LV.Sub.refl _)) AllRes.nil) hs rfl (HSub.refl _)
theorem begin_spec (sb : Nat) (T : List Tok) (i op : Nat) (x : List UInt8) (hT : T.length ≤ 100000) (hi : i ≤ 1000000) (ho : op ≤ 1000000) :
  LCalls (KC B0 w0) 140 [ptr sb 0, str x] [srcH sb T i op] (PostP sb T encU (sBegin T x i op)) := by
 refine LCalls.intro Tryz.func140 rfl (n := 32) rfl rfl rfl ?_
 repeat first | refine LCode.seq ?_ | refine LCode.region ?_ | refine LOps.pure (Pure.mv (lv := .atom _) rfl) rfl ?_
 refine LOps.step (S.lit [_] rfl (elemsOk.cons rfl rfl elemsOk.nil) rfl rfl rfl ?_) rfl
 refine LOps.step (S.fnH [_, _] rfl Pick.here (is_spec sb T i op [x] hT hi (by simp)) ?_) rfl
 repeat first | refine LOps.nil ?_ | refine QThen.normal ?_ | refine LOps.pure (Pure.not rfl) rfl ?_
 refine LCode.cond rfl (fun hc => ?_) (fun hc => ?_)
 ·have h : isTok T i [x] = false := by simpa using hc
  repeat first | refine LCode.region ?_ | refine LOps.pure (Pure.mv (lv := .atom _) rfl) rfl ?_
  refine LOps.step (S.callP [_, _] rfl Pick.here (fail_spec encU sb T i op 3 hT hi) (fun _ _ _ h => by cases h) (fun l er i' op' h' e' he' => ?_)) rfl
  cases h'
  repeat first | refine QThen.panic ?_
  exact panP (he'.trans rfl) (by rw [sBegin, h, if_neg (by decide)]; rfl) (HSub.refl _)
 ·have h : isTok T i [x] = true := by simpa using hc
  repeat first | refine LOps.nil ?_ | refine LCode.seq ?_ | refine LCode.region ?_ | refine LCode.skip ?_ | refine QThen.normal ?_ | refine LOps.pure (Pure.mv (lv := .atom _) rfl) rfl ?_ | refine LOps.pure (Pure.nilCheckH rfl) rfl ?_ | refine LOps.pure (Pure.fieldH rfl) rfl ?_ | refine LOps.pure (Pure.loadH (c := .atom _) rfl (List.Mem.head _) rfl) rfl ?_ | refine LOps.pure (Pure.geq rfl rfl) rfl ?_
  refine LCode.cond rfl (fun hd => ?_) (fun hd => ?_)
  ·have hd' : 100 ≤ op := by have := of_decide_eq_true hd; omega
   repeat first | refine LCode.region ?_ | refine LOps.pure (Pure.mv (lv := .atom _) rfl) rfl ?_
   refine LOps.step (S.callP [_, _] rfl Pick.here (fail_spec encU sb T i op 6 hT hi) (fun _ _ _ h => by cases h) (fun l er i' op' h' e' he' => ?_)) rfl
   cases h'
   repeat first | refine QThen.panic ?_
   exact panP (he'.trans rfl) (by rw [sBegin, h, if_pos rfl, if_pos hd']) (HSub.refl _)
  ·have hd' : ¬ 100 ≤ op := by have := of_decide_eq_false hd; omega
   repeat first | refine LOps.nil ?_ | refine LCode.seq ?_ | refine LCode.region ?_ | refine LCode.skip ?_ | refine QThen.normal ?_ | refine LOps.pure (Pure.mv (lv := .atom _) rfl) rfl ?_ | refine LOps.pure (Pure.nilCheckH rfl) rfl ?_ | refine LOps.pure (Pure.fieldH rfl) rfl ?_ | refine LOps.pure (Pure.loadH (c := .atom _) rfl (List.Mem.head _) rfl) rfl ?_ | refine LOps.pure (Pure.add rfl rfl (by omega)) rfl ?_ | refine LOps.step (S.store (cs' := [_, _, _]) rfl Pick.here rfl rfl rfl rfl rfl ?_) rfl
   exact retPn rfl AllRes.nil (by rw [sBegin, h, if_pos rfl, if_neg hd']) rfl (HSub.refl _)
theorem end_spec (sb : Nat) (T : List Tok) (i op : Nat) (x : List UInt8) (hT : T.length ≤ 100000) (hi : i ≤ 1000000) (ho : op ≤ 1000000) (h1 : 1 ≤ op) :
  LCalls (KC B0 w0) 142 [ptr sb 0, str x] [srcH sb T i op] (PostP sb T encU (sEnd T x i op)) := by
 refine LCalls.intro Tryz.func142 rfl (n := 14) rfl rfl rfl ?_
 repeat first | refine LCode.seq ?_ | refine LCode.region ?_ | refine LOps.pure (Pure.mv (lv := .atom _) rfl) rfl ?_
 refine LOps.step (S.callP [_, _] rfl Pick.here (need_spec sb T i op x hT hi) (fun v i' op' h => ?_) (fun l er i' op' h e' he' => ?_)) rfl
 ·have hop : op' = op := by
   unfold sNeed at h
   split at h
   ·cases h; rfl
   ·cases h
  subst hop
  repeat first | refine LOps.nil ?_ | refine LCode.region ?_ | refine QThen.normal ?_ | refine LOps.pure (Pure.mv (lv := .atom _) rfl) rfl ?_ | refine LOps.pure (Pure.nilCheckH rfl) rfl ?_ | refine LOps.pure (Pure.fieldH rfl) rfl ?_ | refine LOps.pure (Pure.loadH (c := .atom _) rfl (List.Mem.head _) rfl) rfl ?_ | refine LOps.pure (Pure.sub rfl rfl (by omega)) rfl ?_ | refine LOps.step (S.store (cs' := [_, _, _]) rfl Pick.here rfl rfl rfl rfl rfl ?_) rfl
  rw [show ((op' : Int) - 1) = ((op' - 1 : Nat) : Int) by omega]
  exact retPn rfl AllRes.nil (by rw [sEnd, h]; rfl) rfl (HSub.refl _)
 ·repeat first | refine QThen.panic ?_
  exact panP (he'.trans rfl) (by rw [sEnd, h]; rfl) (HSub.refl _)
end
end Go.Proofs.YtcbpcianefpniaaGreatDoor
namespace Go.Proofs.YtcbpcianefpniaaGreatDoor
open Go.GL Go.RowKit Go.Stele
set_option maxRecDepth 100000
set_option maxHeartbeats 4000000
attribute [local irreducible] LOps LCode LStep LCalls Go.GL.Pure QThen QBlock RetPost LQ LAny LLate LLateOp
theorem obind_ok {A B : Type} {v : A} {i op : Nat} {f : A → Nat → Nat → OR B} : obind (some (.ok v i op)) f = f v i op := rfl
theorem obind_err {A B : Type} {l e : Int} {f : A → Nat → Nat → OR B} : obind (some (.err l e)) f = some (.err l e) := rfl
theorem obind_is {A B : Type} {r : OR A} {f : A → Nat → Nat → OR B} {q : Res B} (h : obind r f = some q) : ∃ r1, r = some r1 := by
 cases r with
 | none => cases h
 | some r1 => exact ⟨r1, rfl⟩
/-- The tokens that a parser works on: not too many, and each number's text is a number. -/
structure TOK (T : List Tok) : Prop where
 len : T.length ≤ 100000
 txt : ∀ t ∈ T, t.text.length ≤ 100000
 num : ∀ t ∈ T, t.kind = 1 → ∃ u, u < 4294967296 ∧ Go.Lib.parseUintB 32 t.text = .ok u
theorem wrap_u32 {n : Int} (h : 0 ≤ n ∧ n ≤ 4294967295) : IntKind.u32.wrap n = n := by
 simp only [IntKind.wrap, IntKind.bits, IntKind.signed, Bool.false_and]
 simp
 omega
theorem sWord_ok {T : List Tok} {k : Int} {i op i' op' : Nat} {s : List UInt8} (h : sWord T k i op = .ok s i' op') : i' = i + 1 ∧ op' = op ∧ ∃ t, T[i]? = some t ∧ t.kind = k ∧ t.text = s := by
 unfold sWord at h
 split at h
 ·rename_i t ht
  split at h
  ·rename_i hk
   cases h
   exact ⟨rfl, rfl, t, ht, hk, rfl⟩
  ·cases h
 ·cases h
def encNames (l : List (List UInt8)) : LV := .list (l.map str)
def encN (n : Nat) : LV := int .u32 n
def ExprC (B0 : Nat) (w0 : World) (sb : Nat) (T : List Tok) (f : Nat) : Prop :=
 ∀ i op r, i ≤ T.length → op ≤ 100 → eLev T f 0 i op = some r → LCalls (KC B0 w0) 194 [ptr sb 0] [srcH sb T i op] (PostP sb T encE r)
section
variable {B0 : Nat} {w0 : World}
theorem number_specP (hG : GW B0 w0) (sb : Nat) (T : List Tok) (hT : TOK T) (i op : Nat) (hi : i ≤ 1000000) : LCalls (KC B0 w0) 141 [ptr sb 0] [srcH sb T i op] (PostP sb T encN (sNumber T i op)) := by
 have hl := hT.len
 refine LCalls.intro Tryz.func141 rfl (n := 13) rfl rfl rfl ?_
 repeat first | refine LOps.nil ?_ | refine LCode.seq ?_ | refine LCode.region ?_ | refine QThen.normal ?_ | refine LOps.pure (Pure.as (lv := .atom _) rfl) rfl ?_ | refine LOps.pure (Pure.mv (lv := .atom _) rfl) rfl ?_
 refine LOps.step (S.callP [_, _] rfl Pick.here (word_spec sb T i op 1 hl hi) (fun s i1 op1 h1 => ?_) (fun l er i1 op1 h1 e' he' => ?_)) rfl
 ·obtain ⟨rfl, rfl, t, ht, hk, rfl⟩ := sWord_ok h1
  have hmem := List.mem_of_getElem? ht
  obtain ⟨u, hu, hp⟩ := hT.num t hmem hk
  have htx := hT.txt t hmem
  have hn : numOf t.text = u := by rw [numOf, hp]
  have hw : IntKind.u32.wrap (u : Int) = (u : Int) := wrap_u32 (by omega)
  refine LOps.step (S.fn [_, _, _] rfl (parseUint_ok t.text (by omega) u hp) ?_) rfl
  repeat first | refine LOps.nil ?_ | refine LCode.seq ?_ | refine LCode.region ?_ | refine LCode.ret ?_ | refine QThen.normal ?_ | refine LOps.pure (Pure.as (lv := .atom _) rfl) rfl ?_ | refine LOps.pure (Pure.mv (lv := .atom _) rfl) rfl ?_ | refine LOps.pure (Pure.mv (lv := .tuple _) rfl) rfl ?_ | refine LOps.pure (Pure.extract (c := .atom _) rfl rfl) rfl ?_ | refine LOps.pure (Pure.cvt rfl) rfl ?_
  exact retP (v := numOf t.text) rfl (AllRes.cons (ResIs.tmp (v := .atom _) rfl (LV.Sub.refl _)) AllRes.nil) (by rw [sNumber, h1]; rfl) (by rw [hn]; exact int_eq hw) (HSub.refl _)
 ·repeat first | refine QThen.panic ?_
  exact panP (he'.trans rfl) (by rw [sNumber, h1]; rfl) (HSub.refl _)
theorem names_specP (sb : Nat) (T : List Tok) (hT : TOK T) (f i op : Nat) (r : Res (List (List UInt8))) (hi : i ≤ T.length) (hr : sNames T f i op = some r) :
  LCalls (KC B0 w0) 137 [ptr sb 0] [srcH sb T i op] (PostP sb T encNames r) := by
 have hl := hT.len
 rw [sNames] at hr
 refine LCalls.intro Tryz.func137 rfl (n := 15) rfl rfl rfl ?_
 repeat first | refine LOps.nil ?_ | refine LCode.seq ?_ | refine LCode.region ?_ | refine QThen.normal ?_ | refine LOps.pure (Pure.as (lv := .atom _) rfl) rfl ?_ | refine LOps.pure (Pure.mv (lv := .atom _) rfl) rfl ?_
 refine LOps.step (S.callP [_, _] rfl Pick.here (word_spec sb T i op 2 hl (by omega)) (fun s i1 op1 h1 => ?_) (fun l er i1 op1 h1 e' he' => ?_)) rfl
 ·rw [h1, obind_ok] at hr
  have hi1 : i1 ≤ T.length := by
   have := sWord_good T 2 i op
   rw [h1] at this
   exact this.2.2.1 hi
  refine LOps.step (S.litA [_] rfl (elemsOk.cons rfl rfl elemsOk.nil) rfl rfl rfl fun b => ?_) rfl
  repeat first | refine LOps.nil ?_ | refine LCode.seq ?_ | refine LCode.block ?_ | refine QThen.normal ?_ | refine LOps.pure (Pure.as (lv := .app _ _ _ _) rfl) rfl ?_
  refine LCode.loopI (fun k ls H => ∃ (v : LV) (l : List (List UInt8)) (i2 : Nat) (Ha : Heap), ls = [(0, ptr sb 0), (3, v)] ∧ H = srcH sb T i2 op1 :: Ha ∧ Acc 1 v (l.map str) Ha [] ∧ i2 ≤ T.length ∧ l.length ≤ i2 + 1 ∧ sNamesLoop T k l i2 op1 = some r)
   ⟨f, _, srcH sb T i1 op1 :: [(b, .row 1)], ⟨.app b 1 1 [str s], [s], i1, _, rfl, rfl, Acc.row, hi1, by simp, hr⟩, ⟨rfl, rfl, trivial⟩, HSub.pick (Pick.there Pick.here) (HSub.refl _)⟩ ?_
  rintro k ls H ⟨v, l, i2, Ha, rfl, rfl, hacc, hi2, hll, hI⟩ j hj
  obtain ⟨k, rfl⟩ : ∃ k', k = k' + 1 := by
   cases k with
   | zero => rw [sNamesLoop] at hI; cases hI
   | succ k => exact ⟨k, rfl⟩
  rw [sNamesLoop] at hI
  repeat first | refine LCode.seq ?_ | refine LCode.region ?_ | refine LOps.pure (Pure.mv (lv := .atom _) rfl) rfl ?_
  refine LOps.step (S.fnH [_, _] rfl Pick.here (take_spec sb T i2 op1 [44] hl (by omega)) ?_) rfl
  repeat first | refine LOps.nil ?_ | refine QThen.normal ?_
  refine LCode.cond rfl (fun hc => ?_) (fun hc => ?_)
  ·have hlt := isTok_lt hc
   rw [if_pos hc] at hI
   simp only [hc, if_true]
   repeat first | refine LCode.region ?_ | refine LCode.skip ?_ | refine LCode.block ?_ | refine QThen.normal ?_
   refine LOps.pure (Pure.mv (lv := v) rfl) rfl ?_
   repeat first | refine LOps.pure (Pure.mv (lv := .atom _) rfl) rfl ?_
   refine LOps.step (S.callP [_, _] rfl Pick.here (word_spec sb T (i2 + 1) op1 2 hl (by omega)) (fun s2 i3 op3 h3 => ?_) (fun l er i3 op3 h3 e' he' => ?_)) rfl
   ·rw [h3, obind_ok] at hI
    obtain ⟨rfl, rfl, t, ht, _, _⟩ := sWord_ok h3
    have := get_lt ht
    refine LOps.step (S.lit [_] rfl (elemsOk.cons rfl rfl elemsOk.nil) rfl rfl rfl ?_) rfl
    refine LOps.step (S.acc1 rfl hacc rfl (by simp; rfl) rfl (by simp; omega) fun v' H' hacc' => ?_) rfl
    refine LOps.pure (Pure.as (lv := v') rfl) rfl ?_
    repeat first | refine LOps.nil ?_ | refine QThen.normal ?_ | refine QBlock.normal ?_
    exact ⟨k, _, _, by omega, ⟨v', l ++ [s2], i2 + 1 + 1, H', rfl, rfl, by rw [List.map_append]; exact hacc', by omega, by simp; omega, hI⟩, ⟨rfl, rfl, trivial⟩, HSub.refl _, hj⟩
   ·rw [h3, obind_err] at hI
    repeat first | refine QThen.panic ?_ | refine QBlock.panic ?_
    exact panP (he'.trans hj) (by cases hI; rfl) (HSub.pick Pick.here (HSub.nil _))
  ·have hc' : isTok T i2 [[44]] = false := hc
   rw [if_neg (by rw [hc']; decide)] at hI
   simp only [hc', Bool.false_eq_true, if_false]
   repeat first | refine LCode.seq ?_ | refine LCode.region ?_ | refine LCode.exit ?_ | refine QThen.normal ?_ | refine QThen.exit ?_ | refine QBlock.hit ?_
   refine LOps.pure (Pure.mv (lv := v) rfl) rfl ?_
   refine LOps.pure (Pure.as (lv := v) rfl) rfl ?_
   repeat first | refine LOps.nil ?_ | refine LCode.ret ?_ | refine QThen.normal ?_
   exact retP (v := l) hj (AllRes.cons (ResIs.tmp (v := v) rfl hacc.sub) AllRes.nil) (by cases hI; rfl) rfl (HSub.pick Pick.here (HSub.nil _))
 ·rw [h1, obind_err] at hr
  repeat first | refine QThen.panic ?_
  exact panP (he'.trans rfl) (by cases hr; rfl) (HSub.pick Pick.here (HSub.nil _))
theorem index_spec (sb : Nat) (T : List Tok) (hT : TOK T) (f : Nat) (hE : ExprC B0 w0 sb T f) (i op : Nat) (r : Res Ex) (hi : i ≤ T.length) (ho : op ≤ 100) (hr : eIndex T (f + 1) i op = some r) :
  LCalls (KC B0 w0) 216 [ptr sb 0] [srcH sb T i op] (PostP sb T encE r) := by
 have hl := hT.len
 rw [eIndex] at hr
 refine LCalls.intro Tryz.func216 rfl (n := 11) rfl rfl rfl ?_
 repeat first | refine LCode.seq ?_ | refine LCode.region ?_
 refine LOps.step (S.alloc fun b => ?_) rfl
 repeat first | refine LOps.nil ?_ | refine LCode.seq ?_ | refine LCode.region ?_ | refine QThen.normal ?_ | refine LOps.pure (Pure.mv (lv := .atom _) rfl) rfl ?_
 refine LOps.step (S.callP [_, _] rfl (Pick.there Pick.here) (begin_spec sb T i op [91] hl (by omega) (by omega)) (fun v i1 op1 h1 => ?_) (fun l er i1 op1 h1 e' he' => ?_)) rfl
 ·rw [h1, obind_ok] at hr
  obtain ⟨rfl, rfl, ho1, hi1⟩ := sBegin_ok h1
  repeat first | refine LOps.nil ?_ | refine LCode.seq ?_ | refine LCode.region ?_ | refine QThen.normal ?_ | refine LOps.pure (Pure.mv (lv := .atom _) rfl) rfl ?_
  obtain ⟨r1, hr1⟩ := obind_is hr
  refine LOps.step (S.callP [_] rfl Pick.here (hE _ _ r1 (by omega) (by omega) hr1) (fun v i2 op2 h2 => ?_) (fun l er i2 op2 h2 e' he' => ?_)) rfl
  ·rw [hr1, h2, obind_ok] at hr
   obtain ⟨g1, _, g3, rfl⟩ := (ex_good T f).1 0 _ _ _ (hr1.trans (congrArg some h2))
   have g4 := g3 (by omega)
   refine LOps.step (S.alloc fun b2 => ?_) rfl
   repeat first | refine LOps.nil ?_ | refine LCode.seq ?_ | refine LCode.region ?_ | refine QThen.normal ?_ | refine LOps.pure (Pure.mv (lv := .atom _) rfl) rfl ?_ | refine LOps.step (S.store (cs' := [_, _, _, _]) rfl Pick.here rfl rfl rfl rfl rfl ?_) rfl
   refine LOps.step (S.callP [_, _] rfl (Pick.there Pick.here) (end_spec sb T i2 (op + 1) [93] hl (by omega) (by omega) (by omega)) (fun u i3 op3 h3 => ?_) (fun l er i3 op3 h3 e' he' => ?_)) rfl
   ·rw [h3, obind_ok] at hr
    repeat first | refine LOps.nil ?_ | refine LCode.seq ?_ | refine LCode.region ?_ | refine LCode.ret ?_ | refine QThen.normal ?_ | refine LOps.pure (Pure.ldHAgg (cs' := [_, _, _, _]) rfl (List.Mem.tail _ (List.Mem.head _)) rfl rfl) rfl ?_ | refine LOps.step (S.store (cs' := [_, _, _, _]) rfl (Pick.there (Pick.there Pick.here)) rfl rfl rfl rfl rfl ?_) rfl
    exact retP rfl (AllRes.cons (ResIs.cellAgg rfl (List.Mem.head _) rfl (LV.Sub.refl _)) AllRes.nil) (by cases hr; rfl) rfl (HSub.drop (HSub.pick Pick.here (HSub.nil _)))
   ·rw [h3, obind_err] at hr
    repeat first | refine QThen.panic ?_
    exact panP (he'.trans rfl) (by cases hr; rfl) (HSub.pick Pick.here (HSub.nil _))
  ·rw [hr1, h2, obind_err] at hr
   repeat first | refine QThen.panic ?_
   exact panP (he'.trans rfl) (by cases hr; rfl) (HSub.pick Pick.here (HSub.nil _))
 ·rw [h1, obind_err] at hr
  repeat first | refine QThen.panic ?_
  exact panP (he'.trans rfl) (by cases hr; rfl) (HSub.pick Pick.here (HSub.nil _))
end
end Go.Proofs.YtcbpcianefpniaaGreatDoor
namespace Go.Proofs.YtcbpcianefpniaaGreatDoor
open Go.GL Go.RowKit Go.Stele
set_option maxRecDepth 100000
set_option maxHeartbeats 4000000
attribute [local irreducible] LOps LCode LStep LCalls Go.GL.Pure QThen QBlock RetPost LQ LAny LLate LLateOp
def encEL (l : List Ex) : LV := .list (l.map encE)
section
variable {B0 : Nat} {w0 : World}
theorem args_spec (sb : Nat) (T : List Tok) (hT : TOK T) (f : Nat) (hE : ∀ g, g < f → ExprC B0 w0 sb T g) (i op : Nat) (r : Res (List Ex)) (hi : i ≤ T.length) (ho : op ≤ 100) (hr : eArgs T f i op = some r) :
  LCalls (KC B0 w0) 215 [ptr sb 0] [srcH sb T i op] (PostP sb T encEL r) := by
 have hl := hT.len
 obtain ⟨f, rfl⟩ : ∃ g, f = g + 1 := by
  cases f with
  | zero => rw [eArgs] at hr; cases hr
  | succ g => exact ⟨g, rfl⟩
 rw [eArgs] at hr
 refine LCalls.intro Tryz.func215 rfl (n := 23) rfl rfl rfl ?_
 repeat first | refine LOps.nil ?_ | refine LCode.seq ?_ | refine LCode.region ?_ | refine QThen.normal ?_ | refine LOps.pure (Pure.as (lv := .atom _) rfl) rfl ?_ | refine LOps.pure (Pure.mv (lv := .atom _) rfl) rfl ?_
 refine LOps.step (S.callP [_, _] rfl Pick.here (begin_spec sb T i op [40] hl (by omega) (by omega)) (fun v i1 op1 h1 => ?_) (fun l er i1 op1 h1 e' he' => ?_)) rfl
 ·rw [h1, obind_ok] at hr
  obtain ⟨rfl, rfl, ho1, hi1⟩ := sBegin_ok h1
  repeat first | refine LOps.nil ?_ | refine LCode.seq ?_ | refine LCode.region ?_ | refine LCode.block ?_ | refine QThen.normal ?_ | refine LOps.pure (Pure.as (lv := .atom _) rfl) rfl ?_
  obtain ⟨r1, hr1⟩ := obind_is hr
  refine LCode.loopI (fun k ls H => ∃ (v : LV) (l : List Ex) (i2 : Nat) (Ha : Heap), k ≤ f ∧ ls = [(0, ptr sb 0), (3, v)] ∧ H = srcH sb T i2 (op + 1) :: Ha ∧ Acc 4 v (l.map encE) Ha [] ∧ i2 ≤ T.length ∧ l.length ≤ i2 + 1 ∧ eArgsLoop T k l i2 (op + 1) = some r1)
   ⟨f, _, srcH sb T (i + 1) (op + 1) :: [], ⟨nilSlice, [], i + 1, _, Nat.le_refl _, rfl, rfl, Acc.nil, by omega, by simp, hr1⟩, ⟨rfl, rfl, trivial⟩, HSub.refl _⟩ ?_
  rintro k ls H ⟨v, l, i2, Ha, hkf, rfl, rfl, hacc, hi2, hll, hI⟩ j hj
  obtain ⟨k, rfl⟩ : ∃ k', k = k' + 1 := by
   cases k with
   | zero => rw [eArgsLoop] at hI; cases hI
   | succ k => exact ⟨k, rfl⟩
  rw [eArgsLoop] at hI
  repeat first | refine LCode.seq ?_ | refine LCode.region ?_ | refine LOps.pure (Pure.mv (lv := .atom _) rfl) rfl ?_
  refine LOps.step (S.lit [_] rfl (elemsOk.cons rfl rfl elemsOk.nil) rfl rfl rfl ?_) rfl
  refine LOps.step (S.fnH [_, _] rfl Pick.here (is_spec sb T i2 (op + 1) [[41]] hl (by omega) (by simp)) ?_) rfl
  repeat first | refine LOps.nil ?_ | refine QThen.normal ?_ | refine LOps.pure (Pure.not rfl) rfl ?_
  refine LCode.cond rfl (fun hc => ?_) (fun hc => ?_)
  ·have hc' : isTok T i2 [[41]] = false := by simpa using hc
   rw [if_neg (by rw [hc']; decide)] at hI
   repeat first | refine LCode.seq ?_ | refine LCode.region ?_ | refine LCode.skip ?_ | refine LCode.block ?_ | refine QThen.normal ?_
   refine LOps.pure (Pure.mv (lv := v) rfl) rfl ?_
   refine LOps.pure (Pure.llen hacc.elems) rfl ?_
   repeat first | refine LOps.nil ?_ | refine QThen.normal ?_ | refine LOps.pure (Pure.gtr rfl rfl) rfl ?_
   refine LCode.cond rfl (fun hd => ?_) (fun hd => ?_)
   ·have hl0 : ¬ l = [] := by
     rintro rfl
     have := of_decide_eq_true hd
     simp at this
    rw [if_neg hl0] at hI
    repeat first | refine LCode.region ?_ | refine LOps.pure (Pure.mv (lv := .atom _) rfl) rfl ?_
    refine LOps.step (S.callP [_, _] rfl Pick.here (need_spec sb T i2 (op + 1) [44] hl (by omega)) (fun u i3 op3 h3 => ?_) (fun l er i3 op3 h3 e' he' => ?_)) rfl
    ·rw [h3, obind_ok] at hI
     obtain ⟨q1, q2, q3, rfl⟩ : i2 ≤ i3 ∧ (true = true → i2 < i3) ∧ (i2 ≤ T.length → i3 ≤ T.length) ∧ op3 = op + 1 := by
      have := sNeed_good T [44] i2 (op + 1)
      rw [h3] at this
      exact this
     have q4 := q3 hi2
     repeat first | refine LOps.nil ?_ | refine LCode.region ?_ | refine QThen.normal ?_
     refine LOps.pure (Pure.mv (lv := v) rfl) rfl ?_
     repeat first | refine LOps.pure (Pure.mv (lv := .atom _) rfl) rfl ?_
     obtain ⟨r2, hr2⟩ := obind_is hI
     refine LOps.step (S.callP [_] rfl Pick.here (hE k (by omega) _ _ r2 (by omega) (by omega) hr2) (fun e2 i4 op4 h4 => ?_) (fun l er i4 op4 h4 e' he' => ?_)) rfl
     ·rw [hr2, h4, obind_ok] at hI
      obtain ⟨g1, g2, g3, rfl⟩ := (ex_good T k).1 0 _ _ _ (hr2.trans (congrArg some h4))
      have g5 := g3 (by omega)
      have g6 := g2 rfl
      refine LOps.step (S.lit [_] rfl (elemsOk.cons rfl rfl elemsOk.nil) rfl rfl rfl ?_) rfl
      refine LOps.step (S.acc1 rfl hacc rfl (by simp; rfl) rfl (by simp; omega) fun v' H' hacc' => ?_) rfl
      refine LOps.pure (Pure.as (lv := v') rfl) rfl ?_
      repeat first | refine LOps.nil ?_ | refine QThen.normal ?_ | refine QBlock.normal ?_
      exact ⟨k, _, _, by omega, ⟨v', l ++ [e2], i4, H', by omega, rfl, rfl, by rw [List.map_append]; exact hacc', by omega, by simp; omega, hI⟩, ⟨rfl, rfl, trivial⟩, HSub.refl _, hj⟩
     ·rw [hr2, h4, obind_err] at hI
      rw [hr1] at hr
      cases hI
      rw [obind_err] at hr
      repeat first | refine QThen.panic ?_ | refine QBlock.panic ?_
      exact panP (he'.trans hj) (by cases hr; rfl) (HSub.pick Pick.here (HSub.nil _))
    ·rw [h3, obind_err] at hI
     rw [hr1] at hr
     cases hI
     rw [obind_err] at hr
     repeat first | refine QThen.panic ?_ | refine QBlock.panic ?_
     exact panP (he'.trans hj) (by cases hr; rfl) (HSub.pick Pick.here (HSub.nil _))
   ·have hl0 : l = [] := by
     have := of_decide_eq_false hd
     simp at this
     exact this
    rw [if_pos hl0, obind_ok] at hI
    repeat first | refine LCode.region ?_ | refine LCode.skip ?_ | refine QThen.normal ?_
    refine LOps.pure (Pure.mv (lv := v) rfl) rfl ?_
    repeat first | refine LOps.pure (Pure.mv (lv := .atom _) rfl) rfl ?_
    obtain ⟨r2, hr2⟩ := obind_is hI
    refine LOps.step (S.callP [_] rfl Pick.here (hE k (by omega) _ _ r2 (by omega) (by omega) hr2) (fun e2 i4 op4 h4 => ?_) (fun l er i4 op4 h4 e' he' => ?_)) rfl
    ·rw [hr2, h4, obind_ok] at hI
     obtain ⟨g1, g2, g3, rfl⟩ := (ex_good T k).1 0 _ _ _ (hr2.trans (congrArg some h4))
     have g5 := g3 (by omega)
     have g6 := g2 rfl
     refine LOps.step (S.lit [_] rfl (elemsOk.cons rfl rfl elemsOk.nil) rfl rfl rfl ?_) rfl
     refine LOps.step (S.acc1 rfl hacc rfl (by simp; rfl) rfl (by simp; omega) fun v' H' hacc' => ?_) rfl
     refine LOps.pure (Pure.as (lv := v') rfl) rfl ?_
     repeat first | refine LOps.nil ?_ | refine QThen.normal ?_ | refine QBlock.normal ?_
     exact ⟨k, _, _, by omega, ⟨v', l ++ [e2], i4, H', by omega, rfl, rfl, by rw [List.map_append]; exact hacc', by omega, by simp; omega, hI⟩, ⟨rfl, rfl, trivial⟩, HSub.refl _, hj⟩
    ·rw [hr2, h4, obind_err] at hI
     rw [hr1] at hr
     cases hI
     rw [obind_err] at hr
     repeat first | refine QThen.panic ?_ | refine QBlock.panic ?_
     exact panP (he'.trans hj) (by cases hr; rfl) (HSub.pick Pick.here (HSub.nil _))
  ·have hc' : isTok T i2 [[41]] = true := by simpa using hc
   rw [if_pos hc'] at hI
   repeat first | refine LCode.seq ?_ | refine LCode.region ?_ | refine LCode.exit ?_ | refine QThen.normal ?_ | refine QThen.exit ?_ | refine QBlock.hit ?_ | refine LOps.pure (Pure.mv (lv := .atom _) rfl) rfl ?_
   rw [hr1] at hr
   cases hI
   rw [obind_ok] at hr
   refine LOps.step (S.callP [_, _] rfl Pick.here (end_spec sb T i2 (op + 1) [41] hl (by omega) (by omega) (by omega)) (fun u i3 op3 h3 => ?_) (fun l er i3 op3 h3 e' he' => ?_)) rfl
   ·rw [h3, obind_ok] at hr
    repeat first | refine LOps.nil ?_ | refine LCode.seq ?_ | refine LCode.region ?_ | refine QThen.normal ?_
    refine LOps.pure (Pure.mv (lv := v) rfl) rfl ?_
    refine LOps.pure (Pure.as (lv := v) rfl) rfl ?_
    repeat first | refine LOps.nil ?_ | refine LCode.ret ?_ | refine QThen.normal ?_
    exact retP (v := l) hj (AllRes.cons (ResIs.tmp (v := v) rfl hacc.sub) AllRes.nil) (by cases hr; rfl) rfl (HSub.pick Pick.here (HSub.nil _))
   ·rw [h3, obind_err] at hr
    repeat first | refine QThen.panic ?_
    exact panP (he'.trans hj) (by cases hr; rfl) (HSub.pick Pick.here (HSub.nil _))
 ·rw [h1, obind_err] at hr
  repeat first | refine QThen.panic ?_
  exact panP (he'.trans rfl) (by cases hr; rfl) (HSub.pick Pick.here (HSub.nil _))
theorem index_specL (sb : Nat) (T : List Tok) (hT : TOK T) (f : Nat) (hE : ∀ g, g < f → ExprC B0 w0 sb T g) (i op : Nat) (r : Res Ex) (hi : i ≤ T.length) (ho : op ≤ 100) (hr : eIndex T f i op = some r) :
  LCalls (KC B0 w0) 216 [ptr sb 0] [srcH sb T i op] (PostP sb T encE r) := by
 cases f with
 | zero => rw [eIndex] at hr; cases hr
 | succ f => exact index_spec sb T hT f (hE f (by omega)) i op r hi ho hr
theorem prim_spec (hG : GW B0 w0) (sb : Nat) (T : List Tok) (hT : TOK T) (f : Nat) (hE : ∀ g, g < f → ExprC B0 w0 sb T g) (i op : Nat) (r : Res Ex) (hi : i ≤ T.length) (ho : op ≤ 100) (hr : ePrim T f i op = some r) :
  LCalls (KC B0 w0) 223 [ptr sb 0] [srcH sb T i op] (PostP sb T encE r) := by
 have hl := hT.len
 have hml : (T.map encTok).length = T.length := List.length_map _
 obtain ⟨f, rfl⟩ : ∃ g, f = g + 1 := by
  cases f with
  | zero => rw [ePrim] at hr; cases hr
  | succ g => exact ⟨g, rfl⟩
 rw [ePrim] at hr
 refine LCalls.intro Tryz.func223 rfl (n := 63) rfl rfl rfl ?_
 repeat first | refine LCode.seq ?_ | refine LCode.region ?_
 refine LOps.step (S.alloc fun b => ?_) rfl
 repeat first | refine LOps.nil ?_ | refine LCode.seq ?_ | refine LCode.region ?_ | refine QThen.normal ?_ | refine LOps.pure (Pure.mv (lv := .atom _) rfl) rfl ?_
 refine LOps.step (S.lit [_] rfl (elemsOk.cons rfl rfl elemsOk.nil) rfl rfl rfl ?_) rfl
 refine LOps.step (S.fnH [_, _] rfl (Pick.there Pick.here) (is_spec sb T i op [[40]] hl (by omega) (by simp)) ?_) rfl
 repeat first | refine LOps.nil ?_ | refine QThen.normal ?_
 refine LCode.cond rfl (fun hp => ?_) (fun hp => ?_)
 ·rw [if_pos hp] at hr
  repeat first | refine LCode.seq ?_ | refine LCode.region ?_ | refine LOps.pure (Pure.mv (lv := .atom _) rfl) rfl ?_
  refine LOps.step (S.callP [_, _] rfl Pick.here (begin_spec sb T i op [40] hl (by omega) (by omega)) (fun v i1 op1 h1 => ?_) (fun l er i1 op1 h1 e' he' => ?_)) rfl
  ·rw [h1, obind_ok] at hr
   obtain ⟨rfl, rfl, ho1, hi1⟩ := sBegin_ok h1
   repeat first | refine LOps.nil ?_ | refine LCode.seq ?_ | refine LCode.region ?_ | refine QThen.normal ?_ | refine LOps.pure (Pure.mv (lv := .atom _) rfl) rfl ?_
   obtain ⟨r1, hr1⟩ := obind_is hr
   refine LOps.step (S.callP [_] rfl Pick.here (hE f (by omega) _ _ r1 (by omega) (by omega) hr1) (fun v i2 op2 h2 => ?_) (fun l er i2 op2 h2 e' he' => ?_)) rfl
   ·rw [hr1, h2, obind_ok] at hr
    obtain ⟨g1, _, g3, rfl⟩ := (ex_good T f).1 0 _ _ _ (hr1.trans (congrArg some h2))
    have g4 := g3 (by omega)
    refine LOps.step (S.alloc fun b2 => ?_) rfl
    repeat first | refine LOps.nil ?_ | refine LCode.seq ?_ | refine LCode.region ?_ | refine QThen.normal ?_ | refine LOps.pure (Pure.mv (lv := .atom _) rfl) rfl ?_ | refine LOps.step (S.store (cs' := [_, _, _, _]) rfl Pick.here rfl rfl rfl rfl rfl ?_) rfl
    refine LOps.step (S.callP [_, _] rfl (Pick.there Pick.here) (end_spec sb T i2 (op + 1) [41] hl (by omega) (by omega) (by omega)) (fun u i3 op3 h3 => ?_) (fun l er i3 op3 h3 e' he' => ?_)) rfl
    ·rw [h3, obind_ok] at hr
     repeat first | refine LOps.nil ?_ | refine LCode.seq ?_ | refine LCode.region ?_ | refine LCode.ret ?_ | refine QThen.normal ?_ | refine QThen.ret ?_ | refine LOps.pure (Pure.ldHAgg (cs' := [_, _, _, _]) rfl (List.Mem.tail _ (List.Mem.head _)) rfl rfl) rfl ?_ | refine LOps.step (S.store (cs' := [_, _, _, _]) rfl (Pick.there (Pick.there Pick.here)) rfl rfl rfl rfl rfl ?_) rfl
     exact retP rfl (AllRes.cons (ResIs.cellAgg rfl (List.Mem.head _) rfl (LV.Sub.refl _)) AllRes.nil) (by cases hr; rfl) rfl (HSub.drop (HSub.pick Pick.here (HSub.nil _)))
    ·rw [h3, obind_err] at hr
     repeat first | refine QThen.panic ?_
     exact panP (he'.trans rfl) (by cases hr; rfl) (HSub.pick Pick.here (HSub.nil _))
   ·rw [hr1, h2, obind_err] at hr
    repeat first | refine QThen.panic ?_
    exact panP (he'.trans rfl) (by cases hr; rfl) (HSub.pick Pick.here (HSub.nil _))
  ·rw [h1, obind_err] at hr
   repeat first | refine QThen.panic ?_
   exact panP (he'.trans rfl) (by cases hr; rfl) (HSub.pick Pick.here (HSub.nil _))
 ·have hp' : isTok T i [[40]] = false := hp
  rw [if_neg (by rw [hp']; decide)] at hr
  repeat first | refine LCode.seq ?_ | refine LCode.skip ?_ | refine QThen.normal ?_
  refine LCode.cut [(0, ptr sb 0), (2, ptr b 0), (38, bool (decide (kindAt T i = 1)))] ?_ (fun j hj => ?_)
  ·refine LCode.quiet (by kernel_rfl) ?_
   repeat first | refine LQ.pure (Pure.mv (lv := .atom _) rfl) rfl ?_ | refine LQ.pure (Pure.nilCheckH rfl) rfl ?_ | refine LQ.pure (Pure.fieldH rfl) rfl ?_ | refine LQ.pure (Pure.loadH (c := .atom _) rfl (List.Mem.head _) rfl) rfl ?_ | refine LQ.pure (Pure.loadH (c := .list _) rfl (List.Mem.head _) rfl) rfl ?_ | refine LQ.pure (Pure.llen rfl) rfl ?_ | refine LQ.pure (Pure.lss rfl rfl) rfl ?_
   refine LQ.bcase 25 rfl (fun h => ?_) (fun h => ?_)
   ·have hlt : i < T.length := by have := of_decide_eq_true h; omega
    repeat first | refine LQ.pure (Pure.mv (lv := .atom _) rfl) rfl ?_ | refine LQ.pure (Pure.nilCheckH rfl) rfl ?_ | refine LQ.pure (Pure.fieldH rfl) rfl ?_ | refine LQ.pure (Pure.loadH (c := .atom _) rfl (List.Mem.head _) rfl) rfl ?_ | refine LQ.pure (Pure.loadH (c := .list _) rfl (List.Mem.head _) rfl) rfl ?_ | refine LQ.want rfl rfl ?_
    refine LQ.pure (Pure.ixRef (el' := encTok T[i]) (cs := [_, _, _]) rfl rfl (by omega) (map_get _ _ _ hlt) rfl rfl) rfl ?_
    repeat first | refine LQ.pure (Pure.field1 rfl rfl) rfl ?_ | refine LQ.pure (Pure.loadRef (c := .atom _) rfl rfl) rfl ?_ | refine LQ.pure (Pure.eql rfl rfl) rfl ?_ | refine LQ.pure (Pure.pickT (lv := .atom _) rfl rfl) rfl ?_ | refine LQ.want rfl rfl ?_ | refine LQ.nil ?_ | refine QThen.normal ?_
    exact ⟨⟨rfl, rfl, bool_eq (by rw [kindAt, List.getElem?_eq_getElem hlt]), trivial⟩, rfl, rfl⟩
   ·have hge : T.length ≤ i := by have := of_decide_eq_false h; omega
    repeat first | refine LQ.pure (Pure.pickF (lv := .atom _) rfl rfl) rfl ?_ | refine LQ.skip rfl rfl rfl rfl ?_ | refine LQ.nil ?_ | refine QThen.normal ?_
    exact ⟨⟨rfl, rfl, bool_eq (by rw [kindAt, List.getElem?_eq_none hge]; rfl), trivial⟩, rfl, rfl⟩
  ·skip
   refine LCode.cond rfl (fun hk => ?_) (fun hk => ?_)
   ·rw [if_pos (of_decide_eq_true hk)] at hr
    repeat first | refine LCode.seq ?_ | refine LCode.region ?_ | refine LOps.pure (Pure.mv (lv := .atom _) rfl) rfl ?_
    refine LOps.step (S.callP [_] rfl Pick.here (number_specP hG sb T hT i op (by omega)) (fun n i1 op1 h1 => ?_) (fun l er i1 op1 h1 e' he' => ?_)) rfl
    ·rw [h1, obind_ok] at hr
     repeat first | refine LOps.nil ?_ | refine LCode.ret ?_ | refine QThen.normal ?_ | refine QThen.ret ?_ | refine LOps.pure (Pure.bld _ (cs := [_, _, _, _]) rfl) rfl ?_ | refine LOps.step (S.store (cs' := [_, _, _, _]) rfl (Pick.there Pick.here) rfl rfl rfl rfl rfl ?_) rfl
     exact retP (v := .mk nNum n [] []) hj (AllRes.cons (ResIs.cellAgg (k := 4) rfl (List.Mem.head _) rfl (LV.Sub.agg (bs := [_, _, _, .list []]) ⟨LV.Sub.refl _, LV.Sub.refl _, LV.Sub.refl _, LV.Sub.nil, trivial⟩)) AllRes.nil) (by cases hr; rfl) (by rw [encE_mk]; rfl) (HSub.pick (Pick.there Pick.here) (HSub.nil _))
    ·rw [h1, obind_err] at hr
     repeat first | refine QThen.panic ?_
     exact panP (he'.trans hj) (by cases hr; rfl) (HSub.pick Pick.here (HSub.nil _))
   ·rw [if_neg (of_decide_eq_false hk)] at hr
    repeat first | refine LCode.seq ?_ | refine LCode.region ?_ | refine LCode.skip ?_ | refine QThen.normal ?_ | refine LOps.pure (Pure.mv (lv := .atom _) rfl) rfl ?_
    refine LOps.step (S.callP [_, _] rfl Pick.here (word_spec sb T i op 2 hl (by omega)) (fun s i1 op1 h1 => ?_) (fun l er i1 op1 h1 e' he' => ?_)) rfl
    ·rw [h1, obind_ok] at hr
     obtain ⟨rfl, rfl, t, ht, _, _⟩ := sWord_ok h1
     have := get_lt ht
     repeat first | refine LOps.nil ?_ | refine LCode.seq ?_ | refine LCode.region ?_ | refine LCode.block ?_ | refine QThen.normal ?_ | refine LOps.pure (Pure.mv (lv := .atom _) rfl) rfl ?_ | refine LOps.pure (Pure.as (lv := .atom _) rfl) rfl ?_
     refine LOps.step (S.lit [_] rfl (elemsOk.cons rfl rfl elemsOk.nil) rfl rfl rfl ?_) rfl
     refine LOps.step (S.fnH [_, _] rfl Pick.here (is_spec sb T (i + 1) op1 [[91]] hl (by omega) (by simp)) ?_) rfl
     repeat first | refine LOps.nil ?_ | refine QThen.normal ?_ | refine LOps.pure (Pure.as (lv := .atom _) rfl) rfl ?_
     refine LCode.cond rfl (fun hx => ?_) (fun hx => ?_)
     ·rw [if_pos hx] at hr
      obtain ⟨r1, hr1⟩ := obind_is hr
      repeat first | refine LCode.seq ?_ | refine LCode.region ?_ | refine LOps.pure (Pure.mv (lv := .atom _) rfl) rfl ?_
      refine LOps.step (S.callP [_] rfl Pick.here (index_specL sb T hT f (fun g hg => hE g (by omega)) (i + 1) op1 r1 (by omega) (by omega) hr1) (fun e2 i2 op2 h2 => ?_) (fun l er i2 op2 h2 e' he' => ?_)) rfl
      ·rw [hr1, h2, obind_ok] at hr
       refine LOps.step (S.lit [_] rfl (elemsOk.cons rfl rfl elemsOk.nil) rfl rfl rfl ?_) rfl
       repeat first | refine LOps.nil ?_ | refine LCode.ret ?_ | refine QThen.normal ?_ | refine QThen.ret ?_ | refine QBlock.ret ?_ | refine LOps.pure (Pure.bld _ (cs := [_, _, _, _]) rfl) rfl ?_ | refine LOps.step (S.store (cs' := [_, _, _, _]) rfl (Pick.there Pick.here) rfl rfl rfl rfl rfl ?_) rfl
       exact retP (v := .mk nElem 0 s [e2]) hj (AllRes.cons (ResIs.cellAgg rfl (List.Mem.head _) rfl (LV.Sub.refl _)) AllRes.nil) (by cases hr; rfl) (by rw [encE_mk]; rfl) (HSub.pick (Pick.there Pick.here) (HSub.nil _))
      ·rw [hr1, h2, obind_err] at hr
       repeat first | refine QThen.panic ?_ | refine QBlock.panic ?_
       exact panP (he'.trans hj) (by cases hr; rfl) (HSub.pick Pick.here (HSub.nil _))
     ·have hx' : isTok T (i + 1) [[91]] = false := hx
      rw [if_neg (by rw [hx']; decide)] at hr
      repeat first | refine LCode.seq ?_ | refine LCode.region ?_ | refine LOps.pure (Pure.mv (lv := .atom _) rfl) rfl ?_
      refine LOps.step (S.lit [_] rfl (elemsOk.cons rfl rfl elemsOk.nil) rfl rfl rfl ?_) rfl
      refine LOps.step (S.fnH [_, _] rfl Pick.here (is_spec sb T (i + 1) op1 [[40]] hl (by omega) (by simp)) ?_) rfl
      repeat first | refine LOps.nil ?_ | refine QThen.normal ?_ | refine LOps.pure (Pure.as (lv := .atom _) rfl) rfl ?_
      refine LCode.cond rfl (fun hy => ?_) (fun hy => ?_)
      ·rw [if_pos hy] at hr
       obtain ⟨r1, hr1⟩ := obind_is hr
       repeat first | refine LCode.seq ?_ | refine LCode.region ?_ | refine LOps.pure (Pure.mv (lv := .atom _) rfl) rfl ?_
       refine LOps.step (S.callP [_] rfl Pick.here (args_spec sb T hT f (fun g hg => hE g (by omega)) (i + 1) op1 r1 (by omega) (by omega) hr1) (fun e2 i2 op2 h2 => ?_) (fun l er i2 op2 h2 e' he' => ?_)) rfl
       ·rw [hr1, h2, obind_ok] at hr
        repeat first | refine LOps.nil ?_ | refine LCode.ret ?_ | refine QThen.normal ?_ | refine QThen.ret ?_ | refine QBlock.ret ?_ | refine LOps.pure (Pure.bld _ (cs := [_, _, _, _]) rfl) rfl ?_ | refine LOps.step (S.store (cs' := [_, _, _, _]) rfl (Pick.there Pick.here) rfl rfl rfl rfl rfl ?_) rfl
        exact retP (v := .mk nCall 0 s e2) hj (AllRes.cons (ResIs.cellAgg rfl (List.Mem.head _) rfl (LV.Sub.refl _)) AllRes.nil) (by cases hr; rfl) (by rw [encE_mk]; rfl) (HSub.pick (Pick.there Pick.here) (HSub.nil _))
       ·rw [hr1, h2, obind_err] at hr
        repeat first | refine QThen.panic ?_ | refine QBlock.panic ?_
        exact panP (he'.trans hj) (by cases hr; rfl) (HSub.pick Pick.here (HSub.nil _))
      ·have hy' : isTok T (i + 1) [[40]] = false := hy
       rw [if_neg (by rw [hy']; decide)] at hr
       repeat first | refine LOps.nil ?_ | refine LCode.seq ?_ | refine LCode.region ?_ | refine LCode.skip ?_ | refine LCode.ret ?_ | refine QThen.normal ?_ | refine QBlock.normal ?_ | refine LOps.pure (Pure.mv (lv := .atom _) rfl) rfl ?_ | refine LOps.pure (Pure.bld _ (cs := [_, _, _, _]) rfl) rfl ?_ | refine LOps.step (S.store (cs' := [_, _, _, _]) rfl (Pick.there Pick.here) rfl rfl rfl rfl rfl ?_) rfl
       exact retP (v := .mk nVar 0 s []) hj (AllRes.cons (ResIs.cellAgg (k := 4) rfl (List.Mem.head _) rfl (LV.Sub.agg (bs := [_, _, _, .list []]) ⟨LV.Sub.refl _, LV.Sub.refl _, LV.Sub.refl _, LV.Sub.nil, trivial⟩)) AllRes.nil) (by cases hr; rfl) (by rw [encE_mk]; rfl) (HSub.pick (Pick.there Pick.here) (HSub.nil _))
    ·rw [h1, obind_err] at hr
     repeat first | refine QThen.panic ?_
     exact panP (he'.trans hj) (by cases hr; rfl) (HSub.pick Pick.here (HSub.nil _))
end
end Go.Proofs.YtcbpcianefpniaaGreatDoor
namespace Go.Proofs.YtcbpcianefpniaaGreatDoor
open Go.GL Go.RowKit Go.Stele
set_option maxRecDepth 100000
set_option maxHeartbeats 4000000
attribute [local irreducible] LOps LCode LStep LCalls Go.GL.Pure QThen QBlock RetPost LQ LAny LLate LLateOp
def e45 : MapEntry := { key := .string ⟨#[45]⟩, val := .string ⟨#[110, 101, 103]⟩, born := 0 }
def e33 : MapEntry := { key := .string ⟨#[33]⟩, val := .string ⟨#[110, 111, 116]⟩, born := 1 }
section
variable {B0 : Nat} {w0 : World}
def UnaryC (B0 : Nat) (w0 : World) (sb : Nat) (T : List Tok) (f : Nat) : Prop :=
 ∀ i op r, i ≤ T.length → op ≤ 100 → eUnary T f i op = some r → LCalls (KC B0 w0) 211 [ptr sb 0] [srcH sb T i op] (PostP sb T encE r)
/-- Which entries have come up: none of them is the token at hand. -/
def SeenOk (T : List Tok) (i : Nat) (seen : Array Nat) : Prop :=
 seen = #[] ∨ (seen = #[0] ∧ isTok T i [[45]] = false) ∨ (seen = #[1] ∧ isTok T i [[33]] = false) ∨ ((seen = #[0, 1] ∨ seen = #[1, 0]) ∧ isTok T i [[45]] = false ∧ isTok T i [[33]] = false)
theorem over_seen {T : List Tok} {i : Nat} {seen : Array Nat} (h : SeenOk T i seen) (ho : #[e45, e33].filter (fun e => !seen.contains e.born) = #[]) : isTok T i [[45]] = false ∧ isTok T i [[33]] = false := by
 have h1 := Array.filter_eq_empty_iff.1 ho e45 (by simp)
 have h2 := Array.filter_eq_empty_iff.1 ho e33 (by simp)
 rcases h with rfl | ⟨rfl, _⟩ | ⟨rfl, _⟩ | ⟨_, h3, h4⟩
 ·simp [e45] at h1
 ·simp [e33] at h2
 ·simp [e45] at h1
 ·exact ⟨h3, h4⟩
theorem step_seen {T : List Tok} {i : Nat} {seen : Array Nat} {e : MapEntry} (h : SeenOk T i seen) (he : e ∈ (#[e45, e33].filter (fun e => !seen.contains e.born)).toList) :
  seen.size < 2 ∧ ((e = e45 ∧ (isTok T i [[45]] = false → SeenOk T i (seen.push 0))) ∨ (e = e33 ∧ (isTok T i [[33]] = false → SeenOk T i (seen.push 1)))) := by
 have he' := Array.mem_filter.1 (Array.mem_toList_iff.1 he)
 have hor : e = e45 ∨ e = e33 := by simpa using he'.1
 have hno := he'.2
 rcases h with rfl | ⟨rfl, h1⟩ | ⟨rfl, h1⟩ | ⟨rfl | rfl, _, _⟩
 ·rcases hor with rfl | rfl
  ·exact ⟨by decide, .inl ⟨rfl, fun h => .inr (.inl ⟨rfl, h⟩)⟩⟩
  ·exact ⟨by decide, .inr ⟨rfl, fun h => .inr (.inr (.inl ⟨rfl, h⟩))⟩⟩
 ·rcases hor with rfl | rfl
  ·simp [e45] at hno
  ·exact ⟨by decide, .inr ⟨rfl, fun h => .inr (.inr (.inr ⟨.inl rfl, h1, h⟩))⟩⟩
 ·rcases hor with rfl | rfl
  ·exact ⟨by decide, .inl ⟨rfl, fun h => .inr (.inr (.inr ⟨.inr rfl, h, h1⟩))⟩⟩
  ·simp [e33] at hno
 ·rcases hor with rfl | rfl
  ·simp [e45] at hno
  ·simp [e33] at hno
 ·rcases hor with rfl | rfl
  ·simp [e45] at hno
  ·simp [e33] at hno
theorem isTok_excl {T : List Tok} {i : Nat} (h : isTok T i [[33]] = true) : isTok T i [[45]] = false := by
 unfold isTok at h ⊢
 split at h
 ·rename_i t ht
  simp only [Bool.and_eq_true] at h
  have h2 : t.text = [33] := by simpa using h.2
  rw [h2]
  simp
 ·cases h
theorem unary_spec (hG : GW B0 w0) (sb : Nat) (T : List Tok) (hT : TOK T) : ∀ f : Nat, (∀ g, g < f → ExprC B0 w0 sb T g) → UnaryC B0 w0 sb T f := by
 intro f
 induction f with
 | zero => intro _ i op r _ _ hr; rw [eUnary] at hr; cases hr
 | succ f ih =>
  intro hE i op r hi ho hr
  have hl := hT.len
  rw [eUnary] at hr
  refine LCalls.intro Tryz.func211 rfl (n := 36) rfl rfl rfl ?_
  repeat first | refine LCode.seq ?_ | refine LCode.region ?_
  refine LOps.step (S.alloc fun b => ?_) rfl
  repeat first | refine LOps.nil ?_ | refine LCode.seq ?_ | refine LCode.region ?_ | refine QThen.normal ?_
  refine LOps.step (S.makeMap fun mb => ?_) rfl
  refine LOps.step (S.insert (k := ⟨#[45]⟩) (v := .string ⟨#[110, 101, 103]⟩) (kt := 9) (el := 9) (by kernel_rfl) (by kernel_rfl) rfl rfl rfl Pick.here (by simp) ?_) rfl
  refine LOps.step (S.insert (k := ⟨#[33]⟩) (v := .string ⟨#[110, 111, 116]⟩) (kt := 9) (el := 9) (by kernel_rfl) (by kernel_rfl) rfl rfl rfl Pick.here (fun e he => ⟨⟨#[45]⟩, by simp at he; rw [he], by decide⟩) ?_) rfl
  refine LOps.pure (Pure.mv (lv := .atom _) rfl) rfl ?_
  refine LOps.step (S.range (kt := 9) (el := 9) (by kernel_rfl) rfl (List.Mem.head _) fun rb => ?_) rfl
  repeat first | refine LOps.nil ?_ | refine LCode.block ?_ | refine QThen.normal ?_
  refine LCode.loopI (fun k ls H => ∃ seen : Array Nat, k = 2 - seen.size ∧ ls = [(0, ptr sb 0), (2, ptr b 0), (8, ptr rb 0)] ∧ H = [(rb, .obj (.mapIter (some mb) 2 seen 2)), (mb, .obj (.map #[e45, e33] 2)), (b, .cells 170 [str [], int .u32 0, str [], nilSlice]), srcH sb T i op] ∧ SeenOk T i seen)
   ⟨_, _, _, ⟨#[], rfl, rfl, rfl, .inl rfl⟩, ⟨rfl, rfl, rfl, trivial⟩, HSub.refl _⟩ ?_
  rintro k ls H ⟨seen, rfl, rfl, rfl, hS⟩ j hj
  repeat first | refine LCode.seq ?_ | refine LCode.region ?_
  refine LOps.step (S.next (F := [(b, .cells 170 [str [], int .u32 0, str [], nilSlice]), srcH sb T i op]) rfl (List.Perm.refl _) (by decide) (fun hov => ?_) (fun en hen => ?_)) rfl
  ·obtain ⟨hn1, hn2⟩ := over_seen hS hov
   rw [if_neg (by rw [hn1]; decide), if_neg (by rw [hn2]; decide)] at hr
   repeat first | refine LOps.nil ?_ | refine LCode.seq ?_ | refine QThen.normal ?_ | refine LOps.pure (Pure.extract (c := .atom _) rfl rfl) rfl ?_
   refine LCode.cond rfl (fun hcc => ?_) (fun hcc => ?_)
   ·cases hcc
   ·repeat first | refine LCode.seq ?_ | refine LCode.region ?_ | refine LCode.exit ?_ | refine QThen.normal ?_ | refine QThen.exit ?_ | refine QBlock.hit ?_ | refine LOps.pure (Pure.mv (lv := .atom _) rfl) rfl ?_
    refine LOps.step (S.callP [_] rfl (Pick.there (Pick.there (Pick.there Pick.here))) (prim_spec hG sb T hT f (fun g hg => hE g (by omega)) i op r hi ho hr) (fun v i1 op1 h1 => ?_) (fun l er i1 op1 h1 e' he' => ?_)) rfl
    ·repeat first | refine LOps.nil ?_ | refine LCode.ret ?_ | refine QThen.normal ?_ | refine LOps.step (S.store (cs' := [_, _, _, _]) rfl (Pick.there (Pick.there (Pick.there Pick.here))) rfl rfl rfl rfl rfl ?_) rfl
     exact retP (v := v) hj (AllRes.cons (ResIs.cellAgg rfl (List.Mem.head _) rfl (LV.Sub.refl _)) AllRes.nil) h1 rfl (HSub.pick (Pick.there Pick.here) (HSub.nil _))
    ·repeat first | refine QThen.panic ?_
     exact panP (he'.trans hj) h1 (HSub.pick Pick.here (HSub.nil _))
  ·obtain ⟨hsz, ⟨rfl, hnext⟩ | ⟨rfl, hnext⟩⟩ := step_seen hS hen
   ·repeat first | refine LOps.nil ?_ | refine LCode.seq ?_ | refine QThen.normal ?_ | refine LOps.pure (Pure.extract (c := .atom _) rfl rfl) rfl ?_
    refine LCode.cond rfl (fun hcc => ?_) (fun hcc => ?_)
    ·repeat first | refine LCode.seq ?_ | refine LCode.region ?_ | refine LCode.skip ?_ | refine LCode.block ?_ | refine QThen.normal ?_
     refine LOps.pure (Pure.entry (en := e45) (stamp := 0) rfl (List.Mem.head _) (List.Mem.tail _ (List.Mem.head _)) rfl (by show (seen.push 0).back? = _; simp) rfl) rfl ?_
     repeat first | refine LOps.nil ?_ | refine LCode.seq ?_ | refine LCode.region ?_ | refine QThen.normal ?_ | refine LOps.pure (Pure.mv (lv := .atom _) rfl) rfl ?_ | refine LOps.pure (Pure.extract (c := .atom _) rfl rfl) rfl ?_ | refine LOps.pure (Pure.as (lv := .atom _) rfl) rfl ?_
     refine LOps.step (S.lit [_] rfl (elemsOk.cons rfl rfl elemsOk.nil) rfl rfl rfl ?_) rfl
     refine LOps.step (S.fnH [_, _] rfl (Pick.there (Pick.there (Pick.there Pick.here))) (is_spec sb T i op [[45]] hl (by omega) (by simp)) ?_) rfl
     repeat first | refine LOps.nil ?_ | refine QThen.normal ?_
     refine LCode.cond rfl (fun hc => ?_) (fun hc => ?_)
     ·rw [if_pos hc] at hr
      repeat first | refine LCode.seq ?_ | refine LCode.region ?_ | refine LOps.pure (Pure.mv (lv := .atom _) rfl) rfl ?_
      refine LOps.step (S.callP [_, _] rfl Pick.here (begin_spec sb T i op [45] hl (by omega) (by omega)) (fun v i1 op1 h1 => ?_) (fun l er i1 op1 h1 e' he' => ?_)) rfl
      ·rw [h1, obind_ok] at hr
       obtain ⟨rfl, rfl, ho1, hi1⟩ := sBegin_ok h1
       repeat first | refine LOps.nil ?_ | refine LCode.seq ?_ | refine LCode.region ?_ | refine QThen.normal ?_ | refine LOps.pure (Pure.mv (lv := .atom _) rfl) rfl ?_
       obtain ⟨r1, hr1⟩ := obind_is hr
       refine LOps.step (S.callP [_] rfl Pick.here (ih (fun g hg => hE g (by omega)) _ _ r1 (by omega) (by omega) hr1) (fun e2 i2 op2 h2 => ?_) (fun l er i2 op2 h2 e' he' => ?_)) rfl
       ·rw [hr1, h2, obind_ok] at hr
        obtain ⟨g1, _, g3, rfl⟩ := (ex_good T f).2.2.1 _ _ _ (hr1.trans (congrArg some h2))
        have g4 := g3 (by omega)
        refine LOps.step (S.lit [_] rfl (elemsOk.cons rfl rfl elemsOk.nil) rfl rfl rfl ?_) rfl
        repeat first | refine LOps.pure (Pure.bld _ (cs := [_, _, _, _]) rfl) rfl ?_
        refine LOps.step (S.alloc fun b2 => ?_) rfl
        repeat first | refine LOps.nil ?_ | refine LCode.seq ?_ | refine LCode.region ?_ | refine LCode.ret ?_ | refine QThen.normal ?_ | refine QThen.ret ?_ | refine QBlock.ret ?_ | refine LOps.pure (Pure.mv (lv := .atom _) rfl) rfl ?_ | refine LOps.pure (Pure.nilCheckH rfl) rfl ?_ | refine LOps.pure (Pure.fieldH rfl) rfl ?_ | refine LOps.pure (Pure.loadH (c := .atom _) rfl (List.Mem.tail _ (List.Mem.head _)) rfl) rfl ?_ | refine LOps.pure (Pure.sub rfl rfl (by omega)) rfl ?_ | refine LOps.pure (Pure.ldHAgg (cs' := [_, _, _, _]) rfl (List.Mem.tail _ (List.Mem.head _)) rfl rfl) rfl ?_ | refine LOps.step (S.store (cs' := [_, _, _, _]) rfl Pick.here rfl rfl rfl rfl rfl ?_) rfl | refine LOps.step (S.store (cs' := [_, _, _, _]) rfl (Pick.there (Pick.there (Pick.there (Pick.there Pick.here)))) rfl rfl rfl rfl rfl ?_) rfl | refine LOps.step (S.store (cs' := [_, _, _]) rfl (Pick.there Pick.here) rfl rfl rfl rfl rfl ?_) rfl
        exact retP (v := .mk nNeg 0 [] [e2]) hj (AllRes.cons (ResIs.cellAgg rfl (List.Mem.head _) rfl (LV.Sub.refl _)) AllRes.nil) (by cases hr; rfl) (by rw [encE_mk]; rfl) (by
         rw [show (((op + 1 : Nat) : Int) - 1) = ((op + 1 - 1 : Nat) : Int) by omega]
         exact HSub.pick (Pick.there Pick.here) (HSub.nil _))
       ·rw [hr1, h2, obind_err] at hr
        repeat first | refine QThen.panic ?_ | refine QBlock.panic ?_
        exact panP (he'.trans hj) (by cases hr; rfl) (HSub.pick Pick.here (HSub.nil _))
      ·rw [h1, obind_err] at hr
       repeat first | refine QThen.panic ?_ | refine QBlock.panic ?_
       exact panP (he'.trans hj) (by cases hr; rfl) (HSub.pick Pick.here (HSub.nil _))
     ·repeat first | refine LCode.skip ?_ | refine QThen.normal ?_ | refine QBlock.normal ?_
      exact ⟨_, _, _, by have := hsz; simp; omega, ⟨seen.push 0, rfl, rfl, rfl, hnext hc⟩, ⟨rfl, rfl, rfl, trivial⟩, HSub.pick (Pick.there Pick.here) (HSub.pick (Pick.there Pick.here) (HSub.pick (Pick.there Pick.here) (HSub.pick Pick.here (HSub.nil _)))), hj⟩
    ·cases hcc
   ·repeat first | refine LOps.nil ?_ | refine LCode.seq ?_ | refine QThen.normal ?_ | refine LOps.pure (Pure.extract (c := .atom _) rfl rfl) rfl ?_
    refine LCode.cond rfl (fun hcc => ?_) (fun hcc => ?_)
    ·repeat first | refine LCode.seq ?_ | refine LCode.region ?_ | refine LCode.skip ?_ | refine LCode.block ?_ | refine QThen.normal ?_
     refine LOps.pure (Pure.entry (en := e33) (stamp := 1) rfl (List.Mem.head _) (List.Mem.tail _ (List.Mem.head _)) rfl (by show (seen.push 1).back? = _; simp) rfl) rfl ?_
     repeat first | refine LOps.nil ?_ | refine LCode.seq ?_ | refine LCode.region ?_ | refine QThen.normal ?_ | refine LOps.pure (Pure.mv (lv := .atom _) rfl) rfl ?_ | refine LOps.pure (Pure.extract (c := .atom _) rfl rfl) rfl ?_ | refine LOps.pure (Pure.as (lv := .atom _) rfl) rfl ?_
     refine LOps.step (S.lit [_] rfl (elemsOk.cons rfl rfl elemsOk.nil) rfl rfl rfl ?_) rfl
     refine LOps.step (S.fnH [_, _] rfl (Pick.there (Pick.there (Pick.there Pick.here))) (is_spec sb T i op [[33]] hl (by omega) (by simp)) ?_) rfl
     repeat first | refine LOps.nil ?_ | refine QThen.normal ?_
     refine LCode.cond rfl (fun hc => ?_) (fun hc => ?_)
     ·rw [if_neg (by rw [isTok_excl hc]; decide), if_pos hc] at hr
      repeat first | refine LCode.seq ?_ | refine LCode.region ?_ | refine LOps.pure (Pure.mv (lv := .atom _) rfl) rfl ?_
      refine LOps.step (S.callP [_, _] rfl Pick.here (begin_spec sb T i op [33] hl (by omega) (by omega)) (fun v i1 op1 h1 => ?_) (fun l er i1 op1 h1 e' he' => ?_)) rfl
      ·rw [h1, obind_ok] at hr
       obtain ⟨rfl, rfl, ho1, hi1⟩ := sBegin_ok h1
       repeat first | refine LOps.nil ?_ | refine LCode.seq ?_ | refine LCode.region ?_ | refine QThen.normal ?_ | refine LOps.pure (Pure.mv (lv := .atom _) rfl) rfl ?_
       obtain ⟨r1, hr1⟩ := obind_is hr
       refine LOps.step (S.callP [_] rfl Pick.here (ih (fun g hg => hE g (by omega)) _ _ r1 (by omega) (by omega) hr1) (fun e2 i2 op2 h2 => ?_) (fun l er i2 op2 h2 e' he' => ?_)) rfl
       ·rw [hr1, h2, obind_ok] at hr
        obtain ⟨g1, _, g3, rfl⟩ := (ex_good T f).2.2.1 _ _ _ (hr1.trans (congrArg some h2))
        have g4 := g3 (by omega)
        refine LOps.step (S.lit [_] rfl (elemsOk.cons rfl rfl elemsOk.nil) rfl rfl rfl ?_) rfl
        repeat first | refine LOps.pure (Pure.bld _ (cs := [_, _, _, _]) rfl) rfl ?_
        refine LOps.step (S.alloc fun b2 => ?_) rfl
        repeat first | refine LOps.nil ?_ | refine LCode.seq ?_ | refine LCode.region ?_ | refine LCode.ret ?_ | refine QThen.normal ?_ | refine QThen.ret ?_ | refine QBlock.ret ?_ | refine LOps.pure (Pure.mv (lv := .atom _) rfl) rfl ?_ | refine LOps.pure (Pure.nilCheckH rfl) rfl ?_ | refine LOps.pure (Pure.fieldH rfl) rfl ?_ | refine LOps.pure (Pure.loadH (c := .atom _) rfl (List.Mem.tail _ (List.Mem.head _)) rfl) rfl ?_ | refine LOps.pure (Pure.sub rfl rfl (by omega)) rfl ?_ | refine LOps.pure (Pure.ldHAgg (cs' := [_, _, _, _]) rfl (List.Mem.tail _ (List.Mem.head _)) rfl rfl) rfl ?_ | refine LOps.step (S.store (cs' := [_, _, _, _]) rfl Pick.here rfl rfl rfl rfl rfl ?_) rfl | refine LOps.step (S.store (cs' := [_, _, _, _]) rfl (Pick.there (Pick.there (Pick.there (Pick.there Pick.here)))) rfl rfl rfl rfl rfl ?_) rfl | refine LOps.step (S.store (cs' := [_, _, _]) rfl (Pick.there Pick.here) rfl rfl rfl rfl rfl ?_) rfl
        exact retP (v := .mk nNot 0 [] [e2]) hj (AllRes.cons (ResIs.cellAgg rfl (List.Mem.head _) rfl (LV.Sub.refl _)) AllRes.nil) (by cases hr; rfl) (by rw [encE_mk]; rfl) (by
         rw [show (((op + 1 : Nat) : Int) - 1) = ((op + 1 - 1 : Nat) : Int) by omega]
         exact HSub.pick (Pick.there Pick.here) (HSub.nil _))
       ·rw [hr1, h2, obind_err] at hr
        repeat first | refine QThen.panic ?_ | refine QBlock.panic ?_
        exact panP (he'.trans hj) (by cases hr; rfl) (HSub.pick Pick.here (HSub.nil _))
      ·rw [h1, obind_err] at hr
       repeat first | refine QThen.panic ?_ | refine QBlock.panic ?_
       exact panP (he'.trans hj) (by cases hr; rfl) (HSub.pick Pick.here (HSub.nil _))
     ·repeat first | refine LCode.skip ?_ | refine QThen.normal ?_ | refine QBlock.normal ?_
      exact ⟨_, _, _, by have := hsz; simp; omega, ⟨seen.push 1, rfl, rfl, rfl, hnext hc⟩, ⟨rfl, rfl, rfl, trivial⟩, HSub.pick (Pick.there Pick.here) (HSub.pick (Pick.there Pick.here) (HSub.pick (Pick.there Pick.here) (HSub.pick Pick.here (HSub.nil _)))), hj⟩
    ·cases hcc
end
end Go.Proofs.YtcbpcianefpniaaGreatDoor
namespace Go.Proofs.YtcbpcianefpniaaGreatDoor
open Go.GL Go.RowKit Go.Stele
set_option maxRecDepth 100000
set_option maxHeartbeats 4000000
/-- The function value of a level, and the boxes that it holds. -/
inductive Clo (sb : Nat) : Nat → FuncId → Array Value → Array Value → Heap → Prop
 | un : Clo sb 6 211 #[.pointer (some ⟨sb, 0, none⟩)] #[] []
 | bin {k bo bs bp bn : Nat} {f : FuncId} {first caps : Array Value} {H : Heap} (h : Clo sb (k + 1) f first caps H) : Clo sb k 225 #[] #[.pointer (some ⟨bo, 0, none⟩), .pointer (some ⟨bs, 0, none⟩), .pointer (some ⟨bp, 0, none⟩), .pointer (some ⟨bn, 0, none⟩)]
   ((bo, .cells 229 [.atom (.func (.func f) first caps)]) :: (bs, .cells 93 [ptr sb 0]) :: (bp, .cells 29 [.list ((lvOps k).map str)]) :: (bn, .cells 4 [bool (decide ((k : Int) = 2))]) :: H)
def PostH {A : Type} (sb : Nat) (T : List Tok) (enc : A → LV) (Hc : Heap) (res : Res A) (r : LRes) (H : Heap) : Prop := match res with
 | .ok v i op => r = .ret (enc v) ∧ H = srcH sb T i op :: Hc
 | .err l e => r = .panic (pan l e) ∧ ∃ i op : Nat, H = srcH sb T i op :: Hc
def CloC (B0 : Nat) (w0 : World) (sb : Nat) (T : List Tok) (f : Nat) : Prop :=
 ∀ k fn first caps Hc i op r, Clo sb k fn first caps Hc → i ≤ T.length → op ≤ 100 → eLev T f k i op = some r →
  LCalls (KC B0 w0) fn (first.toList.map .atom ++ caps.toList.map .atom) (srcH sb T i op :: Hc) (PostH sb T encE Hc r)
section steps
variable {C : Ctx} {e : Env} {H : Heap} {dst : Option Nat} {ty : TypeId} {pos : String} {aft : Array Edge} {g : Option (Nat × Bool)} {K : LV → Heap → Prop} {X : List PanicEntry → Heap → Prop}
theorem av_nil (a b : List LV) {e : Env} : a ++ ([] : List Operand).map e.ev ++ b = a ++ b := by simp
theorem S.callClo {A : Type} {enc : A → LV} {res : Res A} {sb i op : Nat} {T : List Tok} {fo : Operand} {f : FuncId} [TEnter C.P f] {first caps : Array Value} {ats : Array TypeId} {Hc F : Heap} (hf : e.ev fo = .atom (.func (.func f) first caps)) (hp : Pick (srcH sb T i op) H (F ++ Hc))
  (hc : LCalls C f (first.toList.map .atom ++ caps.toList.map .atom) (srcH sb T i op :: Hc) (PostH sb T enc Hc res)) (hk : ∀ v i' op', res = .ok v i' op' → K (enc v) (srcH sb T i' op' :: (F ++ Hc))) (hx : ∀ l er i' op', res = .err l er → X (pan l er) (srcH sb T i' op' :: Hc ++ F)) :
  LStep C ⟨dst, .call { callee := .value fo, args := #[], argTypes := ats }, ty, pos, aft, g⟩ e H K X := by
 have hp' : H.Perm ((srcH sb T i op :: Hc) ++ F) := hp.trans (List.Perm.cons _ List.perm_append_comm)
 refine LStep.conseq (K := fun v H' => ∃ u i' op', res = .ok u i' op' ∧ v = enc u ∧ H' = srcH sb T i' op' :: Hc ++ F) (S.callV (H1 := srcH sb T i op :: Hc) (F := F) [] hf (av_nil _ _) hp' hc ?_ ?_) ?_
 ·intro v H' h
  cases hr : res with
  | ok u i' op' => rw [hr] at h; obtain ⟨h1, rfl⟩ := h; cases h1; exact ⟨u, i', op', rfl, rfl, rfl⟩
  | err l er => rw [hr] at h; obtain ⟨h1, _⟩ := h; cases h1
 ·intro ch H' h
  cases hr : res with
  | ok u i' op' => rw [hr] at h; obtain ⟨h1, _⟩ := h; cases h1
  | err l er => rw [hr] at h; obtain ⟨h1, i', op', rfl⟩ := h; cases h1; exact hx _ _ _ _ hr
 ·rintro v H' ⟨u, i', op', h1, rfl, rfl⟩
  exact ⟨_, _, LV.Sub.refl _, ⟨[], by simpa using List.perm_append_comm⟩, hk u i' op' h1⟩
end steps
theorem Clo.enter {sb k : Nat} {f : FuncId} {first caps : Array Value} {H : Heap} (h : Clo sb k f first caps H) : TEnter Tryz.prog f := by
 cases h <;> infer_instance
theorem Clo.le {sb k : Nat} {f : FuncId} {first caps : Array Value} {H : Heap} (h : Clo sb k f first caps H) : k ≤ 6 := by
 induction h with
 | un => exact Nat.le_refl _
 | bin _ ih => omega
attribute [local irreducible] LOps LCode LStep LCalls Go.GL.Pure QThen QBlock RetPost LQ LAny LLate LLateOp
theorem hsub_clo {s : Nat × LObj} {A B Hc : Heap} : HSub (s :: (B ++ Hc)) ((s :: Hc ++ []) ++ (A ++ B)) := by
 refine ⟨A, ?_⟩
 have h1 : (Hc ++ (A ++ B)).Perm ((B ++ Hc) ++ A) := List.perm_append_comm.trans (by rw [List.append_assoc]; exact List.perm_append_comm)
 simpa using List.Perm.cons s h1
theorem hsub_clo2 {s u : Nat × LObj} {A Hc : Heap} : HSub (u :: s :: (A ++ Hc)) (u :: ((s :: ([] ++ Hc)) ++ A)) := by
 refine ⟨[], ?_⟩
 have h1 : (Hc ++ A).Perm (A ++ Hc) := List.perm_append_comm
 simpa using List.Perm.cons u (List.Perm.cons s h1)
theorem HSub.appR {H' l1 l2 : Heap} (h : HSub H' l2) : HSub H' (l1 ++ l2) := by
 obtain ⟨G, hG⟩ := h
 refine ⟨G ++ l1, ?_⟩
 have h1 : (l1 ++ l2).Perm (l2 ++ l1) := List.perm_append_comm
 have h2 : (l2 ++ l1).Perm ((H' ++ G) ++ l1) := hG.append_right l1
 simpa using h1.trans h2
theorem perm_mid {a : Nat × LObj} {l1 l2 : Heap} : ([] ++ (l1 ++ a :: l2)).Perm ([a] ++ (l1 ++ l2)) := by
 exact (List.nil_append _).symm ▸ List.perm_middle
theorem lvOps_le (k : Nat) : (lvOps k).length ≤ 1000 := by
 unfold lvOps
 split <;> simp
theorem textAt_eq {T : List Tok} {i : Nat} (h : i < T.length) : textAt T i = T[i].text := by rw [textAt, List.getElem?_eq_getElem h]
section
variable {B0 : Nat} {w0 : World}
theorem bin_spec (hG : GW B0 w0) (sb : Nat) (T : List Tok) (hT : TOK T) (f : Nat) (hC : ∀ g, g < f → CloC B0 w0 sb T g) (k bo bs bp bn : Nat) (fn : FuncId) (first caps : Array Value) (Hc : Heap) (hclo : Clo sb (k + 1) fn first caps Hc) (i op : Nat) (r : Res Ex)
  (hi : i ≤ T.length) (ho : op ≤ 100) (hr : eLev T f k i op = some r) :
  LCalls (KC B0 w0) 225 [ptr bo 0, ptr bs 0, ptr bp 0, ptr bn 0] (srcH sb T i op :: (bo, .cells 229 [.atom (.func (.func fn) first caps)]) :: (bs, .cells 93 [ptr sb 0]) :: (bp, .cells 29 [.list ((lvOps k).map str)]) :: (bn, .cells 4 [bool (decide ((k : Int) = 2))]) :: Hc)
   (PostH sb T encE ((bo, .cells 229 [.atom (.func (.func fn) first caps)]) :: (bs, .cells 93 [ptr sb 0]) :: (bp, .cells 29 [.list ((lvOps k).map str)]) :: (bn, .cells 4 [bool (decide ((k : Int) = 2))]) :: Hc) r) := by
 have hl := hT.len
 have hk6 := hclo.le
 have hen := hclo.enter
 obtain ⟨f, rfl⟩ : ∃ g, f = g + 1 := by
  cases f with
  | zero => rw [eLev] at hr; cases hr
  | succ g => exact ⟨g, rfl⟩
 rw [eLev, if_neg (by omega)] at hr
 obtain ⟨r1, hr1⟩ := obind_is hr
 refine LCalls.intro Tryz.func225 rfl (n := 38) rfl rfl rfl ?_
 repeat first | refine LCode.seq ?_ | refine LCode.region ?_
 refine LOps.step (S.alloc fun b => ?_) rfl
 repeat first | refine LOps.nil ?_ | refine LCode.seq ?_ | refine LCode.region ?_ | refine QThen.normal ?_ | refine LOps.pure (Pure.loadH (c := .atom _) rfl (List.Mem.tail _ (List.Mem.tail _ (List.Mem.head _))) rfl) rfl ?_
 refine LOps.step (S.callClo (F := [(b, _), (bo, _), (bs, _), (bp, _), (bn, _)]) (Hc := Hc) rfl (Pick.there Pick.here) (hC f (by omega) _ _ _ _ _ _ _ r1 hclo hi ho hr1) (fun v i1 op1 h1 => ?_) (fun l er i1 op1 h1 e' he' => ?_)) rfl
 ·rw [hr1, h1, obind_ok] at hr
  obtain ⟨g1, _, g3, rfl⟩ := (ex_good T f).1 _ _ _ _ (hr1.trans (congrArg some h1))
  have g4 := g3 hi
  refine LOps.step (S.alloc fun b5 => ?_) rfl
  repeat first | refine LOps.nil ?_ | refine LCode.seq ?_ | refine LCode.block ?_ | refine QThen.normal ?_ | refine LOps.step (S.store (cs' := [_, _, _, _]) rfl Pick.here rfl rfl rfl rfl rfl ?_) rfl
  refine LCode.loopI (fun q ls H => ∃ (ex : Ex) (i2 : Nat), q ≤ f ∧ ls = [(0, ptr bo 0), (1, ptr bs 0), (2, ptr bp 0), (3, ptr bn 0), (4, ptr b 0), (5, ptr b5 0)] ∧
    H = (b5, .cells 170 [str (exOp ex), int .u32 (exNum ex), str (exName ex), .list (encArgs ex)]) :: srcH sb T i2 op1 :: (b, .cells 170 [str [], int .u32 0, str [], nilSlice]) :: ([(bo, .cells 229 [.atom (.func (.func fn) first caps)]), (bs, .cells 93 [ptr sb 0]), (bp, .cells 29 [.list ((lvOps k).map str)]), (bn, .cells 4 [bool (decide ((k : Int) = 2))])] ++ Hc) ∧ i2 ≤ T.length ∧ eLoop T q k ex i2 op1 = some r)
   ⟨f, _, _, ⟨v, i1, Nat.le_refl _, rfl, rfl, g4, hr⟩, ⟨rfl, rfl, rfl, rfl, rfl, rfl, trivial⟩, HSub.refl _⟩ ?_
  rintro q ls H ⟨ex, i2, hqf, rfl, rfl, hi2, hI⟩ j hj
  obtain ⟨q, rfl⟩ : ∃ q', q = q' + 1 := by
   cases q with
   | zero => rw [eLoop] at hI; cases hI
   | succ q => exact ⟨q, rfl⟩
  rw [eLoop] at hI
  repeat first | refine LCode.seq ?_ | refine LCode.region ?_ | refine LOps.pure (Pure.loadH (c := .atom _) rfl (List.Mem.tail _ (List.Mem.tail _ (List.Mem.tail _ (List.Mem.tail _ (List.Mem.head _))))) rfl) rfl ?_ | refine LOps.pure (Pure.loadH (c := .list _) rfl (List.Mem.tail _ (List.Mem.tail _ (List.Mem.tail _ (List.Mem.tail _ (List.Mem.tail _ (List.Mem.head _)))))) rfl) rfl ?_
  refine LOps.step (S.fnH [_, _] rfl (Pick.there Pick.here) (is_spec sb T i2 op1 (lvOps k) hl (by omega) (lvOps_le k)) ?_) rfl
  repeat first | refine LOps.nil ?_ | refine QThen.normal ?_
  refine LCode.cond rfl (fun hc => ?_) (fun hc => ?_)
  ·have hlt := isTok_lt hc
   rw [if_pos hc] at hI
   repeat first | refine LCode.seq ?_ | refine LCode.skip ?_ | refine LCode.block ?_ | refine QThen.normal ?_
   refine LCode.cut [(0, ptr bo 0), (1, ptr bs 0), (2, ptr bp 0), (3, ptr bn 0), (4, ptr b 0), (5, ptr b5 0), (6, str (textAt T i2))] ?_ (fun j2 hj2 => ?_)
   ·refine LCode.quiet (by kernel_rfl) ?_
    repeat first | refine LQ.pure (Pure.loadH (c := .atom _) rfl (List.Mem.head _) rfl) rfl ?_ | refine LQ.pure (Pure.loadH (c := .atom _) rfl (List.Mem.tail _ (List.Mem.tail _ (List.Mem.tail _ (List.Mem.tail _ (List.Mem.head _))))) rfl) rfl ?_ | refine LQ.pure (Pure.loadH (c := .list _) rfl (List.Mem.head _) rfl) rfl ?_ | refine LQ.pure (Pure.nilCheckH rfl) rfl ?_ | refine LQ.pure (Pure.fieldH rfl) rfl ?_
    refine LQ.pure (Pure.ixRef (el' := encTok T[i2]) (cs := [_, _, _]) rfl rfl (by omega) (map_get _ _ _ hlt) rfl rfl) rfl ?_
    repeat first | refine LQ.pure (Pure.loadRef (c := .atom _) rfl rfl) rfl ?_ | refine LQ.pure (Pure.field1 rfl rfl) rfl ?_ | refine LQ.pure (Pure.as (lv := .atom _) rfl) rfl ?_ | refine LQ.nil ?_ | refine QThen.normal ?_
    exact ⟨⟨rfl, rfl, rfl, rfl, rfl, rfl, str_eq (textAt_eq hlt).symm, trivial⟩, rfl, rfl⟩
   ·obtain ⟨r2, hr2⟩ := obind_is hI
    repeat first | refine LOps.nil ?_ | refine LCode.seq ?_ | refine LCode.region ?_ | refine QThen.normal ?_ | refine LOps.pure (Pure.loadH (c := .atom _) rfl (List.Mem.head _) rfl) rfl ?_ | refine LOps.pure (Pure.loadH (c := .atom _) rfl (List.Mem.tail _ (List.Mem.tail _ (List.Mem.tail _ (List.Mem.tail _ (List.Mem.head _))))) rfl) rfl ?_ | refine LOps.pure (Pure.nilCheckH rfl) rfl ?_ | refine LOps.pure (Pure.fieldH rfl) rfl ?_ | refine LOps.pure (Pure.add rfl rfl (by omega)) rfl ?_ | refine LOps.step (S.store (cs' := [_, _, _]) rfl Pick.here rfl rfl rfl rfl rfl ?_) rfl
    refine LCode.draw (m := 7) rfl [(bo, .cells 229 [.atom (.func (.func fn) first caps)])] ?_
    have hHF : HSub [(bo, .cells 229 [.atom (.func (.func fn) first caps)])] (srcH sb T (i2 + 1) op1 :: (b5, .cells 170 [str (exOp ex), int .u32 (exNum ex), str (exName ex), .list (encArgs ex)]) :: (b, .cells 170 [str [], int .u32 0, str [], nilSlice]) :: (bo, .cells 229 [.atom (.func (.func fn) first caps)]) :: [(bs, .cells 93 [ptr sb 0]), (bp, .cells 29 [.list ((lvOps k).map str)]), (bn, .cells 4 [bool (decide ((k : Int) = 2))])] ++ Hc) := HSub.pick (Pick.there (Pick.there (Pick.there Pick.here))) (HSub.nil _)
    refine LAny.take (i := 0) hHF rfl (by kernel_rfl) (by kernel_rfl) (by kernel_rfl) rfl (Pure.mv (lv := .atom _) rfl) ?_
    refine LAny.take (i := 2) hHF rfl (by kernel_rfl) (by kernel_rfl) (by kernel_rfl) rfl (Pure.loadH (c := .atom _) rfl (List.Mem.head _) rfl) ?_
    refine LAny.late ?_ hHF
    refine LLate.two (i := 1) (j := 3) (by kernel_rfl) ?_ ?_
    ·have hperm : (srcH sb T (i2 + 1) op1 :: (b5, LObj.cells 170 [str (exOp ex), int .u32 (exNum ex), str (exName ex), .list (encArgs ex)]) :: (b, LObj.cells 170 [str [], int .u32 0, str [], nilSlice]) :: ([(bo, LObj.cells 229 [.atom (.func (.func fn) first caps)]), (bs, LObj.cells 93 [ptr sb 0]), (bp, LObj.cells 29 [.list ((lvOps k).map str)]), (bn, LObj.cells 4 [bool (decide ((k : Int) = 2))])] ++ Hc)).Perm ((srcH sb T (i2 + 1) op1 :: Hc) ++ [(b5, LObj.cells 170 [str (exOp ex), int .u32 (exNum ex), str (exName ex), .list (encArgs ex)]), (b, LObj.cells 170 [str [], int .u32 0, str [], nilSlice]), (bo, LObj.cells 229 [.atom (.func (.func fn) first caps)]), (bs, LObj.cells 93 [ptr sb 0]), (bp, LObj.cells 29 [.list ((lvOps k).map str)]), (bn, LObj.cells 4 [bool (decide ((k : Int) = 2))])]) := List.Perm.cons _ (show ([(b5, LObj.cells 170 [str (exOp ex), int .u32 (exNum ex), str (exName ex), .list (encArgs ex)]), (b, LObj.cells 170 [str [], int .u32 0, str [], nilSlice]), (bo, LObj.cells 229 [.atom (.func (.func fn) first caps)]), (bs, LObj.cells 93 [ptr sb 0]), (bp, LObj.cells 29 [.list ((lvOps k).map str)]), (bn, LObj.cells 4 [bool (decide ((k : Int) = 2))])] ++ Hc).Perm (Hc ++ [(b5, LObj.cells 170 [str (exOp ex), int .u32 (exNum ex), str (exName ex), .list (encArgs ex)]), (b, LObj.cells 170 [str [], int .u32 0, str [], nilSlice]), (bo, LObj.cells 229 [.atom (.func (.func fn) first caps)]), (bs, LObj.cells 93 [ptr sb 0]), (bp, LObj.cells 29 [.list ((lvOps k).map str)]), (bn, LObj.cells 4 [bool (decide ((k : Int) = 2))])]) from List.perm_append_comm)
     refine LLateOp.pureH rfl rfl (Pure.ldHAgg (cs' := [_, _, _, _]) rfl (List.Mem.tail _ (List.Mem.head _)) rfl rfl) ?_
     refine LLate.o 3 (LLateOp.step (H1 := srcH sb T (i2 + 1) op1 :: Hc) (F := [(b5, LObj.cells 170 [str (exOp ex), int .u32 (exNum ex), str (exName ex), .list (encArgs ex)]), (b, LObj.cells 170 [str [], int .u32 0, str [], nilSlice]), (bo, LObj.cells 229 [.atom (.func (.func fn) first caps)]), (bs, LObj.cells 93 [ptr sb 0]), (bp, LObj.cells 29 [.list ((lvOps k).map str)]), (bn, LObj.cells 4 [bool (decide ((k : Int) = 2))])]) rfl (.inl rfl) rfl (hperm) (HSub.pick (Pick.there (Pick.there Pick.here)) (HSub.nil _)) (S.callClo (F := []) (Hc := Hc) rfl Pick.here (hC q (by omega) _ _ _ _ _ _ _ r2 hclo (by omega) ho hr2) (fun e2 i3 op3 h3 => ?_) (fun l er i3 op3 h3 e' he' => ?_)))
     ·rw [hr2, h3, obind_ok] at hI
      obtain ⟨q1, q2, q3, rfl⟩ := (ex_good T q).1 _ _ _ _ (hr2.trans (congrArg some h3))
      have q4 := q3 (by omega)
      refine LLate.o 4 (LLateOp.step (H1 := []) (F := (srcH sb T i3 op3 :: ([] ++ Hc)) ++ [(b5, LObj.cells 170 [str (exOp ex), int .u32 (exNum ex), str (exName ex), .list (encArgs ex)]), (b, LObj.cells 170 [str [], int .u32 0, str [], nilSlice]), (bo, LObj.cells 229 [.atom (.func (.func fn) first caps)]), (bs, LObj.cells 93 [ptr sb 0]), (bp, LObj.cells 29 [.list ((lvOps k).map str)]), (bn, LObj.cells 4 [bool (decide ((k : Int) = 2))])]) rfl (.inl rfl) rfl (List.Perm.refl _) (HSub.appR (HSub.pick (Pick.there (Pick.there Pick.here)) (HSub.nil _))) (S.lit (es := [encE ex, encE e2]) [_, _] rfl (elemsOk.cons rfl rfl (elemsOk.cons rfl rfl elemsOk.nil)) rfl rfl rfl ?_))
      refine LLate.o 5 (LLateOp.pureH rfl rfl (Pure.bld _ (cs := [_, _, _, _]) rfl) ?_)
      refine LLate.o 6 (LLateOp.step (H1 := [(b5, LObj.cells 170 [str (exOp ex), int .u32 (exNum ex), str (exName ex), .list (encArgs ex)])]) (F := (srcH sb T i3 op3 :: ([] ++ Hc)) ++ [(b, LObj.cells 170 [str [], int .u32 0, str [], nilSlice]), (bo, LObj.cells 229 [.atom (.func (.func fn) first caps)]), (bs, LObj.cells 93 [ptr sb 0]), (bp, LObj.cells 29 [.list ((lvOps k).map str)]), (bn, LObj.cells 4 [bool (decide ((k : Int) = 2))])]) rfl (.inl rfl) rfl perm_mid (HSub.appR (HSub.pick (Pick.there Pick.here) (HSub.nil _))) (S.store (cs' := [_, _, _, _]) rfl Pick.here rfl rfl rfl rfl rfl ?_))
      refine LLate.done (by kernel_rfl) ?_
      refine QThen.normal ?_
      refine LCode.weak (H' := (b5, LObj.cells 170 [str (textAt T i2), int .u32 0, str [], .list [encE ex, encE e2]]) :: srcH sb T i3 op3 :: (b, LObj.cells 170 [str [], int .u32 0, str [], nilSlice]) :: ([(bo, LObj.cells 229 [.atom (.func (.func fn) first caps)]), (bs, LObj.cells 93 [ptr sb 0]), (bp, LObj.cells 29 [.list ((lvOps k).map str)]), (bn, LObj.cells 4 [bool (decide ((k : Int) = 2))])] ++ Hc)) (hsub_clo2 (A := [(b, LObj.cells 170 [str [], int .u32 0, str [], nilSlice]), (bo, LObj.cells 229 [.atom (.func (.func fn) first caps)]), (bs, LObj.cells 93 [ptr sb 0]), (bp, LObj.cells 29 [.list ((lvOps k).map str)]), (bn, LObj.cells 4 [bool (decide ((k : Int) = 2))])])) ?_
      repeat first | refine LOps.nil ?_ | refine LCode.seq ?_ | refine LCode.region ?_ | refine QThen.normal ?_ | refine LOps.pure (Pure.loadH (c := .atom _) rfl (List.Mem.tail _ (List.Mem.tail _ (List.Mem.tail _ (List.Mem.tail _ (List.Mem.tail _ (List.Mem.tail _ (List.Mem.head _))))))) rfl) rfl ?_
      refine LCode.cond rfl (fun hk2 => ?_) (fun hk2 => ?_)
      ·have hk : k = 2 := by have := of_decide_eq_true hk2; omega
       rw [if_pos hk] at hI
       repeat first | refine LOps.nil ?_ | refine LCode.seq ?_ | refine LCode.region ?_ | refine LCode.ret ?_ | refine LCode.exit ?_ | refine QThen.normal ?_ | refine QThen.exit ?_ | refine QBlock.hit ?_ | refine QBlock.miss (by decide) ?_ | refine LOps.pure (Pure.ldHAgg (cs' := [_, _, _, _]) rfl (List.Mem.head _) rfl rfl) rfl ?_ | refine LOps.step (S.store (cs' := [_, _, _, _]) rfl (Pick.there (Pick.there Pick.here)) rfl rfl rfl rfl rfl ?_) rfl
       exact RetPost.ret (hj2.trans hj) (AllRes.cons (ResIs.cellAgg rfl (List.Mem.head _) rfl (LV.Sub.refl _)) AllRes.nil) (HSub.drop (HSub.drop (HSub.refl _))) (by cases hI; exact ⟨by rw [encE_mk]; rfl, rfl⟩)
      ·have hk : ¬ k = 2 := by have := of_decide_eq_false hk2; omega
       rw [if_neg hk] at hI
       repeat first | refine LCode.skip ?_ | refine QThen.normal ?_ | refine QBlock.normal ?_
       exact ⟨q, _, _, by omega, ⟨.mk (textAt T i2) 0 [] [ex, e2], i3, by omega, rfl, rfl, q4, hI⟩, ⟨rfl, rfl, rfl, rfl, rfl, rfl, trivial⟩, (by rw [encArgs_map]; exact HSub.refl _), hj2.trans hj⟩
     ·rw [hr2, h3, obind_err] at hI
      repeat first | refine QThen.panic ?_ | refine QBlock.panic ?_
      exact RetPost.panic (he'.trans (hj2.trans hj)) (hsub_clo (A := [(b5, LObj.cells 170 [str (exOp ex), int .u32 (exNum ex), str (exName ex), .list (encArgs ex)]), (b, LObj.cells 170 [str [], int .u32 0, str [], nilSlice])]) (B := [(bo, LObj.cells 229 [.atom (.func (.func fn) first caps)]), (bs, LObj.cells 93 [ptr sb 0]), (bp, LObj.cells 29 [.list ((lvOps k).map str)]), (bn, LObj.cells 4 [bool (decide ((k : Int) = 2))])])) (by cases hI; exact ⟨rfl, i3, op3, rfl⟩)
    ·have hperm : (srcH sb T (i2 + 1) op1 :: (b5, LObj.cells 170 [str (exOp ex), int .u32 (exNum ex), str (exName ex), .list (encArgs ex)]) :: (b, LObj.cells 170 [str [], int .u32 0, str [], nilSlice]) :: ([(bo, LObj.cells 229 [.atom (.func (.func fn) first caps)]), (bs, LObj.cells 93 [ptr sb 0]), (bp, LObj.cells 29 [.list ((lvOps k).map str)]), (bn, LObj.cells 4 [bool (decide ((k : Int) = 2))])] ++ Hc)).Perm ((srcH sb T (i2 + 1) op1 :: Hc) ++ [(b5, LObj.cells 170 [str (exOp ex), int .u32 (exNum ex), str (exName ex), .list (encArgs ex)]), (b, LObj.cells 170 [str [], int .u32 0, str [], nilSlice]), (bo, LObj.cells 229 [.atom (.func (.func fn) first caps)]), (bs, LObj.cells 93 [ptr sb 0]), (bp, LObj.cells 29 [.list ((lvOps k).map str)]), (bn, LObj.cells 4 [bool (decide ((k : Int) = 2))])]) := List.Perm.cons _ (show ([(b5, LObj.cells 170 [str (exOp ex), int .u32 (exNum ex), str (exName ex), .list (encArgs ex)]), (b, LObj.cells 170 [str [], int .u32 0, str [], nilSlice]), (bo, LObj.cells 229 [.atom (.func (.func fn) first caps)]), (bs, LObj.cells 93 [ptr sb 0]), (bp, LObj.cells 29 [.list ((lvOps k).map str)]), (bn, LObj.cells 4 [bool (decide ((k : Int) = 2))])] ++ Hc).Perm (Hc ++ [(b5, LObj.cells 170 [str (exOp ex), int .u32 (exNum ex), str (exName ex), .list (encArgs ex)]), (b, LObj.cells 170 [str [], int .u32 0, str [], nilSlice]), (bo, LObj.cells 229 [.atom (.func (.func fn) first caps)]), (bs, LObj.cells 93 [ptr sb 0]), (bp, LObj.cells 29 [.list ((lvOps k).map str)]), (bn, LObj.cells 4 [bool (decide ((k : Int) = 2))])]) from List.perm_append_comm)
     refine (LLateOp.step (H1 := srcH sb T (i2 + 1) op1 :: Hc) (F := [(b5, LObj.cells 170 [str (exOp ex), int .u32 (exNum ex), str (exName ex), .list (encArgs ex)]), (b, LObj.cells 170 [str [], int .u32 0, str [], nilSlice]), (bo, LObj.cells 229 [.atom (.func (.func fn) first caps)]), (bs, LObj.cells 93 [ptr sb 0]), (bp, LObj.cells 29 [.list ((lvOps k).map str)]), (bn, LObj.cells 4 [bool (decide ((k : Int) = 2))])]) rfl (.inl rfl) rfl (hperm) (HSub.pick (Pick.there (Pick.there Pick.here)) (HSub.nil _)) (S.callClo (F := []) (Hc := Hc) rfl Pick.here (hC q (by omega) _ _ _ _ _ _ _ r2 hclo (by omega) ho hr2) (fun e2 i3 op3 h3 => ?_) (fun l er i3 op3 h3 e' he' => ?_)))
     ·rw [hr2, h3, obind_ok] at hI
      obtain ⟨q1, q2, q3, rfl⟩ := (ex_good T q).1 _ _ _ _ (hr2.trans (congrArg some h3))
      have q4 := q3 (by omega)
      refine LLate.o 1 (LLateOp.pureH rfl rfl (Pure.ldHAgg (cs' := [_, _, _, _]) rfl (List.mem_append_right _ (List.Mem.head _)) rfl rfl) ?_)
      refine LLate.o 4 (LLateOp.step (H1 := []) (F := (srcH sb T i3 op3 :: ([] ++ Hc)) ++ [(b5, LObj.cells 170 [str (exOp ex), int .u32 (exNum ex), str (exName ex), .list (encArgs ex)]), (b, LObj.cells 170 [str [], int .u32 0, str [], nilSlice]), (bo, LObj.cells 229 [.atom (.func (.func fn) first caps)]), (bs, LObj.cells 93 [ptr sb 0]), (bp, LObj.cells 29 [.list ((lvOps k).map str)]), (bn, LObj.cells 4 [bool (decide ((k : Int) = 2))])]) rfl (.inl rfl) rfl (List.Perm.refl _) (HSub.appR (HSub.pick (Pick.there (Pick.there Pick.here)) (HSub.nil _))) (S.lit (es := [encE ex, encE e2]) [_, _] rfl (elemsOk.cons rfl rfl (elemsOk.cons rfl rfl elemsOk.nil)) rfl rfl rfl ?_))
      refine LLate.o 5 (LLateOp.pureH rfl rfl (Pure.bld _ (cs := [_, _, _, _]) rfl) ?_)
      refine LLate.o 6 (LLateOp.step (H1 := [(b5, LObj.cells 170 [str (exOp ex), int .u32 (exNum ex), str (exName ex), .list (encArgs ex)])]) (F := (srcH sb T i3 op3 :: ([] ++ Hc)) ++ [(b, LObj.cells 170 [str [], int .u32 0, str [], nilSlice]), (bo, LObj.cells 229 [.atom (.func (.func fn) first caps)]), (bs, LObj.cells 93 [ptr sb 0]), (bp, LObj.cells 29 [.list ((lvOps k).map str)]), (bn, LObj.cells 4 [bool (decide ((k : Int) = 2))])]) rfl (.inl rfl) rfl perm_mid (HSub.appR (HSub.pick (Pick.there Pick.here) (HSub.nil _))) (S.store (cs' := [_, _, _, _]) rfl Pick.here rfl rfl rfl rfl rfl ?_))
      refine LLate.done (by kernel_rfl) ?_
      refine QThen.normal ?_
      refine LCode.weak (H' := (b5, LObj.cells 170 [str (textAt T i2), int .u32 0, str [], .list [encE ex, encE e2]]) :: srcH sb T i3 op3 :: (b, LObj.cells 170 [str [], int .u32 0, str [], nilSlice]) :: ([(bo, LObj.cells 229 [.atom (.func (.func fn) first caps)]), (bs, LObj.cells 93 [ptr sb 0]), (bp, LObj.cells 29 [.list ((lvOps k).map str)]), (bn, LObj.cells 4 [bool (decide ((k : Int) = 2))])] ++ Hc)) (hsub_clo2 (A := [(b, LObj.cells 170 [str [], int .u32 0, str [], nilSlice]), (bo, LObj.cells 229 [.atom (.func (.func fn) first caps)]), (bs, LObj.cells 93 [ptr sb 0]), (bp, LObj.cells 29 [.list ((lvOps k).map str)]), (bn, LObj.cells 4 [bool (decide ((k : Int) = 2))])])) ?_
      repeat first | refine LOps.nil ?_ | refine LCode.seq ?_ | refine LCode.region ?_ | refine QThen.normal ?_ | refine LOps.pure (Pure.loadH (c := .atom _) rfl (List.Mem.tail _ (List.Mem.tail _ (List.Mem.tail _ (List.Mem.tail _ (List.Mem.tail _ (List.Mem.tail _ (List.Mem.head _))))))) rfl) rfl ?_
      refine LCode.cond rfl (fun hk2 => ?_) (fun hk2 => ?_)
      ·have hk : k = 2 := by have := of_decide_eq_true hk2; omega
       rw [if_pos hk] at hI
       repeat first | refine LOps.nil ?_ | refine LCode.seq ?_ | refine LCode.region ?_ | refine LCode.ret ?_ | refine LCode.exit ?_ | refine QThen.normal ?_ | refine QThen.exit ?_ | refine QBlock.hit ?_ | refine QBlock.miss (by decide) ?_ | refine LOps.pure (Pure.ldHAgg (cs' := [_, _, _, _]) rfl (List.Mem.head _) rfl rfl) rfl ?_ | refine LOps.step (S.store (cs' := [_, _, _, _]) rfl (Pick.there (Pick.there Pick.here)) rfl rfl rfl rfl rfl ?_) rfl
       exact RetPost.ret (hj2.trans hj) (AllRes.cons (ResIs.cellAgg rfl (List.Mem.head _) rfl (LV.Sub.refl _)) AllRes.nil) (HSub.drop (HSub.drop (HSub.refl _))) (by cases hI; exact ⟨by rw [encE_mk]; rfl, rfl⟩)
      ·have hk : ¬ k = 2 := by have := of_decide_eq_false hk2; omega
       rw [if_neg hk] at hI
       repeat first | refine LCode.skip ?_ | refine QThen.normal ?_ | refine QBlock.normal ?_
       exact ⟨q, _, _, by omega, ⟨.mk (textAt T i2) 0 [] [ex, e2], i3, by omega, rfl, rfl, q4, hI⟩, ⟨rfl, rfl, rfl, rfl, rfl, rfl, trivial⟩, (by rw [encArgs_map]; exact HSub.refl _), hj2.trans hj⟩
     ·rw [hr2, h3, obind_err] at hI
      repeat first | refine QThen.panic ?_ | refine QBlock.panic ?_
      exact RetPost.panic (he'.trans (hj2.trans hj)) (hsub_clo (A := [(b5, LObj.cells 170 [str (exOp ex), int .u32 (exNum ex), str (exName ex), .list (encArgs ex)]), (b, LObj.cells 170 [str [], int .u32 0, str [], nilSlice])]) (B := [(bo, LObj.cells 229 [.atom (.func (.func fn) first caps)]), (bs, LObj.cells 93 [ptr sb 0]), (bp, LObj.cells 29 [.list ((lvOps k).map str)]), (bn, LObj.cells 4 [bool (decide ((k : Int) = 2))])])) (by cases hI; exact ⟨rfl, i3, op3, rfl⟩)
  ·have hc' : isTok T i2 (lvOps k) = false := hc
   rw [if_neg (by rw [hc']; decide)] at hI
   repeat first | refine LOps.nil ?_ | refine LCode.seq ?_ | refine LCode.region ?_ | refine LCode.ret ?_ | refine LCode.exit ?_ | refine QThen.normal ?_ | refine QThen.exit ?_ | refine QBlock.hit ?_ | refine LOps.pure (Pure.ldHAgg (cs' := [_, _, _, _]) rfl (List.Mem.tail _ (List.Mem.head _)) rfl rfl) rfl ?_ | refine LOps.step (S.store (cs' := [_, _, _, _]) rfl (Pick.there (Pick.there Pick.here)) rfl rfl rfl rfl rfl ?_) rfl
   exact RetPost.ret hj (AllRes.cons (ResIs.cellAgg rfl (List.Mem.head _) rfl (LV.Sub.refl _)) AllRes.nil) (HSub.drop (HSub.pick Pick.here (HSub.drop (HSub.refl _)))) (by cases hI; exact ⟨rfl, rfl⟩)
 ·rw [hr1, h1, obind_err] at hr
  repeat first | refine QThen.panic ?_
  refine RetPost.panic (he'.trans rfl) (H' := srcH sb T i1 op1 :: (bo, .cells 229 [.atom (.func (.func fn) first caps)]) :: (bs, .cells 93 [ptr sb 0]) :: (bp, .cells 29 [.list ((lvOps k).map str)]) :: (bn, .cells 4 [bool (decide ((k : Int) = 2))]) :: Hc) ?_ (by cases hr; exact ⟨rfl, i1, op1, rfl⟩)
  exact HSub.pick Pick.here ⟨[(b, _)], List.perm_append_comm.trans (by exact List.Perm.refl _ |>.trans (List.perm_append_singleton _ _).symm)⟩
end
end Go.Proofs.YtcbpcianefpniaaGreatDoor
namespace Go.GL
open Go.RowKit
def noDefer : Op → Bool
 | .defer _ => false
 | _ => true
theorem callsIn_round {l n : Nat} {P : Program} {f : FuncId} {args : Array Value} {w : World} {R : Ending → World → Prop} (h : Calls P f args w R) : CallsIn (Fence.wide.inRound l) n P f args w R := (callsIn_wide (n := n)).2 h
theorem rowsIn_round {l n : Nat} {P : Program} {row : String} {args : Array Value} {w : World} {R : Value → World → Prop} (h : Rows P row args w R) : RowsIn (Fence.wide.inRound l) n P row args w R := fun c cs _ =>
 let ⟨v, w', r, s⟩ := h c cs
 ⟨v, w', r, stepsIn_wide.2 s⟩
theorem operIn_round {l n : Nat} {P : Program} {o : Oper} {a : Act} {w : World} {next next' : Act → World → Prop} {Q : Exit → Act → World → Prop} (ho : noDefer o.op = true)
  (hn : ∀ a w, next a w → next' a w) (h : o.wp P a w next Q) : o.wpIn (Fence.wide.inRound l) n P a w next' Q := by
 refine ⟨fun _ _ => trivial, ?_⟩
 have hs : o.semAt (Fence.wide.inRound l).round a.eval = execOp a.eval o := Oper.semAt_eq _ _ _ fun c hc => by rw [hc] at ho; cases ho
 rw [hs]
 unfold Oper.wp at h
 revert h
 generalize (execOp a.eval o).run P w = r
 intro h
 cases r with
 | ok x w' =>
  cases x with
  | value v => exact hn _ _ h
  | skip => exact hn _ _ h
  | defer d => exact hn _ _ h
  | enter f args =>
   refine ⟨fun hd => (by cases hd), callsIn_round (Calls.mono h ?_)⟩
   intro e w'' he
   cases e with
   | returned v => exact hn _ _ he
   | panicked ch => exact he
   | outgrown => exact he
  | row row args =>
   refine ⟨fun hd => (by cases hd), rowsIn_round (Rows.mono h ?_)⟩
   intro v w'' he
   exact hn _ _ he
  | _ => exact h.elim
 | halt x w' =>
  cases x <;> first | exact h | exact h.elim
theorem listIn_round {l n : Nat} {P : Program} {ops : Array Oper} {Q : Exit → Act → World → Prop} (hQ : ¬ LetsOut Q) : ∀ (rest : List Oper) (a : Act) (w : World), (∀ o ∈ rest, noDefer o.op = true) → wpList P ops Q rest a w → wpListIn (Fence.wide.inRound l) n P ops Q rest a w
 | [], _, _, _, h => h
 | o :: rest, a, w, ho, h => by
  unfold wpList at h
  unfold wpListIn
  split at h
  ·rename_i hw
   rw [if_pos hw]
   rcases h with h | ⟨_, h⟩
   ·exact operIn_round (ho o List.mem_cons_self) (fun a w h => listIn_round hQ rest a w (fun o h => ho o (List.mem_cons_of_mem _ h)) h) h
   ·exact absurd h hQ
  ·rename_i hw
   rw [if_neg hw]
   exact ⟨fun _ _ => trivial, listIn_round hQ rest _ _ (fun o h => ho o (List.mem_cons_of_mem _ h)) h⟩
/-- A region in a round. -/
theorem regionIn_round {l n id : Nat} {P : Program} {ops : List Oper} {Q : Exit → Act → World → Prop} {a : Act} {w : World} (hQ : ¬ LetsOut Q) (ho : ops.all (fun o => noDefer o.op) = true) (h : wpList P ops.toArray Q ops a w) :
  (Code.region id ops.toArray false).wpIn (Fence.wide.inRound l) n P Q a w := wpIn_region_lit (listIn_round hQ ops a w (by simpa using ho) h)
end Go.GL
/- A small logic over the walk's 'Code.wp': a range over a function whose rounds all go on. -/
namespace Go.GL
open Go.RowKit
/-- An object that is kept turns. -/
theorem turn_obj {C : Ctx} {w : World} {L : Live} {b : Nat} {o o' : Obj} {F : Heap} (hH : RelH C w L ((b, .obj o) :: F)) (ho' : noCells o' = true) :
  Fr (keys ((b, LObj.obj o) :: F)) w L (w.putObj b o') L ((b, .obj o') :: F) ∧ RelH C (w.putObj b o') L ((b, .obj o') :: F) := by
 have h1 : RelH C w L ([(b, .obj o)] ++ F) := hH
 have hlt : b < w.heap.size := (hH.objs _ List.mem_cons_self).2.1
 have h2 : Left C w L [(b, .obj o)] (w.putObj b o') undef (fun _ H' => H' = [(b, .obj o')]) :=
  left_obj (w' := w.putObj b o') h1.left ho' rfl rfl rfl (by simp [World.putObj]) (fun c hc => World.putObj_heap_other hc) (World.putObj_heap_same hlt) (v := undef) (lv := .atom undef) (fun _ => rep_atom) rfl
 obtain ⟨lv, H', L', g1, g2, g3, rfl⟩ := h2
 have hL : L' = L := by
  funext c
  obtain ⟨_, _, hl, _⟩ := h1.left.objs _ List.mem_cons_self
  obtain ⟨_, _, hl', _⟩ := g2.objs _ List.mem_cons_self
  by_cases he : c = b
  ·subst he; rw [hl, hl']
  ·rcases Nat.lt_or_ge c w.heap.size with hc | hc
   ·exact g1.lsame c hc (by simpa using he)
   ·rw [h1.wf c hc, g2.wf c (by simpa [World.putObj] using hc)]
 subst hL
 have := h1.frame g1 g2
 exact ⟨this.2, this.1⟩
theorem alloc_obj {C : Ctx} {w : World} {L : Live} {o : Obj} {F : Heap} (hH : RelH C w L F) (ho : noCells o = true) :
  ∃ L', Fr (keys F) w L (w.alloc o) L' ((w.heap.size, .obj o) :: F) ∧ RelH C (w.alloc o) L' ((w.heap.size, .obj o) :: F) := by
 have h1 : RelH C w L ([] ++ F) := hH
 have := fr_push h1.left o 0 [(w.heap.size, .obj o)] (fun p hp => by
  simp only [List.mem_singleton] at hp
  subst hp
  exact ⟨rfl, by simp [Live.upd], heap_push_self, shape_none heap_push_self ho⟩) (by simp)
 have := h1.frame this.1 this.2
 exact ⟨_, this.2, this.1⟩
/-- Code within a round. -/
def LCodeR (C : Ctx) (l n : Nat) (c : Code) (Q : Post) (e : Env) (H : Heap) : Prop :=
 ∀ a w L, RelE n a e w L → RelH C w L H → ∀ m, c.wpIn (Fence.wide.inRound l) m C.P (lift C n w L (keys H) Q) a w
/-- The round goes on. -/
def QOn (k : Env → Heap → Prop) : Post
 | .normal, e, H => k e H
 | _, _, _ => False
section round
variable {C : Ctx} {l n : Nat} {e : Env} {H : Heap} {k : Env → Heap → Prop}
theorem LCodeR.region {id : Nat} {ops : List Oper} (ho : ops.all (fun o => noDefer o.op) = true) (h : LOps C n ops.toArray (QThen k (QOn k)) ops e H) : LCodeR C l n (.region id ops.toArray false) (QOn k) e H := fun a w L hE hH m => by
 refine regionIn_round ?_ ho (wpList_mono ?_ _ _ _ (h a w L hE hH))
 ·rintro ⟨a', w', e', H', L', _, _, _, hq⟩
  exact hq
 ·rintro ex a' w' hq
  refine lift_mono ?_ hq
  intro x e H h
  cases x <;> exact h
theorem LCodeR.seq {x y : Code} (h : LCodeR C l n x (QOn fun e H => LCodeR C l n y (QOn k) e H) e H) : LCodeR C l n (.seq x y) (QOn k) e H := fun a w L hE hH m => by
 refine wpIn_seq (wpIn_mono (h a w L hE hH m) fun ex a' w' hq => ?_)
 obtain ⟨e', H', L', h1, h2, h3, h4⟩ := hq
 cases ex with
 | normal => exact wpIn_mono (h4 a' w' L' h3 h2 m) fun _ _ _ => lift_trans h1
 | exit id => exact h4.elim
 | goto id => exact h4.elim
 | ret => exact h4.elim
 | panic ch => exact h4.elim
 | outgrown => exact h4.elim
theorem LCodeR.block {id : Nat} {c : Code} (h : LCodeR C l n c (QOn k) e H) : LCodeR C l n (.block id c) (QOn k) e H := fun a w L hE hH m => by
 refine wpIn_block (wpIn_mono (h a w L hE hH m) fun ex a' w' hq => ?_)
 obtain ⟨e', H', L', h1, h2, h3, h4⟩ := hq
 cases ex with
 | normal => exact ⟨e', H', L', h1, h2, h3, h4⟩
 | exit id => exact h4.elim
 | goto id => exact h4.elim
 | ret => exact h4.elim
 | panic ch => exact h4.elim
 | outgrown => exact h4.elim
end round
theorem yieldAt_mono {F : Fence} {m : Nat} {P : Program} {l : Nat} {args : Array Value} {W : World} {R R' : Ending → World → Prop} (h : YieldAt F m P l args W R) (hr : ∀ e w, R e w → R' e w) : YieldAt F m P l args W R' := by
 obtain ⟨fn, tmps, assign, body, hy, hR⟩ := h
 exact ⟨fn, tmps, assign, body, hy, hR.mono hr⟩
/-- A call of yield. -/
def LYield (C : Ctx) (l : Nat) (args : List LV) (H : Heap) (K : Heap → Prop) : Prop :=
 ∀ (vs : List Value) w L, RepL w L args vs → RelH C w L H → ∀ m, YieldAt Fence.wide m C.P l vs.toArray w fun e w' => e = .returned (.bool true) ∧ LeftX C w L H w' K
theorem LYield.frame {C : Ctx} {l : Nat} {args : List LV} {G H F : Heap} {K : Heap → Prop} (p : G.Perm (H ++ F)) (h : LYield C l args H fun H' => K (H' ++ F)) : LYield C l args G K := fun vs w L h1 h2 m => by
 have h3 := h2.perm p
 refine yieldAt_mono (h vs w L h1 h3.left m) ?_
 rintro e w' ⟨he, hx⟩
 obtain ⟨H', L', g1, g2, g3⟩ := LeftX.frame h3 hx
 exact ⟨he, H', L', g1.perm p.symm, g2, g3⟩
theorem LYield.mono {C : Ctx} {l : Nat} {args : List LV} {H : Heap} {K K' : Heap → Prop} (h : LYield C l args H K) (hk : ∀ H, K H → K' H) : LYield C l args H K' := fun vs w L h1 h2 m => yieldAt_mono (h vs w L h1 h2 m) fun _ _ hx => ⟨hx.1, hx.2.mono hk⟩
/-- What an iterator does: it calls yield N times, with the values xs. -/
def LIter (C : Ctx) (gf : FuncId) (caps : List LV) (Hc : Heap) (N : Nat) (xs : Nat → List LV) : Prop :=
 ∀ (l : Nat) (J : Nat → Heap → Prop), (∀ k H, k < N → J k H → LYield C l (xs k) H (J (k + 1))) → ∀ H0, J 0 H0 →
  LCalls C gf (.atom (.func (.yield l) #[] #[]) :: caps) (H0 ++ Hc) (fun r H' => (∃ v, r = .ret v) ∧ ∃ H1, H' = H1 ++ Hc ∧ J N H1)
/-- The slots that the round's parameters fill. -/
def Env.round (j : Env) : List (Nat × LV) → Env
 | [] => j
 | (d, v) :: r => Env.round (j.upd d v) r
theorem RelE.rounds {n : Nat} {w : World} {L : Live} : ∀ (ps : List Nat) (lvs : List LV) (vs : List Value) (tmps : Array Value) (j : Env), RelE n { tmps, defers := [] } j w L → RepL w L lvs vs → ps.length = lvs.length → ps.all (fun p => Nat.blt p n) = true →
  RelE n { tmps := (ps.zip vs).foldl (fun t p => t.setIfInBounds p.1 p.2) tmps, defers := [] } (Env.round j (ps.zip lvs)) w L
 | [], lvs, vs, tmps, j, h, _, _, _ => by simpa [Env.round] using h
 | p :: ps, [], vs, tmps, j, h, _, hl, _ => by simp at hl
 | p :: ps, lv :: lvs, vs, tmps, j, h, hr, hl, hp => by
  simp only [RepL] at hr
  obtain ⟨y, ys, rfl, hy, hr⟩ := hr
  simp only [List.all_cons, Bool.and_eq_true] at hp
  have := RelE.put (dst := some p) h (by simp only [dstOk, dstB]; exact hp.1) hy
  simp only [List.zip_cons_cons, List.foldl_cons, Env.round]
  exact RelE.rounds ps lvs ys _ _ this hr (by simpa using hl) hp.2
/-- A flat reading of an activation. -/
def Act.flat (a : Act) : Env := ⟨fun i => .atom (a.tmps.getD i undef), []⟩
theorem Act.flat_rel {n : Nat} {a : Act} {w : World} {L : Live} (hn : a.tmps.size = n) : RelE n { tmps := a.tmps, defers := [] } (Act.flat a) w L := ⟨hn, rfl, fun _ => rep_atom⟩
section range
variable {C : Ctx} {n : Nat} {e : Env} {H : Heap} {Q : Post}
theorem LCode.rangeFunc {g : Operand} {ps : List Nat} {assign body : Code} {gf : FuncId} [TEnter C.P gf] {caps : Array Value} (hg : e.ev g = .atom (.func (.func gf) #[] caps)) (N : Nat) (xs : Nat → List LV) (H0 Hc : Heap) (hp : H.Perm (H0 ++ Hc))
  (hiter : LIter C gf (caps.toList.map .atom) Hc N xs) (hps : ∀ k, k < N → ps.length = (xs k).length) (hpn : ps.all (fun p => Nat.blt p n) = true)
  (J : Nat → Heap → Prop) (h0 : J 0 H0)
  (round : ∀ k H, k < N → J k H → ∀ j : Env, j.ds = [] → (∀ i v, e.s i = .atom v → j.s i = .atom v) → ∀ (l D : Nat) (o oD : LObj), LCodeR C l n assign (QOn fun e1 H1 => e1.ds = [] ∧ ∃ H1', H1 = (l, o) :: (D, oD) :: H1' ∧ (∀ o' : LObj, LCodeR C l n body (QOn fun _ H2 => ∃ H2', HSub ((l, o') :: (D, oD) :: H2') H2 ∧ J (k + 1) H2') e1 ((l, o') :: (D, oD) :: H1'))) (Env.round j (ps.zip (xs k))) ((l, o) :: (D, oD) :: H))
  (done : ∀ D H', J N H' → Q .normal ⟨e.s, { target := .collected D, args := #[] } :: e.ds⟩ ((D, .obj (.deferred (some []))) :: (H' ++ Hc))) :
  LCode C n (.rangeFunc g ps.toArray assign body) Q e H := fun a w L hE hH => by
 refine wpIn_wide (n := 1) |>.1 (wpIn_rangeFunc fun fn _ => ?_)
 have hgv : a.eval g = .func (.func gf) #[] caps := by
  have := hE.ev g
  rw [hg] at this
  simpa only [Rep] using this
 obtain ⟨rec, hrec⟩ : ∃ rec : LoopState → Option Code → Loop, rec = fun st pe => { state := st, pending := pe, fn, tmps := a.tmps, params := ps.toArray, assign, body, defers := w.heap.size } := ⟨_, rfl⟩
 obtain ⟨L1, f1, r1⟩ := alloc_obj (o := .deferred (some [])) (hH.perm hp) rfl
 obtain ⟨L2, f2, r2⟩ := alloc_obj (o := .loop (rec .ready none)) r1 rfl
 have hsz : (w.alloc (.deferred (some []))).heap.size = w.heap.size + 1 := World.size_alloc ..
 rw [hsz] at f2 r2
 have hrec0 : rec .ready none = { state := .ready, pending := none, fn, tmps := a.tmps, params := ps.toArray, assign, body, defers := w.heap.size } := by rw [hrec]
 refine ⟨w.heap.size + 1, [{ target := .collected w.heap.size, args := #[] }], (w.alloc (.deferred (some []))).alloc (.loop (rec .ready none)), { target := .fn (.func gf) caps, args := #[.func (.yield (w.heap.size + 1)) #[] #[]] }, (w.alloc (.deferred (some []))).alloc (.loop (rec .ready none)), gf,
  #[.func (.yield (w.heap.size + 1)) #[] #[]] ++ caps, (w.alloc (.deferred (some []))).alloc (.loop (rec .ready none)), ?_, ?_, fun _ _ => trivial, ?_, fun _ => Nat.le_refl _, callsIn_wide.2 ?_⟩
 ·rw [hrec0]; exact run_enterLoop_outer _ _ _ _ _
 ·simp only [resolve, hgv]
  simp [go_sem]
 ·simp only [invoke]
  exact run_callFunc _ _
 ·obtain ⟨l, hl⟩ : ∃ l, l = w.heap.size + 1 := ⟨_, rfl⟩
  obtain ⟨D, hD⟩ : ∃ D, D = w.heap.size := ⟨_, rfl⟩
  rw [← hl, ← hD] at f2 r2 ⊢
  rw [← hD] at r1 f1
  have hc := hiter l (fun k H => ∃ H1, H = (l, .obj (.loop (rec .ready none))) :: (D, .obj (.deferred (some []))) :: H1 ∧ J k H1) ?_ ((l, .obj (.loop (rec .ready none))) :: (D, .obj (.deferred (some []))) :: H0) ⟨H0, rfl, h0⟩
  ·have h1 := hc (.func (.yield l) #[] #[] :: caps.toList) _ L2 (by simp only [RepL, Rep]; exact ⟨_, _, rfl, rfl, repL_atoms _⟩) r2
   have e1 : (Value.func (.yield l) #[] #[] :: caps.toList).toArray = #[.func (.yield l) #[] #[]] ++ caps := by
    apply Array.ext'
    simp
   rw [e1] at h1
   refine Calls.mono h1 ?_
   rintro ex w' hx
   cases ex with
   | returned v =>
    obtain ⟨lv, H', L', g1, g2, g3, _, H1, rfl, H1', rfl, hJ⟩ := hx
    have g2' : RelH C w' L' ((l, .obj (.loop (rec .ready none))) :: ((D, .obj (.deferred (some []))) :: (H1' ++ Hc))) := g2
    obtain ⟨_, _, _, hlo, _⟩ := g2'.objs _ List.mem_cons_self
    have hlo' : w'.heap[l]? = some (.loop (rec .ready none)) := hlo
    have hpe : (rec .ready none).pending = none := by rw [hrec]
    have hend := (run_endLoop (P := C.P) hlo' (by rw [hrec]; simp)).trans (congrArg (fun p => Result.ok p _) hpe)
    have ht := turn_obj (o' := .loop { rec .ready none with state := .exhausted }) g2' rfl
    refine ⟨none, _, hend, ?_⟩
    have hs : HSub ((D, LObj.obj (.deferred (some []))) :: (H1' ++ Hc)) ((l, .obj (.loop { rec .ready none with state := .exhausted })) :: ((D, .obj (.deferred (some []))) :: (H1' ++ Hc))) := HSub.drop (HSub.refl _)
    refine ⟨⟨e.s, { target := .collected D, args := #[] } :: e.ds⟩, (D, .obj (.deferred (some []))) :: (H1' ++ Hc), L', ?_, ht.2.weak hs, ⟨?_, ?_, ?_⟩, done D H1' hJ⟩
    ·exact Fr.perm hp.symm ((f1.trans (f2.trans (g1.trans ht.1))).weak hs)
    ·exact hE.size
    ·show _ :: a.defers = _
     rw [hE.ds]
    ·exact fun i => (hE.vals i).mono (f1.ext.trans (f2.ext.trans (g1.ext.trans ht.1.ext))) _ _
   | panicked ch =>
    obtain ⟨H', L', g1, g2, ⟨v, hv⟩, _⟩ := hx
    cases hv
   | outgrown => exact hx.elim
  ·rintro k H hk ⟨H1, rfl, hJ⟩ vs w1 Lw hvs hr m
   obtain ⟨_, _, _, hlo, _⟩ := hr.objs _ List.mem_cons_self
   have hlo' : w1.heap[l]? = some (.loop (rec .ready none)) := hlo
   have hlen := hvs.length
   have hpk := hps k hk
   have hy := run_yield (P := C.P) (args := vs.toArray) hlo' (by rw [hrec]; simp; omega)
   rw [hrec] at hy
   refine ⟨fn, _, assign, body, hy, roundIn_of_wpIn trivial ?_⟩
   have htm : RelE n { tmps := a.tmps, defers := [] } (Act.flat a) w1 Lw := Act.flat_rel hE.size
   have htm2 := RelE.rounds ps (xs k) vs a.tmps (Act.flat a) htm hvs hpk hpn
   have e2 : (ps.toArray.zip vs.toArray).foldl (fun tmps (t, a) => tmps.setIfInBounds t a) a.tmps = (ps.zip vs).foldl (fun t p => t.setIfInBounds p.1 p.2) a.tmps := by
    simp
   simp only [e2]
   refine wpIn_mono (round k H1 hk hJ (Act.flat a) rfl ?_ l D _ _ _ w1 Lw htm2 hr m) ?_
   ·intro i v hv
    have := hE.vals i
    rw [hv] at this
    simp only [Rep] at this
    simp only [Act.flat, this]
   ·rintro ex a1 w2 ⟨e1, H2, L2', q1, q2, q3, q4⟩
    cases ex with
    | normal =>
     obtain ⟨hds, H2', rfl, hb⟩ := q4
     obtain ⟨_, _, _, hlo2, _⟩ := q2.objs _ List.mem_cons_self
     have hlo2' : w2.heap[l]? = some (.loop (rec .ready none)) := hlo2
     have ht := turn_obj (o' := .loop { rec .ready none with state := .busy }) q2 rfl
     refine ⟨_, run_beginRound hlo2' (by rw [hrec]), ?_⟩
     refine wpIn_mono (hb (.obj (.loop { rec .ready none with state := .busy })) a1 _ L2' (q3.mono ht.1.ext) ht.2 m) ?_
     rintro ex a3 w3 ⟨e3, H3, L3, p1, p2, p3, p4⟩
     cases ex with
     | normal =>
      obtain ⟨H3', hs3, hJ3⟩ := p4
      have p2' := p2.weak hs3
      obtain ⟨_, _, _, hlo3, _⟩ := p2'.objs _ List.mem_cons_self
      have hlo3' : w3.heap[l]? = some (.loop { rec .ready none with state := .busy }) := hlo3
      have ht3 := turn_obj (o' := .loop (rec .ready none)) p2' rfl
      have hend := run_endRound (P := C.P) none hlo3'
      have e3 : ({ { rec .ready none with state := .busy } with state := if (none : Option Code).isNone then .ready else .done, pending := none } : Loop) = rec .ready none := by rw [hrec]; rfl
      rw [e3] at hend
      refine ⟨.bool true, _, hend, rfl, ?_⟩
      exact ⟨_, L3, q1.trans (ht.1.trans ((p1.weak hs3).trans ht3.1)), ht3.2, H3', rfl, hJ3⟩
     | exit id => exact p4.elim
     | goto id => exact p4.elim
     | ret => exact p4.elim
     | panic ch => exact p4.elim
     | outgrown => exact p4.elim
    | exit id => exact q4.elim
    | goto id => exact q4.elim
    | ret => exact q4.elim
    | panic ch => exact q4.elim
    | outgrown => exact q4.elim
end range
/-! ### The iterator's own call of yield -/
/-- A region that calls yield. -/
def LOpsW (C : Ctx) (n : Nat) (ops : Array Oper) (Q : Post) (rest : List Oper) (e : Env) (H : Heap) : Prop :=
 ∀ a w L, RelE n a e w L → RelH C w L H → wpListIn Fence.wide 1 C.P ops (lift C n w L (keys H) Q) rest a w
section W
variable {C : Ctx} {n : Nat} {ops : Array Oper} {Q : Post} {e : Env} {H : Heap}
theorem LOpsW.nil (h : Q .normal e H) : LOpsW C n ops Q [] e H := fun _ _ L hE hH => ⟨e, H, L, Fr.refl _ _ _, hH, hE, h⟩
theorem wpListIn_mono {F : Fence} {m : Nat} {P : Program} {Q Q' : Exit → Act → World → Prop} (h : ∀ e a w, Q e a w → Q' e a w) (ho : LetsOut Q → LetsOut Q') : ∀ (l : List Oper) (a : Act) (w : World), wpListIn F m P ops Q l a w → wpListIn F m P ops Q' l a w
 | [], _, _, k => h _ _ _ k
 | o :: l, a, w, k => by
  unfold wpListIn at k ⊢
  split at k
  ·rename_i hw
   rw [if_pos hw]
   refine ⟨k.1, ?_⟩
   have k2 := k.2
   generalize (o.semAt F.round a.eval).run P w = r at k2 ⊢
   cases r with
   | ok x w' =>
    cases x with
    | value v => exact wpListIn_mono h ho l _ _ k2
    | skip => exact wpListIn_mono h ho l _ _ k2
    | defer d => exact wpListIn_mono h ho l _ _ k2
    | enter f args =>
     refine ⟨k2.1, k2.2.mono fun e w'' he => ?_⟩
     cases e with
     | returned v => exact wpListIn_mono h ho l _ _ he
     | panicked ch => exact h _ _ _ he
     | outgrown => exact ho he
    | row row args =>
     refine ⟨k2.1, fun c cs hr => ?_⟩
     obtain ⟨v, w2, r2, s2⟩ := k2.2 c cs hr
     exact ⟨v, w2, wpListIn_mono h ho l _ _ r2, s2⟩
    | round l' f tmps avs bd =>
     refine ⟨k2.1, k2.2.mono fun e w'' he => ?_⟩
     cases e with
     | returned v => exact wpListIn_mono h ho l _ _ he
     | panicked ch => exact h _ _ _ he
     | outgrown => exact ho he
    | _ => exact k2.elim
   | halt x w' => cases x <;> first | exact h _ _ _ k2 | exact k2.elim
  ·rename_i hw
   rw [if_neg hw]
   exact ⟨k.1, wpListIn_mono h ho l _ _ k.2⟩
theorem lift_out {w w1 : World} {L L1 : Live} {K : List Nat} {H1 : Heap} (f : Fr K w L w1 L1 H1) : LetsOut (lift C n w1 L1 (keys H1) Q) → LetsOut (lift C n w L K Q) := fun ⟨a, w', h⟩ => ⟨a, w', lift_trans f h⟩
theorem LOpsW.pure {dst : Option Nat} {op : Op} {ty : TypeId} {pos : String} {aft : Array Edge} {rest : List Oper} {lv : LV}
  (h : Pure C ⟨dst, op, ty, pos, aft, none⟩ e H lv) (hd : dstOk n dst) (k : LOpsW C n ops Q rest (e.put dst lv) H) : LOpsW C n ops Q (⟨dst, op, ty, pos, aft, none⟩ :: rest) e H := fun a w L hE hH => by
 obtain ⟨v, hv, hr⟩ := h a.eval w L hE.ev hH
 unfold wpListIn
 rw [if_pos (by simp [Region.wanted])]
 refine ⟨fun _ _ => trivial, ?_⟩
 have hs : Oper.semAt (Fence.wide).round a.eval ⟨dst, op, ty, pos, aft, none⟩ = execOp a.eval ⟨dst, op, ty, pos, aft, none⟩ := rfl
 rw [hs, hr w ⟨fun _ _ => rfl, fun _ _ _ => rfl⟩]
 exact k _ w L (hE.put hd hv) hH
theorem LOpsW.yield {dst : Option Nat} {fo : Operand} {l : Nat} {args : List Operand} {ats : Array TypeId} {avs : List LV} {ty : TypeId} {pos : String} {aft : Array Edge} {rest : List Oper} {K : Heap → Prop} (hf : e.ev fo = .atom (.func (.yield l) #[] #[]))
  (has : args.map e.ev = avs) (hy : LYield C l avs H K) (hd : dstOk n dst) (k : ∀ H', K H' → LOpsW C n ops Q rest (e.put dst (bool true)) H') : LOpsW C n ops Q (⟨dst, .call { callee := .value fo, args := args.toArray, argTypes := ats }, ty, pos, aft, none⟩ :: rest) e H := fun a w L hE hH => by
 subst has
 have hv := hE.ev fo
 rw [hf] at hv
 simp only [Rep] at hv
 obtain ⟨fn, tmps, assign, body, h1, h2⟩ := hy (args.map a.eval) w L (repL_ev hE.ev _) hH 0
 unfold wpListIn
 rw [if_pos (by simp [Region.wanted])]
 refine ⟨fun _ _ => trivial, ?_⟩
 have h3 : Oper.semAt (Fence.wide).round a.eval ⟨dst, .call { callee := .value fo, args := args.toArray, argTypes := ats }, ty, pos, aft, none⟩ = (do let d ← Deferred.ofValue (a.eval fo) (args.toArray.map a.eval); invoke d.target d.args) := rfl
 have h4 : (do let d ← Deferred.ofValue (.func (.yield l) #[] #[]) (args.toArray.map a.eval); invoke d.target d.args : Sem Next).run C.P w = .ok (.round l fn tmps assign body) w := by
  simp only [Deferred.ofValue, Sem.run_bind, Sem.run_pure, Result.andThen_ok, invoke]
  rw [← h1]
  simp
 rw [h3, hv, h4]
 refine ⟨fun _ => Nat.le_refl _, h2.mono ?_⟩
 rintro ex w' ⟨rfl, H', L', g1, g2, g3⟩
 exact wpListIn_mono (fun _ _ _ => lift_trans g1) (lift_out g1) _ _ _ (k H' g3 _ w' L' ((hE.mono g1.ext).put hd rep_atom) g2)
theorem LCode.regionW {id : Nat} {l : List Oper} (h : LOpsW C n l.toArray Q l e H) : LCode C n (.region id l.toArray false) Q e H := fun a w L hE hH => wpIn_wide (n := 1) |>.1 (wpIn_region_lit (h a w L hE hH))
end W
/-- Entering a function that ranges over a function: the mark of its rounds is among its deferred calls. -/
def RetPostM (C : Ctx) (n : Nat) (rs : List ResultVar) (R : LRes → Heap → Prop) : Post
 | .normal, e, H | .ret, e, H => ∃ D F, e.ds = [{ target := .collected D, args := #[] }] ∧ H.Perm ((D, .obj (.deferred (some []))) :: F) ∧ ∃ vs H', AllRes C n e F rs vs ∧ HSub H' F ∧ R (.ret (resLV vs)) H'
 | .panic ch, e, H => (e.ds = [] ∧ ∃ H', HSub H' H ∧ R (.panic ch) H') ∨ ∃ D F, e.ds = [{ target := .collected D, args := #[] }] ∧ H.Perm ((D, .obj (.deferred (some []))) :: F) ∧ ∃ H', HSub H' F ∧ R (.panic ch) H'
 | _, _, _ => False
theorem LCalls.introM {C : Ctx} {f : FuncId} {fn : Func} {c : Code} {n : Nat} {args : List LV} {H : Heap} {R : LRes → Heap → Prop} (hf : C.P.funcs[f]? = some fn) (hb : fn.body = some c) (hn : fn.ntmps = n) (h3 : Nat.ble fn.results.size 3 = true)
  (hl : Nat.ble args.length n = true) (h : LCode C n c (RetPostM C n fn.results.toList R) (argsEnv args) H) : LCalls C f args H R := fun vs w L hv hH => by
 subst hn
 have hl' : args.length ≤ fn.ntmps := by simpa using hl
 have h3' : fn.results.size ≤ 3 := by simpa using h3
 have hlen := hv.length
 refine callsIn_wide.1 (callsIn_of_wp_marks (F := Fence.wide) (n := 1) hf hb trivial (wpIn_wide.2 (Go.wp_mono (h _ w L ⟨?_, rfl, fun i => ?_⟩ hH) fun ex a' w' hq => ?_)))
 ·simp; omega
 ·simp only [argsEnv]
  rw [Array.getD_eq_getD_getElem?]
  rcases Nat.lt_or_ge i args.length with hi | hi
  ·rw [List.getElem?_eq_getElem hi]
   obtain ⟨x, hx, hr⟩ := hv.get (List.getElem?_eq_getElem hi)
   have hxi : (vs.toArray ++ Array.replicate (fn.ntmps - vs.toArray.size) undef)[i]? = some x := by
    rw [Array.getElem?_append_left (by simp; omega)]
    simpa using hx
   rw [hxi]
   exact hr
  ·rw [List.getElem?_eq_none hi]
   have hxi : ((vs.toArray ++ Array.replicate (fn.ntmps - vs.toArray.size) undef)[i]?).getD undef = undef := by
    rw [Array.getElem?_append_right (by simp; omega)]
    rw [Array.getElem?_replicate]
    split <;> rfl
   rw [hxi]
   simp only [Option.getD_none, Rep]
 ·obtain ⟨e', H', L', g1, g2, g3, g4⟩ := hq
  have turn : ∀ {D F}, H'.Perm ((D, LObj.obj (.deferred (some []))) :: F) → (Instr.takeDeferred D).run C.P w' = .ok [] (w'.putObj D (.deferred none)) ∧ Fr (keys H) w L (w'.putObj D (.deferred none)) L' F ∧ RelH C (w'.putObj D (.deferred none)) L' F ∧ Ext w' L' (w'.putObj D (.deferred none)) L' := fun {D F} hp => by
   have g2' := g2.perm hp
   obtain ⟨_, _, _, hlo, _⟩ := g2'.objs _ List.mem_cons_self
   have hlo' : w'.heap[D]? = some (.deferred (some [])) := hlo
   have ht := turn_obj (o' := .deferred none) g2' rfl
   have hs : HSub F ((D, LObj.obj (.deferred none)) :: F) := HSub.drop (HSub.refl _)
   have hkp : Fr (keys H) w L w' L' ((D, LObj.obj (.deferred (some []))) :: F) := g1.weak ⟨[], by simpa using hp⟩
   exact ⟨run_takeDeferred hlo', (hkp.trans ht.1).weak hs, ht.2.weak hs, ht.1.ext⟩
  have ret : RelE fn.ntmps a' e' w' L' → (∃ D F, e'.ds = [{ target := .collected D, args := #[] }] ∧ H'.Perm ((D, .obj (.deferred (some []))) :: F) ∧ ∃ vs H'', AllRes C fn.ntmps e' F fn.results.toList vs ∧ HSub H'' F ∧ R (.ret (resLV vs)) H'') →
    LeavesInM Fence.wide 1 C.P fn a'.tmps (CallPost C w L H (fun v => R (.ret v)) (fun ch => R (.panic ch))) a'.defers .returning w' := fun hE hr => by
   obtain ⟨D, F, h1, hp, vs', H'', h2, h4, h5⟩ := hr
   rw [hE.ds, h1]
   obtain ⟨t1, t2, t3, t4⟩ := turn hp
   refine ⟨by simp, .inl ⟨D, _, rfl, t1, ?_⟩⟩
   obtain ⟨v, r1, r2⟩ := results_of (hE.mono t4) t3 h2 h3'
   exact ⟨v, r1, resLV vs', H'', L', t2.weak h4, t3.weak h4, r2, h5⟩
  cases ex with
  | normal => exact ret g3 g4
  | ret => exact ret g3 g4
  | panic ch =>
   rcases g4 with ⟨h1, H'', h4, h5⟩ | ⟨D, F, h1, hp, H'', h4, h5⟩
   ·show LeavesInM _ _ _ _ _ _ a'.defers _ _
    rw [show a'.defers = [] from (show a'.defers = e'.ds from g3).trans h1]
    exact ⟨H'', L', g1.weak h4, g2.weak h4, h5⟩
   ·show LeavesInM _ _ _ _ _ _ a'.defers _ _
    rw [show a'.defers = [{ target := .collected D, args := #[] }] from (show a'.defers = e'.ds from g3).trans h1]
    obtain ⟨t1, t2, t3, t4⟩ := turn hp
    exact ⟨by simp, .inl ⟨D, _, rfl, t1, ⟨H'', L', t2.weak h4, t3.weak h4, h5⟩⟩⟩
  | exit id => exact g4.elim
  | goto id => exact g4.elim
  | outgrown => exact g4.elim
end Go.GL
namespace Go.Proofs.YtcbpcianefpniaaGreatDoor
open Go.GL Go.RowKit Go.Stele
set_option maxRecDepth 100000
set_option maxHeartbeats 4000000
attribute [local irreducible] LOps LCode LStep LCalls Go.GL.Pure QThen QBlock RetPost LQ LAny LLate LLateOp
def lvLV (k : Nat) : LV := .list ((lvOps k).map str)
def levelsLV : List LV := [lvLV 0, lvLV 1, lvLV 2, lvLV 3, lvLV 4, lvLV 5]
section
variable {B0 : Nat} {w0 : World}
theorem levels_spec : LCalls (KC B0 w0) 213 [] [] (Ret (.list levelsLV)) := by
 refine LCalls.intro Tryz.func213 rfl (n := 8) rfl rfl rfl ?_
 repeat first | refine LOps.nil ?_ | refine LCode.seq ?_ | refine LCode.region ?_ | refine QThen.normal ?_ | refine LOps.pure (Pure.as (lv := .atom _) rfl) rfl ?_
 refine LOps.step (S.lit (es := [str [124, 124]]) [_] rfl (elemsOk.cons rfl rfl elemsOk.nil) rfl rfl rfl ?_) rfl
 refine LOps.step (S.lit (es := [str [38, 38]]) [_] rfl (elemsOk.cons rfl rfl elemsOk.nil) rfl rfl rfl ?_) rfl
 refine LOps.step (S.lit (es := [str [61, 61], str [33, 61], str [60], str [62], str [60, 61], str [62, 61]]) [_, _, _, _, _, _] rfl (elemsOk.cons rfl rfl (elemsOk.cons rfl rfl (elemsOk.cons rfl rfl (elemsOk.cons rfl rfl (elemsOk.cons rfl rfl (elemsOk.cons rfl rfl elemsOk.nil)))))) rfl rfl rfl ?_) rfl
 refine LOps.step (S.lit (es := [str [94]]) [_] rfl (elemsOk.cons rfl rfl elemsOk.nil) rfl rfl rfl ?_) rfl
 refine LOps.step (S.lit (es := [str [43], str [45]]) [_, _] rfl (elemsOk.cons rfl rfl (elemsOk.cons rfl rfl elemsOk.nil)) rfl rfl rfl ?_) rfl
 refine LOps.step (S.lit (es := [str [42], str [47], str [37]]) [_, _, _] rfl (elemsOk.cons rfl rfl (elemsOk.cons rfl rfl (elemsOk.cons rfl rfl elemsOk.nil))) rfl rfl rfl ?_) rfl
 refine LOps.step (S.lit (es := levelsLV) [_, _, _, _, _, _] rfl (elemsOk.cons rfl rfl (elemsOk.cons rfl rfl (elemsOk.cons rfl rfl (elemsOk.cons rfl rfl (elemsOk.cons rfl rfl (elemsOk.cons rfl rfl elemsOk.nil)))))) rfl rfl rfl ?_) rfl
 repeat first | refine LOps.nil ?_ | refine LCode.ret ?_ | refine QThen.normal ?_ | refine LOps.pure (Pure.as (lv := .list _) rfl) rfl ?_
 exact retRet rfl (AllRes.cons (ResIs.tmp (v := .list _) rfl (LV.Sub.refl _)) AllRes.nil) rfl
theorem binary_spec (sb : Nat) (ops : List LV) (once : Bool) (fn : FuncId) (first caps : Array Value) : LCalls (KC B0 w0) 214 [ptr sb 0, .list ops, bool once, .atom (.func (.func fn) first caps)] []
  (fun r H => ∃ bo bs bp bn : Nat, r = .ret (.atom (.func (.func 225) #[] #[.pointer (some ⟨bo, 0, none⟩), .pointer (some ⟨bs, 0, none⟩), .pointer (some ⟨bp, 0, none⟩), .pointer (some ⟨bn, 0, none⟩)])) ∧
   H = [(bo, .cells 229 [.atom (.func (.func fn) first caps)]), (bs, .cells 93 [ptr sb 0]), (bp, .cells 29 [.list ops]), (bn, .cells 4 [bool once])]) := by
 refine LCalls.intro Tryz.func214 rfl (n := 10) rfl rfl rfl ?_
 repeat first | refine LCode.seq ?_ | refine LCode.region ?_
 refine LOps.step (S.box rfl fun bs => ?_) rfl
 refine LOps.step (S.box rfl fun bp => ?_) rfl
 refine LOps.step (S.box rfl fun bn => ?_) rfl
 refine LOps.step (S.box rfl fun bo => ?_) rfl
 repeat first | refine LOps.nil ?_ | refine LCode.seq ?_ | refine LCode.region ?_ | refine LCode.ret ?_ | refine QThen.normal ?_ | refine LOps.pure (Pure.as (lv := .atom _) rfl) rfl ?_ | refine LOps.pure (Pure.makeFunc rfl rfl) rfl ?_
 exact RetPost.ret rfl (AllRes.cons (ResIs.tmp (v := .atom _) rfl (LV.Sub.refl _)) AllRes.nil) (HSub.pick Pick.here (HSub.pick (Pick.there (Pick.there Pick.here)) (HSub.pick (Pick.there Pick.here) (HSub.pick Pick.here (HSub.nil _))))) ⟨bo, bs, bp, bn, rfl, rfl⟩
theorem backward_spec (es : List LV) : LCalls (KC B0 w0) 212 [.list es] [] (fun r H => ∃ b : Nat, r = .ret (.atom (.func (.func 224) #[] #[.pointer (some ⟨b, 0, none⟩)])) ∧ H = [(b, .cells 176 [.list es])]) := by
 refine LCalls.intro Tryz.func212 rfl (n := 4) rfl rfl rfl ?_
 repeat first | refine LCode.seq ?_ | refine LCode.region ?_
 refine LOps.step (S.box rfl fun b => ?_) rfl
 repeat first | refine LOps.nil ?_ | refine LCode.seq ?_ | refine LCode.region ?_ | refine LCode.ret ?_ | refine QThen.normal ?_ | refine LOps.pure (Pure.as (lv := .atom _) rfl) rfl ?_ | refine LOps.pure (Pure.makeFunc rfl rfl) rfl ?_
 exact RetPost.ret rfl (AllRes.cons (ResIs.tmp (v := .atom _) rfl (LV.Sub.refl _)) AllRes.nil) (HSub.refl _) ⟨b, rfl, rfl⟩
/-- What the iterator hands to yield in the round q: the place and the element, from the last to the first. -/
def backArgs (ls : List (List (List UInt8))) (q : Nat) : List LV := [int .i64 ((ls.length : Int) - 1 - q), .list (((ls[ls.length - 1 - q]?).getD []).map str)]
theorem iter_spec (b : Nat) (ls : List (List (List UInt8))) (hl : ls.length ≤ 100000) : LIter (KC B0 w0) 224 [ptr b 0] [(b, .cells 176 [.list (ls.map fun l => .list (l.map str))])] ls.length (backArgs ls) := by
 intro l J hY H0 h0
 have hml : (ls.map fun l => LV.list (l.map str)).length = ls.length := List.length_map _
 refine LCalls.intro Tryz.func224 rfl (n := 19) rfl rfl rfl ?_
 refine LCode.perm (H' := (b, .cells 176 [.list (ls.map fun l => .list (l.map str))]) :: H0) (List.perm_append_singleton _ _) ?_
 repeat first | refine LOps.nil ?_ | refine LCode.seq ?_ | refine LCode.region ?_ | refine LCode.block ?_ | refine QThen.normal ?_ | refine LOps.pure (Pure.loadH (c := .list _) rfl (List.Mem.head _) rfl) rfl ?_ | refine LOps.pure (Pure.llen rfl) rfl ?_ | refine LOps.pure (Pure.sub rfl rfl (by omega)) rfl ?_ | refine LOps.pure (Pure.as (lv := .atom _) rfl) rfl ?_
 refine LCode.loopI (fun k lsl H => ∃ (q : Nat) (Hq : Heap), q ≤ ls.length ∧ k = ls.length - q ∧ lsl = [(0, .atom (.func (.yield l) #[] #[])), (1, ptr b 0), (3, int .i64 ((ls.length : Int) - 1 - q))] ∧ H = (b, .cells 176 [.list (ls.map fun l => .list (l.map str))]) :: Hq ∧ J q Hq)
  ⟨_, _, _, ⟨0, H0, Nat.zero_le _, rfl, rfl, rfl, h0⟩, ⟨rfl, rfl, int_eq (by simp), trivial⟩, HSub.refl _⟩ ?_
 rintro k lsl H ⟨q, Hq, hq, rfl, rfl, rfl, hJ⟩ j hj
 repeat first | refine LOps.nil ?_ | refine LCode.seq ?_ | refine LCode.region ?_ | refine QThen.normal ?_ | refine LOps.pure (Pure.mv (lv := .atom _) rfl) rfl ?_ | refine LOps.pure (Pure.geq rfl rfl) rfl ?_
 refine LCode.cond rfl (fun hc => ?_) (fun hc => ?_)
 ·have hlt : q < ls.length := by have := of_decide_eq_true hc; omega
  have hix : ((ls.length : Int) - 1 - q).toNat = ls.length - 1 - q := by omega
  have hlt2 : ls.length - 1 - q < ls.length := by omega
  have hel : (ls.map fun l => LV.list (l.map str))[((ls.length : Int) - 1 - q).toNat]? = some (.list (((ls[ls.length - 1 - q]?).getD []).map str)) := by
   rw [hix, List.getElem?_map, List.getElem?_eq_getElem hlt2]
   rfl
  repeat first | refine LCode.seq ?_ | refine LCode.skip ?_ | refine LCode.block ?_ | refine QThen.normal ?_
  refine LCode.regionW ?_
  repeat first | refine LOpsW.pure (Pure.loadH (c := .list _) rfl (List.Mem.head _) rfl) rfl ?_ | refine LOpsW.pure (Pure.mv (lv := .atom _) rfl) rfl ?_
  refine LOpsW.pure (Pure.ixRef (cs := [_]) rfl rfl (by omega) hel rfl rfl) rfl ?_
  repeat first | refine LOpsW.pure (Pure.loadRef (c := .list _) rfl rfl) rfl ?_
  refine LOpsW.yield (H := (b, .cells 176 [.list (ls.map fun l => .list (l.map str))]) :: Hq) (args := [_, _]) rfl rfl (LYield.frame (H := Hq) (F := [(b, .cells 176 [.list (ls.map fun l => .list (l.map str))])]) (List.perm_append_singleton _ _).symm (K := fun H' => ∃ H1, H' = H1 ++ [(b, .cells 176 [.list (ls.map fun l => .list (l.map str))])] ∧ J (q + 1) H1) (LYield.mono (hY q Hq hlt hJ) fun H' h => ⟨H', rfl, h⟩)) rfl ?_
  rintro H' ⟨H1, rfl, hJ1⟩
  repeat first | refine LOpsW.pure (Pure.not rfl) rfl ?_
  refine LOpsW.nil ?_
  refine QThen.normal ?_
  refine LCode.weak (H' := (b, .cells 176 [.list (ls.map fun l => .list (l.map str))]) :: H1) ⟨[], by rw [List.append_nil]; exact List.perm_append_singleton _ _⟩ ?_
  refine LCode.cond rfl (fun hcc => ?_) (fun hcc => ?_)
  ·cases hcc
  ·repeat first | refine LOps.nil ?_ | refine LCode.region ?_ | refine LCode.skip ?_ | refine QThen.normal ?_ | refine QBlock.normal ?_ | refine LOps.pure (Pure.sub rfl rfl (by omega)) rfl ?_ | refine LOps.pure (Pure.as (lv := .atom _) rfl) rfl ?_ | refine LOps.pure (Pure.mv (lv := .atom _) rfl) rfl ?_
   exact ⟨_, _, _, by omega, ⟨q + 1, H1, hlt, rfl, rfl, rfl, hJ1⟩, ⟨rfl, rfl, int_eq (by omega), trivial⟩, HSub.refl _, hj⟩
 ·have hge : q = ls.length := by have := of_decide_eq_false hc; omega
  subst hge
  repeat first | refine LCode.exit ?_ | refine QThen.exit ?_ | refine QBlock.hit ?_
  exact RetPost.normal hj AllRes.nil ⟨[], by rw [List.append_nil]; exact (List.perm_append_singleton _ _).symm⟩ ⟨⟨_, rfl⟩, Hq, rfl, hJ⟩
end
end Go.Proofs.YtcbpcianefpniaaGreatDoor
