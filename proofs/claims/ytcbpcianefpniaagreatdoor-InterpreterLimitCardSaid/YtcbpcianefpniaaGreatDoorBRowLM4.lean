/- Texts joined: InpW8, Shelf, Lex2, FmtUint, Lex3, Lex4, Lex5, Lex6, ParP1, ParP2, ParP3. -/
import Derived.Shelf.Strings.Builder1
import Derived.Shelf.Strings.Builder2
import Derived.Shelf.Strings.BuilderF
import Derived.Shelf.Strings.BuilderK
import Derived.Shelf.Utf8.RuneCount
import Derived.Shelf.Strings.Builder2Cap
import Derived.Shelf.Strconv.Itoa0
import Derived.Shelf.Strconv.Itoa1
import Derived.Shelf.LaysM
import Derived.Shelf.Strconv.Itoa2
import Derived.Shelf.Strconv.Itoa3
import Derived.Shelf.Strconv.Clone
import Derived.Shelf.Strconv.SyntaxError
import Derived.Shelf.LaysC
import Derived.Shelf.Strconv.ToError
import Derived.Shelf.Strconv.Lower
import Derived.Shelf.Strconv.ParseUint10
import Derived.Shelf.Strconv.ParseUint10Empty
import Derived.Shelf.Strconv.ParseUint10Any
import Derived.Shelf.Strconv.RangeError
import Derived.Shelf.Strconv.ToErrorRange
import Derived.Shelf.Strconv.ParseUintEmpty
import Derived.Shelf.Strconv.ParseUint10b64
import Derived.Shelf.Strconv.ParseUint10b32
import Derived.Shelf.Strconv.ParseUint10b16
import Derived.Shelf.Strconv.ParseUint10b8
import Derived.Shelf.Strconv.ParseUint10At
import Derived.Ground.MpProg
import Derived.Shelf.Pu.ParseUintPublic10
import Derived.Shelf.Pu.ErrVarParseUint
import Derived.Shelf.Strings.Search1
import Derived.Shelf.Strings.Search2
import Derived.Shelf.Strings.Search3
import Derived.Shelf.Strings.Count
import Derived.Shelf.Strings.Shaped
import Derived.Shelf.Strings.Prefix
import Derived.Shelf.Strings.Split
import Derived.Shelf.Strings.Replace
import Derived.Shelf.Strings.SplitShaped
import Derived.Shelf.Unicode.Decode
import Derived.Shelf.Strings.RuneCount
import Derived.Shelf.Unicode.DecodeSlow
import Derived.Shelf.Unicode.DecodeAny
import Derived.Shelf.Strings.BuilderCap
import Derived.Shelf.Slices.Turned
import Derived.Ground.Names2Prog
import Derived.Shelf.Slices.Clone
import Derived.Test.YtcbpcianefpniaaGreatDoorProg
import Derived.Lib.Walk
import Derived.Lib.ItoaMem
import Derived.Lib.AppendIntMem
import Derived.WalkKit
import Derived.BigCall
import Derived.BigGuard
import Derived.Below
import Derived.WalkSmall
import Derived.Test.YtcbpcianefpniaaGreatDoorBRowLM1
import Derived.Test.YtcbpcianefpniaaGreatDoorBRowLM2
import Derived.Test.YtcbpcianefpniaaGreatDoorBRowLM3
set_option linter.unusedVariables false
set_option linter.unusedSimpArgs false
namespace Go.Proofs.YtcbpcianefpniaaGreatDoor.Inp
open Go.GL Go.RowKit Go.Stele
set_option maxRecDepth 100000
set_option maxHeartbeats 4000000
theorem errE_parts {c : CEnv} {op : List UInt8} {num : Nat} {name : List UInt8} {args : List Ex} (h : errE c (.mk op num name args) = 0) : (opnds op = -1 ∨ opnds op = args.length) ∧ errEs c args = 0 ∧ useE c op name args.length = 0 := by
 rw [errE] at h
 split at h
 ·rename_i h1
  obtain ⟨h2, h3⟩ := orE_zero.1 h
  exact ⟨h1, h2, h3⟩
 ·cases h
theorem one_of {l : List Nat} (h : l.length = 1) : ∃ a, l = [a] := by
 cases l with
 | nil => cases h
 | cons a l =>
  cases l with
  | nil => exact ⟨a, rfl⟩
  | cons b l => simp at h
theorem two_of {l : List Nat} (h : l.length = 2) : ∃ a b, l = [a, b] := by
 cases l with
 | nil => cases h
 | cons a l =>
  obtain ⟨b, rfl⟩ := one_of (l := l) (by simpa using h)
  exact ⟨a, b, rfl⟩
theorem neg_u32 {a : Nat} (h : a < 4294967296) : IntKind.u32.wrap (0 - (a : Int)) = (((4294967296 - a) % 4294967296 : Nat) : Int) := by
 rw [wrapU]
 omega
theorem set_mid {A : Type} (l r : List A) (x y : A) : (l ++ x :: r).set l.length y = l ++ y :: r := by
 induction l with
 | nil => rfl
 | cons a l ih => simp only [List.cons_append, List.length_cons, List.set_cons_succ, ih]
theorem hsub_perm {H1 H2 X : Heap} (hp : H1.Perm H2) (h : HSub X H2) : HSub X H1 :=
 let ⟨G, hG⟩ := h
 ⟨G, hp.trans hG⟩
attribute [local irreducible] LOps LCode LStep LCalls Go.GL.Pure QThen QBlock RetPost LQ LAny LLate LLateOp LS
section
variable {B0 : Nat} {w0 : World}
theorem eval_spec {c : Cfg} (hC : CfgOk c) {n : Nat} (hE : EvalH B0 w0 c n) (hB : BlkH B0 w0 c n) : EvalH B0 w0 c (n + 1) := by
 intro f kn x s H hf hk hv hnum hsm hg hs
 obtain ⟨op, num, name, args⟩ := x
 obtain ⟨hop, hargs, huse⟩ := errE_parts hv
 obtain ⟨hn1, hn2⟩ := hnum
 obtain ⟨hm1, hm2⟩ := hsm
 have hal : args.length ≤ 1000000 := hm1
 generalize hI : evI c.p (n + 1) f (Ex.mk op num name args) s = R
 rw [evI] at hI
 rw [encE_mk]
 refine LCalls.intro Tryz.func158 rfl (n := 92) rfl rfl rfl ?_
 repeat first | refine LCode.seq ?_ | refine LCode.region ?_
 refine LOps.step (S.box rfl fun b4 => ?_) rfl
 refine LOps.step (S.box rfl fun b5 => ?_) rfl
 repeat first | refine LOps.nil ?_ | refine LCode.seq ?_ | refine LCode.region ?_ | refine QThen.normal ?_ | refine LOps.pure (Pure.as (lv := .atom _) rfl) rfl ?_ | refine LOps.pure (Pure.mv (lv := .atom _) rfl) rfl ?_
 refine LOps.step (S.callI [_] rfl swap2 (step_spec hC hs) (fun u s1 H1 hr hs1 => ?_) (fun er s1 H1 hr hs1 e' he' => ?_)) rfl
 rotate_left
 ·repeat first | refine QThen.panic ?_
  rw [hr, bind_stop] at hI
  exact panI_ (he'.trans rfl) hI.symm hsub_left hs1
 have hg1 : Good c n s1 ∧ s1.out.length + s1.left + 1 ≤ c.lim := by
  have h1 := tick_less hr
  have h2 := tick_bd hg.1
  rw [hr] at h2
  have h3 : s1.out = s.out := by
   unfold tick at hr
   split at hr
   ·cases hr
   ·cases hr; rfl
  have h4 := hg.2.1
  have h5 := hg.2.2
  exact ⟨⟨h2.2, by omega, by rw [h3]; omega⟩, by rw [h3]; omega⟩
 rw [hr, bind_ok] at hI
 refine LOps.perm (swap2 (H := H1)).symm ?_
 repeat first | refine LOps.nil ?_ | refine LCode.seq ?_ | refine LCode.region ?_ | refine QThen.normal ?_ | refine LOps.pure (Pure.fieldH rfl) rfl ?_ | refine LOps.pure (Pure.loadH (c := .list _) rfl (List.Mem.head _) rfl) rfl ?_ | refine LOps.pure (Pure.llen rfl) rfl ?_
 refine LOps.step (S.makeRow (n := args.length) (k := .i64) (k2 := .i64) (int_eq (by rw [List.length_map])) (int_eq (by rw [List.length_map])) (by omega) (by omega) fun b7 => ?_) rfl
 repeat first | refine LOps.nil ?_ | refine LCode.seq ?_ | refine LCode.region ?_ | refine LCode.block ?_ | refine QThen.normal ?_ | refine LOps.pure (Pure.as (lv := .atom _) rfl) rfl ?_ | refine LOps.pure (Pure.mv (lv := .atom _) rfl) rfl ?_ | refine LOps.pure (Pure.fieldH rfl) rfl ?_ | refine LOps.pure (Pure.loadH (c := .list _) rfl (List.Mem.tail _ (List.Mem.head _)) rfl) rfl ?_ | refine LOps.pure (Pure.llen rfl) rfl ?_
 refine LCode.loopI (fun k ls H' => ∃ (pre l1 : List Ex) (vs : List Nat) (s2 : IS) (Hs : Heap), args = pre ++ l1 ∧ vs.length = pre.length ∧ (∀ v ∈ vs, Lt v) ∧ k = l1.length ∧ ls = [(0, ptr c.rb 0), (4, ptr b4 0), (5, ptr b5 0), (7, rowV b7 args.length), (17, .list (args.map encE)), (18, int .i64 ((args.map encE).length : Int)), (19, int .i64 (pre.length : Int))] ∧
   H' = (b7, .cells 43 (vs.map u32 ++ List.replicate l1.length (u32 0))) :: (b5, .cells 170 [str op, u32 num, str name, .list (args.map encE)]) :: (b4, .cells 63 [str f.name, .list (f.params.map str), .list (f.locals.map str), .list (f.body.map encS)]) :: Hs ∧
   St c s2 Hs ∧ Good c n s2 ∧ s2.out.length + s2.left + 1 ≤ c.lim ∧ errEs (cenv c kn f) l1 = 0 ∧ numEs l1 ∧ smEs l1 ∧ (mapR (evI c.p n f) l1 s2).bind (fun vs' s => opI c.p (stI c.p n) f op num name (vs ++ vs') s) = R)
  ⟨args.length, _, _, ⟨[], args, [], s1, H1, rfl, rfl, fun v hv => (List.not_mem_nil hv).elim, rfl, rfl, rfl, hs1, hg1.1, hg1.2, hargs, hn2, hm2, hI⟩, ⟨rfl, rfl, rfl, rfl, rfl, rfl, rfl, trivial⟩, HSub.refl _⟩ ?_
 rintro k ls H' ⟨pre, l1, vs, s2, Hs, hpre, hvl, hvlt, rfl, rfl, rfl, hs2, hg2, hroom, he2, hnn2, hmm2, hI2⟩ j hj
 have hl6 : pre.length ≤ 1000000 := by
  have := hal
  rw [hpre, List.length_append] at this
  omega
 repeat first | refine LOps.nil ?_ | refine LCode.seq ?_ | refine LCode.region ?_ | refine QThen.normal ?_ | refine LOps.pure (Pure.lss rfl rfl) rfl ?_
 refine LCode.cond rfl (fun hc => ?_) (fun hc => ?_)
 ·have hlen := of_decide_eq_true hc
  rw [List.length_map, hpre, List.length_append] at hlen
  obtain ⟨a, l2, rfl⟩ : ∃ a l2, l1 = a :: l2 := by
   cases l1 with
   | nil => simp at hlen
   | cons a l2 => exact ⟨a, l2, rfl⟩
  rw [errEs] at he2
  obtain ⟨hea, hel⟩ := orE_zero.1 he2
  rw [mapR_step] at hI2
  repeat first | refine LCode.seq ?_ | refine LCode.region ?_ | refine LCode.skip ?_ | refine LCode.block ?_ | refine QThen.normal ?_ | refine LOps.pure (Pure.mv (lv := .atom _) rfl) rfl ?_
  refine LOps.pure (Pure.ixRef (el' := encE a) (cs := [_, _, _, _]) rfl rfl (by omega) (by rw [hpre]; exact get_mid encE pre a l2) rfl rfl) rfl ?_
  repeat first | refine LOps.pure (Pure.ldRefAgg (cs' := [_, _, _, _]) rfl rfl rfl) rfl ?_
  refine LOps.step (S.alloc fun b9 => ?_) rfl
  repeat first | refine LOps.nil ?_ | refine LCode.region ?_ | refine QThen.normal ?_ | refine LOps.pure (Pure.as (lv := .atom _) rfl) rfl ?_ | refine LOps.pure (Pure.mv (lv := .atom _) rfl) rfl ?_ | refine LOps.pure (Pure.ldHAgg (cs' := [_, _, _, _]) rfl (List.Mem.head _) rfl rfl) rfl ?_ | refine LOps.pure (Pure.ldHAgg (cs' := [_, _, _, _]) rfl (List.Mem.tail _ (List.Mem.tail _ (List.Mem.tail _ (List.Mem.head _)))) rfl rfl) rfl ?_ | refine LOps.step (S.store (cs' := [_, _, _, _]) rfl Pick.here rfl rfl rfl rfl rfl ?_) rfl
  refine LOps.step (S.callI [_, _, _] rfl (List.perm_append_comm (l₁ := [_, _, _, _])) (hE f kn a s2 Hs hf hk hea hnn2.1 hmm2.1 hg2 hs2) (fun v s3 H3 hr3 hs3 => ?_) (fun er s3 H3 hr3 hs3 e' he' => ?_)) rfl
  rotate_left
  ·repeat first | refine QThen.panic ?_ | refine QBlock.panic ?_
   rw [hr3, bind_stop] at hI2
   exact panI_ (he'.trans hj) hI2.symm hsub_left hs3
  obtain ⟨hg3, hv3, _⟩ := ev_good hC hnn2.1 hg2 hr3
  have hf3 := (few_all c.p n).1 f a s2
  rw [hr3] at hf3
  have hf3' : s3.out.length + s3.left ≤ s2.out.length + s2.left + 0 := hf3
  rw [hr3, bind_ok] at hI2
  refine LOps.perm (List.perm_append_comm (l₂ := [_, _, _, _])) ?_
  have hlt : pre.length < args.length := by
   rw [hpre, List.length_append, List.length_cons]
   omega
  refine LOps.pure (Pure.indexRow rfl rfl (by omega) (by omega)) rfl ?_
  have ecs : vs.map u32 ++ List.replicate (a :: l2).length (u32 0) = vs.map u32 ++ u32 0 :: List.replicate l2.length (u32 0) := rfl
  rw [ecs]
  refine LOps.step (S.store (n := 1) (vs := [u32 v]) (cs' := (vs ++ [v]).map u32 ++ List.replicate l2.length (u32 0)) rfl (Pick.there Pick.here) rfl rfl (by simp [hvl]) rfl (by
   rw [show 0 + ((pre.length : Int)).toNat * 1 = (vs.map u32).length by rw [List.length_map, hvl]; simp, setL_one _ _ _ (by simp), set_mid]
   simp) ?_) rfl
  repeat first | refine LOps.nil ?_ | refine LCode.region ?_ | refine QThen.normal ?_ | refine QBlock.normal ?_ | refine LOps.pure (Pure.mv (lv := .atom _) rfl) rfl ?_ | refine LOps.pure (Pure.add rfl rfl (by omega)) rfl ?_
  exact ⟨l2.length, _, _, Nat.lt_succ_self _, ⟨pre ++ [a], l2, vs ++ [v], s3, H3, by rw [hpre]; simp, by simp [hvl], fun y hy => by
   rcases List.mem_append.1 hy with h1 | h1
   ·exact hvlt y h1
   ·rw [List.mem_singleton.1 h1]; exact hv3, rfl, rfl, rfl, hs3, hg3, by omega, hel, hnn2.2, hmm2.2, by
    rw [← hI2]
    simp only [List.append_assoc, List.singleton_append]⟩, ⟨rfl, rfl, rfl, rfl, rfl, rfl, int_eq (by simp), trivial⟩, HSub.pick Pick.here (HSub.drop (HSub.refl _)), hj⟩
 have hlen := of_decide_eq_false hc
 rw [List.length_map, hpre, List.length_append] at hlen
 obtain rfl : l1 = [] := by
  cases l1 with
  | nil => rfl
  | cons a l2 => simp at hlen; omega
 rw [mapR, bind_ok, List.append_nil] at hI2
 have hvn : vs.length = args.length := by rw [hvl, hpre, List.append_nil]
 have hcs : vs.map u32 ++ List.replicate ([] : List Ex).length (u32 0) = (vs.map fun (v : Nat) => Value.int .u32 (v : Int)).map .atom := by
  rw [List.map_map]
  simp only [List.length_nil, List.replicate_zero, List.append_nil]
  rfl
 have hvn2 : args.length = (vs.map fun (v : Nat) => Value.int .u32 (v : Int)).length := by rw [List.length_map, hvn]
 rw [hcs]
 have hI := hI2
 clear hI2
 repeat first | refine LCode.exit ?_ | refine QThen.normal ?_ | refine QThen.exit ?_ | refine QBlock.hit ?_
 refine LCode.rowShut 7 (vs := vs.map fun (v : Nat) => Value.int .u32 (v : Int)) Pick.here (by rw [← hvn2]; rfl) ?_
 rw [show (vs.map fun (v : Nat) => Value.int .u32 (v : Int)).map LV.atom = vs.map u32 by rw [List.map_map]; rfl]
 rw [← hvn] at hop huse
 unfold opI at hI
 obtain ⟨hb2, hl2, _⟩ := hg2
 repeat first | refine LOps.nil ?_ | refine LCode.seq ?_ | refine LCode.region ?_ | refine LCode.block ?_ | refine QThen.normal ?_ | refine LOps.pure (Pure.as (lv := .atom _) rfl) rfl ?_ | refine LOps.pure (Pure.fieldH rfl) rfl ?_ | refine LOps.pure (Pure.loadH (c := .atom _) rfl (List.Mem.head _) rfl) rfl ?_ | refine LOps.pure (Pure.seq rfl rfl) rfl ?_
 by_cases h1 : op = [110, 117, 109]
 ·subst h1
  rw [if_pos rfl] at hI
  refine LCode.cond rfl (fun hc => ?_) (fun hc => by cases hc)
  repeat first | refine LOps.nil ?_ | refine LCode.seq ?_ | refine LCode.region ?_ | refine LCode.ret ?_ | refine QThen.normal ?_ | refine QThen.ret ?_ | refine QBlock.ret ?_ | refine LOps.pure (Pure.as (lv := .atom _) rfl) rfl ?_ | refine LOps.pure (Pure.fieldH rfl) rfl ?_ | refine LOps.pure (Pure.loadH (c := .atom _) rfl (List.Mem.head _) rfl) rfl ?_
  exact retI (v := num) hj (AllRes.cons (ResIs.tmp (v := .atom _) rfl (LV.Sub.refl _)) AllRes.nil) hI.symm rfl (HSub.drop (HSub.drop (HSub.refl _))) hs2
 refine LCode.cond rfl (fun hc => absurd (of_decide_eq_true hc) h1) (fun _ => ?_)
 rw [if_neg h1] at hI
 repeat first | refine LOps.nil ?_ | refine LCode.seq ?_ | refine LCode.region ?_ | refine QThen.normal ?_ | refine LOps.pure (Pure.as (lv := .atom _) rfl) rfl ?_ | refine LOps.pure (Pure.seq rfl rfl) rfl ?_
 by_cases h2 : op = [118, 97, 114]
 ·subst h2
  rw [if_pos rfl] at hI
  unfold useE at huse
  rw [if_pos (show ([118, 97, 114] : List UInt8) = nVar from rfl)] at huse
  have hpl := key_placed hf huse
  obtain ⟨b, hb1, hb3⟩ := hC.block hpl
  obtain ⟨G, hG1, _⟩ := st_sc hC hb1 hs2
  refine LCode.cond rfl (fun hc => ?_) (fun hc => by cases hc)
  repeat first | refine LCode.seq ?_ | refine LCode.region ?_ | refine LOps.pure (Pure.mv (lv := .atom _) rfl) rfl ?_ | refine LOps.pure (Pure.fieldH rfl) rfl ?_ | refine LOps.pure (Pure.loadH (c := .atom _) rfl (List.Mem.head _) rfl) rfl ?_ | refine LOps.pure (Pure.ldHAgg (cs' := [_, _, _, _]) rfl (List.Mem.tail _ (List.Mem.head _)) rfl rfl) rfl ?_
  refine LOps.step (S.callS [_, _, _] rfl swap2 (scalar_spec hC hs2 hf hpl hb3) ?_) rfl
  refine LOps.perm (swap2 (H := Hs)).symm ?_
  refine LOps.pure (Pure.nilCheckH rfl) rfl ?_
  refine LOps.pure (Pure.loadH (c := u32 (s2.sc (keyI f name))) rfl (List.mem_cons_of_mem _ (List.mem_cons_of_mem _ (hG1.mem_iff.2 (List.mem_cons_self ..)))) rfl) rfl ?_
  repeat first | refine LOps.nil ?_ | refine LCode.ret ?_ | refine QThen.normal ?_ | refine QThen.ret ?_ | refine QBlock.ret ?_ | refine LOps.pure (Pure.as (lv := .atom _) rfl) rfl ?_
  exact retI (v := s2.sc (keyI f name)) hj (AllRes.cons (ResIs.tmp (v := .atom _) rfl (LV.Sub.refl _)) AllRes.nil) hI.symm rfl (HSub.drop (HSub.drop (HSub.refl _))) hs2
 refine LCode.cond rfl (fun hc => absurd (of_decide_eq_true hc) h2) (fun _ => ?_)
 rw [if_neg h2] at hI
 repeat first | refine LOps.nil ?_ | refine LCode.seq ?_ | refine LCode.region ?_ | refine QThen.normal ?_ | refine LOps.pure (Pure.as (lv := .atom _) rfl) rfl ?_ | refine LOps.pure (Pure.seq rfl rfl) rfl ?_
 by_cases h3 : op = [101, 108, 101, 109]
 ·subst h3
  rw [if_pos rfl] at hI
  unfold useE at huse
  rw [if_neg (by decide), if_pos (show ([101, 108, 101, 109] : List UInt8) = nElem from rfl)] at huse
  have hpl : name ∈ c.p.arrays.map (·.name) := by
   unfold arrayE at huse
   split at huse
   ·rename_i h
    exact h
   ·split at huse <;> cases huse
  obtain ⟨b, m, hb1, hb3⟩ := hC.arr hpl
  obtain ⟨hlen2, G, hG1, _⟩ := st_ar hC hb1 hs2
  obtain ⟨a, rfl⟩ : ∃ a, vs = [a] := one_of (by
   rcases hop with h | h
   ·exact absurd h (by decide)
   ·have h9 : (1 : Int) = (vs.length : Int) := h
    omega)
  have ha : a < 4294967296 := hvlt a (List.mem_cons_self ..)
  refine LCode.cond rfl (fun hc => ?_) (fun hc => by cases hc)
  repeat first | refine LCode.seq ?_
  refine LCode.tail 6 (by kernel_rfl) ?_
  repeat first | refine LS.pure (Pure.mv (lv := .atom _) rfl) rfl ?_ | refine LS.pure (Pure.fieldH rfl) rfl ?_ | refine LS.pure (Pure.loadH (c := .atom _) rfl (List.Mem.head _) rfl) rfl ?_ | refine LS.pure (Pure.mv (lv := .list _) rfl) rfl ?_
  refine LS.pure (Pure.ixRef (el' := u32 a) (cs := [u32 a]) rfl rfl (by omega) rfl rfl rfl) rfl ?_
  repeat first | refine LS.pure (Pure.loadRef (c := .atom _) rfl rfl) rfl ?_ | refine LS.nil ?_
  refine LOps.step (S.callH (H1 := Hs) [_, _, _] rfl swap2 (element_spec hC hs2 hb1 hb3 ha) ?_ ?_) rfl
  ·rintro lv H' ⟨rfl, h⟩
   by_cases hin : a < m
   ·rw [if_pos hin] at h
    cases h
    have hget : (s2.ar name)[a]? = some (s2.ar name)[a] := List.getElem?_eq_getElem (by omega)
    have hI' : (match (s2.ar name)[a]? with
     | some v => IR.ok v s2
     | none => .stop 2 s2) = R := hI
    rw [hget] at hI'
    refine LOps.pure (Pure.nilCheckH rfl) rfl ?_
    refine LOps.pure (Pure.loadH (c := u32 (s2.ar name)[a]) rfl (List.mem_append_left _ (hG1.mem_iff.2 (List.mem_cons_self ..))) (by rw [List.getElem?_map, hget]; rfl)) rfl ?_
    repeat first | refine LOps.nil ?_ | refine LCode.ret ?_ | refine QThen.normal ?_ | refine QThen.ret ?_ | refine QBlock.ret ?_ | refine LOps.pure (Pure.as (lv := .atom _) rfl) rfl ?_
    exact retI (v := (s2.ar name)[a]) hj (AllRes.cons (ResIs.tmp (v := .atom _) rfl (LV.Sub.refl _)) AllRes.nil) hI'.symm rfl hsub_left hs2
   ·rw [if_neg hin] at h
    cases h
  ·rintro ch H' ⟨rfl, h⟩ e' he'
   by_cases hin : a < m
   ·rw [if_pos hin] at h
    cases h
   ·rw [if_neg hin] at h
    cases h
    have hget : (s2.ar name)[a]? = none := List.getElem?_eq_none (by omega)
    have hI' : (match (s2.ar name)[a]? with
     | some v => IR.ok v s2
     | none => .stop 2 s2) = R := hI
    rw [hget] at hI'
    repeat first | refine QThen.panic ?_ | refine QBlock.panic ?_
    exact panI_ (he'.trans hj) hI'.symm hsub_left hs2
 refine LCode.cond rfl (fun hc => absurd (of_decide_eq_true hc) h3) (fun _ => ?_)
 rw [if_neg h3] at hI
 repeat first | refine LOps.nil ?_ | refine LCode.seq ?_ | refine LCode.region ?_ | refine QThen.normal ?_ | refine LOps.pure (Pure.as (lv := .atom _) rfl) rfl ?_ | refine LOps.pure (Pure.seq rfl rfl) rfl ?_
 by_cases h4 : op = [110, 101, 103]
 ·subst h4
  rw [if_pos rfl] at hI
  obtain ⟨a, rfl⟩ : ∃ a, vs = [a] := one_of (by
   rcases hop with h | h
   ·exact absurd h (by decide)
   ·have h9 : (1 : Int) = (vs.length : Int) := h
    omega)
  have ha : a < 4294967296 := hvlt a (List.mem_cons_self ..)
  refine LCode.cond rfl (fun hc => ?_) (fun hc => by cases hc)
  repeat first | refine LCode.seq ?_ | refine LCode.region ?_ | refine LOps.pure (Pure.mv (lv := .list _) rfl) rfl ?_
  refine LOps.pure (Pure.ixRef (el' := u32 a) (cs := [u32 a]) rfl rfl (by omega) rfl rfl rfl) rfl ?_
  repeat first | refine LOps.pure (Pure.loadRef (c := .atom _) rfl rfl) rfl ?_
  refine LOps.pure (Pure.negW rfl) rfl ?_
  repeat first | refine LOps.nil ?_ | refine LCode.ret ?_ | refine QThen.normal ?_ | refine QThen.ret ?_ | refine QBlock.ret ?_ | refine LOps.pure (Pure.as (lv := .atom _) rfl) rfl ?_
  exact retI (v := (4294967296 - a) % 4294967296) hj (AllRes.cons (ResIs.tmp (v := .atom _) rfl (LV.Sub.refl _)) AllRes.nil) hI.symm (int_eq (neg_u32 ha)) (HSub.drop (HSub.drop (HSub.refl _))) hs2
 refine LCode.cond rfl (fun hc => absurd (of_decide_eq_true hc) h4) (fun _ => ?_)
 rw [if_neg h4] at hI
 repeat first | refine LOps.nil ?_ | refine LCode.seq ?_ | refine LCode.region ?_ | refine QThen.normal ?_ | refine LOps.pure (Pure.as (lv := .atom _) rfl) rfl ?_ | refine LOps.pure (Pure.seq rfl rfl) rfl ?_
 by_cases h5 : op = [110, 111, 116]
 ·subst h5
  rw [if_pos rfl] at hI
  obtain ⟨a, rfl⟩ : ∃ a, vs = [a] := one_of (by
   rcases hop with h | h
   ·exact absurd h (by decide)
   ·have h9 : (1 : Int) = (vs.length : Int) := h
    omega)
  refine LCode.cond rfl (fun hc => ?_) (fun hc => by cases hc)
  repeat first | refine LCode.seq ?_ | refine LCode.region ?_ | refine LOps.pure (Pure.mv (lv := .list _) rfl) rfl ?_
  refine LOps.pure (Pure.ixRef (el' := u32 a) (cs := [u32 a]) rfl rfl (by omega) rfl rfl rfl) rfl ?_
  repeat first | refine LOps.pure (Pure.loadRef (c := .atom _) rfl rfl) rfl ?_ | refine LOps.pure (Pure.eql rfl rfl) rfl ?_
  refine LOps.step (S.callS (F := []) [_] rfl (by rw [List.append_nil]) (truth_spec _) ?_) rfl
  rw [List.append_nil]
  repeat first | refine LOps.nil ?_ | refine LCode.ret ?_ | refine QThen.normal ?_ | refine QThen.ret ?_ | refine QBlock.ret ?_ | refine LOps.pure (Pure.as (lv := .atom _) rfl) rfl ?_
  exact retI (v := b2n (decide (a = 0))) hj (AllRes.cons (ResIs.tmp (v := .atom _) rfl (LV.Sub.refl _)) AllRes.nil) hI.symm (congrArg u32 (b2n_dec (by omega))) (HSub.drop (HSub.drop (HSub.refl _))) hs2
 refine LCode.cond rfl (fun hc => absurd (of_decide_eq_true hc) h5) (fun _ => ?_)
 rw [if_neg h5] at hI
 repeat first | refine LOps.nil ?_ | refine LCode.seq ?_ | refine LCode.region ?_ | refine QThen.normal ?_ | refine LOps.pure (Pure.as (lv := .atom _) rfl) rfl ?_ | refine LOps.pure (Pure.seq rfl rfl) rfl ?_
 by_cases h6 : op = [99, 97, 108, 108]
 ·subst h6
  rw [if_pos rfl] at hI
  unfold useE at huse
  rw [if_neg (by decide), if_neg (by decide), if_pos (show ([99, 97, 108, 108] : List UInt8) = nCall from rfl)] at huse
  refine LCode.cond rfl (fun hc => ?_) (fun hc => by cases hc)
  repeat first | refine LCode.seq ?_ | refine LCode.region ?_ | refine LOps.pure (Pure.mv (lv := .atom _) rfl) rfl ?_ | refine LOps.pure (Pure.fieldH rfl) rfl ?_ | refine LOps.pure (Pure.loadH (c := .atom _) rfl (List.Mem.head _) rfl) rfl ?_ | refine LOps.pure (Pure.mv (lv := .list _) rfl) rfl ?_
  refine LOps.step (S.callI [_, _, _] rfl swap2 (call_spec hC hB hk huse hvlt hb2 hl2 hroom hs2) (fun v s3 H3 hr3 hs3 => ?_) (fun er s3 H3 hr3 hs3 e' he' => ?_)) rfl
  ·rw [hr3] at hI
   repeat first | refine LOps.nil ?_ | refine LCode.ret ?_ | refine QThen.normal ?_ | refine QThen.ret ?_ | refine QBlock.ret ?_ | refine LOps.pure (Pure.as (lv := .atom _) rfl) rfl ?_
   exact retI (v := v) hj (AllRes.cons (ResIs.tmp (v := .atom _) rfl (LV.Sub.refl _)) AllRes.nil) hI.symm rfl hsub_left hs3
  ·repeat first | refine QThen.panic ?_ | refine QBlock.panic ?_
   rw [hr3] at hI
   exact panI_ (he'.trans hj) hI.symm hsub_left hs3
 refine LCode.cond rfl (fun hc => absurd (of_decide_eq_true hc) h6) (fun _ => ?_)
 rw [if_neg h6] at hI
 repeat first | refine LCode.seq ?_ | refine LCode.skip ?_ | refine QThen.normal ?_ | refine QBlock.normal ?_
 have hbin : op ∈ binOps ∧ vs.length = 2 := by
  unfold opnds at hop
  rw [if_neg (fun h => h.elim h1 h2), if_neg (fun h => h.elim h3 (fun h => h.elim h4 h5)), if_neg (show ¬ op = nCall from h6)] at hop
  split at hop
  ·rename_i h
   refine ⟨h, ?_⟩
   rcases hop with h | h <;> omega
  ·rcases hop with h | h <;> omega
 obtain ⟨hbo, hv2⟩ := hbin
 obtain ⟨a, b2, rfl⟩ := two_of hv2
 have ha : a < 4294967296 := hvlt a (List.mem_cons_self ..)
 have hb : b2 < 4294967296 := hvlt b2 (List.mem_cons_of_mem _ (List.mem_cons_self ..))
 obtain ⟨fi, caps, hkv, hte, hcall⟩ := binop_spec (B0 := B0) (w0 := w0) (db := c.db) hbo ha hb
 have hs3 := hs2
 obtain ⟨hl, hle, v, Ha, hacc, rfl⟩ := hs2
 refine LCode.tail 13 (by kernel_rfl) ?_
 repeat first | refine LS.pure (Pure.mv (lv := .atom _) rfl) rfl ?_ | refine LS.pure (Pure.fieldH rfl) rfl ?_ | refine LS.pure (Pure.loadH (c := .atom _) rfl (List.Mem.head _) rfl) rfl ?_ | refine LS.pure (Pure.loadH (c := .atom _) rfl (List.Mem.tail _ (List.Mem.tail _ (List.Mem.head _))) rfl) rfl ?_ | refine LS.pure (Pure.nilCheckH rfl) rfl ?_
 refine LS.pure (Pure.kvHit rfl rfl (List.Mem.tail _ (List.Mem.tail _ (List.Mem.tail _ (List.Mem.tail _ (List.Mem.tail _ (List.Mem.tail _ (List.Mem.head _))))))) hkv) rfl ?_
 repeat first | refine LS.pure (Pure.mv (lv := .list _) rfl) rfl ?_
 refine LS.pure (Pure.ixRef (el' := u32 a) (cs := [u32 a]) rfl rfl (by omega) rfl rfl rfl) rfl ?_
 repeat first | refine LS.pure (Pure.loadRef (c := .atom _) rfl rfl) rfl ?_ | refine LS.pure (Pure.mv (lv := .list _) rfl) rfl ?_
 refine LS.pure (Pure.ixRef (el' := u32 b2) (cs := [u32 b2]) rfl rfl (by omega) rfl rfl rfl) rfl ?_
 repeat first | refine LS.pure (Pure.loadRef (c := .atom _) rfl rfl) rfl ?_ | refine LS.nil ?_
 have hpick : Pick (divH c.db) ((b5, .cells 170 [str op, u32 num, str name, .list (args.map encE)]) :: (b4, .cells 63 [str f.name, .list (f.params.map str), .list (f.locals.map str), .list (f.body.map encS)]) :: stH c s2 v Ha) _ := Pick.there (Pick.there (Pick.there (Pick.there (Pick.there (Pick.there (Pick.there Pick.here))))))
 refine LOps.step (S.callV (f := fi) (first := #[]) (caps := caps) (H1 := [divH c.db]) [_, _] rfl rfl hpick hcall ?_ ?_) rfl
 ·rintro lv H' ⟨rfl, h⟩
  have hI' : (match binI op a b2 with
   | some v => IR.ok v s2
   | none => .stop 12 s2) = R := hI
  cases hb9 : binI op a b2 with
  | none => rw [hb9] at h; cases h
  | some y =>
   rw [hb9] at h hI'
   cases h
   repeat first | refine LOps.nil ?_ | refine LCode.ret ?_ | refine QThen.normal ?_ | refine LOps.pure (Pure.as (lv := .atom _) rfl) rfl ?_
   exact retI (v := y) hj (AllRes.cons (ResIs.tmp (v := .atom _) rfl (LV.Sub.refl _)) AllRes.nil) hI'.symm rfl (hsub_perm (List.Perm.symm hpick) (HSub.drop (HSub.drop (HSub.refl _)))) hs3
 ·rintro ch H' ⟨rfl, h⟩ e' he'
  have hI' : (match binI op a b2 with
   | some v => IR.ok v s2
   | none => .stop 12 s2) = R := hI
  cases hb9 : binI op a b2 with
  | some y => rw [hb9] at h; cases h
  | none =>
   rw [hb9] at h hI'
   cases h
   repeat first | refine QThen.panic ?_
   exact panI_ (he'.trans hj) hI'.symm (hsub_perm (List.Perm.symm hpick) (HSub.drop (HSub.drop (HSub.refl _)))) hs3
theorem eval_zero {c : Cfg} (hC : CfgOk c) : EvalH B0 w0 c 0 := by
 intro f kn x s H hf hk hv hnum hsm hg hs
 have ht : tick s = .stop 13 s := by rw [tick, if_pos (Nat.le_zero.1 hg.2.1)]
 obtain ⟨op, num, name, args⟩ := x
 rw [encE_mk]
 refine LCalls.intro Tryz.func158 rfl (n := 92) rfl rfl rfl ?_
 repeat first | refine LCode.seq ?_ | refine LCode.region ?_
 refine LOps.step (S.box rfl fun b4 => ?_) rfl
 refine LOps.step (S.box rfl fun b5 => ?_) rfl
 repeat first | refine LOps.nil ?_ | refine LCode.seq ?_ | refine LCode.region ?_ | refine QThen.normal ?_ | refine LOps.pure (Pure.as (lv := .atom _) rfl) rfl ?_ | refine LOps.pure (Pure.mv (lv := .atom _) rfl) rfl ?_
 refine LOps.step (S.callI [_] rfl swap2 (step_spec hC hs) (fun u s1 H1 hr hs1 => ?_) (fun er s1 H1 hr hs1 e' he' => ?_)) rfl
 ·rw [ht] at hr
  cases hr
 ·rw [ht] at hr
  cases hr
  repeat first | refine QThen.panic ?_
  exact panI_ (he'.trans rfl) (by rw [evI]) hsub_left hs1
theorem exec_zero {c : Cfg} (hC : CfgOk c) : ExecH B0 w0 c 0 := by
 intro f kn x s H hf hk hv hnum hsm hg hs
 have ht : tick s = .stop 13 s := by rw [tick, if_pos (Nat.le_zero.1 hg.2.1)]
 obtain ⟨kind, name, index, value, thn, els⟩ := x
 rw [encS_mk]
 refine LCalls.intro Tryz.func109 rfl (n := 93) rfl rfl rfl ?_
 repeat first | refine LCode.seq ?_ | refine LCode.region ?_
 refine LOps.step (S.box rfl fun b4 => ?_) rfl
 refine LOps.step (S.box rfl fun b5 => ?_) rfl
 repeat first | refine LOps.nil ?_ | refine LCode.seq ?_ | refine LCode.region ?_ | refine QThen.normal ?_ | refine LOps.pure (Pure.as (lv := .atom _) rfl) rfl ?_ | refine LOps.pure (Pure.mv (lv := .atom _) rfl) rfl ?_
 refine LOps.step (S.callI [_] rfl swap2 (step_spec hC hs) (fun u s1 H1 hr hs1 => ?_) (fun er s1 H1 hr hs1 e' he' => ?_)) rfl
 ·rw [ht] at hr
  cases hr
 ·rw [ht] at hr
  cases hr
  repeat first | refine QThen.panic ?_
  exact panI_ (he'.trans rfl) (by rw [stI]) hsub_left hs1
/-- All executions, by the steps that are left. -/
theorem run_all {c : Cfg} (hC : CfgOk c) : ∀ n : Nat, EvalH B0 w0 c n ∧ ExecH B0 w0 c n
 | 0 => ⟨eval_zero hC, exec_zero hC⟩
 | n + 1 => by
  obtain ⟨h1, h2⟩ := run_all hC n
  have hB := block_spec hC h2
  exact ⟨eval_spec hC h1 hB, execute_spec hC h1 hB⟩
end
end Go.Proofs.YtcbpcianefpniaaGreatDoor.Inp
namespace Go.Proofs
def Tryz.lays283_ren : Go.Shelf.Ren := ⟨fun | 283 => 114 | n => n, fun | 3 => 3 | 9 => 9 | 4 => 4 | n => n, fun | n => n⟩
theorem Tryz.lays283 : Go.Proofs.Lays.n283 Tryz.prog Tryz.lays283_ren := {
 mixed := by kernel_rfl
 f283 := Tryz.func114.trans (congrArg some (by kernel_rfl))
 t3 := Tryz.underlying3
 a3 := Tryz.isAgg3
 z3 := Tryz.sizeOf3
 v3 := Tryz.zeroValue3
 t4 := Tryz.underlying4
 a4 := Tryz.isAgg4
 z4 := Tryz.sizeOf4
 v4 := Tryz.zeroValue4
 t9 := Tryz.underlying9
 a9 := Tryz.isAgg9
 z9 := Tryz.sizeOf9
 v9 := Tryz.zeroValue9 }
open Go.Lib in
theorem Tryz.internal_strconv_small (i : Nat) (h : i < 100) (w : World) :
  Calls Tryz.prog 114 #[.int .i64 i] w fun e w' => e = .returned (.string ⟨(Lib.decDigits i).toArray⟩) ∧ w' = w := Any.internal_strconv_small Tryz.lays283 i h w
def Tryz.laysM284_ren : Go.Shelf.Ren := ⟨fun | 284 => 115 | 129 => 165 | 317 => 164 | 318 => 166 | n => n, fun | 53 => 84 | 3 => 3 | 212 => 205 | 0 => 0 | 4 => 4 | 46 => 46 | 5 => 5 | 9 => 9 | n => n, fun | 17 => 1 | n => n⟩
theorem Tryz.laysM284 : Go.Proofs.LaysM.n284 Tryz.prog Tryz.laysM284_ren := {
 mixed := by kernel_rfl
 f129 := Tryz.func165.trans (congrArg some (by kernel_rfl))
 f284 := Tryz.func115.trans (congrArg some (by kernel_rfl))
 f317 := Tryz.func164.trans (congrArg some (by kernel_rfl))
 f318 := Tryz.func166.trans (congrArg some (by kernel_rfl))
 t0 := Tryz.underlying0
 a0 := Tryz.isAgg0
 z0 := Tryz.sizeOf0
 v0 := Tryz.zeroValue0
 t3 := Tryz.underlying3
 a3 := Tryz.isAgg3
 z3 := Tryz.sizeOf3
 v3 := Tryz.zeroValue3
 t4 := Tryz.underlying4
 a4 := Tryz.isAgg4
 z4 := Tryz.sizeOf4
 v4 := Tryz.zeroValue4
 t5 := Tryz.underlying5
 a5 := Tryz.isAgg5
 z5 := Tryz.sizeOf5
 v5 := Tryz.zeroValue5
 t9 := Tryz.underlying9
 a9 := Tryz.isAgg9
 z9 := Tryz.sizeOf9
 v9 := Tryz.zeroValue9
 t46 := Tryz.underlying46
 a46 := Tryz.isAgg46
 z46 := Tryz.sizeOf46
 v46 := Tryz.zeroValue46
 t53 := Tryz.underlying84
 a53 := Tryz.isAgg84
 z53 := Tryz.sizeOf84
 v53 := Tryz.zeroValue84
 t212 := Tryz.underlying205
 a212 := Tryz.isAgg205
 z212 := Tryz.sizeOf205
 v212 := Tryz.zeroValue205
 g17 := by kernel_rfl
 i0 := by kernel_rfl
 i3 := by kernel_rfl
 i4 := by kernel_rfl
 i5 := by kernel_rfl
 i9 := by kernel_rfl
 i46 := by kernel_rfl
 i53 := by kernel_rfl
 i212 := by kernel_rfl
 m17 := by kernel_rfl }
open Go.Lib in
theorem Tryz.internal_strconv_numDigits (u : Nat) (h1 : 1 ≤ u) (h2 : u < 18446744073709551616) (w : World) (htab : Lib.TabIs Tryz.prog w "internal/strconv.uint64pow10" .u64 Lib.pow10Tab) :
  Calls Tryz.prog 115 #[.int .u64 u] w fun e w' => e = .returned (.int .i64 (Lib.nDigits u)) ∧ w' = w := Any.internal_strconv_numDigits Tryz.laysM284 u h1 h2 w htab
def Tryz.lays285_ren : Go.Shelf.Ren := ⟨fun | 285 => 116 | n => n, fun | 37 => 42 | 53 => 84 | 3 => 3 | 4 => 4 | 51 => 43 | 9 => 9 | 5 => 5 | 0 => 0 | n => n, fun | n => n⟩
theorem Tryz.lays285 : Go.Proofs.Lays.n285 Tryz.prog Tryz.lays285_ren := {
 mixed := by kernel_rfl
 f285 := Tryz.func116.trans (congrArg some (by kernel_rfl))
 t0 := Tryz.underlying0
 a0 := Tryz.isAgg0
 z0 := Tryz.sizeOf0
 v0 := Tryz.zeroValue0
 t3 := Tryz.underlying3
 a3 := Tryz.isAgg3
 z3 := Tryz.sizeOf3
 v3 := Tryz.zeroValue3
 t4 := Tryz.underlying4
 a4 := Tryz.isAgg4
 z4 := Tryz.sizeOf4
 v4 := Tryz.zeroValue4
 t5 := Tryz.underlying5
 a5 := Tryz.isAgg5
 z5 := Tryz.sizeOf5
 v5 := Tryz.zeroValue5
 t9 := Tryz.underlying9
 a9 := Tryz.isAgg9
 z9 := Tryz.sizeOf9
 v9 := Tryz.zeroValue9
 t37 := Tryz.underlying42
 a37 := Tryz.isAgg42
 z37 := Tryz.sizeOf42
 v37 := Tryz.zeroValue42
 t51 := Tryz.underlying43
 a51 := Tryz.isAgg43
 z51 := Tryz.sizeOf43
 v51 := Tryz.zeroValue43
 t53 := Tryz.underlying84
 a53 := Tryz.isAgg84
 z53 := Tryz.sizeOf84
 v53 := Tryz.zeroValue84 }
open Go.RowKit Go.Sort Go.Lib in
theorem Tryz.internal_strconv_formatBase10 (blk off cap : Nat) (u : Nat) (d : Array UInt8) (w : World) (hH : Holds (fun (b : UInt8) => Value.int .u8 (b.toNat : Int)) w blk off d) (hu : u < 10 ^ d.size) (hu64 : u < 18446744073709551616) (hsz : d.size < 4611686018427387904) :
  Calls Tryz.prog 116 #[.slice (some ⟨blk, off, none⟩) d.size cap, .int .u64 u] w fun e w' =>
   e = .returned (.tuple #[]) ∧ ∃ (n v' : Nat) (dk : Array UInt8), w' = (putRow (fun (b : UInt8) => Value.int .u8 (b.toNat : Int)) w blk off dk).drewN n ∧ FmtInv d.size u 0 v' dk := Any.internal_strconv_formatBase10 Tryz.lays285 blk off cap u d w hH hu hu64 hsz
def Tryz.laysM171_ren : Go.Shelf.Ren := ⟨fun | 171 => 176 | 243 => 193 | 246 => 210 | 283 => 114 | 284 => 115 | 285 => 116 | 286 => 117 | 129 => 165 | 317 => 164 | 318 => 166 | 319 => 167 | 320 => 168 | 337 => 189 | 338 => 190 | n => n, fun | 3 => 3 | 9 => 9 | 2 => 2 | 4 => 4 | 171 => 184 | 0 => 0 | 53 => 84 | 37 => 42 | 5 => 5 | 173 => 187 | 212 => 205 | 51 => 43 | 20 => 20 | 213 => 206 | 46 => 46 | 232 => 231 | 233 => 232 | n => n, fun | 17 => 1 | 18 => 4 | 19 => 5 | n => n⟩
theorem Tryz.laysM171 : Go.Proofs.LaysM.n171 Tryz.prog Tryz.laysM171_ren := {
 mixed := by kernel_rfl
 f129 := Tryz.func165.trans (congrArg some (by kernel_rfl))
 f171 := Tryz.func176.trans (congrArg some (by kernel_rfl))
 f243 := Tryz.func193.trans (congrArg some (by kernel_rfl))
 f246 := Tryz.func210.trans (congrArg some (by kernel_rfl))
 f283 := Tryz.func114.trans (congrArg some (by kernel_rfl))
 f284 := Tryz.func115.trans (congrArg some (by kernel_rfl))
 f285 := Tryz.func116.trans (congrArg some (by kernel_rfl))
 f286 := Tryz.func117.trans (congrArg some (by kernel_rfl))
 f317 := Tryz.func164.trans (congrArg some (by kernel_rfl))
 f318 := Tryz.func166.trans (congrArg some (by kernel_rfl))
 f319 := Tryz.func167.trans (congrArg some (by kernel_rfl))
 f320 := Tryz.func168.trans (congrArg some (by kernel_rfl))
 f337 := Tryz.func189.trans (congrArg some (by kernel_rfl))
 f338 := Tryz.func190.trans (congrArg some (by kernel_rfl))
 t0 := Tryz.underlying0
 a0 := Tryz.isAgg0
 z0 := Tryz.sizeOf0
 v0 := Tryz.zeroValue0
 t2 := Tryz.underlying2
 a2 := Tryz.isAgg2
 z2 := Tryz.sizeOf2
 v2 := Tryz.zeroValue2
 t3 := Tryz.underlying3
 a3 := Tryz.isAgg3
 z3 := Tryz.sizeOf3
 v3 := Tryz.zeroValue3
 t4 := Tryz.underlying4
 a4 := Tryz.isAgg4
 z4 := Tryz.sizeOf4
 v4 := Tryz.zeroValue4
 t5 := Tryz.underlying5
 a5 := Tryz.isAgg5
 z5 := Tryz.sizeOf5
 v5 := Tryz.zeroValue5
 t9 := Tryz.underlying9
 a9 := Tryz.isAgg9
 z9 := Tryz.sizeOf9
 v9 := Tryz.zeroValue9
 t20 := Tryz.underlying20
 a20 := Tryz.isAgg20
 z20 := Tryz.sizeOf20
 v20 := Tryz.zeroValue20
 t37 := Tryz.underlying42
 a37 := Tryz.isAgg42
 z37 := Tryz.sizeOf42
 v37 := Tryz.zeroValue42
 t46 := Tryz.underlying46
 a46 := Tryz.isAgg46
 z46 := Tryz.sizeOf46
 v46 := Tryz.zeroValue46
 t51 := Tryz.underlying43
 a51 := Tryz.isAgg43
 z51 := Tryz.sizeOf43
 v51 := Tryz.zeroValue43
 t53 := Tryz.underlying84
 a53 := Tryz.isAgg84
 z53 := Tryz.sizeOf84
 v53 := Tryz.zeroValue84
 t171 := Tryz.underlying184
 a171 := Tryz.isAgg184
 z171 := Tryz.sizeOf184
 v171 := Tryz.zeroValue184
 t173 := Tryz.underlying187
 a173 := Tryz.isAgg187
 z173 := Tryz.sizeOf187
 v173 := Tryz.zeroValue187
 t212 := Tryz.underlying205
 a212 := Tryz.isAgg205
 z212 := Tryz.sizeOf205
 v212 := Tryz.zeroValue205
 t213 := Tryz.underlying206
 a213 := Tryz.isAgg206
 z213 := Tryz.sizeOf206
 t232 := Tryz.underlying231
 a232 := Tryz.isAgg231
 z232 := Tryz.sizeOf231
 v232 := Tryz.zeroValue231
 t233 := Tryz.underlying232
 a233 := Tryz.isAgg232
 z233 := Tryz.sizeOf232
 v233 := Tryz.zeroValue232
 g17 := by kernel_rfl
 g18 := by kernel_rfl
 g19 := by kernel_rfl
 i0 := by kernel_rfl
 i2 := by kernel_rfl
 i3 := by kernel_rfl
 i4 := by kernel_rfl
 i5 := by kernel_rfl
 i9 := by kernel_rfl
 i20 := by kernel_rfl
 i37 := by kernel_rfl
 i46 := by kernel_rfl
 i51 := by kernel_rfl
 i53 := by kernel_rfl
 i171 := by kernel_rfl
 i173 := by kernel_rfl
 i212 := by kernel_rfl
 i232 := by kernel_rfl
 i233 := by kernel_rfl
 m17 := by kernel_rfl
 m18 := by kernel_rfl
 m19 := by kernel_rfl }
open Go.RowKit Go.Sort Go.Lib in
theorem Tryz.strconv_Itoa (n : Int) (h0 : -9223372036854775808 ≤ n) (h1 : n ≤ 9223372036854775807) (w : World) (htab : Lib.TabIs Tryz.prog w "internal/strconv.uint64pow10" .u64 Lib.pow10Tab) :
  Calls Tryz.prog 176 #[.int .i64 n] w fun e w' => e = .returned (.string ⟨(Lib.itoa n).toArray⟩) ∧ ∃ k os, w' = grow (w.drewN k) os := Any.strconv_Itoa Tryz.laysM171 n h0 h1 w htab
def Tryz.laysPu14_ren : Go.Shelf.Ren := ⟨fun | 14 => 173 | 16 => 191 | 17 => 192 | 19 => 204 | 20 => 205 | 21 => 206 | 22 => 207 | 23 => 208 | 24 => 209 | 25 => 221 | 27 => 176 | 26 => 222 | 28 => 193 | 29 => 210 | 30 => 114 | 31 => 115 | 32 => 116 | 33 => 117 | 35 => 165 | 34 => 164 | 36 => 166 | 37 => 167 | 38 => 168 | 39 => 189 | 40 => 190 | n => n, fun | 9 => 9 | 3 => 3 | 22 => 84 | 24 => 146 | 25 => 217 | 4 => 4 | 34 => 233 | 5 => 5 | 36 => 46 | 37 => 42 | 0 => 0 | 39 => 235 | 21 => 21 | 44 => 247 | 47 => 191 | 50 => 256 | 48 => 254 | 2 => 2 | 52 => 184 | 55 => 187 | 59 => 205 | 60 => 43 | 20 => 20 | 61 => 206 | 65 => 231 | 66 => 232 | 67 => 112 | n => n, fun | 0 => 6 | 1 => 7 | 2 => 1 | 3 => 4 | 4 => 5 | n => n⟩
theorem Tryz.laysPu14 : Go.Proofs.LaysPu.n14 Tryz.prog Tryz.laysPu14_ren := {
 mixed := by kernel_rfl
 f14 := Tryz.func173.trans (congrArg some (by kernel_rfl))
 f16 := Tryz.func191.trans (congrArg some (by kernel_rfl))
 f17 := Tryz.func192.trans (congrArg some (by kernel_rfl))
 f19 := Tryz.func204.trans (congrArg some (by kernel_rfl))
 f20 := Tryz.func205.trans (congrArg some (by kernel_rfl))
 f21 := Tryz.func206.trans (congrArg some (by kernel_rfl))
 f22 := Tryz.func207.trans (congrArg some (by kernel_rfl))
 f23 := Tryz.func208.trans (congrArg some (by kernel_rfl))
 f24 := Tryz.func209.trans (congrArg some (by kernel_rfl))
 f25 := Tryz.func221.trans (congrArg some (by kernel_rfl))
 f26 := Tryz.func222.trans (congrArg some (by kernel_rfl))
 f27 := Tryz.func176.trans (congrArg some (by kernel_rfl))
 f28 := Tryz.func193.trans (congrArg some (by kernel_rfl))
 f29 := Tryz.func210.trans (congrArg some (by kernel_rfl))
 f30 := Tryz.func114.trans (congrArg some (by kernel_rfl))
 f31 := Tryz.func115.trans (congrArg some (by kernel_rfl))
 f32 := Tryz.func116.trans (congrArg some (by kernel_rfl))
 f33 := Tryz.func117.trans (congrArg some (by kernel_rfl))
 f34 := Tryz.func164.trans (congrArg some (by kernel_rfl))
 f35 := Tryz.func165.trans (congrArg some (by kernel_rfl))
 f36 := Tryz.func166.trans (congrArg some (by kernel_rfl))
 f37 := Tryz.func167.trans (congrArg some (by kernel_rfl))
 f38 := Tryz.func168.trans (congrArg some (by kernel_rfl))
 f39 := Tryz.func189.trans (congrArg some (by kernel_rfl))
 f40 := Tryz.func190.trans (congrArg some (by kernel_rfl))
 t0 := Tryz.underlying0
 a0 := Tryz.isAgg0
 z0 := Tryz.sizeOf0
 v0 := Tryz.zeroValue0
 i0 := by kernel_rfl
 t2 := Tryz.underlying2
 a2 := Tryz.isAgg2
 z2 := Tryz.sizeOf2
 v2 := Tryz.zeroValue2
 i2 := by kernel_rfl
 t3 := Tryz.underlying3
 a3 := Tryz.isAgg3
 z3 := Tryz.sizeOf3
 v3 := Tryz.zeroValue3
 i3 := by kernel_rfl
 t4 := Tryz.underlying4
 a4 := Tryz.isAgg4
 z4 := Tryz.sizeOf4
 v4 := Tryz.zeroValue4
 i4 := by kernel_rfl
 t5 := Tryz.underlying5
 a5 := Tryz.isAgg5
 z5 := Tryz.sizeOf5
 v5 := Tryz.zeroValue5
 i5 := by kernel_rfl
 t9 := Tryz.underlying9
 a9 := Tryz.isAgg9
 z9 := Tryz.sizeOf9
 v9 := Tryz.zeroValue9
 i9 := by kernel_rfl
 t20 := Tryz.underlying20
 a20 := Tryz.isAgg20
 z20 := Tryz.sizeOf20
 v20 := Tryz.zeroValue20
 i20 := by kernel_rfl
 t21 := Tryz.underlying21
 a21 := Tryz.isAgg21
 z21 := Tryz.sizeOf21
 v21 := Tryz.zeroValue21
 i21 := by kernel_rfl
 t22 := Tryz.underlying84
 a22 := Tryz.isAgg84
 z22 := Tryz.sizeOf84
 v22 := Tryz.zeroValue84
 i22 := by kernel_rfl
 t24 := Tryz.underlying146
 a24 := Tryz.isAgg146
 z24 := Tryz.sizeOf146
 v24 := Tryz.zeroValue146
 i24 := by kernel_rfl
 t25 := Tryz.underlying217
 a25 := Tryz.isAgg217
 z25 := Tryz.sizeOf217
 v25 := Tryz.zeroValue217
 i25 := by kernel_rfl
 t34 := Tryz.underlying233
 a34 := Tryz.isAgg233
 z34 := Tryz.sizeOf233
 v34 := Tryz.zeroValue233
 i34 := by kernel_rfl
 c34 := by kernel_rfl
 t36 := Tryz.underlying46
 a36 := Tryz.isAgg46
 z36 := Tryz.sizeOf46
 v36 := Tryz.zeroValue46
 i36 := by kernel_rfl
 t37 := Tryz.underlying42
 a37 := Tryz.isAgg42
 z37 := Tryz.sizeOf42
 v37 := Tryz.zeroValue42
 i37 := by kernel_rfl
 t39 := Tryz.underlying235
 a39 := Tryz.isAgg235
 z39 := Tryz.sizeOf235
 v39 := Tryz.zeroValue235
 i39 := by kernel_rfl
 t44 := Tryz.underlying247
 a44 := Tryz.isAgg247
 z44 := Tryz.sizeOf247
 v44 := Tryz.zeroValue247
 i44 := by kernel_rfl
 t47 := Tryz.underlying191
 a47 := Tryz.isAgg191
 z47 := Tryz.sizeOf191
 v47 := Tryz.zeroValue191
 i47 := by kernel_rfl
 t48 := Tryz.underlying254
 a48 := Tryz.isAgg254
 z48 := Tryz.sizeOf254
 v48 := Tryz.zeroValue254
 i48 := by kernel_rfl
 t50 := Tryz.underlying256
 a50 := Tryz.isAgg256
 z50 := Tryz.sizeOf256
 v50 := Tryz.zeroValue256
 i50 := by kernel_rfl
 t52 := Tryz.underlying184
 a52 := Tryz.isAgg184
 z52 := Tryz.sizeOf184
 v52 := Tryz.zeroValue184
 i52 := by kernel_rfl
 t55 := Tryz.underlying187
 a55 := Tryz.isAgg187
 z55 := Tryz.sizeOf187
 v55 := Tryz.zeroValue187
 i55 := by kernel_rfl
 t59 := Tryz.underlying205
 a59 := Tryz.isAgg205
 z59 := Tryz.sizeOf205
 v59 := Tryz.zeroValue205
 i59 := by kernel_rfl
 t60 := Tryz.underlying43
 a60 := Tryz.isAgg43
 z60 := Tryz.sizeOf43
 v60 := Tryz.zeroValue43
 i60 := by kernel_rfl
 t61 := Tryz.underlying206
 a61 := Tryz.isAgg206
 z61 := Tryz.sizeOf206
 t65 := Tryz.underlying231
 a65 := Tryz.isAgg231
 z65 := Tryz.sizeOf231
 v65 := Tryz.zeroValue231
 i65 := by kernel_rfl
 t66 := Tryz.underlying232
 a66 := Tryz.isAgg232
 z66 := Tryz.sizeOf232
 v66 := Tryz.zeroValue232
 i66 := by kernel_rfl
 t67 := Tryz.underlying112
 a67 := Tryz.isAgg112
 z67 := Tryz.sizeOf112
 v67 := Tryz.zeroValue112
 i67 := by kernel_rfl
 g0 := by kernel_rfl
 m0 := by kernel_rfl
 g1 := by kernel_rfl
 m1 := by kernel_rfl
 g2 := by kernel_rfl
 m2 := by kernel_rfl
 g3 := by kernel_rfl
 m3 := by kernel_rfl
 g4 := by kernel_rfl
 m4 := by kernel_rfl }
open Go.RowKit in
theorem Tryz.strconv_ParseUint_10_at32_ok (s : ByteArray) (hmax : s.size ≤ 9223372036854775806) (u : Nat) (h : Lib.parseUintB 32 s.data.toList = .ok u) (w : World) :
  Calls Tryz.prog 173 #[.string s, .int .i64 10, .int .i64 32] w fun e w' => e = .returned (.tuple #[.int .u64 u, .nilIface]) ∧ (w' = w ∨ w' = Lib.bytesWorld w 5 s) := Any.strconv_ParseUint_10_at32_ok Tryz.laysPu14 s hmax u h w
open Go.RowKit in
theorem Tryz.strconv_ParseUint_10_at32_range_var (s : ByteArray) (hlim : s.size ≤ 281474976710656) (h : Lib.parseUintB 32 s.data.toList = .range) (tp : TypeId) (p : Value) (w : World) (hvar : w.var? Tryz.prog "strconv.ErrRange" = some #[.iface tp p]) :
  Calls Tryz.prog 173 #[.string s, .int .i64 10, .int .i64 32] w fun e w' => ∃ N, e = .returned (.tuple #[.int .u64 4294967295, .iface 235 (.pointer (some ⟨N, 0, none⟩))]) ∧ w.heap.size ≤ N ∧ w'.heap[N]? = some (.cells #[.string ⟨#[80, 97, 114, 115, 101, 85, 105, 110, 116]⟩, .string s, .iface tp p] 247 (0, 0)) ∧ Below w.heap.size w w' := Any.strconv_ParseUint_10_at32_range_var Tryz.laysPu14 s hlim h tp p w hvar
def Tryz.lays144_ren : Go.Shelf.Ren := ⟨fun | 144 => 22 | 143 => 35 | 219 => 79 | 217 => 118 | 225 => 119 | 224 => 120 | 267 => 121 | 266 => 169 | 314 => 170 | n => n, fun | 9 => 9 | 4 => 4 | 3 => 3 | 5 => 5 | 46 => 46 | 146 => 208 | 51 => 43 | n => n, fun | 1 => 0 | n => n⟩
def Tryz.lays138_ren : Go.Shelf.Ren := ⟨fun | 138 => 80 | 195 => 122 | 218 => 123 | 143 => 35 | 219 => 79 | 217 => 118 | 225 => 119 | 224 => 120 | 267 => 121 | 266 => 169 | 314 => 170 | n => n, fun | 9 => 9 | 3 => 3 | 4 => 4 | 5 => 5 | 0 => 0 | 46 => 46 | 146 => 208 | 51 => 43 | n => n, fun | 1 => 0 | n => n⟩
theorem Tryz.lays138 : Go.Proofs.Lays.n138 Tryz.prog Tryz.lays138_ren := {
 mixed := by kernel_rfl
 f138 := Tryz.func80.trans (congrArg some (by kernel_rfl))
 f143 := Tryz.func35.trans (congrArg some (by kernel_rfl))
 f195 := Tryz.func122.trans (congrArg some (by kernel_rfl))
 f217 := Tryz.func118.trans (congrArg some (by kernel_rfl))
 f218 := Tryz.func123.trans (congrArg some (by kernel_rfl))
 f219 := Tryz.func79.trans (congrArg some (by kernel_rfl))
 f224 := Tryz.func120.trans (congrArg some (by kernel_rfl))
 f225 := Tryz.func119.trans (congrArg some (by kernel_rfl))
 f266 := Tryz.func169.trans (congrArg some (by kernel_rfl))
 f267 := Tryz.func121.trans (congrArg some (by kernel_rfl))
 f314 := Tryz.func170.trans (congrArg some (by kernel_rfl))
 t0 := Tryz.underlying0
 a0 := Tryz.isAgg0
 z0 := Tryz.sizeOf0
 v0 := Tryz.zeroValue0
 t3 := Tryz.underlying3
 a3 := Tryz.isAgg3
 z3 := Tryz.sizeOf3
 v3 := Tryz.zeroValue3
 t4 := Tryz.underlying4
 a4 := Tryz.isAgg4
 z4 := Tryz.sizeOf4
 v4 := Tryz.zeroValue4
 t5 := Tryz.underlying5
 a5 := Tryz.isAgg5
 z5 := Tryz.sizeOf5
 v5 := Tryz.zeroValue5
 t9 := Tryz.underlying9
 a9 := Tryz.isAgg9
 z9 := Tryz.sizeOf9
 v9 := Tryz.zeroValue9
 t46 := Tryz.underlying46
 a46 := Tryz.isAgg46
 z46 := Tryz.sizeOf46
 v46 := Tryz.zeroValue46
 t51 := Tryz.underlying43
 a51 := Tryz.isAgg43
 z51 := Tryz.sizeOf43
 v51 := Tryz.zeroValue43
 t146 := Tryz.underlying208
 a146 := Tryz.isAgg208
 z146 := Tryz.sizeOf208
 v146 := Tryz.zeroValue208
 g1 := by kernel_rfl }
open Go.RowKit Go.Lib in
theorem Tryz.strings_Count_one (s : ByteArray) (c : UInt8) (w : World) :
  Calls Tryz.prog 80 #[.string s, .string ⟨#[c]⟩] w fun e w' => e = .returned (.int .i64 (Lib.countByte s.data.toList c)) ∧ w' = w := Any.strings_Count_one Tryz.lays138 s c w
def Tryz.lays99_ren : Go.Shelf.Ren := ⟨fun | 99 => 18 | 206 => 33 | n => n, fun | 9 => 9 | 4 => 4 | 3 => 3 | n => n, fun | n => n⟩
theorem Tryz.lays99 : Go.Proofs.Lays.n99 Tryz.prog Tryz.lays99_ren := {
 mixed := by kernel_rfl
 f99 := Tryz.func18.trans (congrArg some (by kernel_rfl))
 f206 := Tryz.func33.trans (congrArg some (by kernel_rfl))
 t3 := Tryz.underlying3
 a3 := Tryz.isAgg3
 z3 := Tryz.sizeOf3
 v3 := Tryz.zeroValue3
 t4 := Tryz.underlying4
 a4 := Tryz.isAgg4
 z4 := Tryz.sizeOf4
 v4 := Tryz.zeroValue4
 t9 := Tryz.underlying9
 a9 := Tryz.isAgg9
 z9 := Tryz.sizeOf9
 v9 := Tryz.zeroValue9 }
open Go.RowKit Go.Lib in
theorem Tryz.strings_HasPrefix (s p : ByteArray) (w : World) :
  Calls Tryz.prog 18 #[.string s, .string p] w fun e w' => e = .returned (.bool (Lib.hasPrefix s.data.toList p.data.toList)) ∧ w' = w := Any.strings_HasPrefix Tryz.lays99 s p w
end Go.Proofs
namespace Go.Proofs.YtcbpcianefpniaaGreatDoor
open Go.GL Go.RowKit Go.Stele
set_option maxRecDepth 100000
set_option maxHeartbeats 4000000
attribute [local irreducible] LOps LCode LStep LCalls Go.GL.Pure QThen QBlock RetPost
section
variable {B0 : Nat} {w0 : World}
theorem run_spec {f : FuncId} [TEnter Tryz.prog f] (p : UInt8 → Bool) (hp : ∀ c : UInt8, LCalls (KC B0 w0) f [int .u8 c.toNat] [] (Ret (bool (p c)))) (s : List UInt8) (hs : s.length ≤ 1000000000) :
  LCalls (KC B0 w0) 127 [str s, .atom (.func (.func f) #[] #[])] [] (Ret (str (s.takeWhile p))) := by
 refine LCalls.intro Tryz.func127 rfl (n := 22) rfl rfl rfl ?_
 repeat first | refine LOps.nil ?_ | refine LCode.seq ?_ | refine LCode.region ?_ | refine LCode.block ?_ | refine QThen.normal ?_ | refine LOps.pure (Pure.as (lv := .atom _) rfl) rfl ?_
 refine LCode.loopI (fun k l H => ∃ m : Nat, k = s.length - m ∧ l = [(0, str s), (1, .atom (.func (.func f) #[] #[])), (5, int .i64 m)] ∧ H = [] ∧ m ≤ s.length ∧ s.takeWhile p = s.take m ++ (s.drop m).takeWhile p)
  ⟨_, _, _, ⟨0, rfl, rfl, rfl, by omega, by simp⟩, ⟨rfl, rfl, rfl, trivial⟩, HSub.refl _⟩ ?_
 rintro k l H ⟨m, rfl, rfl, rfl, hm, hI⟩ j hj
 repeat first | refine LCode.seq ?_ | refine LCode.region ?_ | refine LOps.pure (Pure.mv (lv := .atom _) rfl) rfl ?_ | refine LOps.pure (Pure.slen rfl) rfl ?_ | refine LOps.pure (Pure.lss rfl rfl) rfl ?_
 refine LOps.bcase 10 rfl (fun ht => ?_) (fun ht => ?_)
 ·have hlt : m < s.length := by simpa using ht
  repeat first | refine LOps.pure (Pure.mv (lv := .atom _) rfl) rfl ?_ | refine LOps.want rfl rfl ?_
  refine LOps.pure (Pure.sindex (c := s[m]) rfl rfl (by omega) (by simp)) rfl ?_
  refine LOps.want rfl rfl ?_
  refine LOps.step (S.fnV [_] rfl rfl (hp s[m]) ?_) rfl
  repeat first | refine LOps.nil ?_ | refine QThen.normal ?_ | refine LOps.pure (Pure.pickT (lv := .atom _) rfl rfl) rfl ?_
  refine LCode.cond rfl (fun hc => ?_) (fun hc => ?_)
  ·repeat first | refine LOps.nil ?_ | refine LCode.region ?_ | refine LCode.skip ?_ | refine LCode.block ?_ | refine QThen.normal ?_ | refine QBlock.normal ?_ | refine LOps.pure (Pure.as (lv := .atom _) rfl) rfl ?_ | refine LOps.pure (Pure.mv (lv := .atom _) rfl) rfl ?_ | refine LOps.pure (Pure.add rfl rfl (by omega)) rfl ?_
   exact ⟨_, _, _, by omega, ⟨m + 1, rfl, rfl, rfl, by omega, (takeWhile_step hlt hI).1 (by simpa using hc)⟩, ⟨rfl, rfl, int_eq (by omega), trivial⟩, HSub.refl _, hj⟩
  ·repeat first | refine LCode.seq ?_ | refine LCode.region ?_ | refine LCode.exit ?_ | refine QThen.normal ?_ | refine QThen.exit ?_ | refine QBlock.hit ?_ | refine LOps.pure (Pure.mv (lv := .atom _) rfl) rfl ?_
   refine LOps.pure (Pure.sslice (i := 0) (j := m) rfl rfl ⟨_, rfl⟩ (by omega) (by omega) (by omega)) rfl ?_
   repeat first | refine LOps.nil ?_ | refine LCode.ret ?_ | refine QThen.normal ?_ | refine LOps.pure (Pure.as (lv := .atom _) rfl) rfl ?_
   exact retRet hj (AllRes.cons (ResIs.tmp (v := .atom _) rfl (LV.Sub.refl _)) AllRes.nil) (by
    rw [(takeWhile_step hlt hI).2 (by simpa using hc)]
    simp [resLV])
 ·have hge : s.length ≤ m := by simpa using ht
  repeat first | refine LOps.nil ?_ | refine QThen.normal ?_ | refine LOps.pure (Pure.pickF (lv := .atom _) rfl rfl) rfl ?_ | refine LOps.skip rfl rfl rfl rfl ?_
  refine LCode.cond rfl (fun hc => ?_) (fun hc => ?_)
  ·cases hc
  ·repeat first | refine LCode.seq ?_ | refine LCode.region ?_ | refine LCode.exit ?_ | refine QThen.normal ?_ | refine QThen.exit ?_ | refine QBlock.hit ?_ | refine LOps.pure (Pure.mv (lv := .atom _) rfl) rfl ?_
   refine LOps.pure (Pure.sslice (i := 0) (j := m) rfl rfl ⟨_, rfl⟩ (by omega) (by omega) (by omega)) rfl ?_
   repeat first | refine LOps.nil ?_ | refine LCode.ret ?_ | refine QThen.normal ?_ | refine LOps.pure (Pure.as (lv := .atom _) rfl) rfl ?_
   exact retRet hj (AllRes.cons (ResIs.tmp (v := .atom _) rfl (LV.Sub.refl _)) AllRes.nil) (by
    rw [takeWhile_end hge hI]
    simp [resLV])
/-- strings.HasPrefix. -/
theorem hasPrefix_spec (s p : List UInt8) : LCalls (KC B0 w0) 18 [str s, str p] [] (Ret (bool (p.isPrefixOf s))) :=
 LCalls.ret_of (vs := [.string ⟨s.toArray⟩, .string ⟨p.toArray⟩]) fun w _ => (Go.Proofs.Tryz.strings_HasPrefix _ _ w).mono fun e w' he => by
  obtain ⟨h1, h2⟩ := he
  subst h2
  exact ⟨by simpa [Go.Lib.hasPrefix] using h1, Below.refl _ _⟩
theorem skip_spec (s : List UInt8) (hs : s.length ≤ 1000000000) : LCalls (KC B0 w0) 85 [str s] [] (Ret (int .i64 (skipLen s))) := by
 refine LCalls.intro Tryz.func85 rfl (n := 11) rfl rfl rfl ?_
 repeat first | refine LOps.nil ?_ | refine LCode.seq ?_ | refine LCode.region ?_ | refine QThen.normal ?_ | refine LOps.pure (Pure.as (lv := .atom _) rfl) rfl ?_ | refine LOps.pure (Pure.mv (lv := .atom _) rfl) rfl ?_
 refine LOps.step (S.fn [_, _] rfl (hasPrefix_spec s [47, 47]) ?_) rfl
 repeat first | refine LOps.nil ?_ | refine QThen.normal ?_
 refine LCode.cond rfl (fun hc => ?_) (fun hc => ?_)
 ·repeat first | refine LCode.seq ?_ | refine LCode.region ?_ | refine LOps.pure (Pure.mv (lv := .atom _) rfl) rfl ?_
  refine LOps.step (S.fn [_, _] rfl (run_spec notNl notNl_spec s hs) ?_) rfl
  repeat first | refine LOps.nil ?_ | refine LCode.ret ?_ | refine QThen.normal ?_ | refine QThen.ret ?_ | refine LOps.pure (Pure.as (lv := .atom _) rfl) rfl ?_ | refine LOps.pure (Pure.slen rfl) rfl ?_
  exact retRet rfl (AllRes.cons (ResIs.tmp (v := .atom _) rfl (LV.Sub.refl _)) AllRes.nil) (by simp only [resLV, skipLen, hc, if_true])
 ·repeat first | refine LCode.seq ?_ | refine LCode.region ?_ | refine LCode.skip ?_ | refine QThen.normal ?_ | refine LOps.pure (Pure.mv (lv := .atom _) rfl) rfl ?_
  refine LOps.step (S.fn [_, _] rfl (run_spec isWhite white_spec s hs) ?_) rfl
  repeat first | refine LOps.nil ?_ | refine LCode.ret ?_ | refine QThen.normal ?_ | refine LOps.pure (Pure.as (lv := .atom _) rfl) rfl ?_ | refine LOps.pure (Pure.slen rfl) rfl ?_
  exact retRet rfl (AllRes.cons (ResIs.tmp (v := .atom _) rfl (LV.Sub.refl _)) AllRes.nil) (by simp only [resLV, skipLen, hc, Bool.false_eq_true, if_false])
end
end Go.Proofs.YtcbpcianefpniaaGreatDoor
namespace Go.Proofs.YtcbpcianefpniaaGreatDoor
open Go Go.Shelf Go.RowKit Go.Sort Go.Lib
set_option maxHeartbeats 6400000
set_option maxRecDepth 100000
theorem formatUint_main (u : Nat) (hu64 : u < 18446744073709551616) (w : World) (htab : Lib.TabIs Tryz.prog w "internal/strconv.uint64pow10" .u64 Lib.pow10Tab) :
  Calls Tryz.prog 78 #[.int .u64 u, .int .i64 10] w fun e w' => e = .returned (.string ⟨(Lib.decDigits u).toArray⟩) ∧ Below w.heap.size w w' := by
 have mixed : Tryz.prog.follows .mixedOrders = true := by kernel_rfl
 have t3 := Tryz.underlying3; have a3 := Tryz.isAgg3; have z3 := Tryz.sizeOf3; have v3 := Tryz.zeroValue3
 have t9 := Tryz.underlying9; have a9 := Tryz.isAgg9; have z9 := Tryz.sizeOf9; have v9 := Tryz.zeroValue9
 have t4 := Tryz.underlying4; have a4 := Tryz.isAgg4; have z4 := Tryz.sizeOf4; have v4 := Tryz.zeroValue4
 have t142 := Tryz.underlying184; have a142 := Tryz.isAgg184; have z142 := Tryz.sizeOf184; have v142 := Tryz.zeroValue184
 have t0 := Tryz.underlying0; have a0 := Tryz.isAgg0; have z0 := Tryz.sizeOf0; have v0 := Tryz.zeroValue0
 have t119 := Tryz.underlying84; have a119 := Tryz.isAgg84; have z119 := Tryz.sizeOf84; have v119 := Tryz.zeroValue84
 have t85 := Tryz.underlying42; have a85 := Tryz.isAgg42; have z85 := Tryz.sizeOf42; have v85 := Tryz.zeroValue42
 have t5 := Tryz.underlying5; have a5 := Tryz.isAgg5; have z5 := Tryz.sizeOf5; have v5 := Tryz.zeroValue5
 have e137 : ∀ args w, (callFunc 114 args).run Tryz.prog w = .ok (.enter 114 args) w := enters_of Tryz.func114 (by kernel_rfl) rfl
 have e138 : ∀ args w, (callFunc 115 args).run Tryz.prog w = .ok (.enter 115 args) w := enters_of Tryz.func115 (by kernel_rfl) rfl
 have e139 : ∀ args w, (callFunc 116 args).run Tryz.prog w = .ok (.enter 116 args) w := enters_of Tryz.func116 (by kernel_rfl) rfl
 by_cases hs : u < 100
 ·go_enter Tryz.func78, Tryz.ntmps78
  go_wp2_with (go_at_fn (114); refine (Tryz.internal_strconv_small u hs _).mono ?_; rintro e w' ⟨rfl, rfl⟩)
  go_ret
  exact ⟨rfl, Below.refl _ _⟩
 ·have hu1 : 1 ≤ u := by omega
  have hnd20 : Lib.nDigits u ≤ 20 := by have := Lib.numDigits_eq u hu1 hu64; split at this <;> omega
  have hal : Tryz.prog.arrayLen 184 = 24 := by simp [Program.arrayLen, Tryz.underlying184]
  have hsl : ∀ W, (Instr.sliceAt 184 (.pointer (some ⟨w.heap.size, 0, none⟩)) none (some (.int .i64 (Lib.nDigits u : Int))) none).run Tryz.prog W = .ok (.slice (some ⟨w.heap.size, 0, none⟩) (Lib.nDigits u) 24) W := fun W => by
   rw [run_sliceAt_array_h W 184 ⟨w.heap.size, 0, none⟩ (by simp [Program.arrayLen, Program.elem, Tryz.underlying184]) .i64 (Lib.nDigits u : Int) (by omega) (by rw [hal]; omega)]
   go_simp
  have hH0 := Lib.holds_zero0 w 184 (Lib.nDigits u) (by omega)
  have hfmt := Tryz.internal_strconv_formatBase10 w.heap.size 0 24 u (Array.replicate (Lib.nDigits u) 0) (w.alloc (.cells Lib.zeros24 184)) hH0 (by rw [Array.size_replicate]; exact Lib.lt_pow_nDigits u) hu64 (by rw [Array.size_replicate]; omega)
  rw [Array.size_replicate] at hfmt
  have HH0 := Lib.hid hH0
  clear hH0 hal
  go_enter Tryz.func78, Tryz.ntmps78
  go_wp2_with (first
   | (go_at_fn (115); refine (Tryz.internal_strconv_numDigits u hu1 hu64 _ (Lib.tabIs_alloc htab _)).mono ?_; rintro e w' ⟨rfl, rfl⟩))
  go_at_fn (116)
  refine hfmt.mono ?_
  rintro e w' ⟨rfl, k, v', dk, rfl, hF⟩
  have hcv : (convert 42 9 (.slice (some ⟨w.heap.size, 0, none⟩) (Lib.nDigits u) 24)).run Tryz.prog ((putRow (fun (b : UInt8) => Value.int .u8 (b.toNat : Int)) (w.alloc (.cells Lib.zeros24 184)) w.heap.size 0 dk).drewN k) = .ok (.string ⟨(Lib.decDigits u).toArray⟩) ((putRow (fun (b : UInt8) => Value.int .u8 (b.toNat : Int)) (w.alloc (.cells Lib.zeros24 184)) w.heap.size 0 dk).drewN k) := by
   have h := run_convert_bytes_back (P := Tryz.prog) ((putRow (fun (b : UInt8) => Value.int .u8 (b.toNat : Int)) (w.alloc (.cells Lib.zeros24 184)) w.heap.size 0 dk).drewN k) 42 9 5 ⟨w.heap.size, 0, none⟩ 24 (Lib.decDigits u) Tryz.underlying42 Tryz.underlying5 Tryz.underlying9 (fun j hj => by
    rw [Lib.row_is_numeral hF j hj, Lib.add_plain, World.cell?_drewN]
    exact cell?_putRow (fun (b : UInt8) => Value.int .u8 (b.toNat : Int)) _ w.heap.size 0 _ dk HH0.out (by rw [hF.size, Array.size_replicate]) j (by rw [hF.size]; rw [Lib.decDigits_length] at hj; exact hj))
   rw [Lib.decDigits_length] at h
   exact h
  go_wp2
  go_ret
  refine ⟨rfl, ?_⟩
  obtain ⟨os, eo⟩ := Lib.fin_at w (.cells Lib.zeros24 184) dk k 0
  rw [eo]
  exact Lib.below_grow _ w (Nat.le_refl _) k os
end Go.Proofs.YtcbpcianefpniaaGreatDoor
namespace Go.Proofs.YtcbpcianefpniaaGreatDoor
open Go.GL Go.RowKit Go.Stele
set_option maxRecDepth 100000
set_option maxHeartbeats 4000000
attribute [local irreducible] LOps LCode LStep LCalls Go.GL.Pure QThen QBlock RetPost
/-- What the world before the call holds: the table of powers of ten, the error of the range. -/
structure GW (B0 : Nat) (w0 : World) : Prop where
 pow10 : Go.Lib.TabIs Tryz.prog w0 "internal/strconv.uint64pow10" .u64 Go.Lib.pow10Tab
 errRange : ∃ tp p, w0.var? Tryz.prog "strconv.ErrRange" = some #[.iface tp p]
 big : 8 ≤ B0
section
variable {B0 : Nat} {w0 : World}
theorem GW.tab (h : GW B0 w0) {w : World} (hb : Below B0 w0 w) : Go.Lib.TabIs Tryz.prog w "internal/strconv.uint64pow10" .u64 Go.Lib.pow10Tab := by
 have hg : Tryz.prog.globalNamed "internal/strconv.uint64pow10" = some 1 := by kernel_rfl
 exact var?_below hb hg (Nat.lt_of_lt_of_le (by decide) h.big) h.pow10
theorem GW.err (h : GW B0 w0) {w : World} (hb : Below B0 w0 w) : ∃ tp p, w.var? Tryz.prog "strconv.ErrRange" = some #[.iface tp p] := by
 have hg : Tryz.prog.globalNamed "strconv.ErrRange" = some 7 := by kernel_rfl
 obtain ⟨tp, p, hv⟩ := h.errRange
 exact ⟨tp, p, var?_below hb hg (Nat.lt_of_lt_of_le (by decide) h.big) hv⟩
theorem itoa_spec (hG : GW B0 w0) (u : Nat) (hu : u ≤ 9223372036854775807) : LCalls (KC B0 w0) 176 [int .i64 u] [] (Ret (str (Go.Lib.decDigits u))) :=
 LCalls.ret_of (vs := [.int .i64 u]) fun w hw => (Go.Proofs.Tryz.strconv_Itoa u (by omega) (by omega) w (hG.tab hw)).mono fun e w' he => by
  obtain ⟨h1, k, os, h2⟩ := he
  rw [Go.Lib.itoa_nonneg] at h1
  exact ⟨h1, by rw [h2]; exact Go.Lib.below_grow _ w (Nat.le_refl _) k os⟩
theorem fmtUint_spec (hG : GW B0 w0) (u : Nat) (hu : u < 18446744073709551616) : LCalls (KC B0 w0) 34 [int .u64 u, int .i64 10] [] (Ret (str (Go.Lib.decDigits u))) := by
 refine LCalls.intro Tryz.func34 rfl (n := 8) rfl rfl rfl ?_
 repeat first | refine LOps.nil ?_ | refine LCode.seq ?_ | refine LCode.region ?_ | refine QThen.normal ?_ | refine LOps.pure (Pure.as (lv := .atom _) rfl) rfl ?_ | refine LOps.pure (Pure.mv (lv := .atom _) rfl) rfl ?_
 refine LOps.step (S.fn [_, _] rfl (LCalls.ret_of (vs := [.int .u64 u, .int .i64 10]) fun w hw => formatUint_main u hu w (hG.tab hw)) ?_) rfl
 repeat first | refine LOps.nil ?_ | refine LCode.ret ?_ | refine QThen.normal ?_ | refine LOps.pure (Pure.as (lv := .atom _) rfl) rfl ?_
 exact retRet rfl (AllRes.cons (ResIs.tmp (v := .atom _) rfl (LV.Sub.refl _)) AllRes.nil) rfl
/-- strconv.ParseUint(s, 10, 32) of a row of digits: the number and nil, or an error that is not nil. -/
theorem parseUint_ok (s : List UInt8) (hs : s.length ≤ 1000000000) (u : Nat) (h : Go.Lib.parseUintB 32 s = .ok u) :
  LCalls (KC B0 w0) 173 [str s, int .i64 10, int .i64 32] [] (Ret (.tuple [int .u64 u, .atom .nilIface])) := by
 refine LCalls.mono (LCalls.of_belowT (vs := [.string ⟨s.toArray⟩, .int .i64 10, .int .i64 32]) (p := fun us => us = [.int .u64 u, .nilIface]) fun w hw => ?_) ?_
 ·refine (Go.Proofs.Tryz.strconv_ParseUint_10_at32_ok ⟨s.toArray⟩ ?_ u (by simpa using h) w).mono fun e w' he => ⟨_, he.1, rfl, ?_⟩
  ·show s.toArray.size ≤ _
   simp
   omega
  ·rcases he.2 with h2 | h2
   ·rw [h2]; exact Below.refl _ _
   ·rw [h2]
    exact ⟨rfl, rfl, rfl, by rw [Go.Lib.bytesWorld_size]; omega, fun k hk => Go.Lib.bytesWorld_at_old w 5 _ k hk⟩
 ·rintro r H ⟨v, rfl, ⟨us, rfl, rfl⟩, rfl⟩
  exact ⟨rfl, rfl⟩
theorem parseUint_range (hG : GW B0 w0) (s : List UInt8) (hs : s.length ≤ 1000000000) (h : Go.Lib.parseUintB 32 s = .range) :
  LCalls (KC B0 w0) 173 [str s, int .i64 10, int .i64 32] [] (RetIf fun lv => ∃ v t p, lv = .tuple [int .u64 v, .atom (.iface t p)]) := by
 refine LCalls.mono (LCalls.of_belowT (vs := [.string ⟨s.toArray⟩, .int .i64 10, .int .i64 32]) (p := fun us => ∃ v t p, us = [.int .u64 v, .iface t p]) fun w hw => ?_) ?_
 ·obtain ⟨tp, p, hv⟩ := hG.err hw
  refine (Go.Proofs.Tryz.strconv_ParseUint_10_at32_range_var ⟨s.toArray⟩ ?_ (by simpa using h) tp p w hv).mono fun e w' he => ?_
  ·show s.toArray.size ≤ _
   simp
   omega
  ·obtain ⟨N, h1, _, _, h4⟩ := he
   exact ⟨_, h1, ⟨_, _, _, rfl⟩, h4⟩
 ·rintro r H ⟨v, rfl, ⟨us, ⟨a, t, p, rfl⟩, rfl⟩, rfl⟩
  exact ⟨_, rfl, ⟨a, t, p, rfl⟩, rfl⟩
theorem countNl_spec (s : List UInt8) : LCalls (KC B0 w0) 80 [str s, str [10]] [] (Ret (int .i64 (s.count 10))) :=
 LCalls.ret_of (vs := [.string ⟨s.toArray⟩, .string ⟨#[10]⟩]) fun w _ => (Go.Proofs.Tryz.strings_Count_one _ _ w).mono fun e w' he => by
  obtain ⟨h1, h2⟩ := he
  subst h2
  exact ⟨by simpa [Go.Lib.countByte] using h1, Below.refl _ _⟩
end
end Go.Proofs.YtcbpcianefpniaaGreatDoor
namespace Go.Proofs.YtcbpcianefpniaaGreatDoor
open Go.GL Go.RowKit Go.Stele
set_option maxRecDepth 100000
set_option maxHeartbeats 4000000
attribute [local irreducible] LOps LCode LStep LCalls Go.GL.Pure QThen QBlock RetPost
def encTok (t : Tok) : LV := .agg [int .i64 t.kind, str t.text, int .i64 t.line]
def encTokR (r : TokR) : LV := .tuple [encTok r.1, int .i64 r.2.1, int .i64 r.2.2]
theorem elemsOk_strs (l : List (List UInt8)) : elemsOk 1 (l.map str) := fun v hv => by
 obtain ⟨x, _, rfl⟩ := List.mem_map.1 hv
 exact ⟨rfl, rfl⟩
section
variable {B0 : Nat} {w0 : World}
theorem Keywords_spec : LCalls (KC B0 w0) 175 [] [] (Ret (.list (keywords.map str))) := by
 refine LCalls.intro Tryz.func175 rfl (n := 2) rfl rfl rfl ?_
 repeat first | refine LOps.nil ?_ | refine LCode.seq ?_ | refine LCode.region ?_ | refine QThen.normal ?_ | refine LOps.pure (Pure.as (lv := .atom _) rfl) rfl ?_
 refine LOps.step (S.lit [_, _, _, _, _, _, _, _] rfl (elemsOk_strs keywords) rfl rfl rfl ?_) rfl
 repeat first | refine LOps.nil ?_ | refine LCode.ret ?_ | refine QThen.normal ?_ | refine LOps.pure (Pure.as (lv := .list _) rfl) rfl ?_
 exact retRet rfl (AllRes.cons (ResIs.tmp (v := .list _) rfl (LV.Sub.refl _)) AllRes.nil) rfl
theorem signs_spec : LCalls (KC B0 w0) 135 [] [] (Ret (.list (signs.map str))) := by
 refine LCalls.intro Tryz.func135 rfl (n := 2) rfl rfl rfl ?_
 repeat first | refine LOps.nil ?_ | refine LCode.seq ?_ | refine LCode.region ?_ | refine QThen.normal ?_ | refine LOps.pure (Pure.as (lv := .atom _) rfl) rfl ?_
 refine LOps.step (S.lit [_, _, _, _, _, _, _, _, _, _, _, _, _, _, _, _, _, _, _, _, _, _, _, _] rfl (elemsOk_strs signs) rfl rfl rfl ?_) rfl
 repeat first | refine LOps.nil ?_ | refine LCode.ret ?_ | refine QThen.normal ?_ | refine LOps.pure (Pure.as (lv := .list _) rfl) rfl ?_
 exact retRet rfl (AllRes.cons (ResIs.tmp (v := .list _) rfl (LV.Sub.refl _)) AllRes.nil) rfl
theorem Index_spec (l : List (List UInt8)) (x : List UInt8) (hl : l.length ≤ 1000000000) : LCalls (KC B0 w0) 177 [.list (l.map str), str x] [] (RetIf fun lv => ∃ n : Int, lv = int .i64 n ∧ decide (0 ≤ n) = l.contains x) := by
 refine LCalls.intro Tryz.func177 rfl (n := 19) rfl rfl rfl ?_
 repeat first | refine LOps.nil ?_ | refine LCode.seq ?_ | refine LCode.region ?_ | refine LCode.block ?_ | refine QThen.normal ?_ | refine LOps.pure (Pure.as (lv := .atom _) rfl) rfl ?_ | refine LOps.pure (Pure.mv (lv := .list _) rfl) rfl ?_ | refine LOps.pure (Pure.mv (lv := .atom _) rfl) rfl ?_ | refine LOps.pure (Pure.llen rfl) rfl ?_
 refine LCode.loopI (fun k ls H => ∃ m : Nat, k = l.length - m ∧ ls = [(0, .list (l.map str)), (1, str x), (7, int .i64 (l.map str).length), (8, int .i64 m)] ∧ H = [] ∧ m ≤ l.length ∧ l.contains x = (l.drop m).contains x)
  ⟨_, _, _, ⟨0, rfl, rfl, rfl, by omega, by simp⟩, ⟨rfl, rfl, rfl, rfl, trivial⟩, HSub.refl _⟩ ?_
 rintro k ls H ⟨m, rfl, rfl, rfl, hm, hI⟩ j hj
 repeat first | refine LOps.nil ?_ | refine LCode.seq ?_ | refine LCode.region ?_ | refine QThen.normal ?_ | refine LOps.pure (Pure.lss rfl rfl) rfl ?_
 refine LCode.cond rfl (fun hc => ?_) (fun hc => ?_)
 ·have hlt : m < l.length := by simpa using hc
  repeat first | refine LOps.nil ?_ | refine LCode.seq ?_ | refine LCode.region ?_ | refine LCode.skip ?_ | refine LCode.block ?_ | refine QThen.normal ?_ | refine LOps.pure (Pure.as (lv := .atom _) rfl) rfl ?_ | refine LOps.pure (Pure.mv (lv := .list _) rfl) rfl ?_ | refine LOps.pure (Pure.mv (lv := .atom _) rfl) rfl ?_
  refine LOps.pure (Pure.ixRef (el' := str l[m]) rfl rfl (by omega) (by simp) rfl rfl) rfl ?_
  repeat first | refine LOps.nil ?_ | refine QThen.normal ?_ | refine LOps.pure (Pure.loadRef (c := .atom _) rfl rfl) rfl ?_ | refine LOps.pure (Pure.seq rfl rfl) rfl ?_
  refine LCode.cond rfl (fun he => ?_) (fun he => ?_)
  ·repeat first | refine LOps.nil ?_ | refine LCode.seq ?_ | refine LCode.region ?_ | refine LCode.ret ?_ | refine QThen.normal ?_ | refine QThen.ret ?_ | refine QBlock.ret ?_ | refine LOps.pure (Pure.as (lv := .atom _) rfl) rfl ?_ | refine LOps.pure (Pure.mv (lv := .atom _) rfl) rfl ?_
   have hx : x = l[m] := by simpa using he
   exact retRetIf hj (AllRes.cons (ResIs.tmp (v := .atom _) rfl (LV.Sub.refl _)) AllRes.nil) ⟨m, rfl, by
    rw [hx, decide_eq_true (by omega)]
    simp⟩
  ·repeat first | refine LOps.nil ?_ | refine LCode.region ?_ | refine LCode.skip ?_ | refine QThen.normal ?_ | refine QBlock.normal ?_ | refine LOps.pure (Pure.mv (lv := .atom _) rfl) rfl ?_ | refine LOps.pure (Pure.add rfl rfl (by omega)) rfl ?_
   have hx : ¬ x = l[m] := by simpa using he
   exact ⟨_, _, _, by omega, ⟨m + 1, rfl, rfl, rfl, by omega, by
    rw [hI, List.drop_eq_getElem_cons hlt, List.contains_cons]
    simp [hx]⟩, ⟨rfl, rfl, rfl, int_eq (by omega), trivial⟩, HSub.refl _, hj⟩
 ·have hge : l.length ≤ m := by simpa using hc
  repeat first | refine LOps.nil ?_ | refine LCode.seq ?_ | refine LCode.region ?_ | refine LCode.ret ?_ | refine LCode.exit ?_ | refine QThen.normal ?_ | refine QThen.exit ?_ | refine QBlock.hit ?_ | refine LOps.pure (Pure.as (lv := .atom _) rfl) rfl ?_
  exact retRetIf hj (AllRes.cons (ResIs.tmp (v := .atom _) rfl (LV.Sub.refl _)) AllRes.nil) ⟨-1, rfl, by
   rw [hI, List.drop_eq_nil_of_le hge]
   rfl⟩
theorem Contains_spec (l : List (List UInt8)) (x : List UInt8) (hl : l.length ≤ 1000000000) : LCalls (KC B0 w0) 136 [.list (l.map str), str x] [] (Ret (bool (l.contains x))) := by
 refine LCalls.intro Tryz.func136 rfl (n := 9) rfl rfl rfl ?_
 repeat first | refine LOps.nil ?_ | refine LCode.seq ?_ | refine LCode.region ?_ | refine QThen.normal ?_ | refine LOps.pure (Pure.as (lv := .atom _) rfl) rfl ?_ | refine LOps.pure (Pure.mv (lv := .list _) rfl) rfl ?_ | refine LOps.pure (Pure.mv (lv := .atom _) rfl) rfl ?_
 refine LOps.step (S.fnIf [_, _] rfl (Index_spec l x hl) ?_) rfl
 rintro lv ⟨n, rfl, hn⟩
 repeat first | refine LOps.nil ?_ | refine LCode.ret ?_ | refine QThen.normal ?_ | refine LOps.pure (Pure.as (lv := .atom _) rfl) rfl ?_ | refine LOps.pure (Pure.geq rfl rfl) rfl ?_
 exact retRet rfl (AllRes.cons (ResIs.tmp (v := .atom _) rfl (LV.Sub.refl _)) AllRes.nil) (by rw [← hn]; rfl)
theorem name_spec (s : List UInt8) (hs : s.length ≤ 1000000000) : LCalls (KC B0 w0) 133 [str s] [] (Ret (encTokR (lexName s))) := by
 refine LCalls.intro Tryz.func133 rfl (n := 21) rfl rfl rfl ?_
 repeat first | refine LCode.seq ?_ | refine LCode.region ?_
 refine LOps.step (S.alloc fun b => ?_) rfl
 repeat first | refine LOps.nil ?_ | refine LCode.seq ?_ | refine LCode.region ?_ | refine QThen.normal ?_ | refine LOps.pure (Pure.as (lv := .atom _) rfl) rfl ?_ | refine LOps.pure (Pure.mv (lv := .atom _) rfl) rfl ?_
 refine LOps.step (S.fn [_, _] rfl (run_spec isInner inner_spec s hs) ?_) rfl
 repeat first | refine LOps.nil ?_ | refine LCode.seq ?_ | refine LCode.region ?_ | refine QThen.normal ?_ | refine LOps.pure (Pure.as (lv := .atom _) rfl) rfl ?_ | refine LOps.pure (Pure.mv (lv := .atom _) rfl) rfl ?_ | refine LOps.pure (Pure.slen rfl) rfl ?_ | refine LOps.pure (Pure.gtr rfl rfl) rfl ?_
 refine LCode.cond rfl (fun hc => ?_) (fun hc => ?_)
 ·repeat first | refine LOps.nil ?_ | refine LCode.seq ?_ | refine LCode.region ?_ | refine LCode.ret ?_ | refine QThen.normal ?_ | refine QThen.ret ?_ | refine LOps.pure (Pure.as (lv := .atom _) rfl) rfl ?_ | refine LOps.pure (Pure.bld _ (cs := [_, _, _]) rfl) rfl ?_ | refine LOps.step (S.store (cs' := [_, _, _]) rfl Pick.here rfl rfl rfl rfl rfl ?_) rfl
  exact retRet rfl (AllRes.cons (ResIs.cellAgg rfl (List.Mem.head _) rfl (LV.Sub.refl _)) (AllRes.cons (ResIs.tmp (v := .atom _) rfl (LV.Sub.refl _)) (AllRes.cons (ResIs.tmp (v := .atom _) rfl (LV.Sub.refl _)) AllRes.nil))) (by
   rw [lexName, if_pos (by have := of_decide_eq_true hc; omega)]
   rfl)
 ·repeat first | refine LOps.nil ?_ | refine LCode.seq ?_ | refine LCode.region ?_ | refine LCode.skip ?_ | refine QThen.normal ?_ | refine LOps.pure (Pure.as (lv := .atom _) rfl) rfl ?_
  refine LOps.step (S.fn [] rfl Keywords_spec ?_) rfl
  repeat first | refine LOps.pure (Pure.mv (lv := .atom _) rfl) rfl ?_
  refine LOps.step (S.fn [_, _] rfl (Contains_spec keywords (s.takeWhile isInner) (by decide)) ?_) rfl
  repeat first | refine LOps.nil ?_ | refine QThen.normal ?_
  refine LCode.cond rfl (fun hk => ?_) (fun hk => ?_)
  ·repeat first | refine LOps.nil ?_ | refine LCode.seq ?_ | refine LCode.region ?_ | refine LCode.ret ?_ | refine QThen.normal ?_ | refine LOps.pure (Pure.as (lv := .atom _) rfl) rfl ?_ | refine LOps.pure (Pure.mv (lv := .atom _) rfl) rfl ?_ | refine LOps.pure (Pure.slen rfl) rfl ?_ | refine LOps.pure (Pure.bld _ (cs := [_, _, _]) rfl) rfl ?_ | refine LOps.step (S.store (cs' := [_, _, _]) rfl Pick.here rfl rfl rfl rfl rfl ?_) rfl
   exact retRet rfl (AllRes.cons (ResIs.cellAgg rfl (List.Mem.head _) rfl (LV.Sub.refl _)) (AllRes.cons (ResIs.tmp (v := .atom _) rfl (LV.Sub.refl _)) (AllRes.cons (ResIs.tmp (v := .atom _) rfl (LV.Sub.refl _)) AllRes.nil))) (by
    rw [lexName, if_neg (by have := of_decide_eq_false hc; omega), if_pos hk]
    rfl)
  ·repeat first | refine LOps.nil ?_ | refine LCode.seq ?_ | refine LCode.region ?_ | refine LCode.skip ?_ | refine LCode.ret ?_ | refine QThen.normal ?_ | refine LOps.pure (Pure.as (lv := .atom _) rfl) rfl ?_ | refine LOps.pure (Pure.mv (lv := .atom _) rfl) rfl ?_ | refine LOps.pure (Pure.slen rfl) rfl ?_ | refine LOps.pure (Pure.bld _ (cs := [_, _, _]) rfl) rfl ?_ | refine LOps.step (S.store (cs' := [_, _, _]) rfl Pick.here rfl rfl rfl rfl rfl ?_) rfl
   exact retRet rfl (AllRes.cons (ResIs.cellAgg rfl (List.Mem.head _) rfl (LV.Sub.refl _)) (AllRes.cons (ResIs.tmp (v := .atom _) rfl (LV.Sub.refl _)) (AllRes.cons (ResIs.tmp (v := .atom _) rfl (LV.Sub.refl _)) AllRes.nil))) (by
    rw [lexName, if_neg (by have := of_decide_eq_false hc; omega), if_neg (by rw [hk]; decide)]
    rfl)
end
end Go.Proofs.YtcbpcianefpniaaGreatDoor
namespace Go.Proofs.YtcbpcianefpniaaGreatDoor
open Go.GL Go.RowKit Go.Stele
set_option maxRecDepth 100000
set_option maxHeartbeats 4000000
attribute [local irreducible] LOps LCode LStep LCalls Go.GL.Pure QThen QBlock RetPost
theorem parseUintM_digits (M : Nat) (acc : Nat) (l : List UInt8) (h : ∀ c ∈ l, isDigit c = true) : Go.Lib.parseUintM M acc l = .range ∨ ∃ u, Go.Lib.parseUintM M acc l = .ok u := by
 induction l generalizing acc with
 | nil => exact .inr ⟨acc, rfl⟩
 | cons c r ih =>
  have hc := h c List.mem_cons_self
  simp only [isDigit, Bool.and_eq_true, decide_eq_true_eq, cv] at hc
  rw [Go.Lib.parseUintM, if_pos (by omega)]
  split
  ·exact .inl rfl
  ·split
   ·exact .inl rfl
   ·exact ih _ (fun c hc => h c (List.mem_cons_of_mem _ hc))
theorem parseUintM_bound (M : Nat) (acc : Nat) (l : List UInt8) (ha : acc ≤ M) {u : Nat} (h : Go.Lib.parseUintM M acc l = .ok u) : u ≤ M := by
 induction l generalizing acc with
 | nil => simp only [Go.Lib.parseUintM, Go.Lib.NumEnd.ok.injEq] at h; omega
 | cons c r ih =>
  rw [Go.Lib.parseUintM] at h
  split at h
  ·split at h
   ·cases h
   ·split at h
    ·cases h
    ·exact ih _ (by omega) h
  ·cases h
theorem parseUint_digits (s : List UInt8) (hne : s.takeWhile isDigit ≠ []) : Go.Lib.parseUintB 32 (s.takeWhile isDigit) = .range ∨ ∃ u, u < 18446744073709551616 ∧ Go.Lib.parseUintB 32 (s.takeWhile isDigit) = .ok u := by
 unfold Go.Lib.parseUintB
 rw [if_neg hne]
 have hall : ∀ (s : List UInt8), ∀ c ∈ s.takeWhile isDigit, isDigit c = true := fun s c hc => by
  induction s with
  | nil => cases hc
  | cons a r ih =>
   by_cases ha : isDigit a = true
   ·rw [List.takeWhile_cons_of_pos ha] at hc
    rcases List.mem_cons.1 hc with rfl | hc
    ·exact ha
    ·exact ih hc
   ·rw [List.takeWhile_cons_of_neg ha] at hc
    cases hc
 rcases parseUintM_digits (2 ^ 32 - 1) 0 (s.takeWhile isDigit) (hall s) with h | ⟨u, h⟩
 ·exact .inl h
 ·have := parseUintM_bound _ _ _ (by omega) h
  exact .inr ⟨u, by omega, h⟩
instance : TIface Tryz.prog 146 := .of (by kernel_rfl)
section
variable {B0 : Nat} {w0 : World}
theorem number_spec (hG : GW B0 w0) (s : List UInt8) (hs : s.length ≤ 1000000000) (hne : s.takeWhile isDigit ≠ []) : LCalls (KC B0 w0) 131 [str s] [] (Ret (encTokR (lexNumber s))) := by
 refine LCalls.intro Tryz.func131 rfl (n := 43) rfl rfl rfl ?_
 repeat first | refine LCode.seq ?_ | refine LCode.region ?_
 refine LOps.step (S.alloc fun b => ?_) rfl
 repeat first | refine LOps.nil ?_ | refine LCode.seq ?_ | refine LCode.region ?_ | refine QThen.normal ?_ | refine LOps.pure (Pure.as (lv := .atom _) rfl) rfl ?_ | refine LOps.pure (Pure.mv (lv := .atom _) rfl) rfl ?_
 refine LOps.step (S.fn [_, _] rfl (run_spec isDigit digit_spec s hs) ?_) rfl
 repeat first | refine LOps.nil ?_ | refine LCode.seq ?_ | refine LCode.region ?_ | refine QThen.normal ?_ | refine LOps.pure (Pure.as (lv := .atom _) rfl) rfl ?_ | refine LOps.pure (Pure.mv (lv := .atom _) rfl) rfl ?_ | refine LOps.pure (Pure.slen rfl) rfl ?_ | refine LOps.pure (Pure.lss rfl rfl) rfl ?_
 refine LOps.cut [(0, str s), (2, ptr b 0), (5, str (s.takeWhile isDigit)), (28, bool (wordNext s (s.takeWhile isDigit).length))] ?_ (fun j hj => ?_)
 ·refine LOps.bcase 17 rfl (fun ht => ?_) (fun ht => ?_)
  ·have hlt : (s.takeWhile isDigit).length < s.length := by simpa using ht
   have hw : wordNext s (s.takeWhile isDigit).length = (isLetter s[(s.takeWhile isDigit).length] || decide (cv s[(s.takeWhile isDigit).length] = 95)) := by
    rw [wordNext, List.getElem?_eq_getElem hlt]
   repeat first | refine LOps.pure (Pure.mv (lv := .atom _) rfl) rfl ?_ | refine LOps.want rfl rfl ?_
   refine LOps.pure (Pure.sindex (c := s[(s.takeWhile isDigit).length]) rfl rfl (by omega) (by simp)) rfl ?_
   refine LOps.want rfl rfl ?_
   refine LOps.step (S.fn [_] rfl (letter_spec _) ?_) rfl
   repeat first | refine LOps.pure (Pure.mv (lv := .atom _) rfl) rfl ?_ | refine LOps.want rfl rfl ?_
   refine LOps.bcase 22 rfl (fun hl => ?_) (fun hl => ?_)
   ·repeat first | refine LOps.nil ?_ | refine QThen.normal ?_ | refine LOps.pure (Pure.pickT (lv := .atom _) rfl rfl) rfl ?_ | refine LOps.want rfl rfl ?_ | refine LOps.skip rfl rfl rfl rfl ?_
    exact ⟨⟨rfl, rfl, rfl, bool_eq (by rw [hw, hl]; rfl), trivial⟩, rfl, rfl⟩
   ·repeat first | refine LOps.pure (Pure.mv (lv := .atom _) rfl) rfl ?_ | refine LOps.want rfl rfl ?_
    refine LOps.pure (Pure.sindex (c := s[(s.takeWhile isDigit).length]) rfl rfl (by omega) (by simp)) rfl ?_
    repeat first | refine LOps.nil ?_ | refine QThen.normal ?_ | refine LOps.pure (Pure.eql rfl rfl) rfl ?_ | refine LOps.pure (Pure.pickT (lv := .atom _) rfl rfl) rfl ?_ | refine LOps.pure (Pure.pickF (lv := .atom _) rfl rfl) rfl ?_ | refine LOps.want rfl rfl ?_
    exact ⟨⟨rfl, rfl, rfl, bool_eq (by rw [hw, hl]; rfl), trivial⟩, rfl, rfl⟩
  ·have hge : s.length ≤ (s.takeWhile isDigit).length := by simpa using ht
   repeat first | refine LOps.nil ?_ | refine QThen.normal ?_ | refine LOps.pure (Pure.pickF (lv := .atom _) rfl rfl) rfl ?_ | refine LOps.skip rfl rfl rfl rfl ?_ | refine LOps.skipU rfl rfl rfl ?_
   exact ⟨⟨rfl, rfl, rfl, bool_eq (by rw [wordNext, List.getElem?_eq_none hge]), trivial⟩, rfl, rfl⟩
 ·skip
  refine LCode.cond rfl (fun hc => ?_) (fun hc => ?_)
  ·repeat first | refine LOps.nil ?_ | refine LCode.seq ?_ | refine LCode.region ?_ | refine LCode.ret ?_ | refine QThen.normal ?_ | refine QThen.ret ?_ | refine LOps.pure (Pure.as (lv := .atom _) rfl) rfl ?_ | refine LOps.pure (Pure.bld _ (cs := [_, _, _]) rfl) rfl ?_ | refine LOps.step (S.store (cs' := [_, _, _]) rfl Pick.here rfl rfl rfl rfl rfl ?_) rfl
   exact retRet hj (AllRes.cons (ResIs.cellAgg rfl (List.Mem.head _) rfl (LV.Sub.refl _)) (AllRes.cons (ResIs.tmp (v := .atom _) rfl (LV.Sub.refl _)) (AllRes.cons (ResIs.tmp (v := .atom _) rfl (LV.Sub.refl _)) AllRes.nil))) (by
    rw [lexNumber, if_pos hc]
    rfl)
  ·repeat first | refine LCode.seq ?_ | refine LCode.region ?_ | refine LCode.skip ?_ | refine QThen.normal ?_ | refine LOps.pure (Pure.mv (lv := .atom _) rfl) rfl ?_
   rcases parseUint_digits s hne with hp | ⟨u, hu, hp⟩
   ·refine LOps.step (S.fnIf [_, _, _] rfl (parseUint_range hG (s.takeWhile isDigit) (Nat.le_trans (List.takeWhile_prefix isDigit).length_le hs) hp) ?_) rfl
    rintro lv ⟨v, t, p, rfl⟩
    repeat first | refine LOps.nil ?_ | refine LCode.seq ?_ | refine LCode.region ?_ | refine QThen.normal ?_ | refine LOps.pure (Pure.as (lv := .atom _) rfl) rfl ?_ | refine LOps.pure (Pure.mv (lv := .atom _) rfl) rfl ?_ | refine LOps.pure (Pure.mv (lv := .tuple _) rfl) rfl ?_ | refine LOps.pure (Pure.extract (c := .atom _) rfl rfl) rfl ?_ | refine LOps.pure (Pure.ifaceNeqNil rfl) rfl ?_
    refine LCode.cond rfl (fun hc => ?_) (fun hc => ?_)
    ·repeat first | refine LOps.nil ?_ | refine LCode.seq ?_ | refine LCode.region ?_ | refine LCode.ret ?_ | refine QThen.normal ?_ | refine QThen.ret ?_ | refine LOps.pure (Pure.as (lv := .atom _) rfl) rfl ?_ | refine LOps.pure (Pure.bld _ (cs := [_, _, _]) rfl) rfl ?_ | refine LOps.step (S.store (cs' := [_, _, _]) rfl Pick.here rfl rfl rfl rfl rfl ?_) rfl
     exact retRet hj (AllRes.cons (ResIs.cellAgg rfl (List.Mem.head _) rfl (LV.Sub.refl _)) (AllRes.cons (ResIs.tmp (v := .atom _) rfl (LV.Sub.refl _)) (AllRes.cons (ResIs.tmp (v := .atom _) rfl (LV.Sub.refl _)) AllRes.nil))) (by
      rw [lexNumber, if_neg (by rw [‹wordNext s _ = false›]; decide), hp]
      rfl)
    ·cases hc
   ·refine LOps.step (S.fn [_, _, _] rfl (parseUint_ok (s.takeWhile isDigit) (Nat.le_trans (List.takeWhile_prefix isDigit).length_le hs) u hp) ?_) rfl
    repeat first | refine LOps.nil ?_ | refine LCode.seq ?_ | refine LCode.region ?_ | refine QThen.normal ?_ | refine LOps.pure (Pure.as (lv := .atom _) rfl) rfl ?_ | refine LOps.pure (Pure.mv (lv := .atom _) rfl) rfl ?_ | refine LOps.pure (Pure.mv (lv := .tuple _) rfl) rfl ?_ | refine LOps.pure (Pure.extract (c := .atom _) rfl rfl) rfl ?_ | refine LOps.pure (Pure.nilNeqNil rfl) rfl ?_
    refine LCode.cond rfl (fun hc => ?_) (fun hc => ?_)
    ·cases hc
    ·repeat first | refine LCode.seq ?_ | refine LCode.region ?_ | refine LCode.skip ?_ | refine QThen.normal ?_ | refine LOps.pure (Pure.mv (lv := .atom _) rfl) rfl ?_
     refine LOps.step (S.fn [_, _] rfl (fmtUint_spec hG u hu) ?_) rfl
     repeat first | refine LOps.nil ?_ | refine LCode.ret ?_ | refine QThen.normal ?_ | refine LOps.pure (Pure.as (lv := .atom _) rfl) rfl ?_ | refine LOps.pure (Pure.mv (lv := .atom _) rfl) rfl ?_ | refine LOps.pure (Pure.slen rfl) rfl ?_ | refine LOps.pure (Pure.bld _ (cs := [_, _, _]) rfl) rfl ?_ | refine LOps.step (S.store (cs' := [_, _, _]) rfl Pick.here rfl rfl rfl rfl rfl ?_) rfl
     exact retRet hj (AllRes.cons (ResIs.cellAgg rfl (List.Mem.head _) rfl (LV.Sub.refl _)) (AllRes.cons (ResIs.tmp (v := .atom _) rfl (LV.Sub.refl _)) (AllRes.cons (ResIs.tmp (v := .atom _) rfl (LV.Sub.refl _)) AllRes.nil))) (by
      rw [lexNumber, if_neg (by rw [‹wordNext s _ = false›]; decide), hp]
      rfl)
theorem literal_spec (hG : GW B0 w0) (s : List UInt8) (hs : s.length ≤ 1000000000) : LCalls (KC B0 w0) 134 [str s] [] (Ret (encTokR (lexLiteral s))) := by
 by_cases h3 : s.length < 3
 ·have hl : lexLiteral s = tokErr 3 := by
   match s, h3 with
   | [], _ => rfl
   | [_], _ => rfl
   | [_, _], _ => rfl
  refine LCalls.intro Tryz.func134 rfl (n := 39) rfl rfl rfl ?_
  repeat first | refine LCode.seq ?_ | refine LCode.region ?_
  refine LOps.step (S.alloc fun b => ?_) rfl
  repeat first | refine LOps.nil ?_ | refine LCode.seq ?_ | refine LCode.region ?_ | refine QThen.normal ?_ | refine LOps.pure (Pure.as (lv := .atom _) rfl) rfl ?_ | refine LOps.pure (Pure.mv (lv := .atom _) rfl) rfl ?_ | refine LOps.pure (Pure.slen rfl) rfl ?_ | refine LOps.pure (Pure.lss rfl rfl) rfl ?_
  refine LOps.bcase 8 rfl (fun ht => ?_) (fun ht => ?_)
  ·repeat first | refine LOps.nil ?_ | refine QThen.normal ?_ | refine LOps.pure (Pure.mv (lv := .atom _) rfl) rfl ?_ | refine LOps.pure (Pure.pickT (lv := .atom _) rfl rfl) rfl ?_ | refine LOps.skip rfl rfl rfl rfl ?_
   refine LCode.cond rfl (fun hc => ?_) (fun hc => ?_)
   ·repeat first | refine LOps.nil ?_ | refine LCode.seq ?_ | refine LCode.region ?_ | refine LCode.ret ?_ | refine QThen.normal ?_ | refine QThen.ret ?_ | refine LOps.pure (Pure.as (lv := .atom _) rfl) rfl ?_ | refine LOps.pure (Pure.bld _ (cs := [_, _, _]) rfl) rfl ?_ | refine LOps.step (S.store (cs' := [_, _, _]) rfl Pick.here rfl rfl rfl rfl rfl ?_) rfl
    exact retRet rfl (AllRes.cons (ResIs.cellAgg rfl (List.Mem.head _) rfl (LV.Sub.refl _)) (AllRes.cons (ResIs.tmp (v := .atom _) rfl (LV.Sub.refl _)) (AllRes.cons (ResIs.tmp (v := .atom _) rfl (LV.Sub.refl _)) AllRes.nil))) (by rw [hl]; rfl)
   ·cases hc
  ·exact absurd (of_decide_eq_false ht) (by omega)
 ·match s, h3 with
  | [], h => exact absurd (by simp) h
  | [_], h => exact absurd (by simp) h
  | [_, _], h => exact absurd (by simp) h
  | x :: c1 :: c2 :: r, h =>
   refine LCalls.intro Tryz.func134 rfl (n := 39) rfl rfl rfl ?_
   repeat first | refine LCode.seq ?_ | refine LCode.region ?_
   refine LOps.step (S.alloc fun b => ?_) rfl
   repeat first | refine LOps.nil ?_ | refine LCode.seq ?_ | refine LCode.region ?_ | refine QThen.normal ?_ | refine LOps.pure (Pure.as (lv := .atom _) rfl) rfl ?_ | refine LOps.pure (Pure.mv (lv := .atom _) rfl) rfl ?_ | refine LOps.pure (Pure.slen rfl) rfl ?_ | refine LOps.pure (Pure.lss rfl rfl) rfl ?_ | refine LOps.want rfl rfl ?_
   refine LOps.cut [(0, str (x :: c1 :: c2 :: r)), (2, ptr b 0), (32, bool ((!decide (cv c2 = 39)) || decide (cv c1 < 32) || decide (126 < cv c1) || decide (cv c1 = 39) || decide (cv c1 = 92)))] ?_ (fun j hj => ?_)
   ·refine LOps.bcase 8 rfl (fun ht => ?_) (fun ht0 => ?_)
    ·exact absurd (of_decide_eq_true ht) (by simp only [List.length_cons]; omega)
    ·skip
     refine LOps.pure (Pure.sindex (c := c2) rfl rfl (by decide) rfl) rfl ?_
     repeat first | refine LOps.pure (Pure.mv (lv := .atom _) rfl) rfl ?_ | refine LOps.pure (Pure.neq rfl rfl) rfl ?_ | refine LOps.pure (Pure.pickF (lv := .atom _) rfl rfl) rfl ?_ | refine LOps.want rfl rfl ?_
     refine LOps.bcase 13 rfl (fun ht => ?_) (fun ht1 => ?_)
     ·repeat first | refine LOps.nil ?_ | refine QThen.normal ?_ | refine LOps.pure (Pure.mv (lv := .atom _) rfl) rfl ?_ | refine LOps.pure (Pure.pickT (lv := .atom _) rfl rfl) rfl ?_ | refine LOps.skip rfl rfl rfl rfl ?_
      exact ⟨⟨rfl, rfl, bool_eq (by rw [ht]; rfl), trivial⟩, rfl, rfl⟩
     ·repeat first | refine LOps.pure (Pure.mv (lv := .atom _) rfl) rfl ?_ | refine LOps.want rfl rfl ?_
      refine LOps.pure (Pure.sindex (c := c1) rfl rfl (by decide) rfl) rfl ?_
      repeat first | refine LOps.pure (Pure.mv (lv := .atom _) rfl) rfl ?_ | refine LOps.pure (Pure.lss rfl rfl) rfl ?_ | refine LOps.pure (Pure.pickF (lv := .atom _) rfl rfl) rfl ?_ | refine LOps.want rfl rfl ?_
      refine LOps.bcase 18 rfl (fun ht => ?_) (fun ht2 => ?_)
      ·repeat first | refine LOps.nil ?_ | refine QThen.normal ?_ | refine LOps.pure (Pure.mv (lv := .atom _) rfl) rfl ?_ | refine LOps.pure (Pure.pickT (lv := .atom _) rfl rfl) rfl ?_ | refine LOps.skip rfl rfl rfl rfl ?_
       exact ⟨⟨rfl, rfl, bool_eq (by rw [ht1, ht]; rfl), trivial⟩, rfl, rfl⟩
      ·repeat first | refine LOps.pure (Pure.mv (lv := .atom _) rfl) rfl ?_ | refine LOps.want rfl rfl ?_
       refine LOps.pure (Pure.sindex (c := c1) rfl rfl (by decide) rfl) rfl ?_
       repeat first | refine LOps.pure (Pure.mv (lv := .atom _) rfl) rfl ?_ | refine LOps.pure (Pure.pickF (lv := .atom _) rfl rfl) rfl ?_ | refine LOps.pure (Pure.gtr rfl rfl) rfl ?_ | refine LOps.want rfl rfl ?_
       refine LOps.bcase 23 rfl (fun ht => ?_) (fun ht3 => ?_)
       ·repeat first | refine LOps.nil ?_ | refine QThen.normal ?_ | refine LOps.pure (Pure.mv (lv := .atom _) rfl) rfl ?_ | refine LOps.pure (Pure.pickT (lv := .atom _) rfl rfl) rfl ?_ | refine LOps.skip rfl rfl rfl rfl ?_
        exact ⟨⟨rfl, rfl, bool_eq (by rw [ht1, ht2, ht]; rfl), trivial⟩, rfl, rfl⟩
       ·repeat first | refine LOps.pure (Pure.mv (lv := .atom _) rfl) rfl ?_ | refine LOps.want rfl rfl ?_
        refine LOps.pure (Pure.sindex (c := c1) rfl rfl (by decide) rfl) rfl ?_
        repeat first | refine LOps.pure (Pure.mv (lv := .atom _) rfl) rfl ?_ | refine LOps.pure (Pure.pickF (lv := .atom _) rfl rfl) rfl ?_ | refine LOps.pure (Pure.eql rfl rfl) rfl ?_ | refine LOps.want rfl rfl ?_
        refine LOps.bcase 28 rfl (fun ht => ?_) (fun ht4 => ?_)
        ·repeat first | refine LOps.nil ?_ | refine QThen.normal ?_ | refine LOps.pure (Pure.pickT (lv := .atom _) rfl rfl) rfl ?_ | refine LOps.skip rfl rfl rfl rfl ?_
         exact ⟨⟨rfl, rfl, bool_eq (by rw [ht1, ht2, ht3, ht]; rfl), trivial⟩, rfl, rfl⟩
        ·repeat first | refine LOps.pure (Pure.mv (lv := .atom _) rfl) rfl ?_ | refine LOps.want rfl rfl ?_
         refine LOps.pure (Pure.sindex (c := c1) rfl rfl (by decide) rfl) rfl ?_
         repeat first | refine LOps.nil ?_ | refine QThen.normal ?_ | refine LOps.pure (Pure.pickF (lv := .atom _) rfl rfl) rfl ?_ | refine LOps.pure (Pure.eql rfl rfl) rfl ?_ | refine LOps.want rfl rfl ?_
         exact ⟨⟨rfl, rfl, bool_eq (by rw [ht1, ht2, ht3, ht4]; rfl), trivial⟩, rfl, rfl⟩
   ·skip
    refine LCode.cond rfl (fun hc => ?_) (fun hc => ?_)
    ·repeat first | refine LOps.nil ?_ | refine LCode.seq ?_ | refine LCode.region ?_ | refine LCode.ret ?_ | refine QThen.normal ?_ | refine QThen.ret ?_ | refine LOps.pure (Pure.as (lv := .atom _) rfl) rfl ?_ | refine LOps.pure (Pure.bld _ (cs := [_, _, _]) rfl) rfl ?_ | refine LOps.step (S.store (cs' := [_, _, _]) rfl Pick.here rfl rfl rfl rfl rfl ?_) rfl
     exact retRet hj (AllRes.cons (ResIs.cellAgg rfl (List.Mem.head _) rfl (LV.Sub.refl _)) (AllRes.cons (ResIs.tmp (v := .atom _) rfl (LV.Sub.refl _)) (AllRes.cons (ResIs.tmp (v := .atom _) rfl (LV.Sub.refl _)) AllRes.nil))) (by rw [lexLiteral, if_pos hc]; rfl)
    ·repeat first | refine LCode.seq ?_ | refine LCode.region ?_ | refine LCode.skip ?_ | refine QThen.normal ?_ | refine LOps.pure (Pure.mv (lv := .atom _) rfl) rfl ?_
     refine LOps.pure (Pure.sindex (c := c1) rfl rfl (by decide) rfl) rfl ?_
     refine LOps.pure (Pure.cvt rfl) rfl ?_
     have hw : IntKind.i64.wrap (c1.toNat : Int) = ((c1.toNat : Nat) : Int) := wrap_i64 (by have := c1.toNat_lt; omega)
     rw [hw]
     refine LOps.step (S.fn [_] rfl (itoa_spec hG c1.toNat (by have := c1.toNat_lt; omega)) ?_) rfl
     repeat first | refine LOps.nil ?_ | refine LCode.ret ?_ | refine QThen.normal ?_ | refine LOps.pure (Pure.as (lv := .atom _) rfl) rfl ?_ | refine LOps.pure (Pure.bld _ (cs := [_, _, _]) rfl) rfl ?_ | refine LOps.step (S.store (cs' := [_, _, _]) rfl Pick.here rfl rfl rfl rfl rfl ?_) rfl
     exact retRet hj (AllRes.cons (ResIs.cellAgg rfl (List.Mem.head _) rfl (LV.Sub.refl _)) (AllRes.cons (ResIs.tmp (v := .atom _) rfl (LV.Sub.refl _)) (AllRes.cons (ResIs.tmp (v := .atom _) rfl (LV.Sub.refl _)) AllRes.nil))) (by rw [lexLiteral, if_neg (by rw [hc]; decide)]; rfl)
theorem token_spec (hG : GW B0 w0) (s : List UInt8) (hs : s.length ≤ 1000000000) (hne : s ≠ []) : LCalls (KC B0 w0) 86 [str s] [] (Ret (encTokR (lexToken s))) := by
 match s, hne with
 | c :: r, _ =>
  refine LCalls.intro Tryz.func86 rfl (n := 49) rfl rfl rfl ?_
  repeat first | refine LCode.seq ?_ | refine LCode.region ?_
  refine LOps.step (S.alloc fun b => ?_) rfl
  repeat first | refine LOps.nil ?_ | refine LCode.seq ?_ | refine LCode.region ?_ | refine LCode.block ?_ | refine QThen.normal ?_ | refine LOps.pure (Pure.as (lv := .atom _) rfl) rfl ?_ | refine LOps.pure (Pure.mv (lv := .atom _) rfl) rfl ?_
  refine LOps.pure (Pure.sindex (c := c) rfl rfl (by decide) rfl) rfl ?_
  refine LOps.step (S.fn [_] rfl (digit_spec c) ?_) rfl
  repeat first | refine LOps.nil ?_ | refine QThen.normal ?_ | refine LOps.pure (Pure.as (lv := .atom _) rfl) rfl ?_
  refine LCode.cond rfl (fun hc => ?_) (fun hc => ?_)
  ·repeat first | refine LCode.seq ?_ | refine LCode.region ?_ | refine LOps.pure (Pure.mv (lv := .atom _) rfl) rfl ?_
   refine LOps.step (S.fn [_] rfl (number_spec hG (c :: r) hs (by rw [List.takeWhile_cons_of_pos hc]; simp)) ?_) rfl
   repeat first | refine LOps.nil ?_ | refine LCode.ret ?_ | refine QThen.normal ?_ | refine QThen.ret ?_ | refine QBlock.ret ?_ | refine LOps.pure (Pure.as (lv := .atom _) rfl) rfl ?_ | refine LOps.pure (Pure.extract (c := .agg _) rfl rfl) rfl ?_ | refine LOps.pure (Pure.extract (c := .atom _) rfl rfl) rfl ?_ | refine LOps.step (S.store (cs' := [_, _, _]) rfl Pick.here rfl rfl rfl rfl rfl ?_) rfl
   exact retRet rfl (AllRes.cons (ResIs.cellAgg rfl (List.Mem.head _) rfl (LV.Sub.refl _)) (AllRes.cons (ResIs.tmp (v := .atom _) rfl (LV.Sub.refl _)) (AllRes.cons (ResIs.tmp (v := .atom _) rfl (LV.Sub.refl _)) AllRes.nil))) (by simp only [lexToken, hc, if_true]; rfl)
  ·repeat first | refine LCode.seq ?_ | refine LCode.region ?_ | refine LOps.pure (Pure.mv (lv := .atom _) rfl) rfl ?_
   refine LOps.pure (Pure.sindex (c := c) rfl rfl (by decide) rfl) rfl ?_
   refine LOps.step (S.fn [_] rfl (letter_spec c) ?_) rfl
   repeat first | refine LOps.nil ?_ | refine QThen.normal ?_ | refine LOps.pure (Pure.as (lv := .atom _) rfl) rfl ?_
   refine LCode.cond rfl (fun hl => ?_) (fun hl => ?_)
   ·repeat first | refine LCode.seq ?_ | refine LCode.region ?_ | refine LOps.pure (Pure.mv (lv := .atom _) rfl) rfl ?_
    refine LOps.step (S.fn [_] rfl (name_spec (c :: r) hs) ?_) rfl
    repeat first | refine LOps.nil ?_ | refine LCode.ret ?_ | refine QThen.normal ?_ | refine QThen.ret ?_ | refine QBlock.ret ?_ | refine LOps.pure (Pure.as (lv := .atom _) rfl) rfl ?_ | refine LOps.pure (Pure.extract (c := .agg _) rfl rfl) rfl ?_ | refine LOps.pure (Pure.extract (c := .atom _) rfl rfl) rfl ?_ | refine LOps.step (S.store (cs' := [_, _, _]) rfl Pick.here rfl rfl rfl rfl rfl ?_) rfl
    exact retRet rfl (AllRes.cons (ResIs.cellAgg rfl (List.Mem.head _) rfl (LV.Sub.refl _)) (AllRes.cons (ResIs.tmp (v := .atom _) rfl (LV.Sub.refl _)) (AllRes.cons (ResIs.tmp (v := .atom _) rfl (LV.Sub.refl _)) AllRes.nil))) (by simp only [lexToken, hc, hl, if_true, Bool.false_eq_true, if_false]; rfl)
   ·repeat first | refine LCode.seq ?_ | refine LCode.region ?_ | refine LOps.pure (Pure.mv (lv := .atom _) rfl) rfl ?_
    refine LOps.pure (Pure.sindex (c := c) rfl rfl (by decide) rfl) rfl ?_
    repeat first | refine LOps.nil ?_ | refine QThen.normal ?_ | refine LOps.pure (Pure.as (lv := .atom _) rfl) rfl ?_ | refine LOps.pure (Pure.eql rfl rfl) rfl ?_
    refine LCode.cond rfl (fun hq => ?_) (fun hq => ?_)
    ·repeat first | refine LCode.seq ?_ | refine LCode.region ?_ | refine LOps.pure (Pure.mv (lv := .atom _) rfl) rfl ?_
     refine LOps.step (S.fn [_] rfl (literal_spec hG (c :: r) hs) ?_) rfl
     repeat first | refine LOps.nil ?_ | refine LCode.ret ?_ | refine QThen.normal ?_ | refine QThen.ret ?_ | refine QBlock.ret ?_ | refine LOps.pure (Pure.as (lv := .atom _) rfl) rfl ?_ | refine LOps.pure (Pure.extract (c := .agg _) rfl rfl) rfl ?_ | refine LOps.pure (Pure.extract (c := .atom _) rfl rfl) rfl ?_ | refine LOps.step (S.store (cs' := [_, _, _]) rfl Pick.here rfl rfl rfl rfl rfl ?_) rfl
     exact retRet rfl (AllRes.cons (ResIs.cellAgg rfl (List.Mem.head _) rfl (LV.Sub.refl _)) (AllRes.cons (ResIs.tmp (v := .atom _) rfl (LV.Sub.refl _)) (AllRes.cons (ResIs.tmp (v := .atom _) rfl (LV.Sub.refl _)) AllRes.nil))) (by simp only [lexToken, hc, hl, Bool.false_eq_true, if_false]; rw [if_pos hq]; rfl)
    ·have htok : lexToken (c :: r) = lexSign (c :: r) := by simp only [lexToken, hc, hl, Bool.false_eq_true, if_false]; rw [if_neg (by rw [hq]; decide)]
     repeat first | refine LCode.seq ?_ | refine LCode.region ?_ | refine LCode.skip ?_ | refine QThen.normal ?_ | refine QBlock.normal ?_
     refine LOps.step (S.fn [] rfl signs_spec ?_) rfl
     repeat first | refine LOps.nil ?_ | refine LCode.block ?_ | refine QThen.normal ?_ | refine LOps.pure (Pure.mv (lv := .atom _) rfl) rfl ?_ | refine LOps.pure (Pure.llen rfl) rfl ?_
     refine LCode.loopI (fun k ls H => ∃ m : Nat, k = signs.length - m ∧ ls = [(0, str (c :: r)), (2, ptr b 0), (34, .list (signs.map str)), (35, int .i64 24), (36, int .i64 m)] ∧ H = [(b, .cells 153 [int .i64 0, str [], int .i64 0])] ∧ m ≤ 24 ∧ signs.find? (fun x => x.isPrefixOf (c :: r)) = (signs.drop m).find? (fun x => x.isPrefixOf (c :: r)))
      ⟨_, _, _, ⟨0, rfl, rfl, rfl, by omega, by simp⟩, ⟨rfl, rfl, rfl, rfl, rfl, trivial⟩, HSub.refl _⟩ ?_
     rintro k ls H ⟨m, rfl, rfl, rfl, hm, hI⟩ j hj
     have h24 : signs.length = 24 := rfl
     repeat first | refine LOps.nil ?_ | refine LCode.seq ?_ | refine LCode.region ?_ | refine QThen.normal ?_ | refine LOps.pure (Pure.lss rfl rfl) rfl ?_
     refine LCode.cond rfl (fun ht => ?_) (fun ht => ?_)
     ·have hlt : m < signs.length := by have := of_decide_eq_true ht; omega
      repeat first | refine LCode.seq ?_ | refine LCode.region ?_ | refine LCode.skip ?_ | refine LCode.block ?_ | refine QThen.normal ?_
      refine LOps.pure (Pure.ixRef (el' := str signs[m]) rfl rfl (by omega) (by simp) rfl rfl) rfl ?_
      repeat first | refine LOps.nil ?_ | refine LCode.seq ?_ | refine LCode.region ?_ | refine QThen.normal ?_ | refine LOps.pure (Pure.as (lv := .atom _) rfl) rfl ?_ | refine LOps.pure (Pure.mv (lv := .atom _) rfl) rfl ?_ | refine LOps.pure (Pure.loadRef (c := .atom _) rfl rfl) rfl ?_
      refine LOps.step (S.fn [_, _] rfl (hasPrefix_spec (c :: r) signs[m]) ?_) rfl
      repeat first | refine LOps.nil ?_ | refine QThen.normal ?_
      refine LCode.cond rfl (fun hp => ?_) (fun hp => ?_)
      ·repeat first | refine LOps.nil ?_ | refine LCode.seq ?_ | refine LCode.region ?_ | refine LCode.ret ?_ | refine QThen.normal ?_ | refine QThen.ret ?_ | refine QBlock.ret ?_ | refine LOps.pure (Pure.as (lv := .atom _) rfl) rfl ?_ | refine LOps.pure (Pure.mv (lv := .atom _) rfl) rfl ?_ | refine LOps.pure (Pure.bld _ (cs := [_, _, _]) rfl) rfl ?_ | refine LOps.pure (Pure.slen rfl) rfl ?_ | refine LOps.step (S.store (cs' := [_, _, _]) rfl Pick.here rfl rfl rfl rfl rfl ?_) rfl
       exact retRet hj (AllRes.cons (ResIs.cellAgg rfl (List.Mem.head _) rfl (LV.Sub.refl _)) (AllRes.cons (ResIs.tmp (v := .atom _) rfl (LV.Sub.refl _)) (AllRes.cons (ResIs.tmp (v := .atom _) rfl (LV.Sub.refl _)) AllRes.nil))) (by
        rw [htok, lexSign, hI, List.drop_eq_getElem_cons hlt, List.find?_cons_of_pos (by simpa using hp)]
        rfl)
      ·repeat first | refine LOps.nil ?_ | refine LCode.region ?_ | refine LCode.skip ?_ | refine QThen.normal ?_ | refine QBlock.normal ?_ | refine LOps.pure (Pure.mv (lv := .atom _) rfl) rfl ?_ | refine LOps.pure (Pure.add rfl rfl (by omega)) rfl ?_
       exact ⟨_, _, _, by omega, ⟨m + 1, rfl, rfl, rfl, by omega, by
        rw [hI, List.drop_eq_getElem_cons hlt, List.find?_cons_of_neg (by rw [hp]; decide)]⟩, ⟨rfl, rfl, rfl, rfl, int_eq (by omega), trivial⟩, HSub.refl _, hj⟩
     ·have hge : signs.length ≤ m := by have := of_decide_eq_false ht; omega
      repeat first | refine LOps.nil ?_ | refine LCode.seq ?_ | refine LCode.region ?_ | refine LCode.ret ?_ | refine LCode.exit ?_ | refine QThen.normal ?_ | refine QThen.exit ?_ | refine QBlock.hit ?_ | refine LOps.pure (Pure.as (lv := .atom _) rfl) rfl ?_ | refine LOps.pure (Pure.bld _ (cs := [_, _, _]) rfl) rfl ?_ | refine LOps.step (S.store (cs' := [_, _, _]) rfl Pick.here rfl rfl rfl rfl rfl ?_) rfl
      exact retRet hj (AllRes.cons (ResIs.cellAgg rfl (List.Mem.head _) rfl (LV.Sub.refl _)) (AllRes.cons (ResIs.tmp (v := .atom _) rfl (LV.Sub.refl _)) (AllRes.cons (ResIs.tmp (v := .atom _) rfl (LV.Sub.refl _)) AllRes.nil))) (by
       rw [htok, lexSign, hI, List.drop_eq_nil_of_le hge]
       rfl)
end
end Go.Proofs.YtcbpcianefpniaaGreatDoor
namespace Go.Proofs.YtcbpcianefpniaaGreatDoor
open Go.GL Go.RowKit Go.Stele
set_option maxRecDepth 100000
set_option maxHeartbeats 4000000
attribute [local irreducible] LOps LCode LStep LCalls Go.GL.Pure QThen QBlock RetPost
def lexAllP (s : List UInt8) : Except (Int × Int) (List Tok) := if 60000 < s.length then .error (0, 6) else lexP s.length s 1
def encLex : Except (Int × Int) (List Tok) → LV
 | .ok T => .tuple [.list (T.map encTok), int .i64 0, int .i64 0]
 | .error (l, e) => .tuple [.list [], int .i64 l, int .i64 e]
theorem map_map_ex {A B D : Type} (f : A → B) (h : B → D) (r : Except (Int × Int) A) : (r.map f).map h = r.map (fun x => h (f x)) := by cases r <;> rfl
section
variable {B0 : Nat} {w0 : World}
theorem Tokens_spec (hG : GW B0 w0) (s : List UInt8) (hs : s.length ≤ 1000000000) : LCalls (KC B0 w0) 37 [str s] [] (Ret (encLex (lexAllP s))) := by
 refine LCalls.intro Tryz.func37 rfl (n := 49) rfl rfl rfl ?_
 repeat first | refine LOps.nil ?_ | refine LCode.seq ?_ | refine LCode.region ?_ | refine QThen.normal ?_ | refine LOps.pure (Pure.as (lv := .atom _) rfl) rfl ?_ | refine LOps.pure (Pure.mv (lv := .atom _) rfl) rfl ?_ | refine LOps.pure (Pure.slen rfl) rfl ?_ | refine LOps.pure (Pure.gtr rfl rfl) rfl ?_
 refine LCode.cond rfl (fun hc => ?_) (fun hc => ?_)
 ·repeat first | refine LOps.nil ?_ | refine LCode.seq ?_ | refine LCode.region ?_ | refine LCode.ret ?_ | refine QThen.normal ?_ | refine QThen.ret ?_ | refine LOps.pure (Pure.as (lv := .atom _) rfl) rfl ?_
  exact retRet rfl (AllRes.cons (ResIs.tmp (v := nilSlice) rfl LV.Sub.nil) (AllRes.cons (ResIs.tmp (v := .atom _) rfl (LV.Sub.refl _)) (AllRes.cons (ResIs.tmp (v := .atom _) rfl (LV.Sub.refl _)) AllRes.nil))) (by
   rw [lexAllP, if_pos (by have := of_decide_eq_true hc; omega)]
   rfl)
 ·have hlen : s.length ≤ 60000 := by have := of_decide_eq_false hc; omega
  repeat first | refine LOps.nil ?_ | refine LCode.seq ?_ | refine LCode.region ?_ | refine LCode.skip ?_ | refine LCode.block ?_ | refine QThen.normal ?_ | refine LOps.pure (Pure.as (lv := .atom _) rfl) rfl ?_ | refine LOps.pure (Pure.mv (lv := .atom _) rfl) rfl ?_
  refine LCode.loopI (fun k ls H => ∃ (v : LV) (out : List Tok) (rest : List UInt8) (line : Int) (fuel : Nat), k = rest.length ∧ ls = [(5, v), (6, int .i64 line), (7, str rest)] ∧ Acc 3 v (out.map encTok) H [] ∧
    rest.length ≤ fuel ∧ 0 ≤ line ∧ line + rest.length ≤ 60001 ∧ out.length + rest.length ≤ 60000 ∧ lexP s.length s 1 = (lexP fuel rest line).map (out ++ ·))
   ⟨_, _, _, ⟨nilSlice, [], s, 1, s.length, rfl, rfl, Acc.nil, by omega, by omega, by omega, by simp; omega, by cases lexP s.length s 1 <;> rfl⟩, ⟨rfl, rfl, rfl, trivial⟩, HSub.refl _⟩ ?_
  rintro k ls H ⟨v, out, rest, line, fuel, rfl, rfl, hacc, hf, hl0, hl1, ho, hI⟩ j hj
  repeat first | refine LOps.nil ?_ | refine LCode.seq ?_ | refine LCode.region ?_ | refine QThen.normal ?_ | refine LOps.pure (Pure.mv (lv := .atom _) rfl) rfl ?_ | refine LOps.pure (Pure.sneq rfl rfl) rfl ?_
  refine LCode.cond rfl (fun hne => ?_) (fun hne => ?_)
  ·have hrest : rest ≠ [] := by simpa using hne
   obtain ⟨f, rfl⟩ : ∃ f, fuel = f + 1 := ⟨fuel - 1, by
    have : 0 < rest.length := List.length_pos_iff.2 hrest
    omega⟩
   rw [lexP, if_neg hrest] at hI
   have hsk := skipLen_le rest
   repeat first | refine LCode.seq ?_ | refine LCode.region ?_ | refine LCode.skip ?_ | refine LCode.block ?_ | refine QThen.normal ?_ | refine LOps.pure (Pure.mv (lv := .atom _) rfl) rfl ?_
   refine LOps.step (S.fn [_] rfl (skip_spec rest (by omega)) ?_) rfl
   repeat first | refine LOps.nil ?_ | refine LCode.seq ?_ | refine LCode.region ?_ | refine QThen.normal ?_ | refine LOps.pure (Pure.as (lv := .atom _) rfl) rfl ?_ | refine LOps.pure (Pure.mv (lv := .atom _) rfl) rfl ?_ | refine LOps.pure (Pure.eql rfl rfl) rfl ?_
   refine LCode.cond rfl (fun hz => ?_) (fun hz => ?_)
   ·have hz' : skipLen rest = 0 := by have := of_decide_eq_true hz; omega
    rw [if_pos hz'] at hI
    repeat first | refine LCode.seq ?_ | refine LCode.region ?_ | refine LOps.pure (Pure.mv (lv := .atom _) rfl) rfl ?_
    refine LOps.step (S.fn [_] rfl (token_spec hG rest (by omega) hrest) ?_) rfl
    repeat first | refine LOps.pure (Pure.mv (lv := .tuple _) rfl) rfl ?_ | refine LOps.pure (Pure.extract (c := .agg _) rfl rfl) rfl ?_ | refine LOps.pure (Pure.extract (c := .atom _) rfl rfl) rfl ?_
    refine LOps.step (S.alloc fun b => ?_) rfl
    repeat first | refine LOps.nil ?_ | refine LCode.seq ?_ | refine LCode.region ?_ | refine QThen.normal ?_ | refine LOps.pure (Pure.as (lv := .atom _) rfl) rfl ?_ | refine LOps.pure (Pure.mv (lv := .atom _) rfl) rfl ?_ | refine LOps.pure (Pure.neq rfl rfl) rfl ?_ | refine LOps.step (S.store (cs' := [_, _, _]) rfl Pick.here rfl rfl rfl rfl rfl ?_) rfl
    refine LCode.cond rfl (fun he => ?_) (fun he => ?_)
    ·have he' : (lexToken rest).2.2 ≠ 0 := by simpa using he
     rw [if_pos he'] at hI
     repeat first | refine LOps.nil ?_ | refine LCode.seq ?_ | refine LCode.region ?_ | refine LCode.ret ?_ | refine QThen.normal ?_ | refine QThen.ret ?_ | refine QBlock.ret ?_ | refine LOps.pure (Pure.as (lv := .atom _) rfl) rfl ?_ | refine LOps.pure (Pure.mv (lv := .atom _) rfl) rfl ?_
     exact retRet hj (AllRes.cons (ResIs.tmp (v := nilSlice) rfl LV.Sub.nil) (AllRes.cons (ResIs.tmp (v := .atom _) rfl (LV.Sub.refl _)) (AllRes.cons (ResIs.tmp (v := .atom _) rfl (LV.Sub.refl _)) AllRes.nil))) (by
      rw [lexAllP, if_neg (by omega), hI]
      rfl)
    ·have he' : (lexToken rest).2.2 = 0 := by simpa using he
     rw [if_neg (by simpa using he')] at hI
     obtain ⟨hs0, hs1⟩ := lexToken_size rest he'
     repeat first | refine LOps.nil ?_ | refine LCode.seq ?_ | refine LCode.region ?_ | refine LCode.skip ?_ | refine QThen.normal ?_ | refine LOps.pure (Pure.mv (lv := .atom _) rfl) rfl ?_ | refine LOps.pure (Pure.fieldH rfl) rfl ?_ | refine LOps.step (S.store (cs' := [_, _, _]) rfl Pick.here rfl rfl rfl rfl rfl ?_) rfl
     refine LOps.pure (Pure.mv (lv := v) rfl) rfl ?_
     repeat first | refine LOps.pure (Pure.ldHAgg (cs' := [_, _, _]) rfl (List.Mem.head _) rfl rfl) rfl ?_
     refine LOps.step (S.lit [_] rfl (elemsOk.cons rfl rfl elemsOk.nil) rfl rfl rfl ?_) rfl
     refine LOps.weak (HSub.drop (HSub.refl _)) ?_
     refine LOps.step (S.acc rfl hacc rfl (by simp; rfl) rfl (by simp; omega) fun v' H' hacc' => ?_) rfl
     refine LOps.pure (Pure.as (lv := v') rfl) rfl ?_
     repeat first | refine LOps.nil ?_ | refine LCode.seq ?_ | refine LCode.region ?_ | refine QThen.normal ?_ | refine LOps.pure (Pure.as (lv := .atom _) rfl) rfl ?_ | refine LOps.pure (Pure.mv (lv := .atom _) rfl) rfl ?_
     refine LOps.pure (Pure.sslice (i := 0) (j := (lexToken rest).2.1) rfl rfl ⟨_, rfl⟩ (by omega) (by omega) (by omega)) rfl ?_
     refine LOps.step (S.fn [_, _] rfl (countNl_spec _) ?_) rfl
     have hcnt : (List.drop (Int.toNat 0) (List.take ((lexToken rest).2.1 : Int).toNat rest)).count 10 ≤ (lexToken rest).2.1 := Nat.le_trans List.count_le_length (by simp; omega)
     repeat first | refine LOps.nil ?_ | refine LCode.region ?_ | refine QThen.normal ?_ | refine LOps.pure (Pure.as (lv := .atom _) rfl) rfl ?_ | refine LOps.pure (Pure.mv (lv := .atom _) rfl) rfl ?_ | refine LOps.pure (Pure.add rfl rfl (by omega)) rfl ?_
     refine LOps.pure (Pure.sslice (i := (lexToken rest).2.1) (j := rest.length) rfl ⟨_, rfl⟩ rfl (by omega) (by omega) (by omega)) rfl ?_
     repeat first | refine LOps.nil ?_ | refine QThen.normal ?_ | refine QBlock.normal ?_ | refine LOps.pure (Pure.as (lv := .atom _) rfl) rfl ?_
     have hacc2 : Acc 3 v' ((out ++ [{ (lexToken rest).1 with line := line }]).map encTok) H' [] := by
      rw [List.map_append]
      exact hacc'
     exact ⟨_, _, _, by simp only [List.length_drop]; omega, ⟨v', out ++ [{ (lexToken rest).1 with line := line }], rest.drop (lexToken rest).2.1, line + ((rest.take (lexToken rest).2.1).count 10 : Nat), f, rfl, rfl, hacc2,
      by simp only [List.length_drop]; omega, by omega, by simp only [List.length_drop]; simp at hcnt; omega, by simp only [List.length_drop, List.length_append, List.length_singleton]; omega, by
       rw [hI, map_map_ex]
       congr 1
       funext x
       simp⟩, ⟨rfl, int_eq (by simp), str_eq (by simp), trivial⟩, HSub.refl _, hj⟩
   ·have hz' : ¬ skipLen rest = 0 := by have := of_decide_eq_false hz; omega
    rw [if_neg hz'] at hI
    repeat first | refine LCode.seq ?_ | refine LCode.region ?_ | refine LCode.skip ?_ | refine QThen.normal ?_ | refine LOps.pure (Pure.mv (lv := .atom _) rfl) rfl ?_
    refine LOps.pure (Pure.sslice (i := 0) (j := skipLen rest) rfl rfl ⟨_, rfl⟩ (by omega) (by omega) (by omega)) rfl ?_
    refine LOps.step (S.fn [_, _] rfl (countNl_spec _) ?_) rfl
    have hcnt : (List.drop (Int.toNat 0) (List.take (skipLen rest : Int).toNat rest)).count 10 ≤ skipLen rest := Nat.le_trans List.count_le_length (by simp; omega)
    repeat first | refine LOps.nil ?_ | refine LCode.region ?_ | refine QThen.normal ?_ | refine LOps.pure (Pure.as (lv := .atom _) rfl) rfl ?_ | refine LOps.pure (Pure.mv (lv := .atom _) rfl) rfl ?_ | refine LOps.pure (Pure.add rfl rfl (by omega)) rfl ?_
    refine LOps.pure (Pure.sslice (i := skipLen rest) (j := rest.length) rfl ⟨_, rfl⟩ rfl (by omega) (by omega) (by omega)) rfl ?_
    repeat first | refine LOps.nil ?_ | refine QThen.normal ?_ | refine QBlock.normal ?_ | refine LOps.pure (Pure.as (lv := .atom _) rfl) rfl ?_
    exact ⟨_, _, _, by simp only [List.length_drop]; omega, ⟨v, out, rest.drop (skipLen rest), line + ((rest.take (skipLen rest)).count 10 : Nat), f, rfl, rfl, hacc,
      by simp only [List.length_drop]; omega, by omega, by simp only [List.length_drop]; simp at hcnt; omega, by simp only [List.length_drop]; omega, hI⟩, ⟨rfl, int_eq (by simp), str_eq (by simp), trivial⟩, HSub.refl _, hj⟩
  ·have hrest : rest = [] := by simpa using hne
   repeat first | refine LCode.seq ?_ | refine LCode.region ?_ | refine LCode.exit ?_ | refine QThen.normal ?_ | refine QThen.exit ?_ | refine QBlock.hit ?_
   refine LOps.pure (Pure.mv (lv := v) rfl) rfl ?_
   refine LOps.pure (Pure.as (lv := v) rfl) rfl ?_
   repeat first | refine LOps.nil ?_ | refine LCode.ret ?_ | refine QThen.normal ?_ | refine LOps.pure (Pure.as (lv := .atom _) rfl) rfl ?_
   exact retRet hj (AllRes.cons (ResIs.tmp (v := v) rfl hacc.sub) (AllRes.cons (ResIs.tmp (v := .atom _) rfl (LV.Sub.refl _)) (AllRes.cons (ResIs.tmp (v := .atom _) rfl (LV.Sub.refl _)) AllRes.nil))) (by
    rw [lexAllP, if_neg (by omega), hI, hrest]
    cases fuel <;> simp [lexP, Except.map, encLex, resLV])
end
end Go.Proofs.YtcbpcianefpniaaGreatDoor
namespace Go.Proofs.YtcbpcianefpniaaGreatDoor
open Go.GL Go.RowKit Go.Stele
set_option maxRecDepth 100000
set_option maxHeartbeats 4000000
attribute [local irreducible] LOps LCode LStep LCalls Go.GL.Pure QThen QBlock RetPost LQ LAny LLate LLateOp
@[reducible] def srcH (sb : Nat) (T : List Tok) (i op : Nat) : Nat × LObj := (sb, .cells 95 [.list (T.map encTok), int .i64 i, int .i64 op])
def pan (l e : Int) : List PanicEntry := [{ v := .iface 91 (.agg #[.int .i64 l, .int .i64 e]), recovered := false }]
def PostP {A : Type} (sb : Nat) (T : List Tok) (enc : A → LV) (res : Res A) (r : LRes) (H : Heap) : Prop := match res with
 | .ok v i op => r = .ret (enc v) ∧ H = [srcH sb T i op]
 | .err l e => r = .panic (pan l e) ∧ ∃ i op : Nat, H = [srcH sb T i op]
def encU : Unit → LV := fun _ => .tuple []
theorem map_get {A : Type} (f : A → LV) (l : List A) (i : Nat) (h : i < l.length) : (l.map f)[((i : Nat) : Int).toNat]? = some (f l[i]) := by
 rw [Int.toNat_natCast, List.getElem?_map, List.getElem?_eq_getElem h]
 rfl
section
variable {B0 : Nat} {w0 : World}
theorem is_spec (sb : Nat) (T : List Tok) (i op : Nat) (xs : List (List UInt8)) (hT : T.length ≤ 100000) (hi : i ≤ 1000000) (hx : xs.length ≤ 1000) :
  LCalls (KC B0 w0) 87 [ptr sb 0, .list (xs.map str)] [srcH sb T i op] (fun r H => r = .ret (bool (isTok T i xs)) ∧ H = [srcH sb T i op]) := by
 refine LCalls.intro Tryz.func87 rfl (n := 40) rfl rfl rfl ?_
 repeat first | refine LOps.nil ?_ | refine LCode.seq ?_ | refine LCode.region ?_ | refine QThen.normal ?_ | refine LOps.pure (Pure.as (lv := .atom _) rfl) rfl ?_
 refine LCode.cut [(0, ptr sb 0), (1, .list (xs.map str)), (15, bool (decide (T.length ≤ i)))] ?_ (fun j hj => ?_)
 ·refine LCode.quiet (by kernel_rfl) ?_
  repeat first | refine LQ.pure (Pure.mv (lv := .atom _) rfl) rfl ?_ | refine LQ.pure (Pure.nilCheckH rfl) rfl ?_ | refine LQ.pure (Pure.fieldH rfl) rfl ?_ | refine LQ.pure (Pure.loadH (c := .atom _) rfl (List.Mem.head _) rfl) rfl ?_ | refine LQ.pure (Pure.loadH (c := .list _) rfl (List.Mem.head _) rfl) rfl ?_ | refine LQ.pure (Pure.llen rfl) rfl ?_ | refine LQ.pure (Pure.geq rfl rfl) rfl ?_ | refine LQ.nil ?_ | refine QThen.normal ?_
  exact ⟨⟨rfl, rfl, bool_eq (by rw [decide_eq_decide]; simp), trivial⟩, rfl, rfl⟩
 ·skip
  refine LCode.cond rfl (fun hc => ?_) (fun hc => ?_)
  ·repeat first | refine LOps.nil ?_ | refine LCode.seq ?_ | refine LCode.region ?_ | refine LCode.ret ?_ | refine QThen.normal ?_ | refine QThen.ret ?_ | refine LOps.pure (Pure.as (lv := .atom _) rfl) rfl ?_
   exact RetPost.ret hj (AllRes.cons (ResIs.tmp (v := .atom _) rfl (LV.Sub.refl _)) AllRes.nil) (HSub.refl _) ⟨by rw [isTok, List.getElem?_eq_none (of_decide_eq_true hc)]; rfl, rfl⟩
  ·have hlt : i < T.length := by have := of_decide_eq_false hc; omega
   repeat first | refine LCode.seq ?_ | refine LCode.skip ?_ | refine QThen.normal ?_
   refine LCode.draw (m := 12) rfl [srcH sb T i op] ?_
   refine LAny.tk 0 rfl rfl (Pure.mv (lv := .atom _) rfl) ?_
   refine LAny.tk 1 rfl rfl (Pure.nilCheckH rfl) ?_
   refine LAny.tk 2 rfl rfl (Pure.fieldH rfl) ?_
   refine LAny.tk 3 rfl rfl (Pure.loadH (c := .list _) rfl (List.Mem.head _) rfl) ?_
   refine LAny.tk 4 rfl rfl (Pure.mv (lv := .atom _) rfl) ?_
   refine LAny.tk 5 rfl rfl (Pure.nilCheckH rfl) ?_
   refine LAny.tk 6 rfl rfl (Pure.fieldH rfl) ?_
   refine LAny.tk 7 rfl rfl (Pure.loadH (c := .atom _) rfl (List.Mem.head _) rfl) ?_
   refine LAny.take (i := 8) (HSub.refl _) rfl (by kernel_rfl) (by kernel_rfl) (by kernel_rfl) rfl (Pure.ixRef (el' := encTok T[i]) (cs := [_, _, _]) rfl rfl (by omega) (map_get _ _ _ hlt) rfl rfl) ?_
   refine LAny.tk 9 rfl rfl (Pure.ldRefAgg (cs' := [_, _, _]) rfl rfl rfl) ?_
   refine LAny.late ?_ (HSub.refl _)
   refine LLate.o 10 (LLateOp.step (H1 := []) (F := [srcH sb T i op]) rfl (.inl rfl) rfl (List.Perm.refl _) (HSub.refl _) (S.alloc fun b => ?_))
   refine LLate.o 11 (LLateOp.step (H1 := [(b, _)]) (F := [srcH sb T i op]) rfl (.inl rfl) rfl (List.Perm.refl _) (HSub.refl _) (S.store (cs' := [_, _, _]) rfl Pick.here rfl rfl rfl rfl rfl ?_))
   refine LLate.done (by kernel_rfl) ?_
   repeat first | refine LCode.seq ?_ | refine LCode.region ?_ | refine QThen.normal ?_ | refine LOps.pure (Pure.mv (lv := .atom _) rfl) rfl ?_ | refine LOps.pure (Pure.fieldH rfl) rfl ?_ | refine LOps.pure (Pure.loadH (c := .atom _) rfl (List.Mem.head _) rfl) rfl ?_ | refine LOps.pure (Pure.eql rfl rfl) rfl ?_
   have hsp : isTok T i xs = ((decide (T[i].kind = 3) || decide (T[i].kind = 4)) && xs.contains T[i].text) := by rw [isTok, List.getElem?_eq_getElem hlt]
   rw [hsp]
   refine LOps.bcase 29 rfl (fun h3 => ?_) (fun h3 => ?_)
   ·repeat first | refine LOps.pure (Pure.mv (lv := .atom _) rfl) rfl ?_ | refine LOps.pure (Pure.fieldH rfl) rfl ?_ | refine LOps.pure (Pure.loadH (c := .atom _) rfl (List.Mem.head _) rfl) rfl ?_ | refine LOps.pure (Pure.pickT (lv := .atom _) rfl rfl) rfl ?_ | refine LOps.pure (Pure.mv (lv := .list _) rfl) rfl ?_ | refine LOps.want rfl rfl ?_ | refine LOps.skip rfl rfl rfl rfl ?_
    refine LOps.step (S.fn [_, _] rfl (Contains_spec xs T[i].text (by omega)) ?_) rfl
    repeat first | refine LOps.nil ?_ | refine LCode.ret ?_ | refine QThen.normal ?_ | refine LOps.pure (Pure.as (lv := .atom _) rfl) rfl ?_ | refine LOps.pure (Pure.pickT (lv := .atom _) rfl rfl) rfl ?_
    exact RetPost.ret hj (AllRes.cons (ResIs.tmp (v := .atom _) rfl (LV.Sub.refl _)) AllRes.nil) (HSub.drop (HSub.refl _)) ⟨by rw [h3]; rfl, rfl⟩
   ·repeat first | refine LOps.pure (Pure.mv (lv := .atom _) rfl) rfl ?_ | refine LOps.pure (Pure.fieldH rfl) rfl ?_ | refine LOps.pure (Pure.loadH (c := .atom _) rfl (List.Mem.head _) rfl) rfl ?_ | refine LOps.pure (Pure.eql rfl rfl) rfl ?_ | refine LOps.pure (Pure.pickF (lv := .atom _) rfl rfl) rfl ?_ | refine LOps.want rfl rfl ?_
    refine LOps.bcase 34 rfl (fun h4 => ?_) (fun h4 => ?_)
    ·repeat first | refine LOps.pure (Pure.fieldH rfl) rfl ?_ | refine LOps.pure (Pure.loadH (c := .atom _) rfl (List.Mem.head _) rfl) rfl ?_ | refine LOps.pure (Pure.mv (lv := .list _) rfl) rfl ?_ | refine LOps.want rfl rfl ?_
     refine LOps.step (S.fn [_, _] rfl (Contains_spec xs T[i].text (by omega)) ?_) rfl
     repeat first | refine LOps.nil ?_ | refine LCode.ret ?_ | refine QThen.normal ?_ | refine LOps.pure (Pure.as (lv := .atom _) rfl) rfl ?_ | refine LOps.pure (Pure.pickT (lv := .atom _) rfl rfl) rfl ?_
     exact RetPost.ret hj (AllRes.cons (ResIs.tmp (v := .atom _) rfl (LV.Sub.refl _)) AllRes.nil) (HSub.drop (HSub.refl _)) ⟨by rw [h3, h4]; rfl, rfl⟩
    ·repeat first | refine LOps.nil ?_ | refine LCode.ret ?_ | refine QThen.normal ?_ | refine LOps.pure (Pure.as (lv := .atom _) rfl) rfl ?_ | refine LOps.pure (Pure.pickF (lv := .atom _) rfl rfl) rfl ?_ | refine LOps.skip rfl rfl rfl rfl ?_
     exact RetPost.ret hj (AllRes.cons (ResIs.tmp (v := .atom _) rfl (LV.Sub.refl _)) AllRes.nil) (HSub.drop (HSub.refl _)) ⟨by rw [h3, h4]; rfl, rfl⟩
end
end Go.Proofs.YtcbpcianefpniaaGreatDoor
namespace Go.Proofs.YtcbpcianefpniaaGreatDoor
open Go.GL Go.RowKit Go.Stele
set_option maxRecDepth 100000
set_option maxHeartbeats 4000000
section steps
variable {C : Ctx} {e : Env} {H : Heap} {dst : Option Nat} {ty : TypeId} {pos : String} {aft : Array Edge} {g : Option (Nat × Bool)} {K : LV → Heap → Prop} {X : List PanicEntry → Heap → Prop}
theorem S.fnH {f : FuncId} [TEnter C.P f] (args : List Operand) {ats : Array TypeId} {av : List LV} {lv : LV} {p p' : Nat × LObj} {F : Heap} (has : args.map e.ev = av) (hp : Pick p H F) (hc : LCalls C f av [p] (fun r H => r = .ret lv ∧ H = [p'])) (hk : K lv (p' :: F)) :
  LStep C ⟨dst, .call { callee := .value (.func f), args := args.toArray, argTypes := ats }, ty, pos, aft, g⟩ e H K X :=
 S.call1 args has hp hc (by rintro v H' ⟨h, rfl⟩; cases h; exact hk) (by rintro ch H' ⟨h, _⟩; cases h)
theorem S.callP {A : Type} {enc : A → LV} {res : Res A} {sb i op : Nat} {T : List Tok} {f : FuncId} [TEnter C.P f] (args : List Operand) {ats : Array TypeId} {av : List LV} {F : Heap} (has : args.map e.ev = av) (hp : Pick (srcH sb T i op) H F)
  (hc : LCalls C f av [srcH sb T i op] (PostP sb T enc res)) (hk : ∀ v i' op', res = .ok v i' op' → K (enc v) (srcH sb T i' op' :: F)) (hx : ∀ l er i' op', res = .err l er → X (pan l er) (srcH sb T i' op' :: F)) :
  LStep C ⟨dst, .call { callee := .value (.func f), args := args.toArray, argTypes := ats }, ty, pos, aft, g⟩ e H K X := by
 refine S.call1 args has hp hc ?_ ?_
 ·intro v H' h
  cases hr : res with
  | ok u i' op' =>
   rw [hr] at h
   obtain ⟨h1, rfl⟩ := h
   cases h1
   exact hk _ _ _ hr
  | err l er =>
   rw [hr] at h
   obtain ⟨h1, _⟩ := h
   cases h1
 ·intro ch H' h
  cases hr : res with
  | ok u i' op' =>
   rw [hr] at h
   obtain ⟨h1, _⟩ := h
   cases h1
  | err l er =>
   rw [hr] at h
   obtain ⟨h1, i', op', rfl⟩ := h
   cases h1
   exact hx _ _ _ _ hr
theorem retP {A : Type} {enc : A → LV} {res : Res A} {sb : Nat} {T : List Tok} {n : Nat} {rs : List ResultVar} {vs : List LV} {v : A} {i op : Nat} (hd : e.ds = []) (h : AllRes C n e H rs vs) (hr : res = .ok v i op) (hv : resLV vs = enc v) (hH : HSub [srcH sb T i op] H) :
  RetPost C n rs (PostP sb T enc res) .ret e H := RetPost.ret hd h hH (by rw [hr]; exact ⟨by rw [hv], rfl⟩)
theorem retPn {A : Type} {enc : A → LV} {res : Res A} {sb : Nat} {T : List Tok} {n : Nat} {rs : List ResultVar} {vs : List LV} {v : A} {i op : Nat} (hd : e.ds = []) (h : AllRes C n e H rs vs) (hr : res = .ok v i op) (hv : resLV vs = enc v) (hH : HSub [srcH sb T i op] H) :
  RetPost C n rs (PostP sb T enc res) .normal e H := RetPost.normal hd h hH (by rw [hr]; exact ⟨by rw [hv], rfl⟩)
theorem panP {A : Type} {enc : A → LV} {res : Res A} {sb : Nat} {T : List Tok} {n : Nat} {rs : List ResultVar} {i op : Nat} {l er : Int} (hd : e.ds = []) (hr : res = .err l er) (hH : HSub [srcH sb T i op] H) :
  RetPost C n rs (PostP sb T enc res) (.panic (pan l er)) e H := RetPost.panic hd hH (by rw [hr]; exact ⟨rfl, i, op, rfl⟩)
end steps
attribute [local irreducible] LOps LCode LStep LCalls Go.GL.Pure QThen QBlock RetPost LQ LAny LLate LLateOp
section
variable {B0 : Nat} {w0 : World}
theorem fail_spec {A : Type} (enc : A → LV) (sb : Nat) (T : List Tok) (i op : Nat) (er : Int) (hT : T.length ≤ 100000) (hi : i ≤ 1000000) :
  LCalls (KC B0 w0) 92 [ptr sb 0, int .i64 er] [srcH sb T i op] (PostP sb T enc (.err (failLine T i) er)) := by
 have hml : (T.map encTok).length = T.length := List.length_map _
 refine LCalls.intro Tryz.func92 rfl (n := 31) rfl rfl rfl ?_
 repeat first | refine LOps.nil ?_ | refine LCode.seq ?_ | refine LCode.region ?_ | refine QThen.normal ?_ | refine LOps.pure (Pure.as (lv := .atom _) rfl) rfl ?_ | refine LOps.pure (Pure.mv (lv := .atom _) rfl) rfl ?_ | refine LOps.pure (Pure.nilCheckH rfl) rfl ?_ | refine LOps.pure (Pure.fieldH rfl) rfl ?_ | refine LOps.pure (Pure.loadH (c := .list _) rfl (List.Mem.head _) rfl) rfl ?_ | refine LOps.pure (Pure.llen rfl) rfl ?_ | refine LOps.pure (Pure.gtr rfl rfl) rfl ?_
 refine LCode.cut [(0, ptr sb 0), (1, int .i64 er), (4, int .i64 (failLine T i))] ?_ (fun j hj => ?_)
 ·refine LCode.cond rfl (fun hc => ?_) (fun hc => ?_)
  ·have hpos : 0 < T.length := by have := of_decide_eq_true hc; simp at this; omega
   have hmin : min i (T.length - 1) < T.length := by omega
   have hmv : (if ((T.map encTok).length : Int) - 1 < (i : Int) then ((T.map encTok).length : Int) - 1 else (i : Int)) = ((min i (T.length - 1) : Nat) : Int) := by
    rw [List.length_map]
    split <;> omega
   refine LCode.quiet (by kernel_rfl) ?_
   repeat first | refine LQ.pure (Pure.mv (lv := .atom _) rfl) rfl ?_ | refine LQ.pure (Pure.nilCheckH rfl) rfl ?_ | refine LQ.pure (Pure.fieldH rfl) rfl ?_ | refine LQ.pure (Pure.loadH (c := .list _) rfl (List.Mem.head _) rfl) rfl ?_ | refine LQ.pure (Pure.loadH (c := .atom _) rfl (List.Mem.head _) rfl) rfl ?_ | refine LQ.pure (Pure.sub rfl rfl (by omega)) rfl ?_ | refine LQ.pure (Pure.minI rfl rfl) rfl ?_
   refine LQ.pure (Pure.ixRef (n := ((min i (T.length - 1) : Nat) : Int)) (el' := encTok T[min i (T.length - 1)]) (cs := [_, _, _]) rfl (congrArg (int .i64) hmv) (by omega) (map_get _ _ _ hmin) rfl rfl) rfl ?_
   repeat first | refine LQ.pure (Pure.as (lv := .atom _) rfl) rfl ?_ | refine LQ.pure (Pure.field1 rfl rfl) rfl ?_ | refine LQ.pure (Pure.loadRef (c := .atom _) rfl rfl) rfl ?_ | refine LQ.nil ?_ | refine QThen.normal ?_
   exact ⟨⟨rfl, rfl, int_eq (by rw [failLine, List.getElem?_eq_getElem hmin]), trivial⟩, rfl, rfl⟩
  ·have hz : T = [] := by
    have := of_decide_eq_false hc
    exact List.length_eq_zero_iff.1 (by omega)
   repeat first | refine LCode.skip ?_ | refine QThen.normal ?_
   exact ⟨⟨rfl, rfl, int_eq (by rw [failLine, hz]; rfl), trivial⟩, rfl, rfl⟩
 ·repeat first | refine LCode.region ?_ | refine LOps.pure (Pure.mv (lv := .atom _) rfl) rfl ?_ | refine LOps.pure (Pure.bld _ (cs := [_, _]) rfl) rfl ?_ | refine LOps.pure (Pure.makeInterfaceAgg (vs := [_, _]) rfl) rfl ?_
  refine LOps.step (LStep.panic rfl fun e' he' => ?_) rfl
  exact panP (he'.trans hj) rfl (HSub.refl _)
theorem take_spec (sb : Nat) (T : List Tok) (i op : Nat) (x : List UInt8) (hT : T.length ≤ 100000) (hi : i ≤ 1000000) :
  LCalls (KC B0 w0) 89 [ptr sb 0, str x] [srcH sb T i op] (fun r H => r = .ret (bool (isTok T i [x])) ∧ H = [srcH sb T (if isTok T i [x] then i + 1 else i) op]) := by
 refine LCalls.intro Tryz.func89 rfl (n := 17) rfl rfl rfl ?_
 repeat first | refine LOps.nil ?_ | refine LCode.seq ?_ | refine LCode.region ?_ | refine QThen.normal ?_ | refine LOps.pure (Pure.as (lv := .atom _) rfl) rfl ?_ | refine LOps.pure (Pure.mv (lv := .atom _) rfl) rfl ?_
 refine LOps.step (S.lit [_] rfl (elemsOk.cons rfl rfl elemsOk.nil) rfl rfl rfl ?_) rfl
 refine LOps.step (S.fnH [_, _] rfl Pick.here (is_spec sb T i op [x] hT hi (by simp)) ?_) rfl
 repeat first | refine LOps.nil ?_ | refine QThen.normal ?_ | refine LOps.pure (Pure.not rfl) rfl ?_
 refine LCode.cond rfl (fun hc => ?_) (fun hc => ?_)
 ·have h : isTok T i [x] = false := by simpa using hc
  repeat first | refine LOps.nil ?_ | refine LCode.seq ?_ | refine LCode.region ?_ | refine LCode.ret ?_ | refine QThen.normal ?_ | refine QThen.ret ?_ | refine LOps.pure (Pure.as (lv := .atom _) rfl) rfl ?_
  exact RetPost.ret rfl (AllRes.cons (ResIs.tmp (v := .atom _) rfl (LV.Sub.refl _)) AllRes.nil) (HSub.refl _) ⟨by rw [h]; rfl, by rw [h]; rfl⟩
 ·have h : isTok T i [x] = true := by simpa using hc
  repeat first | refine LOps.nil ?_ | refine LCode.seq ?_ | refine LCode.region ?_ | refine LCode.skip ?_ | refine LCode.ret ?_ | refine QThen.normal ?_ | refine LOps.pure (Pure.as (lv := .atom _) rfl) rfl ?_ | refine LOps.pure (Pure.mv (lv := .atom _) rfl) rfl ?_ | refine LOps.pure (Pure.nilCheckH rfl) rfl ?_ | refine LOps.pure (Pure.fieldH rfl) rfl ?_ | refine LOps.pure (Pure.loadH (c := .atom _) rfl (List.Mem.head _) rfl) rfl ?_ | refine LOps.pure (Pure.add rfl rfl (by omega)) rfl ?_ | refine LOps.step (S.store (cs' := [_, _, _]) rfl Pick.here rfl rfl rfl rfl rfl ?_) rfl
  exact RetPost.ret rfl (AllRes.cons (ResIs.tmp (v := .atom _) rfl (LV.Sub.refl _)) AllRes.nil) (HSub.refl _) ⟨by rw [h]; rfl, by rw [h]; rfl⟩
theorem need_spec (sb : Nat) (T : List Tok) (i op : Nat) (x : List UInt8) (hT : T.length ≤ 100000) (hi : i ≤ 1000000) :
  LCalls (KC B0 w0) 138 [ptr sb 0, str x] [srcH sb T i op] (PostP sb T encU (sNeed T x i op)) := by
 refine LCalls.intro Tryz.func138 rfl (n := 10) rfl rfl rfl ?_
 repeat first | refine LCode.seq ?_ | refine LCode.region ?_ | refine LOps.pure (Pure.mv (lv := .atom _) rfl) rfl ?_
 refine LOps.step (S.fnH [_, _] rfl Pick.here (take_spec sb T i op x hT hi) ?_) rfl
 repeat first | refine LOps.nil ?_ | refine QThen.normal ?_ | refine LOps.pure (Pure.not rfl) rfl ?_
 refine LCode.cond rfl (fun hc => ?_) (fun hc => ?_)
 ·have h : isTok T i [x] = false := by simpa using hc
  simp only [h, Bool.false_eq_true, if_false]
  repeat first | refine LCode.region ?_ | refine LOps.pure (Pure.mv (lv := .atom _) rfl) rfl ?_
  refine LOps.step (S.callP [_, _] rfl Pick.here (fail_spec encU sb T i op 3 hT hi) (fun _ _ _ h => by cases h) (fun l er i' op' h e' he' => ?_)) rfl
  cases h
  exact panP (he'.trans rfl) (by rw [sNeed, h, if_neg (by decide)]; rfl) (HSub.refl _)
 ·have h : isTok T i [x] = true := by simpa using hc
  simp only [h, if_true]
  repeat first | refine LCode.skip ?_
  exact retPn rfl AllRes.nil (by rw [sNeed, h, if_pos rfl]) rfl (HSub.refl _)
theorem word_spec (sb : Nat) (T : List Tok) (i op : Nat) (k : Int) (hT : T.length ≤ 100000) (hi : i ≤ 1000000) :
  LCalls (KC B0 w0) 139 [ptr sb 0, int .i64 k] [srcH sb T i op] (PostP sb T str (sWord T k i op)) := by
 have hml : (T.map encTok).length = T.length := List.length_map _
 refine LCalls.intro Tryz.func139 rfl (n := 51) rfl rfl rfl ?_
 repeat first | refine LOps.nil ?_ | refine LCode.seq ?_ | refine LCode.region ?_ | refine QThen.normal ?_ | refine LOps.pure (Pure.as (lv := .atom _) rfl) rfl ?_
 refine LCode.cut [(0, ptr sb 0), (1, int .i64 k), (29, bool (match T[i]? with | some t => !decide (t.kind = k) | none => true))] ?_ (fun j hj => ?_)
 ·refine LCode.quiet (by kernel_rfl) ?_
  repeat first | refine LQ.pure (Pure.mv (lv := .atom _) rfl) rfl ?_ | refine LQ.pure (Pure.nilCheckH rfl) rfl ?_ | refine LQ.pure (Pure.fieldH rfl) rfl ?_ | refine LQ.pure (Pure.loadH (c := .atom _) rfl (List.Mem.head _) rfl) rfl ?_ | refine LQ.pure (Pure.loadH (c := .list _) rfl (List.Mem.head _) rfl) rfl ?_ | refine LQ.pure (Pure.llen rfl) rfl ?_ | refine LQ.pure (Pure.geq rfl rfl) rfl ?_
  refine LQ.bcase 15 rfl (fun h => ?_) (fun h => ?_)
  ·have hge : T.length ≤ i := by have := of_decide_eq_true h; omega
   repeat first | refine LQ.pure (Pure.pickT (lv := .atom _) rfl rfl) rfl ?_ | refine LQ.skip rfl rfl rfl rfl ?_ | refine LQ.nil ?_ | refine QThen.normal ?_
   exact ⟨⟨rfl, rfl, bool_eq (by rw [List.getElem?_eq_none hge]), trivial⟩, rfl, rfl⟩
  ·have hlt : i < T.length := by have := of_decide_eq_false h; omega
   repeat first | refine LQ.pure (Pure.mv (lv := .atom _) rfl) rfl ?_ | refine LQ.pure (Pure.nilCheckH rfl) rfl ?_ | refine LQ.pure (Pure.fieldH rfl) rfl ?_ | refine LQ.pure (Pure.loadH (c := .atom _) rfl (List.Mem.head _) rfl) rfl ?_ | refine LQ.pure (Pure.loadH (c := .list _) rfl (List.Mem.head _) rfl) rfl ?_ | refine LQ.want rfl rfl ?_
   refine LQ.pure (Pure.ixRef (el' := encTok T[i]) (cs := [_, _, _]) rfl rfl (by omega) (map_get _ _ _ hlt) rfl rfl) rfl ?_
   repeat first | refine LQ.pure (Pure.mv (lv := .atom _) rfl) rfl ?_ | refine LQ.pure (Pure.field1 rfl rfl) rfl ?_ | refine LQ.pure (Pure.loadRef (c := .atom _) rfl rfl) rfl ?_ | refine LQ.pure (Pure.neq rfl rfl) rfl ?_ | refine LQ.pure (Pure.pickF (lv := .atom _) rfl rfl) rfl ?_ | refine LQ.want rfl rfl ?_ | refine LQ.nil ?_ | refine QThen.normal ?_
   exact ⟨⟨rfl, rfl, bool_eq (by rw [List.getElem?_eq_getElem hlt]), trivial⟩, rfl, rfl⟩
 ·skip
  refine LCode.cond rfl (fun hc => ?_) (fun hc => ?_)
  ·have hs : sWord T k i op = synErr T i := by
    unfold sWord
    cases hg : T[i]? with
    | none => rfl
    | some t =>
     rw [hg] at hc
     have : ¬ t.kind = k := by simpa using hc
     simp only
     rw [if_neg this]
   repeat first | refine LCode.region ?_ | refine LOps.pure (Pure.mv (lv := .atom _) rfl) rfl ?_
   refine LOps.step (S.callP [_, _] rfl Pick.here (fail_spec str sb T i op 3 hT hi) (fun _ _ _ h => by cases h) (fun l er i' op' h e' he' => ?_)) rfl
   cases h
   repeat first | refine QThen.panic ?_
   exact panP (he'.trans hj) hs (HSub.refl _)
  ·have hlt : i < T.length := by
    rcases Nat.lt_or_ge i T.length with h | h
    ·exact h
    ·rw [List.getElem?_eq_none h] at hc; cases hc
   rw [List.getElem?_eq_getElem hlt] at hc
   have hk : T[i].kind = k := by simpa using hc
   have hs : sWord T k i op = .ok T[i].text (i + 1) op := by rw [sWord, List.getElem?_eq_getElem hlt]; simp only; rw [if_pos hk]
   repeat first | refine LOps.nil ?_ | refine LCode.seq ?_ | refine LCode.region ?_ | refine LCode.skip ?_ | refine QThen.normal ?_ | refine LOps.pure (Pure.mv (lv := .atom _) rfl) rfl ?_ | refine LOps.pure (Pure.nilCheckH rfl) rfl ?_ | refine LOps.pure (Pure.fieldH rfl) rfl ?_ | refine LOps.pure (Pure.loadH (c := .atom _) rfl (List.Mem.head _) rfl) rfl ?_ | refine LOps.pure (Pure.add rfl rfl (by omega)) rfl ?_ | refine LOps.step (S.store (cs' := [_, _, _]) rfl Pick.here rfl rfl rfl rfl rfl ?_) rfl
   refine LCode.cut [(0, ptr sb 0), (4, str T[i].text)] ?_ (fun j2 hj2 => ?_)
   ·refine LCode.quiet (by kernel_rfl) ?_
    repeat first | refine LQ.pure (Pure.mv (lv := .atom _) rfl) rfl ?_ | refine LQ.pure (Pure.nilCheckH rfl) rfl ?_ | refine LQ.pure (Pure.fieldH rfl) rfl ?_ | refine LQ.pure (Pure.loadH (c := .atom _) rfl (List.Mem.head _) rfl) rfl ?_ | refine LQ.pure (Pure.loadH (c := .list _) rfl (List.Mem.head _) rfl) rfl ?_ | refine LQ.pure (Pure.sub rfl rfl (by omega)) rfl ?_
    refine LQ.pure (Pure.ixRef (n := ((i : Nat) : Int)) (el' := encTok T[i]) (cs := [_, _, _]) rfl (int_eq (by omega)) (by omega) (map_get _ _ _ hlt) rfl rfl) rfl ?_
    repeat first | refine LQ.pure (Pure.as (lv := .atom _) rfl) rfl ?_ | refine LQ.pure (Pure.field1 rfl rfl) rfl ?_ | refine LQ.pure (Pure.loadRef (c := .atom _) rfl rfl) rfl ?_ | refine LQ.nil ?_ | refine QThen.normal ?_
    exact ⟨⟨rfl, rfl, trivial⟩, rfl, rfl⟩
   ·repeat first | refine LCode.ret ?_
    exact retP (hj2.trans hj) (AllRes.cons (ResIs.tmp (v := .atom _) rfl (LV.Sub.refl _)) AllRes.nil) hs rfl (HSub.refl _)
theorem begin_spec (sb : Nat) (T : List Tok) (i op : Nat) (x : List UInt8) (hT : T.length ≤ 100000) (hi : i ≤ 1000000) (ho : op ≤ 1000000) :
  LCalls (KC B0 w0) 140 [ptr sb 0, str x] [srcH sb T i op] (PostP sb T encU (sBegin T x i op)) := by
 refine LCalls.intro Tryz.func140 rfl (n := 32) rfl rfl rfl ?_
 repeat first | refine LCode.seq ?_ | refine LCode.region ?_ | refine LOps.pure (Pure.mv (lv := .atom _) rfl) rfl ?_
 refine LOps.step (S.lit [_] rfl (elemsOk.cons rfl rfl elemsOk.nil) rfl rfl rfl ?_) rfl
 refine LOps.step (S.fnH [_, _] rfl Pick.here (is_spec sb T i op [x] hT hi (by simp)) ?_) rfl
 repeat first | refine LOps.nil ?_ | refine QThen.normal ?_ | refine LOps.pure (Pure.not rfl) rfl ?_
 refine LCode.cond rfl (fun hc => ?_) (fun hc => ?_)
 ·have h : isTok T i [x] = false := by simpa using hc
  repeat first | refine LCode.region ?_ | refine LOps.pure (Pure.mv (lv := .atom _) rfl) rfl ?_
  refine LOps.step (S.callP [_, _] rfl Pick.here (fail_spec encU sb T i op 3 hT hi) (fun _ _ _ h => by cases h) (fun l er i' op' h' e' he' => ?_)) rfl
  cases h'
  repeat first | refine QThen.panic ?_
  exact panP (he'.trans rfl) (by rw [sBegin, h, if_neg (by decide)]; rfl) (HSub.refl _)
 ·have h : isTok T i [x] = true := by simpa using hc
  repeat first | refine LOps.nil ?_ | refine LCode.seq ?_ | refine LCode.region ?_ | refine LCode.skip ?_ | refine QThen.normal ?_ | refine LOps.pure (Pure.mv (lv := .atom _) rfl) rfl ?_ | refine LOps.pure (Pure.nilCheckH rfl) rfl ?_ | refine LOps.pure (Pure.fieldH rfl) rfl ?_ | refine LOps.pure (Pure.loadH (c := .atom _) rfl (List.Mem.head _) rfl) rfl ?_ | refine LOps.pure (Pure.geq rfl rfl) rfl ?_
  refine LCode.cond rfl (fun hd => ?_) (fun hd => ?_)
  ·have hd' : 100 ≤ op := by have := of_decide_eq_true hd; omega
   repeat first | refine LCode.region ?_ | refine LOps.pure (Pure.mv (lv := .atom _) rfl) rfl ?_
   refine LOps.step (S.callP [_, _] rfl Pick.here (fail_spec encU sb T i op 6 hT hi) (fun _ _ _ h => by cases h) (fun l er i' op' h' e' he' => ?_)) rfl
   cases h'
   repeat first | refine QThen.panic ?_
   exact panP (he'.trans rfl) (by rw [sBegin, h, if_pos rfl, if_pos hd']) (HSub.refl _)
  ·have hd' : ¬ 100 ≤ op := by have := of_decide_eq_false hd; omega
   repeat first | refine LOps.nil ?_ | refine LCode.seq ?_ | refine LCode.region ?_ | refine LCode.skip ?_ | refine QThen.normal ?_ | refine LOps.pure (Pure.mv (lv := .atom _) rfl) rfl ?_ | refine LOps.pure (Pure.nilCheckH rfl) rfl ?_ | refine LOps.pure (Pure.fieldH rfl) rfl ?_ | refine LOps.pure (Pure.loadH (c := .atom _) rfl (List.Mem.head _) rfl) rfl ?_ | refine LOps.pure (Pure.add rfl rfl (by omega)) rfl ?_ | refine LOps.step (S.store (cs' := [_, _, _]) rfl Pick.here rfl rfl rfl rfl rfl ?_) rfl
   exact retPn rfl AllRes.nil (by rw [sBegin, h, if_pos rfl, if_neg hd']) rfl (HSub.refl _)
theorem end_spec (sb : Nat) (T : List Tok) (i op : Nat) (x : List UInt8) (hT : T.length ≤ 100000) (hi : i ≤ 1000000) (ho : op ≤ 1000000) (h1 : 1 ≤ op) :
  LCalls (KC B0 w0) 142 [ptr sb 0, str x] [srcH sb T i op] (PostP sb T encU (sEnd T x i op)) := by
 refine LCalls.intro Tryz.func142 rfl (n := 14) rfl rfl rfl ?_
 repeat first | refine LCode.seq ?_ | refine LCode.region ?_ | refine LOps.pure (Pure.mv (lv := .atom _) rfl) rfl ?_
 refine LOps.step (S.callP [_, _] rfl Pick.here (need_spec sb T i op x hT hi) (fun v i' op' h => ?_) (fun l er i' op' h e' he' => ?_)) rfl
 ·have hop : op' = op := by
   unfold sNeed at h
   split at h
   ·cases h; rfl
   ·cases h
  subst hop
  repeat first | refine LOps.nil ?_ | refine LCode.region ?_ | refine QThen.normal ?_ | refine LOps.pure (Pure.mv (lv := .atom _) rfl) rfl ?_ | refine LOps.pure (Pure.nilCheckH rfl) rfl ?_ | refine LOps.pure (Pure.fieldH rfl) rfl ?_ | refine LOps.pure (Pure.loadH (c := .atom _) rfl (List.Mem.head _) rfl) rfl ?_ | refine LOps.pure (Pure.sub rfl rfl (by omega)) rfl ?_ | refine LOps.step (S.store (cs' := [_, _, _]) rfl Pick.here rfl rfl rfl rfl rfl ?_) rfl
  rw [show ((op' : Int) - 1) = ((op' - 1 : Nat) : Int) by omega]
  exact retPn rfl AllRes.nil (by rw [sEnd, h]; rfl) rfl (HSub.refl _)
 ·repeat first | refine QThen.panic ?_
  exact panP (he'.trans rfl) (by rw [sEnd, h]; rfl) (HSub.refl _)
end
end Go.Proofs.YtcbpcianefpniaaGreatDoor
namespace Go.Proofs.YtcbpcianefpniaaGreatDoor
open Go.GL Go.RowKit Go.Stele
set_option maxRecDepth 100000
set_option maxHeartbeats 4000000
attribute [local irreducible] LOps LCode LStep LCalls Go.GL.Pure QThen QBlock RetPost LQ LAny LLate LLateOp
theorem obind_ok {A B : Type} {v : A} {i op : Nat} {f : A → Nat → Nat → OR B} : obind (some (.ok v i op)) f = f v i op := rfl
theorem obind_err {A B : Type} {l e : Int} {f : A → Nat → Nat → OR B} : obind (some (.err l e)) f = some (.err l e) := rfl
theorem obind_is {A B : Type} {r : OR A} {f : A → Nat → Nat → OR B} {q : Res B} (h : obind r f = some q) : ∃ r1, r = some r1 := by
 cases r with
 | none => cases h
 | some r1 => exact ⟨r1, rfl⟩
/-- The tokens that a parser works on: not too many, and each number's text is a number. -/
structure TOK (T : List Tok) : Prop where
 len : T.length ≤ 100000
 txt : ∀ t ∈ T, t.text.length ≤ 100000
 num : ∀ t ∈ T, t.kind = 1 → ∃ u, u < 4294967296 ∧ Go.Lib.parseUintB 32 t.text = .ok u
theorem wrap_u32 {n : Int} (h : 0 ≤ n ∧ n ≤ 4294967295) : IntKind.u32.wrap n = n := by
 simp only [IntKind.wrap, IntKind.bits, IntKind.signed, Bool.false_and]
 simp
 omega
theorem sWord_ok {T : List Tok} {k : Int} {i op i' op' : Nat} {s : List UInt8} (h : sWord T k i op = .ok s i' op') : i' = i + 1 ∧ op' = op ∧ ∃ t, T[i]? = some t ∧ t.kind = k ∧ t.text = s := by
 unfold sWord at h
 split at h
 ·rename_i t ht
  split at h
  ·rename_i hk
   cases h
   exact ⟨rfl, rfl, t, ht, hk, rfl⟩
  ·cases h
 ·cases h
def encNames (l : List (List UInt8)) : LV := .list (l.map str)
def encN (n : Nat) : LV := int .u32 n
def ExprC (B0 : Nat) (w0 : World) (sb : Nat) (T : List Tok) (f : Nat) : Prop :=
 ∀ i op r, i ≤ T.length → op ≤ 100 → eLev T f 0 i op = some r → LCalls (KC B0 w0) 194 [ptr sb 0] [srcH sb T i op] (PostP sb T encE r)
section
variable {B0 : Nat} {w0 : World}
theorem number_specP (hG : GW B0 w0) (sb : Nat) (T : List Tok) (hT : TOK T) (i op : Nat) (hi : i ≤ 1000000) : LCalls (KC B0 w0) 141 [ptr sb 0] [srcH sb T i op] (PostP sb T encN (sNumber T i op)) := by
 have hl := hT.len
 refine LCalls.intro Tryz.func141 rfl (n := 13) rfl rfl rfl ?_
 repeat first | refine LOps.nil ?_ | refine LCode.seq ?_ | refine LCode.region ?_ | refine QThen.normal ?_ | refine LOps.pure (Pure.as (lv := .atom _) rfl) rfl ?_ | refine LOps.pure (Pure.mv (lv := .atom _) rfl) rfl ?_
 refine LOps.step (S.callP [_, _] rfl Pick.here (word_spec sb T i op 1 hl hi) (fun s i1 op1 h1 => ?_) (fun l er i1 op1 h1 e' he' => ?_)) rfl
 ·obtain ⟨rfl, rfl, t, ht, hk, rfl⟩ := sWord_ok h1
  have hmem := List.mem_of_getElem? ht
  obtain ⟨u, hu, hp⟩ := hT.num t hmem hk
  have htx := hT.txt t hmem
  have hn : numOf t.text = u := by rw [numOf, hp]
  have hw : IntKind.u32.wrap (u : Int) = (u : Int) := wrap_u32 (by omega)
  refine LOps.step (S.fn [_, _, _] rfl (parseUint_ok t.text (by omega) u hp) ?_) rfl
  repeat first | refine LOps.nil ?_ | refine LCode.seq ?_ | refine LCode.region ?_ | refine LCode.ret ?_ | refine QThen.normal ?_ | refine LOps.pure (Pure.as (lv := .atom _) rfl) rfl ?_ | refine LOps.pure (Pure.mv (lv := .atom _) rfl) rfl ?_ | refine LOps.pure (Pure.mv (lv := .tuple _) rfl) rfl ?_ | refine LOps.pure (Pure.extract (c := .atom _) rfl rfl) rfl ?_ | refine LOps.pure (Pure.cvt rfl) rfl ?_
  exact retP (v := numOf t.text) rfl (AllRes.cons (ResIs.tmp (v := .atom _) rfl (LV.Sub.refl _)) AllRes.nil) (by rw [sNumber, h1]; rfl) (by rw [hn]; exact int_eq hw) (HSub.refl _)
 ·repeat first | refine QThen.panic ?_
  exact panP (he'.trans rfl) (by rw [sNumber, h1]; rfl) (HSub.refl _)
theorem names_specP (sb : Nat) (T : List Tok) (hT : TOK T) (f i op : Nat) (r : Res (List (List UInt8))) (hi : i ≤ T.length) (hr : sNames T f i op = some r) :
  LCalls (KC B0 w0) 137 [ptr sb 0] [srcH sb T i op] (PostP sb T encNames r) := by
 have hl := hT.len
 rw [sNames] at hr
 refine LCalls.intro Tryz.func137 rfl (n := 15) rfl rfl rfl ?_
 repeat first | refine LOps.nil ?_ | refine LCode.seq ?_ | refine LCode.region ?_ | refine QThen.normal ?_ | refine LOps.pure (Pure.as (lv := .atom _) rfl) rfl ?_ | refine LOps.pure (Pure.mv (lv := .atom _) rfl) rfl ?_
 refine LOps.step (S.callP [_, _] rfl Pick.here (word_spec sb T i op 2 hl (by omega)) (fun s i1 op1 h1 => ?_) (fun l er i1 op1 h1 e' he' => ?_)) rfl
 ·rw [h1, obind_ok] at hr
  have hi1 : i1 ≤ T.length := by
   have := sWord_good T 2 i op
   rw [h1] at this
   exact this.2.2.1 hi
  refine LOps.step (S.litA [_] rfl (elemsOk.cons rfl rfl elemsOk.nil) rfl rfl rfl fun b => ?_) rfl
  repeat first | refine LOps.nil ?_ | refine LCode.seq ?_ | refine LCode.block ?_ | refine QThen.normal ?_ | refine LOps.pure (Pure.as (lv := .app _ _ _ _) rfl) rfl ?_
  refine LCode.loopI (fun k ls H => ∃ (v : LV) (l : List (List UInt8)) (i2 : Nat) (Ha : Heap), ls = [(0, ptr sb 0), (3, v)] ∧ H = srcH sb T i2 op1 :: Ha ∧ Acc 1 v (l.map str) Ha [] ∧ i2 ≤ T.length ∧ l.length ≤ i2 + 1 ∧ sNamesLoop T k l i2 op1 = some r)
   ⟨f, _, srcH sb T i1 op1 :: [(b, .row 1)], ⟨.app b 1 1 [str s], [s], i1, _, rfl, rfl, Acc.row, hi1, by simp, hr⟩, ⟨rfl, rfl, trivial⟩, HSub.pick (Pick.there Pick.here) (HSub.refl _)⟩ ?_
  rintro k ls H ⟨v, l, i2, Ha, rfl, rfl, hacc, hi2, hll, hI⟩ j hj
  obtain ⟨k, rfl⟩ : ∃ k', k = k' + 1 := by
   cases k with
   | zero => rw [sNamesLoop] at hI; cases hI
   | succ k => exact ⟨k, rfl⟩
  rw [sNamesLoop] at hI
  repeat first | refine LCode.seq ?_ | refine LCode.region ?_ | refine LOps.pure (Pure.mv (lv := .atom _) rfl) rfl ?_
  refine LOps.step (S.fnH [_, _] rfl Pick.here (take_spec sb T i2 op1 [44] hl (by omega)) ?_) rfl
  repeat first | refine LOps.nil ?_ | refine QThen.normal ?_
  refine LCode.cond rfl (fun hc => ?_) (fun hc => ?_)
  ·have hlt := isTok_lt hc
   rw [if_pos hc] at hI
   simp only [hc, if_true]
   repeat first | refine LCode.region ?_ | refine LCode.skip ?_ | refine LCode.block ?_ | refine QThen.normal ?_
   refine LOps.pure (Pure.mv (lv := v) rfl) rfl ?_
   repeat first | refine LOps.pure (Pure.mv (lv := .atom _) rfl) rfl ?_
   refine LOps.step (S.callP [_, _] rfl Pick.here (word_spec sb T (i2 + 1) op1 2 hl (by omega)) (fun s2 i3 op3 h3 => ?_) (fun l er i3 op3 h3 e' he' => ?_)) rfl
   ·rw [h3, obind_ok] at hI
    obtain ⟨rfl, rfl, t, ht, _, _⟩ := sWord_ok h3
    have := get_lt ht
    refine LOps.step (S.lit [_] rfl (elemsOk.cons rfl rfl elemsOk.nil) rfl rfl rfl ?_) rfl
    refine LOps.step (S.acc1 rfl hacc rfl (by simp; rfl) rfl (by simp; omega) fun v' H' hacc' => ?_) rfl
    refine LOps.pure (Pure.as (lv := v') rfl) rfl ?_
    repeat first | refine LOps.nil ?_ | refine QThen.normal ?_ | refine QBlock.normal ?_
    exact ⟨k, _, _, by omega, ⟨v', l ++ [s2], i2 + 1 + 1, H', rfl, rfl, by rw [List.map_append]; exact hacc', by omega, by simp; omega, hI⟩, ⟨rfl, rfl, trivial⟩, HSub.refl _, hj⟩
   ·rw [h3, obind_err] at hI
    repeat first | refine QThen.panic ?_ | refine QBlock.panic ?_
    exact panP (he'.trans hj) (by cases hI; rfl) (HSub.pick Pick.here (HSub.nil _))
  ·have hc' : isTok T i2 [[44]] = false := hc
   rw [if_neg (by rw [hc']; decide)] at hI
   simp only [hc', Bool.false_eq_true, if_false]
   repeat first | refine LCode.seq ?_ | refine LCode.region ?_ | refine LCode.exit ?_ | refine QThen.normal ?_ | refine QThen.exit ?_ | refine QBlock.hit ?_
   refine LOps.pure (Pure.mv (lv := v) rfl) rfl ?_
   refine LOps.pure (Pure.as (lv := v) rfl) rfl ?_
   repeat first | refine LOps.nil ?_ | refine LCode.ret ?_ | refine QThen.normal ?_
   exact retP (v := l) hj (AllRes.cons (ResIs.tmp (v := v) rfl hacc.sub) AllRes.nil) (by cases hI; rfl) rfl (HSub.pick Pick.here (HSub.nil _))
 ·rw [h1, obind_err] at hr
  repeat first | refine QThen.panic ?_
  exact panP (he'.trans rfl) (by cases hr; rfl) (HSub.pick Pick.here (HSub.nil _))
theorem index_spec (sb : Nat) (T : List Tok) (hT : TOK T) (f : Nat) (hE : ExprC B0 w0 sb T f) (i op : Nat) (r : Res Ex) (hi : i ≤ T.length) (ho : op ≤ 100) (hr : eIndex T (f + 1) i op = some r) :
  LCalls (KC B0 w0) 216 [ptr sb 0] [srcH sb T i op] (PostP sb T encE r) := by
 have hl := hT.len
 rw [eIndex] at hr
 refine LCalls.intro Tryz.func216 rfl (n := 11) rfl rfl rfl ?_
 repeat first | refine LCode.seq ?_ | refine LCode.region ?_
 refine LOps.step (S.alloc fun b => ?_) rfl
 repeat first | refine LOps.nil ?_ | refine LCode.seq ?_ | refine LCode.region ?_ | refine QThen.normal ?_ | refine LOps.pure (Pure.mv (lv := .atom _) rfl) rfl ?_
 refine LOps.step (S.callP [_, _] rfl (Pick.there Pick.here) (begin_spec sb T i op [91] hl (by omega) (by omega)) (fun v i1 op1 h1 => ?_) (fun l er i1 op1 h1 e' he' => ?_)) rfl
 ·rw [h1, obind_ok] at hr
  obtain ⟨rfl, rfl, ho1, hi1⟩ := sBegin_ok h1
  repeat first | refine LOps.nil ?_ | refine LCode.seq ?_ | refine LCode.region ?_ | refine QThen.normal ?_ | refine LOps.pure (Pure.mv (lv := .atom _) rfl) rfl ?_
  obtain ⟨r1, hr1⟩ := obind_is hr
  refine LOps.step (S.callP [_] rfl Pick.here (hE _ _ r1 (by omega) (by omega) hr1) (fun v i2 op2 h2 => ?_) (fun l er i2 op2 h2 e' he' => ?_)) rfl
  ·rw [hr1, h2, obind_ok] at hr
   obtain ⟨g1, _, g3, rfl⟩ := (ex_good T f).1 0 _ _ _ (hr1.trans (congrArg some h2))
   have g4 := g3 (by omega)
   refine LOps.step (S.alloc fun b2 => ?_) rfl
   repeat first | refine LOps.nil ?_ | refine LCode.seq ?_ | refine LCode.region ?_ | refine QThen.normal ?_ | refine LOps.pure (Pure.mv (lv := .atom _) rfl) rfl ?_ | refine LOps.step (S.store (cs' := [_, _, _, _]) rfl Pick.here rfl rfl rfl rfl rfl ?_) rfl
   refine LOps.step (S.callP [_, _] rfl (Pick.there Pick.here) (end_spec sb T i2 (op + 1) [93] hl (by omega) (by omega) (by omega)) (fun u i3 op3 h3 => ?_) (fun l er i3 op3 h3 e' he' => ?_)) rfl
   ·rw [h3, obind_ok] at hr
    repeat first | refine LOps.nil ?_ | refine LCode.seq ?_ | refine LCode.region ?_ | refine LCode.ret ?_ | refine QThen.normal ?_ | refine LOps.pure (Pure.ldHAgg (cs' := [_, _, _, _]) rfl (List.Mem.tail _ (List.Mem.head _)) rfl rfl) rfl ?_ | refine LOps.step (S.store (cs' := [_, _, _, _]) rfl (Pick.there (Pick.there Pick.here)) rfl rfl rfl rfl rfl ?_) rfl
    exact retP rfl (AllRes.cons (ResIs.cellAgg rfl (List.Mem.head _) rfl (LV.Sub.refl _)) AllRes.nil) (by cases hr; rfl) rfl (HSub.drop (HSub.pick Pick.here (HSub.nil _)))
   ·rw [h3, obind_err] at hr
    repeat first | refine QThen.panic ?_
    exact panP (he'.trans rfl) (by cases hr; rfl) (HSub.pick Pick.here (HSub.nil _))
  ·rw [hr1, h2, obind_err] at hr
   repeat first | refine QThen.panic ?_
   exact panP (he'.trans rfl) (by cases hr; rfl) (HSub.pick Pick.here (HSub.nil _))
 ·rw [h1, obind_err] at hr
  repeat first | refine QThen.panic ?_
  exact panP (he'.trans rfl) (by cases hr; rfl) (HSub.pick Pick.here (HSub.nil _))
end
end Go.Proofs.YtcbpcianefpniaaGreatDoor
