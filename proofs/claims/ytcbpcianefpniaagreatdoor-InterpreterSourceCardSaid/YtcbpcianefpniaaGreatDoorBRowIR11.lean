/- InterpreterSource: the interpreter and the reference interpreter answer alike: for every text, list of numbers and number the law returns true. The card: the listed package-level variables read as the program's text lays them. -/
import Derived.ChangeMaps5
import Derived.Test.YtcbpcianefpniaaGreatDoorBRowIR9
import Derived.Test.YtcbpcianefpniaaGreatDoorBRowIR10
set_option linter.unusedVariables false
set_option linter.unusedSimpArgs false
namespace Go.Proofs.YtcbpcianefpniaaGreatDoor.fnSource
open Go.ChangeShapes Go.WideShapes Go.ChangeAt Go.RowKit Go.ChangeMaps
set_option maxRecDepth 100000
theorem contract (H:Type) (enc:TypeId×Value→H) (W:World) (base:Nat) (args:Array Value) (ds gs:List (DataW H)) (before:List MemPlace)
  (hval:∀ (j:Nat) t v,Tryz.f3.params[j]? = some t→args[j]? = some v→Value.okWide Tryz.prog W .any base t v)
  (hW:DataW.Whole enc Tryz.prog Tryz.f3.params.toList Rows.interpreterSourceSpec.vars false W args.toList ds gs before) (hL:laidMetH Tryz.prog Rows.interpreterSourceRow.laid W) (hS:W.ShapedOpen Tryz.prog) :
  Calls Tryz.prog 3 args W fun e W'=>∃ v,e=.returned v∧Rows.interpreterSourceSpec.post enc Tryz.prog Tryz.f3 false true false false W args v W':=by
 have hW':=hW
 obtain ⟨p,q,hA0,hV,rfl,hfz,hnd⟩:=hW
 have hA:DataW.TrodAll enc Tryz.prog W 0 (fun _=>true) true Tryz.f3.params.toList args.toList ds p:=hA0
 rw[Tryz.params3] at hA hval
 obtain ⟨v0,vs0,d0,ds0,p0,q0,hargs,rfl,rfl,h0,r0⟩:=trodAll_cons hA
 obtain ⟨v1,vs1,d1,ds1,p1,q1,rfl,rfl,rfl,h1,r1⟩:=trodAll_cons r0
 obtain ⟨v2,vs2,d2,ds2,p2,q2,rfl,rfl,rfl,h2,r2⟩:=trodAll_cons r1
 obtain ⟨rfl,rfl,rfl⟩:=trodAll_nil r2
 obtain rfl:args=#[v0,v1,v2]:=by cases args;simp_all
 obtain ⟨rfl,rfl⟩:=trodVars_none hV
 obtain ⟨s,rfl,rfl,rfl,ws⟩:=open_string Tryz.underlying9 (hval 0 9 v0 rfl rfl) h0
 obtain ⟨l,L,hlt0,hr,hR⟩:=open_nums hL hS (hval 1 22 v1 rfl rfl) h1
 obtain ⟨x,rfl,rfl,rfl,wx⟩:=open_int Tryz.underlying3 (hval 2 3 v2 rfl rfl) h2
 have hG:=(gw_of_laid hL).1
 clear hA0
 simp only[List.append_nil,List.nil_append] at hW'
 have hlt:∀ x∈p1,x.block<W.heap.size:=fun x hx=>by simpa using hW'.lt x hx
 have hr3:Go.GL.RepL W L [Go.GL.str s.data.toList,.list (l.map Inp.u32),Go.GL.int .i64 x] [.string s,v1,.int .i64 x]:=by
  simp only[Go.GL.RepL] at hr
  obtain ⟨y,ys,hx,hx1,hx2⟩:=hr
  simp only[List.cons.injEq] at hx
  obtain ⟨rfl,rfl⟩:=hx
  simp only[Go.GL.RepL,Go.GL.str,Go.GL.int]
  exact ⟨_,_,rfl,by simp[Go.GL.Rep],_,_,rfl,hx1,_,_,rfl,by simp[Go.GL.Rep],rfl⟩
 refine (lift_at (vs:=[.string s,v1,.int .i64 x]) (RI.source_law hG s.data.toList hlt0 x) hr3 hR).mono fun e W' ⟨he,hg⟩=>?_
 subst he
 exact ⟨_,rfl,post_of_below (pa:=p1) (pv:=[]) hW' (fun _ _ _=>trodAll_cons_mk (shut_bool Tryz.underlying4 _) trodAll_mk0) (fun sp hsp=>by
   have h5:=trodAll_cons_mk (shut_string Tryz.underlying9 ws) (trodAll_cons_mk (stay_nums h1 hg hlt hsp) (trodAll_cons_mk (shut_int Tryz.underlying3 wx) trodAll_mk0))
   simp only[List.nil_append,List.append_nil] at h5
   exact h5) (fun _ _=>rfl) (by simp)
  hg (ok_one (by kernel_rfl) rfl (okWide_bool_mk Tryz.underlying4 _))⟩
theorem reads (os:Os) {H:Type} (enc:TypeId×Value→H):∃ places,DataW.whole enc Tryz.prog ((laidWorld os).forCall (fun _ _=>0) ⟨#[],#[.string ⟨#[]⟩,.slice none 0 0,.int .i64 0],[]⟩).memory Tryz.f3.params.toList Rows.interpreterSourceSpec.vars false #[Value.string ⟨#[]⟩,.slice none 0 0,.int .i64 0].toList 8=some ([.lit (.string []),.nil,.lit (.int .i64 0)],[],places):=
 ⟨[],by kernel_rfl⟩
theorem lifted (os:Os) (started:os.Started) (H:Type) (enc:TypeId×Value→H) (F:Stop.Interp) :
  ReturnsInHanded {} Tryz.checked os 3 .any ((OpenSpec.ofChange Rows.interpreterSourceSpec).preRow enc Tryz.prog Tryz.f3 Rows.interpreterSourceRow.domain false Rows.interpreterSourceRow.laid) (((OpenSpec.ofChange Rows.interpreterSourceSpec).at F).post enc Tryz.prog Tryz.f3 false true false false):=by
 obtain ⟨places,hx⟩:=reads os enc
 refine returnsInHanded_of_row (C:=Tryz.checked) (s:=OpenSpec.ofChange Rows.interpreterSourceSpec) own started (by kernel_rfl) Tryz.func3
  (witness_row_at (enc:=enc) (C:=Tryz.checked) false (laidWorld os) #[.string ⟨#[]⟩,.slice none 0 0,.int .i64 0] rfl (by kernel_rfl) (by kernel_rfl) (by kernel_rfl)
   (OpenSpec.preRow_of_cond 8 hx (by kernel_rfl) (fun k hk=>by cases hk) (by kernel_rfl) (laid_met os _))) ?_
 intro W base args ds gs before hval hW _ _ _ hL hS _
 exact contract H enc W base args ds gs before hval hW hL hS
theorem said:Rows.InterpreterSourceSaid:=
 OpenClaim.holds_of_cond 3 Tryz.f3 rfl rfl rfl rfl rfl rfl rfl ⟨rfl,rfl,rfl,rfl,rfl⟩ rfl rfl rfl rfl rfl (by kernel_rfl) Tryz.func3 (by kernel_rfl)
  (of_decide_eq_true (by kernel_rfl)) (by unfold Func.isWrapper;first|(rw[if_pos (by decide +kernel)];kernel_rfl)|(rw[if_neg (by decide +kernel)];exact ⟨rfl,rfl⟩))
  (fun os started H enc _ F=>by rw[OpenClaim.pre_eq_preRow];exact lifted os started H enc F)
theorem plain (f : FuncId) (fn : Func) (hf : Tryz.pinned.checked.prog.funcNamed "stele/stelelaw22.InterpreterSource" = some f) (hfn : Tryz.pinned.checked.prog.funcs[f]? = some fn) :
  true=Tryz.pinned.checked.prog.looks []∧∀ (j:Nat) t,fn.params[j]? = some t→Tryz.pinned.checked.prog.wantsStandIn t=false:=by
 obtain rfl : f = 3 := Option.some.inj ((show Tryz.prog.funcNamed "stele/stelelaw22.InterpreterSource" = some 3 by kernel_rfl).symm.trans hf) |>.symm
 obtain rfl:fn=Tryz.f3:=(Option.some.inj (Tryz.func3.symm.trans hfn)).symm
 refine ⟨by kernel_rfl,fun j t ht=>?_⟩
 rw[Tryz.params3] at ht
 have hm:=Array.mem_of_getElem? ht
 simp only[List.mem_toArray,List.mem_cons,List.not_mem_nil,or_false] at hm
 rcases hm with rfl|rfl|rfl
 ·exact (show Tryz.prog.wantsStandIn 9=false by kernel_rfl)
 ·exact (show Tryz.prog.wantsStandIn 22=false by kernel_rfl)
 ·exact (show Tryz.prog.wantsStandIn 3=false by kernel_rfl)
end Go.Proofs.YtcbpcianefpniaaGreatDoor.fnSource
namespace Go.Proofs.YtcbpcianefpniaaGreatDoor
theorem interpreterSource_card:Rows.InterpreterSourceCardSaid:=
 Claim7.holds_tied_plain_at .later [] _ _ _ _ fnSource.said (fun _ h=>by cases h) (by kernel_rfl) (fun _ h=>by cases h) interpreterSource_row_tie rfl ⟨rfl,rfl⟩ (by kernel_rfl) rfl fnSource.plain (by kernel_rfl)
#print axioms interpreterSource_card
end Go.Proofs.YtcbpcianefpniaaGreatDoor
