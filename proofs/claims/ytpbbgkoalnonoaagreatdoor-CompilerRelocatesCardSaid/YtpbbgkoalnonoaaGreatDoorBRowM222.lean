/- Texts joined: RowCR. -/
import Derived.ChangeMaps5
import Derived.Test.YtpbbgkoalnonoaaGreatDoorRowCRj
import Derived.Test.YtpbbgkoalnonoaaGreatDoorRowCRk
import Derived.Test.YtpbbgkoalnonoaaGreatDoorBRowM217
import Derived.Test.YtpbbgkoalnonoaaGreatDoorBRowM219
set_option linter.unusedVariables false
set_option linter.unusedSimpArgs false
set_option maxRecDepth 100000
set_option maxHeartbeats 4000000
namespace Go.Proofs.YtpbbgkoalnonoaaGreatDoor.fnRelocates
open Go.ChangeShapes Go.WideShapes Go.ChangeAt Go.RowKit Go.ChangeMaps
open Go.GL (RepL Rep)
theorem contract (H:Type) (enc:TypeId×Value→H) (W:World) (base:Nat) (args:Array Value) (ds gs:List (DataW H)) (before:List MemPlace)
  (hval:∀ (j:Nat) t v,Tryz.f8.params[j]? = some t→args[j]? = some v→Value.okWide Tryz.prog W .any base t v)
  (hW:DataW.Whole enc Tryz.prog Tryz.f8.params.toList Rows.compilerRelocatesSpec.vars false W args.toList ds gs before) (hL:laidMetH Tryz.prog Rows.compilerRelocatesRow.laid W) (hS:W.ShapedOpen Tryz.prog) :
  Calls Tryz.prog 8 args W fun e W'=>∃ v,e=.returned v∧Rows.compilerRelocatesSpec.post enc Tryz.prog Tryz.f8 false true false false W args v W':=by
 have hW':=hW
 obtain ⟨p,q,hA0,hV,rfl,hfz,hnd⟩:=hW
 have hA:DataW.TrodAll enc Tryz.prog W 0 (fun _=>true) true Tryz.f8.params.toList args.toList ds p:=hA0
 rw[Tryz.params8] at hA hval
 obtain ⟨v0,vs0,d0,ds0,p0,q0,hargs,rfl,rfl,h0,r0⟩:=trodAll_cons hA
 obtain ⟨v1,vs1,d1,ds1,p1,q1,rfl,rfl,rfl,h1,r1⟩:=trodAll_cons r0
 obtain ⟨v2,vs2,d2,ds2,p2,q2,rfl,rfl,rfl,h2,r2⟩:=trodAll_cons r1
 obtain ⟨rfl,rfl,rfl⟩:=trodAll_nil r2
 obtain rfl:args=#[v0,v1,v2]:=by cases args;simp_all
 obtain ⟨rfl,rfl⟩:=trodVars_none hV
 obtain ⟨s0,rfl,rfl,rfl,ws0⟩:=open_string Tryz.underlying9 (hval 0 9 v0 rfl rfl) h0
 have hx0:RepL W (allL W) [Go.GL.str s0.data.toList] [.string s0]:=by
  simp only[RepL,Go.GL.str]
  exact ⟨_,_,rfl,by simp[Rep],rfl⟩
 obtain ⟨l1,hl1,hx1⟩:=open_u32s (hval 1 40 v1 rfl rfl) h1
 obtain ⟨a2,b2,c2,ha2,hb2,hc2,rfl,hx2⟩:=open_org (L:=allL W) (hval 2 28 v2 rfl rfl) h2
 obtain ⟨hG,h8⟩:=gw_of_laid (laid5 hL) hS
 have hM:=gm_of hS
 clear hA0
 simp only[zLz,List.nil_append] at hW'
 have hlt:∀ x∈p1,x.block<W.heap.size:=fun x hx=>by simpa using hW'.lt x hx
 refine (lift_at (vs:=[.string s0,v1,v2]) (Mch.relocates_walk hG hM s0.data.toList hl1 ⟨a2,b2,c2⟩ ha2 hb2 hc2) (repL_cons hx0 (repL_cons hx1 (repL_cons hx2 repL_nil))) (relAll h8)).mono fun e W' ⟨he,hg⟩=>?_
 subst he
 exact ⟨_,rfl,post_of_below (pa:=p1) (pv:=[]) hW' (fun _ _ _=>trodAll_cons_mk (shut_bool Tryz.underlying4 _) trodAll_mk0) (fun sp hsp=>by
   have h5:=(trodAll_cons_mk (shut_string Tryz.underlying9 ws0) (trodAll_cons_mk (stay_u32s h1 hg hlt hsp) (trodAll_cons_mk (stay_org (sp:=sp) h2 hg (fun x hx=>by cases hx) (fun p hp=>by cases hp)) trodAll_mk0)))
   simp only[List.nil_append,zLz] at h5
   exact h5) (fun _ _=>rfl) (by simp)
  hg (ok_one (by kernel_rfl) rfl (okWide_bool_mk Tryz.underlying4 _))⟩
theorem reads (os:Os) {H:Type} (enc:TypeId×Value→H):∃ places,DataW.whole enc Tryz.prog ((laidWorld7 os).forCall (fun _ _=>0) ⟨#[],#[.string ⟨#[]⟩,.slice none 0 0,.agg #[.int .i64 0,.int .i64 0,.int .i64 0]],[]⟩).memory Tryz.f8.params.toList Rows.compilerRelocatesSpec.vars false #[Value.string ⟨#[]⟩,.slice none 0 0,.agg #[.int .i64 0,.int .i64 0,.int .i64 0]].toList 8=some ([.lit (.string []),.nil,.agg [.lit (.int .i64 0),.lit (.int .i64 0),.lit (.int .i64 0)]],[],places):=
 ⟨[],by kernel_rfl⟩
theorem lifted (os:Os) (started:os.Started) (H:Type) (enc:TypeId×Value→H) (F:Stop.Interp) :
  ReturnsInHanded {} Tryz.checked os 8 .any ((OpenSpec.ofChange Rows.compilerRelocatesSpec).preRow enc Tryz.prog Tryz.f8 Rows.compilerRelocatesRow.domain false Rows.compilerRelocatesRow.laid) (((OpenSpec.ofChange Rows.compilerRelocatesSpec).at F).post enc Tryz.prog Tryz.f8 false true false false):=by
 obtain ⟨places,hx⟩:=reads os enc
 refine returnsInHanded_of_row (C:=Tryz.checked) (s:=OpenSpec.ofChange Rows.compilerRelocatesSpec) own started (by kernel_rfl) Tryz.func8
  (witness_row_at (enc:=enc) (C:=Tryz.checked) false (laidWorld7 os) #[.string ⟨#[]⟩,.slice none 0 0,.agg #[.int .i64 0,.int .i64 0,.int .i64 0]] rfl (by kernel_rfl) (by kernel_rfl) (by kernel_rfl)
   (OpenSpec.preRow_of_cond 8 hx (by kernel_rfl) (fun k hk=>by cases hk) (by kernel_rfl) (laid_met7 os _))) ?_
 intro W base args ds gs before hval hW _ _ _ hL hS _
 exact contract H enc W base args ds gs before hval hW hL hS
theorem closed:joinedFacts Tryz.prog 8 Tryz.f8 (OpenSpec.ofChange Rows.compilerRelocatesSpec).bare Rows.compilerRelocatesRow=true:=
 Jn.joined rfl rfl rfl (by kernel_rfl) (by kernel_rfl) (by kernel_rfl) rfl rfl c10 c11 c12 c13 (by kernel_rfl) (by kernel_rfl) (by kernel_rfl) (by kernel_rfl) (by kernel_rfl) (by kernel_rfl) (by kernel_rfl) (by kernel_rfl) (by kernel_rfl) (by kernel_rfl) (by kernel_rfl) (by kernel_rfl) (by kernel_rfl) (by kernel_rfl)
theorem said:Rows.CompilerRelocatesSaid:=
 OpenClaim.holds_of_cond 8 Tryz.f8 rfl rfl rfl rfl rfl rfl rfl ⟨rfl,rfl,rfl,rfl,rfl⟩ rfl rfl rfl rfl rfl (by kernel_rfl) Tryz.func8 closed
  (of_decide_eq_true (by kernel_rfl)) (by unfold Func.isWrapper;first|(rw[if_pos (by decide +kernel)];kernel_rfl)|(rw[if_neg (by decide +kernel)];exact ⟨rfl,rfl⟩))
  (fun os started H enc _ F=>by rw[OpenClaim.pre_eq_preRow];exact lifted os started H enc F)
theorem plain (f : FuncId) (fn : Func) (hf : Tryz.pinned.checked.prog.funcNamed "stele/stelelaw23.CompilerRelocates" = some f) (hfn : Tryz.pinned.checked.prog.funcs[f]? = some fn) :
  true=Tryz.pinned.checked.prog.looks []∧∀ (j:Nat) t,fn.params[j]? = some t→Tryz.pinned.checked.prog.wantsStandIn t=false:=by
 obtain rfl : f = 8 := Option.some.inj ((show Tryz.prog.funcNamed "stele/stelelaw23.CompilerRelocates" = some 8 by kernel_rfl).symm.trans hf) |>.symm
 obtain rfl:fn=Tryz.f8:=(Option.some.inj (Tryz.func8.symm.trans hfn)).symm
 refine ⟨by kernel_rfl,fun j t ht=>?_⟩
 rw[Tryz.params8] at ht
 have hm:=Array.mem_of_getElem? ht
 simp only[List.mem_toArray,zMi,List.not_mem_nil,or_false] at hm
 rcases hm with rfl|rfl|rfl
 ·exact (show Tryz.prog.wantsStandIn 9=false by kernel_rfl)
 ·exact (show Tryz.prog.wantsStandIn 40=false by kernel_rfl)
 ·exact (show Tryz.prog.wantsStandIn 28=false by kernel_rfl)
end Go.Proofs.YtpbbgkoalnonoaaGreatDoor.fnRelocates
namespace Go.Proofs.YtpbbgkoalnonoaaGreatDoor
theorem compilerRelocates_card:Rows.CompilerRelocatesCardSaid:=
 Claim7.holds_tied_plain_at .later [] _ _ _ _ fnRelocates.said (fun _ h=>by cases h) (by kernel_rfl) (fun _ h=>by cases h) compilerRelocates_row_tie rfl ⟨rfl,rfl⟩ (by kernel_rfl) rfl fnRelocates.plain (by kernel_rfl)
#print axioms compilerRelocates_card
end Go.Proofs.YtpbbgkoalnonoaaGreatDoor
