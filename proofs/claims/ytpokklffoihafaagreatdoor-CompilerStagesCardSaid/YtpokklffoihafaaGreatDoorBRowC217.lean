/- Texts joined: RowCT. -/
import Derived.ChangeMaps5
import Derived.Test.YtpokklffoihafaaGreatDoorBRowC214
import Derived.Test.YtpokklffoihafaaGreatDoorBRowC215
import Derived.Test.YtpokklffoihafaaGreatDoorRowCTj
import Derived.Test.YtpokklffoihafaaGreatDoorRowCTk
set_option linter.unusedVariables false
set_option linter.unusedSimpArgs false
namespace Go.Proofs.YtpokklffoihafaaGreatDoor.fnStages
open Go.ChangeShapes Go.WideShapes Go.ChangeAt Go.RowKit Go.ChangeMaps
set_option maxRecDepth 100000
theorem contract (H:Type) (enc:TypeId×Value→H) (W:World) (base:Nat) (args:Array Value) (ds gs:List (DataW H)) (before:List MemPlace)
  (hval:∀ (j:Nat) t v,Tryz.f7.params[j]? = some t→args[j]? = some v→Value.okWide Tryz.prog W .any base t v)
  (hW:DataW.Whole enc Tryz.prog Tryz.f7.params.toList Rows.compilerStagesSpec.vars false W args.toList ds gs before) (hL:laidMetH Tryz.prog Rows.compilerStagesRow.laid W) (hS:W.ShapedOpen Tryz.prog) :
  Calls Tryz.prog 7 args W fun e W'=>∃ v,e=.returned v∧Rows.compilerStagesSpec.post enc Tryz.prog Tryz.f7 false true false false W args v W':=by
 have hW':=hW
 obtain ⟨p,q,hA0,hV,rfl,hfz,hnd⟩:=hW
 have hA:DataW.TrodAll enc Tryz.prog W 0 (fun _=>true) true Tryz.f7.params.toList args.toList ds p:=hA0
 rw[Tryz.params7] at hA hval
 obtain ⟨v0,vs0,d0,ds0,p0,q0,hargs,rfl,rfl,h0,r0⟩:=trodAll_cons hA
 obtain ⟨v1,vs1,d1,ds1,p1,q1,rfl,rfl,rfl,h1,r1⟩:=trodAll_cons r0
 obtain ⟨rfl,rfl,rfl⟩:=trodAll_nil r1
 obtain rfl:args=#[v0,v1]:=by cases args;simp_all
 obtain ⟨rfl,rfl⟩:=trodVars_none hV
 obtain ⟨s,rfl,rfl,rfl,ws⟩:=open_string Tryz.underlying9 (hval 0 9 v0 rfl rfl) h0
 obtain ⟨a,b,c,ha,hb,hc,rfl,ho⟩:=open_org (L:=fun _=>0) (hval 1 28 v1 rfl rfl) h1
 obtain ⟨hG,h8⟩:=gw_of_laid (laid5 hL) hS
 have hM:=gm_of hS
 have hR:=relH_of (W:=W) (L:=fun _=>0) h8 (fun _ _=>rfl)
 clear hA0
 simp only[List.append_nil,List.nil_append] at hW'
 have hr2:Go.GL.RepL W (fun _=>0) [Go.GL.str s.data.toList,Cmp.orgLV ⟨a,b,c⟩] [.string s,v1]:=by
  simp only[Go.GL.RepL] at ho
  obtain ⟨y,ys,hx,hx1,hx2⟩:=ho
  simp only[List.cons.injEq] at hx
  obtain ⟨rfl,rfl⟩:=hx
  simp only[Go.GL.RepL,Go.GL.str]
  exact ⟨_,_,rfl,by simp[Go.GL.Rep],_,_,rfl,hx1,rfl⟩
 refine (lift_at (vs:=[.string s,v1]) (Cmp.stages_walk hG hM s.data.toList ⟨a,b,c⟩ ha hb hc) hr2 hR).mono fun e W' ⟨he,hg⟩=>?_
 subst he
 exact ⟨_,rfl,post_of_below (pa:=[]) (pv:=[]) hW' (fun _ _ _=>trodAll_cons_mk (shut_bool Tryz.underlying4 _) trodAll_mk0) (fun sp hsp=>by
   have h5:=trodAll_cons_mk (shut_string Tryz.underlying9 ws) (trodAll_cons_mk (stay_org (sp:=sp) h1 hg (fun x hx=>by cases hx) (fun p hp=>by cases hp)) trodAll_mk0)
   simp only[List.nil_append,List.append_nil] at h5
   exact h5) (fun _ _=>rfl) (by simp)
  hg (ok_one (by kernel_rfl) rfl (okWide_bool_mk Tryz.underlying4 _))⟩
theorem reads (os:Os) {H:Type} (enc:TypeId×Value→H):∃ places,DataW.whole enc Tryz.prog ((laidWorld7 os).forCall (fun _ _=>0) ⟨#[],#[.string ⟨#[]⟩,.agg #[.int .i64 0,.int .i64 0,.int .i64 0]],[]⟩).memory Tryz.f7.params.toList Rows.compilerStagesSpec.vars false #[Value.string ⟨#[]⟩,.agg #[.int .i64 0,.int .i64 0,.int .i64 0]].toList 8=some ([.lit (.string []),.agg [.lit (.int .i64 0),.lit (.int .i64 0),.lit (.int .i64 0)]],[],places):=
 ⟨[],by kernel_rfl⟩
theorem lifted (os:Os) (started:os.Started) (H:Type) (enc:TypeId×Value→H) (F:Stop.Interp) :
  ReturnsInHanded {} Tryz.checked os 7 .any ((OpenSpec.ofChange Rows.compilerStagesSpec).preRow enc Tryz.prog Tryz.f7 Rows.compilerStagesRow.domain false Rows.compilerStagesRow.laid) (((OpenSpec.ofChange Rows.compilerStagesSpec).at F).post enc Tryz.prog Tryz.f7 false true false false):=by
 obtain ⟨places,hx⟩:=reads os enc
 refine returnsInHanded_of_row (C:=Tryz.checked) (s:=OpenSpec.ofChange Rows.compilerStagesSpec) own started (by kernel_rfl) Tryz.func7
  (witness_row_at (enc:=enc) (C:=Tryz.checked) false (laidWorld7 os) #[.string ⟨#[]⟩,.agg #[.int .i64 0,.int .i64 0,.int .i64 0]] rfl (by kernel_rfl) (by kernel_rfl) (by kernel_rfl)
   (OpenSpec.preRow_of_cond 8 hx (by kernel_rfl) (fun k hk=>by cases hk) (by kernel_rfl) (laid_met7 os _))) ?_
 intro W base args ds gs before hval hW _ _ _ hL hS _
 exact contract H enc W base args ds gs before hval hW hL hS
theorem closed:joinedFacts Tryz.prog 7 Tryz.f7 (OpenSpec.ofChange Rows.compilerStagesSpec).bare Rows.compilerStagesRow=true:=
 Jn.joined rfl rfl rfl (by kernel_rfl) (by kernel_rfl) (by kernel_rfl) rfl rfl c10 c11 c12 c13 (by kernel_rfl) (by kernel_rfl) (by kernel_rfl) (by kernel_rfl) (by kernel_rfl) (by kernel_rfl) (by kernel_rfl) (by kernel_rfl) (by kernel_rfl) (by kernel_rfl) (by kernel_rfl) (by kernel_rfl) (by kernel_rfl) (by kernel_rfl)
theorem said:Rows.CompilerStagesSaid:=
 OpenClaim.holds_of_cond 7 Tryz.f7 rfl rfl rfl rfl rfl rfl rfl ⟨rfl,rfl,rfl,rfl,rfl⟩ rfl rfl rfl rfl rfl (by kernel_rfl) Tryz.func7 closed
  (of_decide_eq_true (by kernel_rfl)) (by unfold Func.isWrapper;first|(rw[if_pos (by decide +kernel)];kernel_rfl)|(rw[if_neg (by decide +kernel)];exact ⟨rfl,rfl⟩))
  (fun os started H enc _ F=>by rw[OpenClaim.pre_eq_preRow];exact lifted os started H enc F)
theorem plain (f : FuncId) (fn : Func) (hf : Tryz.pinned.checked.prog.funcNamed "stele/stelelaw23.CompilerStages" = some f) (hfn : Tryz.pinned.checked.prog.funcs[f]? = some fn) :
  true=Tryz.pinned.checked.prog.looks []∧∀ (j:Nat) t,fn.params[j]? = some t→Tryz.pinned.checked.prog.wantsStandIn t=false:=by
 obtain rfl : f = 7 := Option.some.inj ((show Tryz.prog.funcNamed "stele/stelelaw23.CompilerStages" = some 7 by kernel_rfl).symm.trans hf) |>.symm
 obtain rfl:fn=Tryz.f7:=(Option.some.inj (Tryz.func7.symm.trans hfn)).symm
 refine ⟨by kernel_rfl,fun j t ht=>?_⟩
 rw[Tryz.params7] at ht
 have hm:=Array.mem_of_getElem? ht
 simp only[List.mem_toArray,List.mem_cons,List.not_mem_nil,or_false] at hm
 rcases hm with rfl|rfl
 ·exact (show Tryz.prog.wantsStandIn 9=false by kernel_rfl)
 ·exact (show Tryz.prog.wantsStandIn 28=false by kernel_rfl)
end Go.Proofs.YtpokklffoihafaaGreatDoor.fnStages
namespace Go.Proofs.YtpokklffoihafaaGreatDoor
theorem compilerStages_card:Rows.CompilerStagesCardSaid:=
 Claim7.holds_tied_plain_at .later [] _ _ _ _ fnStages.said (fun _ h=>by cases h) (by kernel_rfl) (fun _ h=>by cases h) compilerStages_row_tie rfl ⟨rfl,rfl⟩ (by kernel_rfl) rfl fnStages.plain (by kernel_rfl)
#print axioms compilerStages_card
end Go.Proofs.YtpokklffoihafaaGreatDoor
