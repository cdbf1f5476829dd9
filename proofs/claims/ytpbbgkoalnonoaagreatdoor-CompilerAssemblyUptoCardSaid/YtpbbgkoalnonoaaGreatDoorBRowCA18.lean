/- CompilerAssembly: Compile returns the assembly of the reference, or its error: for every program and origins of bulk at most 1048576 the law returns true. The card: the listed package-level variables read as the program's text lays them. -/
import Derived.ChangeMaps5
import Derived.Test.YtpbbgkoalnonoaaGreatDoorRowCAj
import Derived.Test.YtpbbgkoalnonoaaGreatDoorRowCAk
import Derived.Test.YtpbbgkoalnonoaaGreatDoorBRowCA15
import Derived.Test.YtpbbgkoalnonoaaGreatDoorBRowCA17
set_option linter.unusedVariables false
set_option linter.unusedSimpArgs false
set_option maxRecDepth 100000
set_option maxHeartbeats 4000000
namespace Go.Proofs.YtpbbgkoalnonoaaGreatDoor.fnAssembly
open Go.ChangeShapes Go.WideShapes Go.ChangeAt Go.RowKit Go.ChangeMaps
open Go.GL (RepL Rep)
theorem contract (H:Type) (enc:TypeId×Value→H) (W:World) (base:Nat) (args:Array Value) (ds gs:List (DataW H)) (before:List MemPlace)
  (hval:∀ (j:Nat) t v,Tryz.f3.params[j]? = some t→args[j]? = some v→Value.okWide Tryz.prog W .any base t v)
  (hW:DataW.Whole enc Tryz.prog Tryz.f3.params.toList Rows.compilerAssemblySpec.vars false W args.toList ds gs before) (hL:laidMetH Tryz.prog Rows.compilerAssemblyUptoRow.laid W) (hS:W.ShapedOpen Tryz.prog) (hB:Rows.uptoBulkAll (ds++gs)≤1048576) :
  Calls Tryz.prog 3 args W fun e W'=>∃ v,e=.returned v∧Rows.compilerAssemblySpec.post enc Tryz.prog Tryz.f3 false true false false W args v W':=by
 have hW':=hW
 obtain ⟨p,q,hA0,hV,rfl,hfz,hnd⟩:=hW
 have hA:DataW.TrodAll enc Tryz.prog W 0 (fun _=>true) true Tryz.f3.params.toList args.toList ds p:=hA0
 rw[Tryz.params3] at hA hval
 obtain ⟨v0,vs0,d0,ds0,p0,q0,hargs,rfl,rfl,h0,r0⟩:=trodAll_cons hA
 obtain ⟨v1,vs1,d1,ds1,p1,q1,rfl,rfl,rfl,h1,r1⟩:=trodAll_cons r0
 obtain ⟨rfl,rfl,rfl⟩:=trodAll_nil r1
 obtain rfl:args=#[v0,v1]:=by cases args;simp_all
 obtain ⟨rfl,rfl⟩:=trodVars_none hV
 obtain ⟨vars,arrays,fs,rp,hv,ha,har,hnd,hnum⟩:=open_prog (hval 0 26 v0 rfl rfl) h0
 obtain ⟨oa,ob,oc,hoa,hob,hoc,rfl,ho⟩:=open_org (L:=allL W) (hval 1 28 v1 rfl rfl) h1
 obtain ⟨hG,h8⟩:=gw_of_laid (laid5 hL) hS
 have hM:=gm_of hS
 clear hA0
 simp only[zLz,List.nil_append] at hW'
 have hlt:∀ x∈p0,x.block<W.heap.size:=fun x hx=>by simpa using hW'.lt x hx
 have hb:Rows.uptoBulk d0≤1048576:=by
  simp only[List.cons_append,Rows.uptoBulkAll] at hB
  omega
 refine (lift_at (vs:=[v0,v1]) (Cmp.cassembly_walk hG hM vars arrays fs ⟨oa,ob,oc⟩ (by omega) (by omega) har (by omega) hnum hoa hob hoc) (repL_cons rp ho) (relAll h8)).mono fun e W' ⟨he,hg⟩=>?_
 subst he
 exact ⟨_,rfl,post_of_below (pa:=p0) (pv:=[]) hW' (fun _ _ _=>trodAll_cons_mk (shut_bool Tryz.underlying4 _) trodAll_mk0) (fun sp hsp=>by
   have h5:=trodAll_cons_mk (stay_prog h0 hg hlt hsp) (trodAll_cons_mk (stay_org (sp:=sp) h1 hg (fun x hx=>by cases hx) (fun p hp=>by cases hp)) trodAll_mk0)
   simp only[zLz] at h5
   exact h5) (fun _ _=>rfl) (by simp)
  hg (ok_one (by kernel_rfl) rfl (okWide_bool_mk Tryz.underlying4 _))⟩
theorem reads (os:Os) {H:Type} (enc:TypeId×Value→H):∃ places,DataW.whole enc Tryz.prog ((laidWorld7 os).forCall (fun _ _=>0) ⟨#[],#[.agg #[.slice none 0 0,.slice none 0 0,.slice none 0 0],.agg #[.int .i64 0,.int .i64 0,.int .i64 0]],[]⟩).memory Tryz.f3.params.toList Rows.compilerAssemblySpec.vars false #[Value.agg #[.slice none 0 0,.slice none 0 0,.slice none 0 0],.agg #[.int .i64 0,.int .i64 0,.int .i64 0]].toList 8=some ([.agg [.nil,.nil,.nil],.agg [.lit (.int .i64 0),.lit (.int .i64 0),.lit (.int .i64 0)]],[],places):=
 ⟨[],by kernel_rfl⟩
theorem lifted (os:Os) (started:os.Started) (H:Type) (enc:TypeId×Value→H) (F:Stop.Interp) :
  ReturnsInHanded {} Tryz.checked os 3 .any ((Rows.OpenSpec.upto Rows.compilerAssemblySpec).preRow enc Tryz.prog Tryz.f3 Rows.compilerAssemblyUptoRow.domain false Rows.compilerAssemblyUptoRow.laid) (((Rows.OpenSpec.upto Rows.compilerAssemblySpec).at F).post enc Tryz.prog Tryz.f3 false true false false):=by
 obtain ⟨places,hx⟩:=reads os enc
 refine returnsInHanded_of_row (C:=Tryz.checked) (s:=Rows.OpenSpec.upto Rows.compilerAssemblySpec) own started (by kernel_rfl) Tryz.func3
  (witness_row_at (enc:=enc) (C:=Tryz.checked) false (laidWorld7 os) #[.agg #[.slice none 0 0,.slice none 0 0,.slice none 0 0],.agg #[.int .i64 0,.int .i64 0,.int .i64 0]] rfl (by kernel_rfl) (by kernel_rfl) (by kernel_rfl)
   (OpenSpec.preRow_of_cond 8 hx (by kernel_rfl) (fun k hk=>by cases hk;exact of_decide_eq_true (by kernel_rfl)) (by kernel_rfl) (laid_met7 os _))) ?_
 intro W base args ds gs before hval hW _ hk _ hL hS _
 exact contract H enc W base args ds gs before hval hW hL hS (of_decide_eq_true (hk Rows.uptoSmall rfl))
theorem closed:joinedFacts Tryz.prog 3 Tryz.f3 (Rows.OpenSpec.upto Rows.compilerAssemblySpec).bare Rows.compilerAssemblyUptoRow=true:=
 Jn.joined rfl rfl rfl (by kernel_rfl) (by kernel_rfl) (by kernel_rfl) rfl rfl c10 c11 c12 c13 (by kernel_rfl) (by kernel_rfl) (by kernel_rfl) (by kernel_rfl) (by kernel_rfl) (by kernel_rfl) (by kernel_rfl) (by kernel_rfl) (by kernel_rfl) (by kernel_rfl) (by kernel_rfl) (by kernel_rfl) (by kernel_rfl) (by kernel_rfl)
theorem said:Rows.CompilerAssemblyUptoSaid:=
 OpenClaim.holds_of_cond 3 Tryz.f3 rfl rfl rfl rfl rfl rfl rfl ⟨rfl,rfl,rfl,rfl,rfl⟩ rfl rfl rfl rfl rfl (by kernel_rfl) Tryz.func3 closed
  (of_decide_eq_true (by kernel_rfl)) (by unfold Func.isWrapper;first|(rw[if_pos (by decide +kernel)];kernel_rfl)|(rw[if_neg (by decide +kernel)];exact ⟨rfl,rfl⟩))
  (fun os started H enc _ F=>by rw[OpenClaim.pre_eq_preRow];exact lifted os started H enc F)
theorem plain (f : FuncId) (fn : Func) (hf : Tryz.pinned.checked.prog.funcNamed "stele/stelelaw23.CompilerAssembly" = some f) (hfn : Tryz.pinned.checked.prog.funcs[f]? = some fn) :
  true=Tryz.pinned.checked.prog.looks []∧∀ (j:Nat) t,fn.params[j]? = some t→Tryz.pinned.checked.prog.wantsStandIn t=false:=by
 obtain rfl : f = 3 := Option.some.inj ((show Tryz.prog.funcNamed "stele/stelelaw23.CompilerAssembly" = some 3 by kernel_rfl).symm.trans hf) |>.symm
 obtain rfl:fn=Tryz.f3:=(Option.some.inj (Tryz.func3.symm.trans hfn)).symm
 refine ⟨by kernel_rfl,fun j t ht=>?_⟩
 rw[Tryz.params3] at ht
 have hm:=Array.mem_of_getElem? ht
 simp only[List.mem_toArray,zMi,List.not_mem_nil,or_false] at hm
 rcases hm with rfl|rfl
 ·exact (show Tryz.prog.wantsStandIn 26=false by kernel_rfl)
 ·exact (show Tryz.prog.wantsStandIn 28=false by kernel_rfl)
end Go.Proofs.YtpbbgkoalnonoaaGreatDoor.fnAssembly
namespace Go.Proofs.YtpbbgkoalnonoaaGreatDoor
theorem compilerAssemblyUpto_card:Rows.CompilerAssemblyUptoCardSaid:=
 Claim7.holds_tied_plain_at .later [] _ _ _ _ fnAssembly.said (fun _ h=>by cases h) (by kernel_rfl) (fun _ h=>by cases h) compilerAssemblyUpto_row_tie rfl ⟨rfl,rfl⟩ (by kernel_rfl) rfl fnAssembly.plain (by kernel_rfl)
#print axioms compilerAssemblyUpto_card
end Go.Proofs.YtpbbgkoalnonoaaGreatDoor
