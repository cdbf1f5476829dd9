/- InterpreterRun: the interpreter and the reference interpreter answer alike on every program, valid or not: for every program, list of numbers and number of bulk at most 1048576 the law returns true. The card: the listed package-level variables read as the program's text lays them. -/
import Derived.ChangeMaps5
import Derived.Test.YtcbpcianefpniaaGreatDoorBRowIN9
set_option linter.unusedVariables false
set_option linter.unusedSimpArgs false
namespace Go.Proofs.YtcbpcianefpniaaGreatDoor.fnRun
open Go.ChangeShapes Go.WideShapes Go.ChangeAt Go.RowKit Go.ChangeMaps
open Go.GL (RepL Rep)
set_option maxRecDepth 100000
theorem contract (H:Type) (enc:TypeId×Value→H) (W:World) (base:Nat) (args:Array Value) (ds gs:List (DataW H)) (before:List MemPlace)
  (hval:∀ (j:Nat) t v,Tryz.f4.params[j]? = some t→args[j]? = some v→Value.okWide Tryz.prog W .any base t v)
  (hW:DataW.Whole enc Tryz.prog Tryz.f4.params.toList Rows.interpreterRunSpec.vars false W args.toList ds gs before) (hL:laidMetH Tryz.prog Rows.interpreterRunUptoRow.laid W) (hS:W.ShapedOpen Tryz.prog) (hB:Rows.uptoBulkAll (ds++gs)≤1048576) :
  Calls Tryz.prog 4 args W fun e W'=>∃ v,e=.returned v∧Rows.interpreterRunSpec.post enc Tryz.prog Tryz.f4 false true false false W args v W':=by
 have hW':=hW
 obtain ⟨p,q,hA0,hV,rfl,hfz,hnd⟩:=hW
 have hA:DataW.TrodAll enc Tryz.prog W 0 (fun _=>true) true Tryz.f4.params.toList args.toList ds p:=hA0
 rw[Tryz.params4] at hA hval
 obtain ⟨v0,vs0,d0,ds0,p0,q0,hargs,rfl,rfl,h0,r0⟩:=trodAll_cons hA
 obtain ⟨v1,vs1,d1,ds1,p1,q1,rfl,rfl,rfl,h1,r1⟩:=trodAll_cons r0
 obtain ⟨v2,vs2,d2,ds2,p2,q2,rfl,rfl,rfl,h2,r2⟩:=trodAll_cons r1
 obtain ⟨rfl,rfl,rfl⟩:=trodAll_nil r2
 obtain rfl:args=#[v0,v1,v2]:=by cases args;simp_all
 obtain ⟨rfl,rfl⟩:=trodVars_none hV
 obtain ⟨vars,arrays,fs,rp,hv,ha,har,hnd,hnum⟩:=open_prog (hval 0 33 v0 rfl rfl) h0
 obtain ⟨l,hlt0,rl⟩:=open_u32s (hval 1 22 v1 rfl rfl) h1
 obtain ⟨x,rfl,rfl,rfl,wx⟩:=open_int Tryz.underlying3 (hval 2 3 v2 rfl rfl) h2
 have hG:=gw_of_laid hL
 clear hA0
 simp only[List.append_nil,List.nil_append] at hW'
 have hlt:∀ x∈p0++p1,x.block<W.heap.size:=fun x hx=>by simpa using hW'.lt x hx
 have hb:Rows.uptoBulk d0≤1048576:=by
  simp only[List.cons_append,Rows.uptoBulkAll] at hB
  omega
 have hx:RepL W (allL W) [Go.GL.int .i64 x] [.int .i64 x]:=by
  simp only[RepL,Rep,Go.GL.int]
  exact ⟨_,_,rfl,rfl,rfl⟩
 refine (lift_at (vs:=[v0,v1,.int .i64 x]) (RI.run_law hG.1 Go.GL.zo Go.GL.zo har Go.GL.zo (smF_of Go.GL.zo hnum) hnum hlt0 x) (repL_cons rp (repL_cons rl hx)) (relAll hG.2)).mono fun e W' ⟨he,hg⟩=>?_
 subst he
 exact ⟨_,rfl,post_of_below (pa:=p0++p1) (pv:=[]) hW' (fun _ _ _=>trodAll_cons_mk (shut_bool Tryz.underlying4 _) trodAll_mk0) (fun sp hsp=>by
   have h5:=trodAll_cons_mk (stay_prog h0 hg (fun x hx=>hlt x (List.mem_append_left _ hx)) (fun p hp=>hsp p (List.mem_append_left _ hp))) (trodAll_cons_mk (stay_nums h1 hg (fun x hx=>hlt x (List.mem_append_right _ hx)) (fun p hp=>hsp p (List.mem_append_right _ hp))) (trodAll_cons_mk (shut_int Tryz.underlying3 wx) trodAll_mk0))
   simp only[List.append_nil] at h5
   exact h5) (fun _ _=>rfl) (by simp)
  hg (ok_one Go.GL.zk rfl (okWide_bool_mk Tryz.underlying4 _))⟩
theorem reads (os:Os) {H:Type} (enc:TypeId×Value→H):∃ places,DataW.whole enc Tryz.prog ((laidWorld os).forCall (fun _ _=>0) ⟨#[],#[.agg #[.slice none 0 0,.slice none 0 0,.slice none 0 0],.slice none 0 0,.int .i64 0],[]⟩).memory Tryz.f4.params.toList Rows.interpreterRunSpec.vars false #[Value.agg #[.slice none 0 0,.slice none 0 0,.slice none 0 0],.slice none 0 0,.int .i64 0].toList 8=some ([.agg [.nil,.nil,.nil],.nil,.lit (.int .i64 0)],[],places):=
 ⟨[],by kernel_rfl⟩
theorem lifted (os:Os) (started:os.Started) (H:Type) (enc:TypeId×Value→H) (F:Stop.Interp) :
  ReturnsInHanded {} Tryz.checked os 4 .any ((Rows.OpenSpec.upto Rows.interpreterRunSpec).preRow enc Tryz.prog Tryz.f4 Rows.interpreterRunUptoRow.domain false Rows.interpreterRunUptoRow.laid) (((Rows.OpenSpec.upto Rows.interpreterRunSpec).at F).post enc Tryz.prog Tryz.f4 false true false false):=by
 obtain ⟨places,hx⟩:=reads os enc
 refine returnsInHanded_of_row (C:=Tryz.checked) (s:=Rows.OpenSpec.upto Rows.interpreterRunSpec) own started Go.GL.zk Tryz.func4
  (witness_row_at (enc:=enc) (C:=Tryz.checked) false (laidWorld os) #[.agg #[.slice none 0 0,.slice none 0 0,.slice none 0 0],.slice none 0 0,.int .i64 0] rfl Go.GL.zk Go.GL.zk Go.GL.zk
   (OpenSpec.preRow_of_cond 8 hx Go.GL.zk (fun k hk=>by cases hk;exact Go.GL.zt Go.GL.zk) Go.GL.zk (laid_met os _))) ?_
 intro W base args ds gs before hval hW _ hk _ hL hS _
 exact contract H enc W base args ds gs before hval hW hL hS (Go.GL.zt (hk Rows.uptoSmall rfl))
theorem said:Rows.InterpreterRunUptoSaid:=
 OpenClaim.holds_of_cond 4 Tryz.f4 rfl rfl rfl rfl rfl rfl rfl ⟨rfl,rfl,rfl,rfl,rfl⟩ rfl rfl rfl rfl rfl Go.GL.zk Tryz.func4 Go.GL.zk
  (Go.GL.zt Go.GL.zk) (by unfold Func.isWrapper;first|(rw[if_pos (by decide +kernel)];kernel_rfl)|(rw[if_neg (by decide +kernel)];exact ⟨rfl,rfl⟩))
  (fun os started H enc _ F=>by rw[OpenClaim.pre_eq_preRow];exact lifted os started H enc F)
theorem plain (f : FuncId) (fn : Func) (hf : Tryz.pinned.checked.prog.funcNamed "stele/stelelaw22.InterpreterRun" = some f) (hfn : Tryz.pinned.checked.prog.funcs[f]? = some fn) :
  true=Tryz.pinned.checked.prog.looks []∧∀ (j:Nat) t,fn.params[j]? = some t→Tryz.pinned.checked.prog.wantsStandIn t=false:=by
 obtain rfl : f = 4 := Option.some.inj ((show Tryz.prog.funcNamed "stele/stelelaw22.InterpreterRun" = some 4 by kernel_rfl).symm.trans hf) |>.symm
 obtain rfl:fn=Tryz.f4:=(Option.some.inj (Tryz.func4.symm.trans hfn)).symm
 refine ⟨by kernel_rfl,fun j t ht=>?_⟩
 rw[Tryz.params4] at ht
 have hm:=Array.mem_of_getElem? ht
 simp only[List.mem_toArray,List.mem_cons,List.not_mem_nil,or_false] at hm
 rcases hm with rfl|rfl|rfl
 ·exact (show Tryz.prog.wantsStandIn 33=false by kernel_rfl)
 ·exact (show Tryz.prog.wantsStandIn 22=false by kernel_rfl)
 ·exact (show Tryz.prog.wantsStandIn 3=false by kernel_rfl)
end Go.Proofs.YtcbpcianefpniaaGreatDoor.fnRun
namespace Go.Proofs.YtcbpcianefpniaaGreatDoor
theorem interpreterRunUpto_card:Rows.InterpreterRunUptoCardSaid:=
 Claim7.holds_tied_plain_at .later [] _ _ _ _ fnRun.said (fun _ h=>by cases h) Go.GL.zk (fun _ h=>by cases h) interpreterRunUpto_row_tie rfl ⟨rfl,rfl⟩ Go.GL.zk rfl fnRun.plain Go.GL.zk
#print axioms interpreterRunUpto_card
end Go.Proofs.YtcbpcianefpniaaGreatDoor
