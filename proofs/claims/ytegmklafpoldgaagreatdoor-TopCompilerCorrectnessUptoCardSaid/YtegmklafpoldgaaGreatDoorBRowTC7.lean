import Derived.Test.YtegmklafpoldgaaGreatDoorRowTCj
import Derived.Test.YtegmklafpoldgaaGreatDoorRowTCk
import Derived.Test.YtegmklafpoldgaaGreatDoorBRowTC6
set_option linter.unusedVariables false
set_option linter.unusedSimpArgs false
set_option maxRecDepth 100000
set_option maxHeartbeats 4000000
open Go.GL (zk)
namespace Go.Proofs.YtegmklafpoldgaaGreatDoor.fnTC
open Go.ChangeShapes Go.WideShapes Go.ChangeAt Go.RowKit Go.ChangeMaps
open Go.GL (RepL Rep)
theorem qpo(H:Type)(enc:TypeId×Value->H)(W:World)(base:Nat)(args:Array Value)(ds gs:List (DataW H))(before:List MemPlace)
  (hval:∀ (j:Nat) t v,Tryz.f5.params[j]? = some t->args[j]? = some v->Value.okWide Tryz.prog W .any base t v)
  (hW:DataW.Whole enc Tryz.prog Tryz.f5.params.toList Rows.topCompilerCorrectnessSpec.vars false W args.toList ds gs before) (hL:laidMetH Tryz.prog Rows.topCompilerCorrectnessUptoRow.laid W) (hS:W.ShapedOpen Tryz.prog) (hB:Rows.uptoBulkAll (ds++gs)<=1048576) :
  Calls Tryz.prog 5 args W λe W'=>∃ v,e=.returned v/\Rows.topCompilerCorrectnessSpec.post enc Tryz.prog Tryz.f5 false true false false W args v W':=by
 have hW':=hW;obtain⟨p,q,hA0,hV,rfl,hfz,hnd⟩:=hW;have hA:DataW.TrodAll enc Tryz.prog W 0 (λ_=>true) true Tryz.f5.params.toList args.toList ds p:=hA0;rw[Tryz.params5] at hA hval;obtain⟨v0,vs0,d0,ds0,p0,q0,hargs,rfl,rfl,h0,r0⟩:=trodAll_cons hA;obtain⟨v1,vs1,d1,ds1,p1,q1,rfl,rfl,rfl,h1,r1⟩:=trodAll_cons r0;obtain⟨rfl,rfl,rfl⟩:=trodAll_nil r1;obtain rfl:args=#[v0,v1]:=by cases args;simp_all
 obtain⟨rfl,rfl⟩:=trodVars_none hV;obtain⟨vars,arrays,fs,rp,hv,ha,har,hnd,hnum⟩:=qtd (hval 0 28 v0 rfl rfl) h0;obtain⟨l,hl0,rl⟩:=qtB (hval 1 22 v1 rfl rfl) h1;obtain⟨hG,h8⟩:=qle (qxt hL) hS;have hM:=qxN hS;have hP:=qx0 (qxt hL) hS;clear hA0;simp only[zLz,List.nil_append] at hW';have hlt:∀ x∈p0++p1,x.block<W.heap.size:=λx hx=>by simpa using hW'.lt x hx
 have hb:Rows.uptoBulk d0<=1048576:=by
  simp only[List.cons_append,Rows.uptoBulkAll] at hB;omega
 have hn1:=Go.Stele.nd_szFs fs;have hn2:=Go.Stele.len_szNs vars;have hn3:=Go.Stele.len_szAs arrays;have hfl:=Go.Stele.ndFs_len fs
 have hsz:=RZ.rsizePB_spec (B0:=8) (w0:=W) vars arrays fs (by omega) (by omega) (by omega) (qkX (by omega) hnum) (λf hf=>by
  have h1:=qxE hf;unfold Go.Stele.ndF at h1
  omega) (by omega) (by omega) (by omega)
 refine(qv6 (vs:=[v0,v1]) (Top.tc_walk hP vars arrays fs (by omega) (by omega) har (by omega) hnum hl0 hsz) (qa7 rp rl) (qxz h8)).mono λe W' ⟨he,hg⟩=>?_;subst he
 exact⟨_,rfl,qlI (pa:=p0++p1) (pv:=[]) hW' (λ_ _ _=>trodAll_cons_mk (shut_bool Tryz.underlying4 _) trodAll_mk0) (λsp hsp=>by
   have h5:=trodAll_cons_mk (qsp h0 hg (λx hx=>hlt x (List.mem_append_left _ hx)) (λp hp=>hsp p (List.mem_append_left _ hp))) (trodAll_cons_mk (qrS h1 hg (λx hx=>hlt x (List.mem_append_right _ hx)) (λp hp=>hsp p (List.mem_append_right _ hp))) trodAll_mk0);simp only[zLz] at h5
   exact h5) (λ_ _=>rfl) (by simp)
  hg (ok_one zk rfl (okWide_bool_mk Tryz.underlying4 _))⟩
theorem reads(os:Os){H:Type}(enc:TypeId×Value->H):∃ places,DataW.whole enc Tryz.prog ((laidWorld7 os).forCall (λ_ _=>0) ⟨#[],#[.agg #[.slice none 0 0,.slice none 0 0,.slice none 0 0],.slice none 0 0],[]⟩).memory Tryz.f5.params.toList Rows.topCompilerCorrectnessSpec.vars false #[Value.agg #[.slice none 0 0,.slice none 0 0,.slice none 0 0],.slice none 0 0].toList 8=some ([.agg [.nil,.nil,.nil],.nil],[],places):=
 ⟨[],zk⟩
theorem lifted(os:Os)(started:os.Started)(H:Type)(enc:TypeId×Value->H)(F:Stop.Interp) :
  ReturnsInHanded {} Tryz.checked os 5 .any ((Rows.OpenSpec.upto Rows.topCompilerCorrectnessSpec).preRow enc Tryz.prog Tryz.f5 Rows.topCompilerCorrectnessUptoRow.domain false Rows.topCompilerCorrectnessUptoRow.laid) (((Rows.OpenSpec.upto Rows.topCompilerCorrectnessSpec).at F).post enc Tryz.prog Tryz.f5 false true false false):=by
 obtain⟨places,hx⟩:=reads os enc
 refine returnsInHanded_of_row (C:=Tryz.checked) (s:=Rows.OpenSpec.upto Rows.topCompilerCorrectnessSpec) own started zk Tryz.func5
  (witness_row_at (enc:=enc) (C:=Tryz.checked) false (laidWorld7 os) #[.agg #[.slice none 0 0,.slice none 0 0,.slice none 0 0],.slice none 0 0] rfl zk zk zk
   (OpenSpec.preRow_of_cond 8 hx zk (λk hk=>by cases hk;exact zRi zk) zk (qtb os _))) ?_
 intro W base args ds gs before hval hW _ hk _ hL hS _;exact qpo H enc W base args ds gs before hval hW hL hS (zRi (hk Rows.uptoSmall rfl))
theorem closed:joinedFacts Tryz.prog 5 Tryz.f5 (Rows.OpenSpec.upto Rows.topCompilerCorrectnessSpec).bare Rows.topCompilerCorrectnessUptoRow=true:=
 Jn.joined rfl rfl rfl zk zk zk rfl rfl c10 c11 c12 c13 zk zk zk zk zk zk zk zk zk zk zk zk zk zk
theorem said:Rows.TopCompilerCorrectnessUptoSaid:=
 OpenClaim.holds_of_cond 5 Tryz.f5 rfl rfl rfl rfl rfl rfl rfl ⟨rfl,rfl,rfl,rfl,rfl⟩ rfl rfl rfl rfl rfl zk Tryz.func5 closed
  (zRi zk) (by unfold Func.isWrapper;first|(rw[zp (by decide +kernel)];kernel_rfl)|(rw[zn (by decide +kernel)];exact⟨rfl,rfl⟩))
  (λos started H enc _ F=>by rw[OpenClaim.pre_eq_preRow];exact lifted os started H enc F)
theorem plain (f : FuncId) (fn : Func) (hf : Tryz.pinned.checked.prog.funcNamed "stele/steletop.TopCompilerCorrectness" = some f) (hfn : Tryz.pinned.checked.prog.funcs[f]? = some fn) :
  true=Tryz.pinned.checked.prog.looks []/\∀ (j:Nat) t,fn.params[j]? = some t->Tryz.pinned.checked.prog.wantsStandIn t=false:=by
 obtain rfl : f = 5 := Option.some.inj ((show Tryz.prog.funcNamed "stele/steletop.TopCompilerCorrectness" = some 5 from zk).symm.trans hf) |>.symm
 obtain rfl:fn=Tryz.f5:=(Option.some.inj (Tryz.func5.symm.trans hfn)).symm;refine⟨zk,λj t ht=>?_⟩;rw[Tryz.params5] at ht;have hm:=Array.mem_of_getElem? ht;simp only[List.mem_toArray,zMi,List.not_mem_nil,or_false] at hm;rcases hm with rfl|rfl;exact(show Tryz.prog.wantsStandIn 28=false from zk);exact(show Tryz.prog.wantsStandIn 22=false from zk)
end Go.Proofs.YtegmklafpoldgaaGreatDoor.fnTC
namespace Go.Proofs.YtegmklafpoldgaaGreatDoor
theorem topCompilerCorrectnessUpto_card:Rows.TopCompilerCorrectnessUptoCardSaid:=
 Claim7.holds_tied_plain_at .later [] _ _ _ _ fnTC.said (λ_ h=>by cases h) zk (λ_ h=>by cases h) topCompilerCorrectnessUpto_row_tie rfl ⟨rfl,rfl⟩ zk rfl fnTC.plain zk
#print axioms topCompilerCorrectnessUpto_card
end Go.Proofs.YtegmklafpoldgaaGreatDoor
