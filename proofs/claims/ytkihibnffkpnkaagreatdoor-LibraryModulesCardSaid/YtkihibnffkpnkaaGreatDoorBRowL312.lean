import Derived.Test.YtkihibnffkpnkaaGreatDoorRowLM2j
import Derived.Test.YtkihibnffkpnkaaGreatDoorRowLM2k
import Derived.Test.YtkihibnffkpnkaaGreatDoorBRowL37
import Derived.Test.YtkihibnffkpnkaaGreatDoorBRowL311
set_option linter.unusedVariables false
set_option linter.unusedSimpArgs false
set_option maxRecDepth 100000
set_option maxHeartbeats 4000000
namespace Go.Proofs.YtkihibnffkpnkaaGreatDoor.fnLibraryModules
open Go.ChangeShapes Go.WideShapes Go.ChangeAt Go.RowKit Go.ChangeMaps
open Go.GL (RepL Rep)
open Lb (qiP)
theorem qgh(H:Type)(enc:TypeId×Value->H)(W:World)(base:Nat)(args:Array Value)(ds gs:List (DataW H))(before:List MemPlace)
  (hval:∀ (j:Nat) t v,Tryz.f5.params[j]? = some t->args[j]? = some v->Value.okWide Tryz.prog W .any base t v)
  (hW:DataW.Whole enc Tryz.prog Tryz.f5.params.toList Rows.libraryModulesSpec.vars false W args.toList ds gs before) (hL:laidMetH Tryz.prog Rows.libraryModulesRow.laid W) (hS:W.ShapedOpen Tryz.prog) :
  Calls Tryz.prog 5 args W λe W'=>∃ v,e=.returned v/\Rows.libraryModulesSpec.post enc Tryz.prog Tryz.f5 false true false false W args v W':=by
 have hW':=hW;obtain⟨p,q,hA0,hV,rfl,hfz,hnd⟩:=hW;have hA:DataW.TrodAll enc Tryz.prog W 0 (λ_=>true) true Tryz.f5.params.toList args.toList ds p:=hA0;rw[Tryz.params5] at hA hval;obtain⟨v0,vs0,d0,ds0,p0,q0,hargs,rfl,rfl,h0,r0⟩:=trodAll_cons hA;obtain⟨v1,vs1,d1,ds1,p1,q1,rfl,rfl,rfl,h1,r1⟩:=trodAll_cons r0;obtain⟨rfl,rfl,rfl⟩:=trodAll_nil r1;obtain rfl:args=#[v0,v1]:=by cases args;simp_all
 obtain⟨rfl,rfl⟩:=trodVars_none hV;obtain⟨x0,rfl,rfl,rfl,wx0⟩:=open_int Tryz.underlying5 (hval 0 5 v0 rfl rfl) h0;obtain⟨n0,rfl,hn0⟩:=qyc wx0
 have hx0:RepL W (allL W) [Go.GL.int .u8 (n0:Int)] [.int .u8 (n0:Int)]:=by
  simp only[RepL,Rep,Go.GL.int];exact⟨_,_,rfl,rfl,rfl⟩
 obtain⟨x1,rfl,rfl,rfl,wx1⟩:=open_int Tryz.underlying5 (hval 1 5 v1 rfl rfl) h1;obtain⟨n1,rfl,hn1⟩:=qyc wx1
 have hx1:RepL W (allL W) [Go.GL.int .u8 (n1:Int)] [.int .u8 (n1:Int)]:=by
  simp only[RepL,Rep,Go.GL.int];exact⟨_,_,rfl,rfl,rfl⟩
 obtain⟨hG,h8⟩:=qgk (qqL hL) hS;have hM:=qvb hS;have hP:=qtT (qqL hL) hS;clear hA0;simp only[zLz,List.nil_append] at hW';refine(qof (vs:=[.int .u8 (n0:Int),.int .u8 (n1:Int)]) (qiP hP hn0 hn1) (qfR hx0 (qfR hx1 qlQ)) (qsM h8)).mono λe W' ⟨he,hg⟩=>?_;subst he
 exact⟨_,rfl,qe5 (pa:=[]) (pv:=[]) hW' (λ_ _ _=>trodAll_cons_mk (shut_bool Tryz.underlying4 _) trodAll_mk0) (λsp hsp=>by
   exact(trodAll_cons_mk (shut_int Tryz.underlying5 wx0) (trodAll_cons_mk (shut_int Tryz.underlying5 wx1) trodAll_mk0))) (λ_ _=>rfl) (by simp)
  hg (ok_one (by kernel_rfl) rfl (okWide_bool_mk Tryz.underlying4 _))⟩
theorem reads(os:Os){H:Type}(enc:TypeId×Value->H):∃ places,DataW.whole enc Tryz.prog ((laidWorld7 os).forCall (λ_ _=>0) ⟨#[],#[.int .u8 0,.int .u8 0],[]⟩).memory Tryz.f5.params.toList Rows.libraryModulesSpec.vars false #[Value.int .u8 0,.int .u8 0].toList 8=some ([.lit (.int .u8 0),.lit (.int .u8 0)],[],places):=
 ⟨[],by kernel_rfl⟩
theorem lifted(os:Os)(started:os.Started)(H:Type)(enc:TypeId×Value->H)(F:Stop.Interp) :
  ReturnsInHanded {} Tryz.checked os 5 .any ((OpenSpec.ofChange Rows.libraryModulesSpec).preRow enc Tryz.prog Tryz.f5 Rows.libraryModulesRow.domain false Rows.libraryModulesRow.laid) (((OpenSpec.ofChange Rows.libraryModulesSpec).at F).post enc Tryz.prog Tryz.f5 false true false false):=by
 obtain⟨places,hx⟩:=reads os enc
 refine returnsInHanded_of_row (C:=Tryz.checked) (s:=OpenSpec.ofChange Rows.libraryModulesSpec) own started (by kernel_rfl) Tryz.func5
  (witness_row_at (enc:=enc) (C:=Tryz.checked) false (laidWorld7 os) #[.int .u8 0,.int .u8 0] rfl (by kernel_rfl) (by kernel_rfl) (by kernel_rfl)
   (OpenSpec.preRow_of_cond 8 hx (by kernel_rfl) (λk hk=>by cases hk) (by kernel_rfl) (qkm os _))) ?_
 intro W base args ds gs before hval hW _ _ _ hL hS _;exact qgh H enc W base args ds gs before hval hW hL hS
theorem closed:joinedFacts Tryz.prog 5 Tryz.f5 (OpenSpec.ofChange Rows.libraryModulesSpec).bare Rows.libraryModulesRow=true:=
 Jn.joined rfl rfl rfl (by kernel_rfl) (by kernel_rfl) (by kernel_rfl) rfl rfl c10 c11 c12 c13 (by kernel_rfl) (by kernel_rfl) (by kernel_rfl) (by kernel_rfl) (by kernel_rfl) (by kernel_rfl) (by kernel_rfl) (by kernel_rfl) (by kernel_rfl) (by kernel_rfl) (by kernel_rfl) (by kernel_rfl) (by kernel_rfl) (by kernel_rfl)
theorem said:Rows.LibraryModulesSaid:=
 OpenClaim.holds_of_cond 5 Tryz.f5 rfl rfl rfl rfl rfl rfl rfl ⟨rfl,rfl,rfl,rfl,rfl⟩ rfl rfl rfl rfl rfl (by kernel_rfl) Tryz.func5 closed
  (of_decide_eq_true (by kernel_rfl)) (by unfold Func.isWrapper;first|(rw[if_pos (by decide +kernel)];kernel_rfl)|(rw[if_neg (by decide +kernel)];exact⟨rfl,rfl⟩))
  (λos started H enc _ F=>by rw[OpenClaim.pre_eq_preRow];exact lifted os started H enc F)
theorem plain (f : FuncId) (fn : Func) (hf : Tryz.pinned.checked.prog.funcNamed "stele/stelelaw25.LibraryModules" = some f) (hfn : Tryz.pinned.checked.prog.funcs[f]? = some fn) :
  true=Tryz.pinned.checked.prog.looks []/\∀ (j:Nat) t,fn.params[j]? = some t->Tryz.pinned.checked.prog.wantsStandIn t=false:=by
 obtain rfl : f = 5 := Option.some.inj ((show Tryz.prog.funcNamed "stele/stelelaw25.LibraryModules" = some 5 by kernel_rfl).symm.trans hf) |>.symm
 obtain rfl:fn=Tryz.f5:=(Option.some.inj (Tryz.func5.symm.trans hfn)).symm;refine⟨by kernel_rfl,λj t ht=>?_⟩;rw[Tryz.params5] at ht;have hm:=Array.mem_of_getElem? ht;simp only[List.mem_toArray,zMi,List.not_mem_nil,or_false] at hm;rcases hm with rfl|rfl;exact(show Tryz.prog.wantsStandIn 5=false by kernel_rfl);exact(show Tryz.prog.wantsStandIn 5=false by kernel_rfl)
end Go.Proofs.YtkihibnffkpnkaaGreatDoor.fnLibraryModules
namespace Go.Proofs.YtkihibnffkpnkaaGreatDoor
theorem libraryModules_card:Rows.LibraryModulesCardSaid:=
 Claim7.holds_tied_plain_at .later [] _ _ _ _ fnLibraryModules.said (λ_ h=>by cases h) (by kernel_rfl) (λ_ h=>by cases h) libraryModules_row_tie rfl ⟨rfl,rfl⟩ (by kernel_rfl) rfl fnLibraryModules.plain (by kernel_rfl)
#print axioms libraryModules_card
end Go.Proofs.YtkihibnffkpnkaaGreatDoor
