import Derived.Test.YtkihibnffkpnkaaGreatDoorRowLRj
import Derived.Test.YtkihibnffkpnkaaGreatDoorRowLRk
import Derived.Test.YtkihibnffkpnkaaGreatDoorBRowLR15
import Derived.Test.YtkihibnffkpnkaaGreatDoorBRowLR17
set_option linter.unusedVariables false
set_option linter.unusedSimpArgs false
set_option maxRecDepth 100000
set_option maxHeartbeats 4000000
open Go.GL (zk)
namespace Go.Proofs.YtkihibnffkpnkaaGreatDoor.fnLibraryReader
open Go.ChangeShapes Go.WideShapes Go.ChangeAt Go.RowKit Go.ChangeMaps
open Go.GL (RepL Rep)
open Lb (qjC)
theorem qpi(H:Type)(enc:TypeId×Value->H)(W:World)(base:Nat)(args:Array Value)(ds gs:List (DataW H))(before:List MemPlace)
  (hval:∀ (j:Nat) t v,Tryz.f6.params[j]? = some t->args[j]? = some v->Value.okWide Tryz.prog W .any base t v)
  (hW:DataW.Whole enc Tryz.prog Tryz.f6.params.toList Rows.libraryReaderSpec.vars false W args.toList ds gs before) (hL:laidMetH Tryz.prog Rows.libraryReaderRow.laid W) (hS:W.ShapedOpen Tryz.prog) :
  Calls Tryz.prog 6 args W λe W'=>∃ v,e=.returned v/\Rows.libraryReaderSpec.post enc Tryz.prog Tryz.f6 false true false false W args v W':=by
 have hW':=hW;obtain⟨p,q,hA0,hV,rfl,hfz,hnd⟩:=hW;have hA:DataW.TrodAll enc Tryz.prog W 0 (λ_=>true) true Tryz.f6.params.toList args.toList ds p:=hA0;rw[Tryz.params6] at hA hval;obtain⟨v0,vs0,d0,ds0,p0,q0,hargs,rfl,rfl,h0,r0⟩:=trodAll_cons hA;obtain⟨rfl,rfl,rfl⟩:=trodAll_nil r0;obtain rfl:args=#[v0]:=by cases args;simp_all
 obtain⟨rfl,rfl⟩:=trodVars_none hV;obtain⟨x0,rfl,rfl,rfl,wx0⟩:=open_int Tryz.underlying30 (hval 0 30 v0 rfl rfl) h0;obtain⟨n0,rfl,hn0⟩:=qxV wx0
 have hx0:RepL W (allL W) [Go.GL.int .u32 (n0:Int)] [.int .u32 (n0:Int)]:=by
  simp only[RepL,Rep,Go.GL.int];exact⟨_,_,rfl,rfl,rfl⟩
 obtain⟨hG,h8⟩:=qk3 (qxs hL) hS;have hM:=qxN hS;have hP:=qx9 (qxs hL) hS;clear hA0;simp only[zLz,List.nil_append] at hW';refine(qv4 (vs:=[.int .u32 (n0:Int)]) (qjC hP hn0) (qsA hx0 qt2) (qxD h8)).mono λe W' ⟨he,hg⟩=>?_;subst he
 exact⟨_,rfl,qlv (pa:=[]) (pv:=[]) hW' (λ_ _ _=>trodAll_cons_mk (shut_bool Tryz.underlying4 _) trodAll_mk0) (λsp hsp=>by
   exact(trodAll_cons_mk (shut_int Tryz.underlying30 wx0) trodAll_mk0)) (λ_ _=>rfl) (by simp)
  hg (ok_one zk rfl (okWide_bool_mk Tryz.underlying4 _))⟩
theorem reads(os:Os){H:Type}(enc:TypeId×Value->H):∃ places,DataW.whole enc Tryz.prog ((laidWorld7 os).forCall (λ_ _=>0) ⟨#[],#[.int .u32 0],[]⟩).memory Tryz.f6.params.toList Rows.libraryReaderSpec.vars false #[Value.int .u32 0].toList 8=some ([.lit (.int .u32 0)],[],places):=
 ⟨[],by kernel_rfl⟩
theorem lifted(os:Os)(started:os.Started)(H:Type)(enc:TypeId×Value->H)(F:Stop.Interp) :
  ReturnsInHanded {} Tryz.checked os 6 .any ((OpenSpec.ofChange Rows.libraryReaderSpec).preRow enc Tryz.prog Tryz.f6 Rows.libraryReaderRow.domain false Rows.libraryReaderRow.laid) (((OpenSpec.ofChange Rows.libraryReaderSpec).at F).post enc Tryz.prog Tryz.f6 false true false false):=by
 obtain⟨places,hx⟩:=reads os enc
 refine returnsInHanded_of_row (C:=Tryz.checked) (s:=OpenSpec.ofChange Rows.libraryReaderSpec) own started zk Tryz.func6
  (witness_row_at (enc:=enc) (C:=Tryz.checked) false (laidWorld7 os) #[.int .u32 0] rfl zk zk zk
   (OpenSpec.preRow_of_cond 8 hx zk (λk hk=>by cases hk) zk (qte os _))) ?_
 intro W base args ds gs before hval hW _ _ _ hL hS _;exact qpi H enc W base args ds gs before hval hW hL hS
theorem closed:joinedFacts Tryz.prog 6 Tryz.f6 (OpenSpec.ofChange Rows.libraryReaderSpec).bare Rows.libraryReaderRow=true:=
 Jn.joined rfl rfl rfl zk zk zk rfl rfl c10 c11 c12 c13 zk zk zk zk zk zk zk zk zk zk zk zk zk zk
theorem said:Rows.LibraryReaderSaid:=
 OpenClaim.holds_of_cond 6 Tryz.f6 rfl rfl rfl rfl rfl rfl rfl ⟨rfl,rfl,rfl,rfl,rfl⟩ rfl rfl rfl rfl rfl zk Tryz.func6 closed
  (of_decide_eq_true zk) (by unfold Func.isWrapper;first|(rw[zp (by decide +kernel)];kernel_rfl)|(rw[zn (by decide +kernel)];exact⟨rfl,rfl⟩))
  (λos started H enc _ F=>by rw[OpenClaim.pre_eq_preRow];exact lifted os started H enc F)
theorem plain (f : FuncId) (fn : Func) (hf : Tryz.pinned.checked.prog.funcNamed "stele/stelelaw25.LibraryReader" = some f) (hfn : Tryz.pinned.checked.prog.funcs[f]? = some fn) :
  true=Tryz.pinned.checked.prog.looks []/\∀ (j:Nat) t,fn.params[j]? = some t->Tryz.pinned.checked.prog.wantsStandIn t=false:=by
 obtain rfl : f = 6 := Option.some.inj ((show Tryz.prog.funcNamed "stele/stelelaw25.LibraryReader" = some 6 by kernel_rfl).symm.trans hf) |>.symm
 obtain rfl:fn=Tryz.f6:=(Option.some.inj (Tryz.func6.symm.trans hfn)).symm;refine⟨by kernel_rfl,λj t ht=>?_⟩;rw[Tryz.params6] at ht;have hm:=Array.mem_of_getElem? ht;simp only[List.mem_toArray,zMi,List.not_mem_nil,or_false] at hm;rcases hm with rfl;exact(show Tryz.prog.wantsStandIn 30=false by kernel_rfl)
end Go.Proofs.YtkihibnffkpnkaaGreatDoor.fnLibraryReader
namespace Go.Proofs.YtkihibnffkpnkaaGreatDoor
theorem libraryReader_card:Rows.LibraryReaderCardSaid:=
 Claim7.holds_tied_plain_at .later [] _ _ _ _ fnLibraryReader.said (λ_ h=>by cases h) zk (λ_ h=>by cases h) libraryReader_row_tie rfl ⟨rfl,rfl⟩ zk rfl fnLibraryReader.plain zk
#print axioms libraryReader_card
end Go.Proofs.YtkihibnffkpnkaaGreatDoor
