import Derived.Test.YtafdodhkoihlhaaGreatDoorRowLEj
import Derived.Test.YtafdodhkoihlhaaGreatDoorRowLEk
import Derived.Test.YtafdodhkoihlhaaGreatDoorBRowLE13
set_option linter.unusedVariables false
set_option linter.unusedSimpArgs false
set_option maxRecDepth 100000
set_option maxHeartbeats 0
open Go.GL (zk)
namespace Go.Proofs.YtafdodhkoihlhaaGreatDoor
open Go.Proofs.Y
namespace fnLibraryErasure
open Go.ChangeShapes Go.WideShapes Go.ChangeAt Go.RowKit Go.ChangeMaps
open Go.GL (oa Fb)
open Lb (qiX)
theorem qqF(H:Type)(enc:TypeId×Value->H)(W:World)(base:Nat)(args:Array Value)(ds gs:List (DataW H))(before:List MemPlace)
  (Pk:∀ (j:Nat) t v,Tryz.f3.params[j]? = some t->args[j]? = some v->Value.okWide Tryz.prog W .any base t v)
  (hW:DataW.Whole enc Tryz.prog Tryz.f3.params.toList Rows.libraryErasureSpec.vars false W args.toList ds gs before) (hL:laidMetH Tryz.prog Rows.libraryErasureRow.laid W) (hS:W.ShapedOpen Tryz.prog) :
  Calls Tryz.prog 3 args W λe W'=>∃ v,e=.returned v/\Rows.libraryErasureSpec.post enc Tryz.prog Tryz.f3 false true false false W args v W':=by
 have l8:=hW;obtain⟨p,q,QX,hV,rfl,hfz,Bh⟩:=hW;have hA:DataW.TrodAll enc Tryz.prog W 0 (λ_=>true) true Tryz.f3.params.toList args.toList ds p:=QX;rw[Tryz.params3] at hA Pk;obtain⟨v0,vs0,d0,ds0,p0,q0,mv,rfl,rfl,h0,r0⟩:=trodAll_cons hA;obtain⟨v1,vs1,d1,ds1,p1,q1,rfl,rfl,rfl,h1,r1⟩:=trodAll_cons r0;obtain⟨rfl,rfl,rfl⟩:=trodAll_nil r1;obtain rfl:args=#[v0,v1]:=by cases args;simp_all
 obtain⟨rfl,rfl⟩:=trodVars_none hV;obtain⟨l0,cH⟩:=qpL (Pk 0 22 v0 rfl rfl) h0;obtain⟨x1,rfl,rfl,rfl,C9⟩:=open_int Tryz.underlying5 (Pk 1 5 v1 rfl rfl) h1;obtain⟨n1,rfl,zx⟩:=IP C9;have Kd:oa W (Kf W) [Go.GL.int .u8 (n1:Int)] [.int .u8 (n1:Int)]:=by simp only[oa,Fb,Go.GL.int];exact⟨_,_,rfl,rfl,rfl⟩
 obtain⟨hG,h8⟩:=qlJ (qA4 hL) hS;have hM:=qBt hS;have hP:=qBN (qA4 hL) hS;clear QX;simp only[ue,List.nil_append] at l8;have Ka:∀ x∈p0,x.block<W.heap.size:=λx hx=>by simpa using l8.lt x hx
 refine(qzl (vs:=[v0,.int .u8 (n1:Int)]) (qiX hP l0 _ zx) (AW cH (AW Kd qqe)) (qBe h8)).mono λe W' ⟨he,hg⟩=>?_;subst he
 exact⟨_,rfl,qmd (pa:=p0) (pv:=[]) l8 (λ_ _ _=>trodAll_cons_mk (shut_bool Tryz.underlying4 _) trodAll_mk0) (λsp xt=>by
   have h5:=(trodAll_cons_mk (qoH h0 hg Ka xt) (trodAll_cons_mk (shut_int Tryz.underlying5 C9) trodAll_mk0));simp only[List.nil_append,ue] at h5;exact h5) (λ_ _=>rfl) (by simp)
  hg (ok_one zk rfl (okWide_bool_mk Tryz.underlying4 _))⟩
theorem reads(os:Os){H:Type}(enc:TypeId×Value->H):∃ places,DataW.whole enc Tryz.prog ((xl os).forCall (λ_ _=>0) ⟨#[],#[.slice none 0 0,.int .u8 0],[]⟩).memory Tryz.f3.params.toList Rows.libraryErasureSpec.vars false #[Value.slice none 0 0,.int .u8 0].toList 8=some ([.nil,.lit (.int .u8 0)],[],places):=
 ⟨[],zk⟩
theorem lifted(os:Os)(started:os.Started)(H:Type)(enc:TypeId×Value->H)(F:Stop.Interp) :
  ReturnsInHanded {} Tryz.checked os 3 .any ((OpenSpec.ofChange Rows.libraryErasureSpec).preRow enc Tryz.prog Tryz.f3 Rows.libraryErasureRow.domain false Rows.libraryErasureRow.laid) (((OpenSpec.ofChange Rows.libraryErasureSpec).at F).post enc Tryz.prog Tryz.f3 false true false false):=by
 obtain⟨places,hx⟩:=reads os enc;refine returnsInHanded_of_row (C:=Tryz.checked) (s:=OpenSpec.ofChange Rows.libraryErasureSpec) own started zk Tryz.func3
  (witness_row_at (enc:=enc) (C:=Tryz.checked) false (xl os) #[.slice none 0 0,.int .u8 0] rfl zk zk zk
   (OpenSpec.preRow_of_cond 8 hx zk (λk hk=>by cases hk) zk (qvn os _))) ?_
 intro W base args ds gs before Pk hW _ _ _ hL hS _;exact qqF H enc W base args ds gs before Pk hW hL hS
theorem closed:joinedFacts Tryz.prog 3 Tryz.f3 (OpenSpec.ofChange Rows.libraryErasureSpec).bare Rows.libraryErasureRow=true:=
 Jn.JL rfl rfl rfl zk zk zk rfl rfl c10 c11 c12 c13 zk zk zk zk zk zk zk zk zk zk zk zk zk zk
theorem said:Rows.LibraryErasureSaid:=
 OpenClaim.holds_of_cond 3 Tryz.f3 rfl rfl rfl rfl rfl rfl rfl ⟨rfl,rfl,rfl,rfl,rfl⟩ rfl rfl rfl rfl rfl zk Tryz.func3 closed
  (qg zk) (by unfold Func.isWrapper;first|(rw[zp (by decide +kernel)];kernel_rfl)|(rw[zn (by decide +kernel)];exact⟨rfl,rfl⟩))
  (λos started H enc _ F=>by rw[OpenClaim.pre_eq_preRow];exact lifted os started H enc F)
theorem plain(f:FuncId)(fn:Func)(hf:Tryz.pinned.checked.prog.funcNamed "stele/stelelaw25.LibraryErasure"=some f)(ed:Tryz.pinned.checked.prog.funcs[f]?=some fn):
  true=Tryz.pinned.checked.prog.looks []/\∀ (j:Nat) t,fn.params[j]? = some t->Tryz.pinned.checked.prog.wantsStandIn t=false:=by
 obtain rfl:f=3:=Option.some.inj ((show Tryz.prog.funcNamed "stele/stelelaw25.LibraryErasure"=some 3 from zk).symm.trans hf) |>.symm;obtain rfl:fn=Tryz.f3:=(Option.some.inj (Tryz.func3.symm.trans ed)).symm;refine⟨zk,λj t ht=>?_⟩;rw[Tryz.params3] at ht;have hm:=Array.mem_of_getElem? ht;simp only[List.mem_toArray,Dc,List.not_mem_nil,or_false] at hm;rcases hm with rfl|rfl;exact(show Tryz.prog.wantsStandIn 22=false from zk);exact(show Tryz.prog.wantsStandIn 5=false from zk)
end fnLibraryErasure
theorem libraryErasure_card:Rows.LibraryErasureCardSaid:=
 Claim7.holds_tied_plain_at .later [] _ _ _ _ fnLibraryErasure.said (λ_ h=>by cases h) zk (λ_ h=>by cases h) libraryErasure_row_tie rfl ⟨rfl,rfl⟩ zk rfl fnLibraryErasure.plain zk
