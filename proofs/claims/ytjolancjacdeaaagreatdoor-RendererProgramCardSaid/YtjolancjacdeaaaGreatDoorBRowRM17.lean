import Derived.Test.YtjolancjacdeaaaGreatDoorRowRMj
import Derived.Test.YtjolancjacdeaaaGreatDoorRowRMk
import Derived.Test.YtjolancjacdeaaaGreatDoorBRowRM14
import Derived.Test.YtjolancjacdeaaaGreatDoorBRowRM16
set_option linter.unusedVariables false
set_option linter.unusedSimpArgs false
set_option maxRecDepth 100000
set_option maxHeartbeats 4000000
open Go.GL (zk)
namespace Go.Proofs.YtjolancjacdeaaaGreatDoor.fnRendererProgram
open Go.ChangeShapes Go.WideShapes Go.ChangeAt Go.RowKit Go.ChangeMaps
open Go.GL (na Wa)
open Lb (DZ)
theorem qoG(H:Type)(enc:TypeId×Value->H)(W:World)(base:Nat)(args:Array Value)(ds gs:List (DataW H))(before:List MemPlace)
  (vp:∀ (j:Nat) t v,Tryz.f3.params[j]? = some t->args[j]? = some v->Value.okWide Tryz.prog W .any base t v)
  (hW:DataW.Whole enc Tryz.prog Tryz.f3.params.toList Rows.rendererProgramSpec.vars false W args.toList ds gs before) (hL:laidMetH Tryz.prog Rows.rendererProgramRow.laid W) (hS:W.ShapedOpen Tryz.prog) :
  Calls Tryz.prog 3 args W λe W'=>∃ v,e=.returned v/\Rows.rendererProgramSpec.post enc Tryz.prog Tryz.f3 false true false false W args v W':=by
 have C2:=hW;obtain⟨p,q,bN,hV,rfl,T1,Vg⟩:=hW;have hA:DataW.TrodAll enc Tryz.prog W 0 (λ_=>true) true Tryz.f3.params.toList args.toList ds p:=bN;rw[Tryz.params3] at hA vp;obtain⟨v0,vs0,d0,ds0,p0,q0,xw,rfl,rfl,h0,r0⟩:=trodAll_cons hA;obtain⟨rfl,rfl,rfl⟩:=trodAll_nil r0;obtain rfl:args=#[v0]:=by cases args;simp_all
 obtain⟨rfl,rfl⟩:=trodVars_none hV;obtain⟨x0,rfl,rfl,rfl,nU⟩:=open_int Tryz.underlying5 (vp 0 5 v0 rfl rfl) h0;obtain⟨n0,rfl,Gn⟩:=YG nU;have hx0:na W (Wp W) [Go.GL.int .u8 (n0:Int)] [.int .u8 (n0:Int)]:=by simp only[na,Wa,Go.GL.int];exact⟨_,_,rfl,rfl,rfl⟩
 obtain⟨hG,h8⟩:=yY (DU hL) hS;have hM:=MU hS;have hP:=D4 (DU hL) hS;clear bN;simp only[Qb,List.nil_append] at C2;refine(E6 (vs:=[.int .u8 (n0:Int)]) (DZ hP Gn) (qrQ hx0 M7) (T3 h8)).mono λe W' ⟨he,hg⟩=>?_;subst he
 exact⟨_,rfl,qkE (pa:=[]) (pv:=[]) C2 (λ_ _ _=>trodAll_cons_mk (shut_bool Tryz.underlying4 _) trodAll_mk0) (λsp DM=>by
   exact(trodAll_cons_mk (shut_int Tryz.underlying5 nU) trodAll_mk0)) (λ_ _=>rfl) (by simp)
  hg (ok_one zk rfl (okWide_bool_mk Tryz.underlying4 _))⟩
theorem reads(os:Os){H:Type}(enc:TypeId×Value->H):∃ places,DataW.whole enc Tryz.prog ((gi os).forCall (λ_ _=>0) ⟨#[],#[.int .u8 0],[]⟩).memory Tryz.f3.params.toList Rows.rendererProgramSpec.vars false #[Value.int .u8 0].toList 8=some ([.lit (.int .u8 0)],[],places):=
 ⟨[],zk⟩
theorem lifted(os:Os)(started:os.Started)(H:Type)(enc:TypeId×Value->H)(F:Stop.Interp) :
  ReturnsInHanded {} Tryz.checked os 3 .any ((OpenSpec.ofChange Rows.rendererProgramSpec).preRow enc Tryz.prog Tryz.f3 Rows.rendererProgramRow.domain false Rows.rendererProgramRow.laid) (((OpenSpec.ofChange Rows.rendererProgramSpec).at F).post enc Tryz.prog Tryz.f3 false true false false):=by
 obtain⟨places,hx⟩:=reads os enc;refine returnsInHanded_of_row (C:=Tryz.checked) (s:=OpenSpec.ofChange Rows.rendererProgramSpec) own started zk Tryz.func3
  (witness_row_at (enc:=enc) (C:=Tryz.checked) false (gi os) #[.int .u8 0] rfl zk zk zk
   (OpenSpec.preRow_of_cond 8 hx zk (λk hk=>by cases hk) zk (S8 os _))) ?_
 intro W base args ds gs before vp hW _ _ _ hL hS _;exact qoG H enc W base args ds gs before vp hW hL hS
theorem closed:joinedFacts Tryz.prog 3 Tryz.f3 (OpenSpec.ofChange Rows.rendererProgramSpec).bare Rows.rendererProgramRow=true:=
 Jn.yD rfl rfl rfl zk zk zk rfl rfl c10 c11 c12 c13 zk zk zk zk zk zk zk zk zk zk zk zk zk zk
theorem said:Rows.RendererProgramSaid:=
 OpenClaim.holds_of_cond 3 Tryz.f3 rfl rfl rfl rfl rfl rfl rfl ⟨rfl,rfl,rfl,rfl,rfl⟩ rfl rfl rfl rfl rfl zk Tryz.func3 closed
  (Ck zk) (by unfold Func.isWrapper;first|(rw[zp (by decide +kernel)];kernel_rfl)|(rw[zn (by decide +kernel)];exact⟨rfl,rfl⟩))
  (λos started H enc _ F=>by rw[OpenClaim.pre_eq_preRow];exact lifted os started H enc F)
theorem plain (f : FuncId) (fn : Func) (hf : Tryz.pinned.checked.prog.funcNamed "stele/stelelaw53.RendererProgram" = some f) (Ni : Tryz.pinned.checked.prog.funcs[f]? = some fn) :
  true=Tryz.pinned.checked.prog.looks []/\∀ (j:Nat) t,fn.params[j]? = some t->Tryz.pinned.checked.prog.wantsStandIn t=false:=by
 obtain rfl : f = 3 := Option.some.inj ((show Tryz.prog.funcNamed "stele/stelelaw53.RendererProgram" = some 3 from zk).symm.trans hf) |>.symm;obtain rfl:fn=Tryz.f3:=(Option.some.inj (Tryz.func3.symm.trans Ni)).symm;refine⟨zk,λj t ht=>?_⟩;rw[Tryz.params3] at ht;have hm:=Array.mem_of_getElem? ht;simp only[List.mem_toArray,Mc,List.not_mem_nil,or_false] at hm;rcases hm with rfl;exact(show Tryz.prog.wantsStandIn 5=false from zk)
end Go.Proofs.YtjolancjacdeaaaGreatDoor.fnRendererProgram
namespace Go.Proofs.YtjolancjacdeaaaGreatDoor
theorem rendererProgram_card:Rows.RendererProgramCardSaid:=
 Claim7.holds_tied_plain_at .later [] _ _ _ _ fnRendererProgram.said (λ_ h=>by cases h) zk (λ_ h=>by cases h) rendererProgram_row_tie rfl ⟨rfl,rfl⟩ zk rfl fnRendererProgram.plain zk
#print axioms rendererProgram_card
end Go.Proofs.YtjolancjacdeaaaGreatDoor
