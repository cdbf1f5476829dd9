import Derived.Test.YtmnjklgnhpnckaaGreatDoorRowLBj
import Derived.Test.YtmnjklgnhpnckaaGreatDoorRowLBk
import Derived.Test.YtmnjklgnhpnckaaGreatDoorBRowLB15
import Derived.Test.YtmnjklgnhpnckaaGreatDoorBRowLB17
set_option linter.unusedVariables false
set_option linter.unusedSimpArgs false
set_option maxRecDepth 100000
set_option maxHeartbeats 4000000
open Go.GL (zk)
namespace Go.Proofs.YtmnjklgnhpnckaaGreatDoor.fnLibraryBlake
open Go.ChangeShapes Go.WideShapes Go.ChangeAt Go.RowKit Go.ChangeMaps
open Go.GL (la wb)
open Lb (qle)
theorem qqw(H:Type)(enc:TypeId×Value->H)(W:World)(base:Nat)(args:Array Value)(ds gs:List (DataW H))(before:List MemPlace)
  (rm:∀ (j:Nat) t v,Tryz.f3.params[j]? = some t->args[j]? = some v->Value.okWide Tryz.prog W .any base t v)
  (hW:DataW.Whole enc Tryz.prog Tryz.f3.params.toList Rows.libraryBlakeSpec.vars false W args.toList ds gs before) (hL:laidMetH Tryz.prog Rows.libraryBlakeRow.laid W) (hS:W.ShapedOpen Tryz.prog) :
  Calls Tryz.prog 3 args W λe W'=>∃ v,e=.returned v/\Rows.libraryBlakeSpec.post enc Tryz.prog Tryz.f3 false true false false W args v W':=by
 have hW':=hW;obtain⟨p,q,UH,hV,rfl,hfz,dh⟩:=hW;have hA:DataW.TrodAll enc Tryz.prog W 0 (λ_=>true) true Tryz.f3.params.toList args.toList ds p:=UH;rw[Tryz.params3] at hA rm;obtain⟨v0,vs0,d0,ds0,p0,q0,Ut,rfl,rfl,h0,r0⟩:=trodAll_cons hA;obtain⟨rfl,rfl,rfl⟩:=trodAll_nil r0;obtain rfl:args=#[v0]:=by cases args;simp_all
 obtain⟨rfl,rfl⟩:=trodVars_none hV;obtain⟨s0,rfl,rfl,rfl,ws0⟩:=open_string Tryz.underlying9 (rm 0 9 v0 rfl rfl) h0;have sQ:la W (fu W) [Go.GL.str s0.data.toList] [.string s0]:=by simp only[la,Go.GL.str];exact⟨_,_,rfl,by simp[wb],rfl⟩
 obtain⟨hG,h8⟩:=qlP (x8 hL) hS;have hM:=o8 hS;have hP:=qAj (x8 hL) hS;clear UH;simp only[Jd,List.nil_append] at hW';refine(qx9 (vs:=[.string s0]) (qle hP s0.data.toList) (qtW sQ qvL) (qzP h8)).mono λe W' ⟨he,hg⟩=>?_;subst he
 exact⟨_,rfl,qmh (pa:=[]) (pv:=[]) hW' (λ_ _ _=>trodAll_cons_mk (shut_bool Tryz.underlying4 _) trodAll_mk0) (λsp Iz=>by
   exact(trodAll_cons_mk (shut_string Tryz.underlying9 ws0) trodAll_mk0)) (λ_ _=>rfl) (by simp)
  hg (ok_one zk rfl (okWide_bool_mk Tryz.underlying4 _))⟩
theorem reads(os:Os){H:Type}(enc:TypeId×Value->H):∃ places,DataW.whole enc Tryz.prog ((uk os).forCall (λ_ _=>0) ⟨#[],#[.string ⟨#[]⟩],[]⟩).memory Tryz.f3.params.toList Rows.libraryBlakeSpec.vars false #[Value.string ⟨#[]⟩].toList 8=some ([.lit (.string [])],[],places):=
 ⟨[],zk⟩
theorem lifted(os:Os)(started:os.Started)(H:Type)(enc:TypeId×Value->H)(F:Stop.Interp) :
  ReturnsInHanded {} Tryz.checked os 3 .any ((OpenSpec.ofChange Rows.libraryBlakeSpec).preRow enc Tryz.prog Tryz.f3 Rows.libraryBlakeRow.domain false Rows.libraryBlakeRow.laid) (((OpenSpec.ofChange Rows.libraryBlakeSpec).at F).post enc Tryz.prog Tryz.f3 false true false false):=by
 obtain⟨places,hx⟩:=reads os enc;refine returnsInHanded_of_row (C:=Tryz.checked) (s:=OpenSpec.ofChange Rows.libraryBlakeSpec) own started zk Tryz.func3
  (witness_row_at (enc:=enc) (C:=Tryz.checked) false (uk os) #[.string ⟨#[]⟩] rfl zk zk zk
   (OpenSpec.preRow_of_cond 8 hx zk (λk hk=>by cases hk) zk (quK os _))) ?_
 intro W base args ds gs before rm hW _ _ _ hL hS _;exact qqw H enc W base args ds gs before rm hW hL hS
theorem closed:joinedFacts Tryz.prog 3 Tryz.f3 (OpenSpec.ofChange Rows.libraryBlakeSpec).bare Rows.libraryBlakeRow=true:=
 Jn.OJ rfl rfl rfl zk zk zk rfl rfl c10 c11 c12 c13 zk zk zk zk zk zk zk zk zk zk zk zk zk zk
theorem said:Rows.LibraryBlakeSaid:=
 OpenClaim.holds_of_cond 3 Tryz.f3 rfl rfl rfl rfl rfl rfl rfl ⟨rfl,rfl,rfl,rfl,rfl⟩ rfl rfl rfl rfl rfl zk Tryz.func3 closed
  (Hg zk) (by unfold Func.isWrapper;first|(rw[zp (by decide +kernel)];kernel_rfl)|(rw[zn (by decide +kernel)];exact⟨rfl,rfl⟩))
  (λos started H enc _ F=>by rw[OpenClaim.pre_eq_preRow];exact lifted os started H enc F)
theorem plain (f : FuncId) (fn : Func) (hf : Tryz.pinned.checked.prog.funcNamed "stele/stelelaw25.LibraryBlake" = some f) (Kc : Tryz.pinned.checked.prog.funcs[f]? = some fn) :
  true=Tryz.pinned.checked.prog.looks []/\∀ (j:Nat) t,fn.params[j]? = some t->Tryz.pinned.checked.prog.wantsStandIn t=false:=by
 obtain rfl : f = 3 := Option.some.inj ((show Tryz.prog.funcNamed "stele/stelelaw25.LibraryBlake" = some 3 from zk).symm.trans hf) |>.symm;obtain rfl:fn=Tryz.f3:=(Option.some.inj (Tryz.func3.symm.trans Kc)).symm;refine⟨zk,λj t ht=>?_⟩;rw[Tryz.params3] at ht;have hm:=Array.mem_of_getElem? ht;simp only[List.mem_toArray,lc,List.not_mem_nil,or_false] at hm;rcases hm with rfl;exact(show Tryz.prog.wantsStandIn 9=false from zk)
end Go.Proofs.YtmnjklgnhpnckaaGreatDoor.fnLibraryBlake
namespace Go.Proofs.YtmnjklgnhpnckaaGreatDoor
theorem libraryBlake_card:Rows.LibraryBlakeCardSaid:=
 Claim7.holds_tied_plain_at .later [] _ _ _ _ fnLibraryBlake.said (λ_ h=>by cases h) zk (λ_ h=>by cases h) libraryBlake_row_tie rfl ⟨rfl,rfl⟩ zk rfl fnLibraryBlake.plain zk
#print axioms libraryBlake_card
end Go.Proofs.YtmnjklgnhpnckaaGreatDoor
