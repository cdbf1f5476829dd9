import Derived.Test.YtmnjklgnhpnckaaGreatDoorRowLVj
import Derived.Test.YtmnjklgnhpnckaaGreatDoorRowLVk
import Derived.Test.YtmnjklgnhpnckaaGreatDoorBRowLV17
set_option linter.unusedVariables false
set_option linter.unusedSimpArgs false
set_option maxRecDepth 100000
set_option maxHeartbeats 4000000
open Go.GL (zk)
namespace Go.Proofs.YtmnjklgnhpnckaaGreatDoor.fnLibraryViterbi
open Go.ChangeShapes Go.WideShapes Go.ChangeAt Go.RowKit Go.ChangeMaps
open Go.GL (oa xb)
open Lb (qiW)
theorem qqx(H:Type)(enc:TypeId×Value->H)(W:World)(base:Nat)(args:Array Value)(ds gs:List (DataW H))(before:List MemPlace)
  (fk:∀ (j:Nat) t v,Tryz.f4.params[j]? = some t->args[j]? = some v->Value.okWide Tryz.prog W .any base t v)
  (hW:DataW.Whole enc Tryz.prog Tryz.f4.params.toList Rows.libraryViterbiSpec.vars false W args.toList ds gs before) (hL:laidMetH Tryz.prog Rows.libraryViterbiRow.laid W) (hS:W.ShapedOpen Tryz.prog) :
  Calls Tryz.prog 4 args W λe W'=>∃ v,e=.returned v/\Rows.libraryViterbiSpec.post enc Tryz.prog Tryz.f4 false true false false W args v W':=by
 have J5:=hW;obtain⟨p,q,tW,hV,rfl,hfz,rh⟩:=hW;have hA:DataW.TrodAll enc Tryz.prog W 0 (λ_=>true) true Tryz.f4.params.toList args.toList ds p:=tW;rw[Tryz.params4] at hA fk;obtain⟨v0,vs0,d0,ds0,p0,q0,tu,rfl,rfl,h0,r0⟩:=trodAll_cons hA;obtain⟨v1,vs1,d1,ds1,p1,q1,rfl,rfl,rfl,h1,r1⟩:=trodAll_cons r0;obtain⟨rfl,rfl,rfl⟩:=trodAll_nil r1;obtain rfl:args=#[v0,v1]:=by cases args;simp_all
 obtain⟨rfl,rfl⟩:=trodVars_none hV;obtain⟨s0,rfl,rfl,rfl,ws0⟩:=open_string Tryz.underlying9 (fk 0 9 v0 rfl rfl) h0;have ZH:oa W (ng W) [Go.GL.str s0.data.toList] [.string s0]:=by simp only[oa,Go.GL.str];exact⟨_,_,rfl,by simp[xb],rfl⟩
 obtain⟨mE,to1,td,Xx⟩:=qpK (fk 1 35 v1 rfl rfl) h1;obtain⟨hG,h8⟩:=qlG (N7 hL) hS;have hM:=K7 hS;have hP:=qAd (N7 hL) hS;clear tW;simp only[de,List.nil_append] at J5;have Ja:∀ x∈p1,x.block<W.heap.size:=λx hx=>by simpa using J5.lt x hx
 refine(qx4 (vs:=[.string s0,v1]) (qiW hP s0.data.toList mE Xx to1) (dV ZH (dV td qp7)) (qzL h8)).mono λe W' ⟨he,hg⟩=>?_;subst he
 exact⟨_,rfl,ql8 (pa:=p1) (pv:=[]) J5 (λ_ _ _=>trodAll_cons_mk (shut_bool Tryz.underlying4 _) trodAll_mk0) (λsp Bo=>by
   have h5:=(trodAll_cons_mk (shut_string Tryz.underlying9 ws0) (trodAll_cons_mk (qpc h1 hg Ja Bo) trodAll_mk0));simp only[List.nil_append,de] at h5;exact h5) (λ_ _=>rfl) (by simp)
  hg (ok_one zk rfl (okWide_bool_mk Tryz.underlying4 _))⟩
theorem reads(os:Os){H:Type}(enc:TypeId×Value->H):∃ places,DataW.whole enc Tryz.prog ((Jk os).forCall (λ_ _=>0) ⟨#[],#[.string ⟨#[]⟩,.agg #[.slice none 0 0,.slice none 0 0]],[]⟩).memory Tryz.f4.params.toList Rows.libraryViterbiSpec.vars false #[Value.string ⟨#[]⟩,.agg #[.slice none 0 0,.slice none 0 0]].toList 8=some ([.lit (.string []),.agg [.nil,.nil]],[],places):=
 ⟨[],zk⟩
theorem lifted(os:Os)(started:os.Started)(H:Type)(enc:TypeId×Value->H)(F:Stop.Interp) :
  ReturnsInHanded {} Tryz.checked os 4 .any ((OpenSpec.ofChange Rows.libraryViterbiSpec).preRow enc Tryz.prog Tryz.f4 Rows.libraryViterbiRow.domain false Rows.libraryViterbiRow.laid) (((OpenSpec.ofChange Rows.libraryViterbiSpec).at F).post enc Tryz.prog Tryz.f4 false true false false):=by
 obtain⟨places,hx⟩:=reads os enc;refine returnsInHanded_of_row (C:=Tryz.checked) (s:=OpenSpec.ofChange Rows.libraryViterbiSpec) own started zk Tryz.func4
  (witness_row_at (enc:=enc) (C:=Tryz.checked) false (Jk os) #[.string ⟨#[]⟩,.agg #[.slice none 0 0,.slice none 0 0]] rfl zk zk zk
   (OpenSpec.preRow_of_cond 8 hx zk (λk hk=>by cases hk) zk (quJ os _))) ?_
 intro W base args ds gs before fk hW _ _ _ hL hS _;exact qqx H enc W base args ds gs before fk hW hL hS
theorem closed:joinedFacts Tryz.prog 4 Tryz.f4 (OpenSpec.ofChange Rows.libraryViterbiSpec).bare Rows.libraryViterbiRow=true:=
 Jn.CK rfl rfl rfl zk zk zk rfl rfl c10 c11 c12 c13 zk zk zk zk zk zk zk zk zk zk zk zk zk zk
theorem said:Rows.LibraryViterbiSaid:=
 OpenClaim.holds_of_cond 4 Tryz.f4 rfl rfl rfl rfl rfl rfl rfl ⟨rfl,rfl,rfl,rfl,rfl⟩ rfl rfl rfl rfl rfl zk Tryz.func4 closed
  (ag zk) (by unfold Func.isWrapper;first|(rw[zp (by decide +kernel)];kernel_rfl)|(rw[zn (by decide +kernel)];exact⟨rfl,rfl⟩))
  (λos started H enc _ F=>by rw[OpenClaim.pre_eq_preRow];exact lifted os started H enc F)
theorem plain (f : FuncId) (fn : Func) (hf : Tryz.pinned.checked.prog.funcNamed "stele/stelelaw25.LibraryViterbi" = some f) (Vc : Tryz.pinned.checked.prog.funcs[f]? = some fn) :
  true=Tryz.pinned.checked.prog.looks []/\∀ (j:Nat) t,fn.params[j]? = some t->Tryz.pinned.checked.prog.wantsStandIn t=false:=by
 obtain rfl : f = 4 := Option.some.inj ((show Tryz.prog.funcNamed "stele/stelelaw25.LibraryViterbi" = some 4 from zk).symm.trans hf) |>.symm;obtain rfl:fn=Tryz.f4:=(Option.some.inj (Tryz.func4.symm.trans Vc)).symm;refine⟨zk,λj t ht=>?_⟩;rw[Tryz.params4] at ht;have hm:=Array.mem_of_getElem? ht;simp only[List.mem_toArray,zc,List.not_mem_nil,or_false] at hm;rcases hm with rfl|rfl;exact(show Tryz.prog.wantsStandIn 9=false from zk);exact(show Tryz.prog.wantsStandIn 35=false from zk)
end Go.Proofs.YtmnjklgnhpnckaaGreatDoor.fnLibraryViterbi
namespace Go.Proofs.YtmnjklgnhpnckaaGreatDoor
theorem libraryViterbi_card:Rows.LibraryViterbiCardSaid:=
 Claim7.holds_tied_plain_at .later [] _ _ _ _ fnLibraryViterbi.said (λ_ h=>by cases h) zk (λ_ h=>by cases h) libraryViterbi_row_tie rfl ⟨rfl,rfl⟩ zk rfl fnLibraryViterbi.plain zk
#print axioms libraryViterbi_card
end Go.Proofs.YtmnjklgnhpnckaaGreatDoor
