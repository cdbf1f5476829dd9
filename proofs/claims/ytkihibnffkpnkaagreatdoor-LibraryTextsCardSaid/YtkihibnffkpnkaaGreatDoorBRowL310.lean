import Derived.Test.YtkihibnffkpnkaaGreatDoorRowLTj
import Derived.Test.YtkihibnffkpnkaaGreatDoorRowLTk
import Derived.Test.YtkihibnffkpnkaaGreatDoorBRowL39
set_option linter.unusedVariables false
set_option linter.unusedSimpArgs false
set_option maxRecDepth 100000
set_option maxHeartbeats 4000000
namespace Go.Proofs.YtkihibnffkpnkaaGreatDoor.fnLibraryTexts
open Go.ChangeShapes Go.WideShapes Go.ChangeAt Go.RowKit Go.ChangeMaps
open Go.GL (RepL Rep)
open Lb (qk0)
theorem qgh(H:Type)(enc:TypeId×Value->H)(W:World)(base:Nat)(args:Array Value)(ds gs:List (DataW H))(before:List MemPlace)
  (hval:∀ (j:Nat) t v,Tryz.f4.params[j]? = some t->args[j]? = some v->Value.okWide Tryz.prog W .any base t v)
  (hW:DataW.Whole enc Tryz.prog Tryz.f4.params.toList Rows.libraryTextsSpec.vars false W args.toList ds gs before) (hL:laidMetH Tryz.prog Rows.libraryTextsRow.laid W) (hS:W.ShapedOpen Tryz.prog) :
  Calls Tryz.prog 4 args W λe W'=>∃ v,e=.returned v/\Rows.libraryTextsSpec.post enc Tryz.prog Tryz.f4 false true false false W args v W':=by
 have hW':=hW;obtain⟨p,q,hA0,hV,rfl,hfz,hnd⟩:=hW;have hA:DataW.TrodAll enc Tryz.prog W 0 (λ_=>true) true Tryz.f4.params.toList args.toList ds p:=hA0;rw[Tryz.params4] at hA hval;obtain⟨v0,vs0,d0,ds0,p0,q0,hargs,rfl,rfl,h0,r0⟩:=trodAll_cons hA;obtain⟨v1,vs1,d1,ds1,p1,q1,rfl,rfl,rfl,h1,r1⟩:=trodAll_cons r0;obtain⟨rfl,rfl,rfl⟩:=trodAll_nil r1;obtain rfl:args=#[v0,v1]:=by cases args;simp_all
 obtain⟨rfl,rfl⟩:=trodVars_none hV;obtain⟨s0,rfl,rfl,rfl,ws0⟩:=open_string Tryz.underlying9 (hval 0 9 v0 rfl rfl) h0
 have hx0:RepL W (allL W) [Go.GL.str s0.data.toList] [.string s0]:=by
  simp only[RepL,Go.GL.str];exact⟨_,_,rfl,by simp[Rep],rfl⟩
 obtain⟨l1,hx1⟩:=qoq (hval 1 32 v1 rfl rfl) h1;obtain⟨hG,h8⟩:=qgk (qqL hL) hS;have hM:=qvb hS;have hP:=qtT (qqL hL) hS;clear hA0;simp only[zLz,List.nil_append] at hW';have hlt:∀ x∈p1,x.block<W.heap.size:=λx hx=>by simpa using hW'.lt x hx
 refine(qof (vs:=[.string s0,v1]) (qk0 hP s0.data.toList l1) (qfR hx0 (qfR hx1 qlQ)) (qsM h8)).mono λe W' ⟨he,hg⟩=>?_;subst he
 exact⟨_,rfl,qe5 (pa:=p1) (pv:=[]) hW' (λ_ _ _=>trodAll_cons_mk (shut_bool Tryz.underlying4 _) trodAll_mk0) (λsp hsp=>by
   have h5:=(trodAll_cons_mk (shut_string Tryz.underlying9 ws0) (trodAll_cons_mk (qqE h1 hg hlt hsp) trodAll_mk0));simp only[List.nil_append,zLz] at h5
   exact h5) (λ_ _=>rfl) (by simp)
  hg (ok_one (by kernel_rfl) rfl (okWide_bool_mk Tryz.underlying4 _))⟩
theorem reads(os:Os){H:Type}(enc:TypeId×Value->H):∃ places,DataW.whole enc Tryz.prog ((laidWorld7 os).forCall (λ_ _=>0) ⟨#[],#[.string ⟨#[]⟩,.slice none 0 0],[]⟩).memory Tryz.f4.params.toList Rows.libraryTextsSpec.vars false #[Value.string ⟨#[]⟩,.slice none 0 0].toList 8=some ([.lit (.string []),.nil],[],places):=
 ⟨[],by kernel_rfl⟩
theorem lifted(os:Os)(started:os.Started)(H:Type)(enc:TypeId×Value->H)(F:Stop.Interp) :
  ReturnsInHanded {} Tryz.checked os 4 .any ((OpenSpec.ofChange Rows.libraryTextsSpec).preRow enc Tryz.prog Tryz.f4 Rows.libraryTextsRow.domain false Rows.libraryTextsRow.laid) (((OpenSpec.ofChange Rows.libraryTextsSpec).at F).post enc Tryz.prog Tryz.f4 false true false false):=by
 obtain⟨places,hx⟩:=reads os enc
 refine returnsInHanded_of_row (C:=Tryz.checked) (s:=OpenSpec.ofChange Rows.libraryTextsSpec) own started (by kernel_rfl) Tryz.func4
  (witness_row_at (enc:=enc) (C:=Tryz.checked) false (laidWorld7 os) #[.string ⟨#[]⟩,.slice none 0 0] rfl (by kernel_rfl) (by kernel_rfl) (by kernel_rfl)
   (OpenSpec.preRow_of_cond 8 hx (by kernel_rfl) (λk hk=>by cases hk) (by kernel_rfl) (qkm os _))) ?_
 intro W base args ds gs before hval hW _ _ _ hL hS _;exact qgh H enc W base args ds gs before hval hW hL hS
theorem closed:joinedFacts Tryz.prog 4 Tryz.f4 (OpenSpec.ofChange Rows.libraryTextsSpec).bare Rows.libraryTextsRow=true:=
 Jn.joined rfl rfl rfl (by kernel_rfl) (by kernel_rfl) (by kernel_rfl) rfl rfl c10 c11 c12 c13 (by kernel_rfl) (by kernel_rfl) (by kernel_rfl) (by kernel_rfl) (by kernel_rfl) (by kernel_rfl) (by kernel_rfl) (by kernel_rfl) (by kernel_rfl) (by kernel_rfl) (by kernel_rfl) (by kernel_rfl) (by kernel_rfl) (by kernel_rfl)
theorem said:Rows.LibraryTextsSaid:=
 OpenClaim.holds_of_cond 4 Tryz.f4 rfl rfl rfl rfl rfl rfl rfl ⟨rfl,rfl,rfl,rfl,rfl⟩ rfl rfl rfl rfl rfl (by kernel_rfl) Tryz.func4 closed
  (of_decide_eq_true (by kernel_rfl)) (by unfold Func.isWrapper;first|(rw[if_pos (by decide +kernel)];kernel_rfl)|(rw[if_neg (by decide +kernel)];exact⟨rfl,rfl⟩))
  (λos started H enc _ F=>by rw[OpenClaim.pre_eq_preRow];exact lifted os started H enc F)
theorem plain (f : FuncId) (fn : Func) (hf : Tryz.pinned.checked.prog.funcNamed "stele/stelelaw25.LibraryTexts" = some f) (hfn : Tryz.pinned.checked.prog.funcs[f]? = some fn) :
  true=Tryz.pinned.checked.prog.looks []/\∀ (j:Nat) t,fn.params[j]? = some t->Tryz.pinned.checked.prog.wantsStandIn t=false:=by
 obtain rfl : f = 4 := Option.some.inj ((show Tryz.prog.funcNamed "stele/stelelaw25.LibraryTexts" = some 4 by kernel_rfl).symm.trans hf) |>.symm
 obtain rfl:fn=Tryz.f4:=(Option.some.inj (Tryz.func4.symm.trans hfn)).symm;refine⟨by kernel_rfl,λj t ht=>?_⟩;rw[Tryz.params4] at ht;have hm:=Array.mem_of_getElem? ht;simp only[List.mem_toArray,zMi,List.not_mem_nil,or_false] at hm;rcases hm with rfl|rfl;exact(show Tryz.prog.wantsStandIn 9=false by kernel_rfl);exact(show Tryz.prog.wantsStandIn 32=false by kernel_rfl)
end Go.Proofs.YtkihibnffkpnkaaGreatDoor.fnLibraryTexts
namespace Go.Proofs.YtkihibnffkpnkaaGreatDoor
theorem libraryTexts_card:Rows.LibraryTextsCardSaid:=
 Claim7.holds_tied_plain_at .later [] _ _ _ _ fnLibraryTexts.said (λ_ h=>by cases h) (by kernel_rfl) (λ_ h=>by cases h) libraryTexts_row_tie rfl ⟨rfl,rfl⟩ (by kernel_rfl) rfl fnLibraryTexts.plain (by kernel_rfl)
#print axioms libraryTexts_card
end Go.Proofs.YtkihibnffkpnkaaGreatDoor
