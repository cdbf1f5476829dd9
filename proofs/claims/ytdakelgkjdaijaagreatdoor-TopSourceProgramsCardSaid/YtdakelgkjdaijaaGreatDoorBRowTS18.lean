/- TopSourcePrograms: a program that is parsed from a source text, and the same program after formatting and parsing it qj2, have the same program text, and the same outcome in the interpreter: for every source text and input the law returns true. The card: the listed package-level variables read as the program's text lays them. -/
import Derived.ChangeMaps5
import Derived.Test.YtdakelgkjdaijaaGreatDoorRowTSj
import Derived.Test.YtdakelgkjdaijaaGreatDoorRowTSk
import Derived.Test.YtdakelgkjdaijaaGreatDoorBRowTS15
import Derived.Test.YtdakelgkjdaijaaGreatDoorBRowTS17
set_option linter.unusedVariables false
set_option linter.unusedSimpArgs false
set_option maxRecDepth 100000
set_option maxHeartbeats 4000000
namespace Go.Proofs.YtdakelgkjdaijaaGreatDoor.fnTopSourcePrograms
open Go.ChangeShapes Go.WideShapes Go.ChangeAt Go.RowKit Go.ChangeMaps
open Go.GL (RepL Rep)
theorem qog (H:Type) (enc:TypeId×Value->H) (W:World) (base:Nat) (args:Array Value) (ds gs:List (DataW H)) (before:List MemPlace)
  (hval:∀ (j:Nat) t v,Tryz.f3.params[j]? = some t->args[j]? = some v->Value.okWide Tryz.prog W .any base t v)
  (hW:DataW.Whole enc Tryz.prog Tryz.f3.params.toList Rows.topSourceProgramsSpec.vars false W args.toList ds gs before) (hL:laidMetH Tryz.prog Rows.topSourceProgramsRow.laid W) (hS:W.ShapedOpen Tryz.prog) :
  Calls Tryz.prog 3 args W fun e W'=>∃ v,e=.returned v/\Rows.topSourceProgramsSpec.post enc Tryz.prog Tryz.f3 false true false false W args v W':=by
 have hW':=hW;obtain ⟨p,q,hA0,hV,rfl,hfz,hnd⟩:=hW;have hA:DataW.TrodAll enc Tryz.prog W 0 (fun _=>true) true Tryz.f3.params.toList args.toList ds p:=hA0;rw[Tryz.params3] at hA hval;obtain ⟨v0,vs0,d0,ds0,p0,q0,hargs,rfl,rfl,h0,r0⟩:=trodAll_cons hA;obtain ⟨v1,vs1,d1,ds1,p1,q1,rfl,rfl,rfl,h1,r1⟩:=trodAll_cons r0;obtain ⟨rfl,rfl,rfl⟩:=trodAll_nil r1;obtain rfl:args=#[v0,v1]:=by cases args;simp_all
 obtain ⟨rfl,rfl⟩:=trodVars_none hV;obtain ⟨s0,rfl,rfl,rfl,ws0⟩:=open_string Tryz.underlying9 (hval 0 9 v0 rfl rfl) h0
 have hx0:RepL W (allL W) [Go.GL.str s0.data.toList] [.string s0]:=by
  simp only[RepL,Go.GL.str];exact ⟨_,_,rfl,by simp[Rep],rfl⟩
 obtain ⟨l1,hl1,hx1⟩:=qqJ (hval 1 22 v1 rfl rfl) h1;obtain ⟨hG,h8⟩:=qke (qwF hL) hS;have hM:=qw1 hS;have hP:=qwI (qwF hL) hS;clear hA0;simp only[zLz,List.nil_append] at hW';have hlt:∀ x∈p1,x.block<W.heap.size:=fun x hx=>by simpa using hW'.lt x hx
 refine (qvA (vs:=[.string s0,v1]) (Top.top_walk hP s0.data.toList hl1) (qmI hx0 (qmI hx1 qty)) (qwB h8)).mono fun e W' ⟨he,hg⟩=>?_;subst he
 exact ⟨_,rfl,qk1 (pa:=p1) (pv:=[]) hW' (fun _ _ _=>trodAll_cons_mk (shut_bool Tryz.underlying4 _) trodAll_mk0) (fun sp hsp=>by
   have h5:=(trodAll_cons_mk (shut_string Tryz.underlying9 ws0) (trodAll_cons_mk (qrj h1 hg hlt hsp) trodAll_mk0));simp only[List.nil_append,zLz] at h5
   exact h5) (fun _ _=>rfl) (by simp)
  hg (ok_one (by kernel_rfl) rfl (okWide_bool_mk Tryz.underlying4 _))⟩
theorem reads (os:Os) {H:Type} (enc:TypeId×Value->H):∃ places,DataW.whole enc Tryz.prog ((laidWorld7 os).forCall (fun _ _=>0) ⟨#[],#[.string ⟨#[]⟩,.slice none 0 0],[]⟩).memory Tryz.f3.params.toList Rows.topSourceProgramsSpec.vars false #[Value.string ⟨#[]⟩,.slice none 0 0].toList 8=some ([.lit (.string []),.nil],[],places):=
 ⟨[],by kernel_rfl⟩
theorem lifted (os:Os) (started:os.Started) (H:Type) (enc:TypeId×Value->H) (F:Stop.Interp) :
  ReturnsInHanded {} Tryz.checked os 3 .any ((OpenSpec.ofChange Rows.topSourceProgramsSpec).preRow enc Tryz.prog Tryz.f3 Rows.topSourceProgramsRow.domain false Rows.topSourceProgramsRow.laid) (((OpenSpec.ofChange Rows.topSourceProgramsSpec).at F).post enc Tryz.prog Tryz.f3 false true false false):=by
 obtain ⟨places,hx⟩:=reads os enc
 refine returnsInHanded_of_row (C:=Tryz.checked) (s:=OpenSpec.ofChange Rows.topSourceProgramsSpec) own started (by kernel_rfl) Tryz.func3
  (witness_row_at (enc:=enc) (C:=Tryz.checked) false (laidWorld7 os) #[.string ⟨#[]⟩,.slice none 0 0] rfl (by kernel_rfl) (by kernel_rfl) (by kernel_rfl)
   (OpenSpec.preRow_of_cond 8 hx (by kernel_rfl) (fun k hk=>by cases hk) (by kernel_rfl) (qsv os _))) ?_
 intro W base args ds gs before hval hW _ _ _ hL hS _;exact qog H enc W base args ds gs before hval hW hL hS
theorem closed:joinedFacts Tryz.prog 3 Tryz.f3 (OpenSpec.ofChange Rows.topSourceProgramsSpec).bare Rows.topSourceProgramsRow=true:=
 Jn.joined rfl rfl rfl (by kernel_rfl) (by kernel_rfl) (by kernel_rfl) rfl rfl c10 c11 c12 c13 (by kernel_rfl) (by kernel_rfl) (by kernel_rfl) (by kernel_rfl) (by kernel_rfl) (by kernel_rfl) (by kernel_rfl) (by kernel_rfl) (by kernel_rfl) (by kernel_rfl) (by kernel_rfl) (by kernel_rfl) (by kernel_rfl) (by kernel_rfl)
theorem said:Rows.TopSourceProgramsSaid:=
 OpenClaim.holds_of_cond 3 Tryz.f3 rfl rfl rfl rfl rfl rfl rfl ⟨rfl,rfl,rfl,rfl,rfl⟩ rfl rfl rfl rfl rfl (by kernel_rfl) Tryz.func3 closed
  (of_decide_eq_true (by kernel_rfl)) (by unfold Func.isWrapper;first|(rw[if_pos (by decide +kernel)];kernel_rfl)|(rw[if_neg (by decide +kernel)];exact ⟨rfl,rfl⟩))
  (fun os started H enc _ F=>by rw[OpenClaim.pre_eq_preRow];exact lifted os started H enc F)
theorem plain (f : FuncId) (fn : Func) (hf : Tryz.pinned.checked.prog.funcNamed "stele/steletop.TopSourcePrograms" = some f) (hfn : Tryz.pinned.checked.prog.funcs[f]? = some fn) :
  true=Tryz.pinned.checked.prog.looks []/\∀ (j:Nat) t,fn.params[j]? = some t->Tryz.pinned.checked.prog.wantsStandIn t=false:=by
 obtain rfl : f = 3 := Option.some.inj ((show Tryz.prog.funcNamed "stele/steletop.TopSourcePrograms" = some 3 by kernel_rfl).symm.trans hf) |>.symm
 obtain rfl:fn=Tryz.f3:=(Option.some.inj (Tryz.func3.symm.trans hfn)).symm;refine ⟨by kernel_rfl,fun j t ht=>?_⟩;rw[Tryz.params3] at ht;have hm:=Array.mem_of_getElem? ht;simp only[List.mem_toArray,zMi,List.not_mem_nil,or_false] at hm;rcases hm with rfl|rfl
 ·exact (show Tryz.prog.wantsStandIn 9=false by kernel_rfl)
 ·exact (show Tryz.prog.wantsStandIn 22=false by kernel_rfl)
end Go.Proofs.YtdakelgkjdaijaaGreatDoor.fnTopSourcePrograms
namespace Go.Proofs.YtdakelgkjdaijaaGreatDoor
theorem topSourcePrograms_card:Rows.TopSourceProgramsCardSaid:=
 Claim7.holds_tied_plain_at .later [] _ _ _ _ fnTopSourcePrograms.said (fun _ h=>by cases h) (by kernel_rfl) (fun _ h=>by cases h) topSourcePrograms_row_tie rfl ⟨rfl,rfl⟩ (by kernel_rfl) rfl fnTopSourcePrograms.plain (by kernel_rfl)
#print axioms topSourcePrograms_card
end Go.Proofs.YtdakelgkjdaijaaGreatDoor
