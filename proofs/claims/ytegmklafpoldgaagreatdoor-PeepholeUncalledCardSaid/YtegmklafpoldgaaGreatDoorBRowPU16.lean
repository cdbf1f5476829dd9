/- PeepholeUncalled, in its Said form. The card: the listed package-level variables read as the program's text lays them. -/
import Derived.ChangeMaps5
import Derived.Test.YtegmklafpoldgaaGreatDoorRowPUj
import Derived.Test.YtegmklafpoldgaaGreatDoorRowPUk
import Derived.Test.YtegmklafpoldgaaGreatDoorBRowPU13
import Derived.Test.YtegmklafpoldgaaGreatDoorBRowPU15
set_option linter.unusedVariables false
set_option linter.unusedSimpArgs false
set_option maxRecDepth 100000
set_option maxHeartbeats 4000000
namespace Go.Proofs.YtegmklafpoldgaaGreatDoor.fnPeepholeUncalled
open Go.ChangeShapes Go.WideShapes Go.ChangeAt Go.RowKit Go.ChangeMaps
open Go.GL (RepL Rep)
theorem contract (H:Type) (enc:TypeId×Value→H) (W:World) (base:Nat) (args:Array Value) (ds gs:List (DataW H)) (before:List MemPlace)
  (hval:∀ (j:Nat) t v,Tryz.f4.params[j]? = some t→args[j]? = some v→Value.okWide Tryz.prog W .any base t v)
  (hW:DataW.Whole enc Tryz.prog Tryz.f4.params.toList Rows.peepholeUncalledSpec.vars false W args.toList ds gs before) (hL:laidMetH Tryz.prog Rows.peepholeUncalledRow.laid W) (hS:W.ShapedOpen Tryz.prog) :
  Calls Tryz.prog 4 args W fun e W'=>∃ v,e=.returned v∧Rows.peepholeUncalledSpec.post enc Tryz.prog Tryz.f4 false true false false W args v W':=by
 have hW':=hW
 obtain ⟨p,q,hA0,hV,rfl,hfz,hnd⟩:=hW
 have hA:DataW.TrodAll enc Tryz.prog W 0 (fun _=>true) true Tryz.f4.params.toList args.toList ds p:=hA0
 rw[Tryz.params4] at hA hval
 obtain ⟨v0,vs0,d0,ds0,p0,q0,hargs,rfl,rfl,h0,r0⟩:=trodAll_cons hA
 obtain ⟨v1,vs1,d1,ds1,p1,q1,rfl,rfl,rfl,h1,r1⟩:=trodAll_cons r0
 obtain ⟨rfl,rfl,rfl⟩:=trodAll_nil r1
 obtain rfl:args=#[v0,v1]:=by cases args;simp_all
 obtain ⟨rfl,rfl⟩:=trodVars_none hV
 obtain ⟨s0,rfl,rfl,rfl,ws0⟩:=open_string Tryz.underlying9 (hval 0 9 v0 rfl rfl) h0
 have hx0:RepL W (allL W) [Go.GL.str s0.data.toList] [.string s0]:=by
  simp only[RepL,Go.GL.str]
  exact ⟨_,_,rfl,by simp[Rep],rfl⟩
 obtain ⟨x1,rfl,rfl,rfl,wx1⟩:=open_int Tryz.underlying5 (hval 1 5 v1 rfl rfl) h1
 obtain ⟨n1,rfl,hn1⟩:=u8_of wx1
 have hx1:RepL W (allL W) [Go.GL.int .u8 (n1:Int)] [.int .u8 (n1:Int)]:=by
  simp only[RepL,Rep,Go.GL.int]
  exact ⟨_,_,rfl,rfl,rfl⟩
 obtain ⟨hG,h8⟩:=gw_of_laid (laid5 hL) hS
 have hM:=gm_of hS
 have hP:=pgw_of (laid5 hL) hS
 clear hA0
 simp only[zLz,List.nil_append] at hW'
 refine (lift_at (vs:=[.string s0,.int .u8 (n1:Int)]) (Pp.uncalled_walk hP s0.data.toList hn1) (repL_cons hx0 (repL_cons hx1 repL_nil)) (relAll h8)).mono fun e W' ⟨he,hg⟩=>?_
 subst he
 exact ⟨_,rfl,post_of_below (pa:=[]) (pv:=[]) hW' (fun _ _ _=>trodAll_cons_mk (shut_bool Tryz.underlying4 _) trodAll_mk0) (fun sp hsp=>by
   exact (trodAll_cons_mk (shut_string Tryz.underlying9 ws0) (trodAll_cons_mk (shut_int Tryz.underlying5 wx1) trodAll_mk0))) (fun _ _=>rfl) (by simp)
  hg (ok_one (by kernel_rfl) rfl (okWide_bool_mk Tryz.underlying4 _))⟩
theorem reads (os:Os) {H:Type} (enc:TypeId×Value→H):∃ places,DataW.whole enc Tryz.prog ((laidWorld7 os).forCall (fun _ _=>0) ⟨#[],#[.string ⟨#[]⟩,.int .u8 0],[]⟩).memory Tryz.f4.params.toList Rows.peepholeUncalledSpec.vars false #[Value.string ⟨#[]⟩,.int .u8 0].toList 8=some ([.lit (.string []),.lit (.int .u8 0)],[],places):=
 ⟨[],by kernel_rfl⟩
theorem lifted (os:Os) (started:os.Started) (H:Type) (enc:TypeId×Value→H) (F:Stop.Interp) :
  ReturnsInHanded {} Tryz.checked os 4 .any ((OpenSpec.ofChange Rows.peepholeUncalledSpec).preRow enc Tryz.prog Tryz.f4 Rows.peepholeUncalledRow.domain false Rows.peepholeUncalledRow.laid) (((OpenSpec.ofChange Rows.peepholeUncalledSpec).at F).post enc Tryz.prog Tryz.f4 false true false false):=by
 obtain ⟨places,hx⟩:=reads os enc
 refine returnsInHanded_of_row (C:=Tryz.checked) (s:=OpenSpec.ofChange Rows.peepholeUncalledSpec) own started (by kernel_rfl) Tryz.func4
  (witness_row_at (enc:=enc) (C:=Tryz.checked) false (laidWorld7 os) #[.string ⟨#[]⟩,.int .u8 0] rfl (by kernel_rfl) (by kernel_rfl) (by kernel_rfl)
   (OpenSpec.preRow_of_cond 8 hx (by kernel_rfl) (fun k hk=>by cases hk) (by kernel_rfl) (laid_met7 os _))) ?_
 intro W base args ds gs before hval hW _ _ _ hL hS _
 exact contract H enc W base args ds gs before hval hW hL hS
theorem closed:joinedFacts Tryz.prog 4 Tryz.f4 (OpenSpec.ofChange Rows.peepholeUncalledSpec).bare Rows.peepholeUncalledRow=true:=
 Jn.joined rfl rfl rfl (by kernel_rfl) (by kernel_rfl) (by kernel_rfl) rfl rfl c10 c11 c12 c13 (by kernel_rfl) (by kernel_rfl) (by kernel_rfl) (by kernel_rfl) (by kernel_rfl) (by kernel_rfl) (by kernel_rfl) (by kernel_rfl) (by kernel_rfl) (by kernel_rfl) (by kernel_rfl) (by kernel_rfl) (by kernel_rfl) (by kernel_rfl)
theorem said:Rows.PeepholeUncalledSaid:=
 OpenClaim.holds_of_cond 4 Tryz.f4 rfl rfl rfl rfl rfl rfl rfl ⟨rfl,rfl,rfl,rfl,rfl⟩ rfl rfl rfl rfl rfl (by kernel_rfl) Tryz.func4 closed
  (of_decide_eq_true (by kernel_rfl)) (by unfold Func.isWrapper;first|(rw[if_pos (by decide +kernel)];kernel_rfl)|(rw[if_neg (by decide +kernel)];exact ⟨rfl,rfl⟩))
  (fun os started H enc _ F=>by rw[OpenClaim.pre_eq_preRow];exact lifted os started H enc F)
theorem plain (f : FuncId) (fn : Func) (hf : Tryz.pinned.checked.prog.funcNamed "stele/stelelaw24.PeepholeUncalled" = some f) (hfn : Tryz.pinned.checked.prog.funcs[f]? = some fn) :
  true=Tryz.pinned.checked.prog.looks []∧∀ (j:Nat) t,fn.params[j]? = some t→Tryz.pinned.checked.prog.wantsStandIn t=false:=by
 obtain rfl : f = 4 := Option.some.inj ((show Tryz.prog.funcNamed "stele/stelelaw24.PeepholeUncalled" = some 4 by kernel_rfl).symm.trans hf) |>.symm
 obtain rfl:fn=Tryz.f4:=(Option.some.inj (Tryz.func4.symm.trans hfn)).symm
 refine ⟨by kernel_rfl,fun j t ht=>?_⟩
 rw[Tryz.params4] at ht
 have hm:=Array.mem_of_getElem? ht
 simp only[List.mem_toArray,zMi,List.not_mem_nil,or_false] at hm
 rcases hm with rfl|rfl
 ·exact (show Tryz.prog.wantsStandIn 9=false by kernel_rfl)
 ·exact (show Tryz.prog.wantsStandIn 5=false by kernel_rfl)
end Go.Proofs.YtegmklafpoldgaaGreatDoor.fnPeepholeUncalled
namespace Go.Proofs.YtegmklafpoldgaaGreatDoor
theorem peepholeUncalled_card:Rows.PeepholeUncalledCardSaid:=
 Claim7.holds_tied_plain_at .later [] _ _ _ _ fnPeepholeUncalled.said (fun _ h=>by cases h) (by kernel_rfl) (fun _ h=>by cases h) peepholeUncalled_row_tie rfl ⟨rfl,rfl⟩ (by kernel_rfl) rfl fnPeepholeUncalled.plain (by kernel_rfl)
#print axioms peepholeUncalled_card
end Go.Proofs.YtegmklafpoldgaaGreatDoor
