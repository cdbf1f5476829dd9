/- InterpreterInput: what is read behind the end of the input, and a program that reads nothing: for every text, list of numbers and two numbers the law returns true. The card: the listed package-level variables read as the program's text lays them. -/
import Derived.ChangeMaps5
import Derived.Test.YtcbpcianefpniaaGreatDoorBRowII6
import Derived.Test.YtcbpcianefpniaaGreatDoorBRowII7
set_option linter.unusedVariables false
set_option linter.unusedSimpArgs false
namespace Go.Proofs.YtcbpcianefpniaaGreatDoor.fnInput
open Go.ChangeShapes Go.WideShapes Go.ChangeAt Go.RowKit Go.ChangeMaps
set_option maxRecDepth 100000
theorem contract (H:Type) (enc:TypeId×Value→H) (W:World) (base:Nat) (args:Array Value) (ds gs:List (DataW H)) (before:List MemPlace)
  (hval:∀ (j:Nat) t v,Tryz.f10.params[j]? = some t→args[j]? = some v→Value.okWide Tryz.prog W .any base t v)
  (hW:DataW.Whole enc Tryz.prog Tryz.f10.params.toList Rows.interpreterInputSpec.vars false W args.toList ds gs before) (hL:laidMetH Tryz.prog Rows.interpreterInputRow.laid W) (hS:W.ShapedOpen Tryz.prog) :
  Calls Tryz.prog 10 args W fun e W'=>∃ v,e=.returned v∧Rows.interpreterInputSpec.post enc Tryz.prog Tryz.f10 false true false false W args v W':=by
 have hW':=hW
 obtain ⟨p,q,hA0,hV,rfl,hfz,hnd⟩:=hW
 have hA:DataW.TrodAll enc Tryz.prog W 0 (fun _=>true) true Tryz.f10.params.toList args.toList ds p:=hA0
 rw[Tryz.params10] at hA hval
 obtain ⟨v0,vs0,d0,ds0,p0,q0,hargs,rfl,rfl,h0,r0⟩:=trodAll_cons hA
 obtain ⟨rfl,rfl,rfl⟩:=trodAll_nil r0
 obtain rfl:args=#[v0]:=by cases args;simp_all
 obtain ⟨rfl,rfl⟩:=trodVars_none hV
 obtain ⟨s,l,a,k,L,hlt0,ha,hk,hr,hR⟩:=open_padded (laid5 hL) hS (hval 0 52 v0 rfl rfl) h0
 have hG:=(gw_of_laid (laid5 hL)).1
 have hM:∃ m,W.cell? ⟨0,0,none⟩=some (.int .i64 m):=by
  obtain ⟨cs,h1,h2,h3⟩:=cells0 hS
  have h4:0<cs.size:=by omega
  obtain ⟨u,k,n,e1,e2,e3⟩:=h3 0 cs[0] (by simp[h4])
  have e4:u=3:=by simpa using e1.symm
  subst e4
  have e5:Tryz.prog.underlying 3=some (.int .i64):=Tryz.underlying3
  rw[e5] at e2
  cases e2
  exact ⟨n,by simp[World.cell?,h1,h4,e3]⟩
 clear hA0
 simp only[List.append_nil] at hW'
 have hlt:∀ x∈p0,x.block<W.heap.size:=fun x hx=>by simpa using hW'.lt x hx
 refine (lift_at (vs:=[v0]) (Inp.input_walk hG hM s hlt0 ha hk) hr hR).mono fun e W' ⟨he,hg⟩=>?_
 subst he
 exact ⟨_,rfl,post_of_below (pa:=p0) (pv:=[]) hW' (fun _ _ _=>trodAll_cons_mk (shut_bool Tryz.underlying4 _) trodAll_mk0) (fun sp hsp=>trodAll_mk1 (stay_padded h0 hg hlt hsp)) (fun _ _=>rfl) (by simp)
  hg (ok_one (by kernel_rfl) rfl (okWide_bool_mk Tryz.underlying4 _))⟩
theorem reads (os:Os) {H:Type} (enc:TypeId×Value→H):∃ places,DataW.whole enc Tryz.prog ((laidWorld7 os).forCall (fun _ _=>0) ⟨#[],#[.agg #[.string ⟨#[]⟩,.slice none 0 0,.int .u8 0,.int .u16 0]],[]⟩).memory Tryz.f10.params.toList Rows.interpreterInputSpec.vars false #[Value.agg #[.string ⟨#[]⟩,.slice none 0 0,.int .u8 0,.int .u16 0]].toList 8=some ([.agg [.lit (.string []),.nil,.lit (.int .u8 0),.lit (.int .u16 0)]],[],places):=
 ⟨[],by kernel_rfl⟩
theorem lifted (os:Os) (started:os.Started) (H:Type) (enc:TypeId×Value→H) (F:Stop.Interp) :
  ReturnsInHanded {} Tryz.checked os 10 .any ((OpenSpec.ofChange Rows.interpreterInputSpec).preRow enc Tryz.prog Tryz.f10 Rows.interpreterInputRow.domain false Rows.interpreterInputRow.laid) (((OpenSpec.ofChange Rows.interpreterInputSpec).at F).post enc Tryz.prog Tryz.f10 false true false false):=by
 obtain ⟨places,hx⟩:=reads os enc
 refine returnsInHanded_of_row (C:=Tryz.checked) (s:=OpenSpec.ofChange Rows.interpreterInputSpec) own started (by kernel_rfl) Tryz.func10
  (witness_row_at (enc:=enc) (C:=Tryz.checked) false (laidWorld7 os) #[.agg #[.string ⟨#[]⟩,.slice none 0 0,.int .u8 0,.int .u16 0]] rfl (by kernel_rfl) (by kernel_rfl) (by kernel_rfl)
   (OpenSpec.preRow_of_cond 8 hx (by kernel_rfl) (fun k hk=>by cases hk) (by kernel_rfl) (laid_met7 os _))) ?_
 intro W base args ds gs before hval hW _ _ _ hL hS _
 exact contract H enc W base args ds gs before hval hW hL hS
theorem said:Rows.InterpreterInputSaid:=
 OpenClaim.holds_of_cond 10 Tryz.f10 rfl rfl rfl rfl rfl rfl rfl ⟨rfl,rfl,rfl,rfl,rfl⟩ rfl rfl rfl rfl rfl (by kernel_rfl) Tryz.func10 (by kernel_rfl)
  (of_decide_eq_true (by kernel_rfl)) (by unfold Func.isWrapper;first|(rw[if_pos (by decide +kernel)];kernel_rfl)|(rw[if_neg (by decide +kernel)];exact ⟨rfl,rfl⟩))
  (fun os started H enc _ F=>by rw[OpenClaim.pre_eq_preRow];exact lifted os started H enc F)
theorem plain (f : FuncId) (fn : Func) (hf : Tryz.pinned.checked.prog.funcNamed "stele/stelelaw22.InterpreterInput" = some f) (hfn : Tryz.pinned.checked.prog.funcs[f]? = some fn) :
  true=Tryz.pinned.checked.prog.looks []∧∀ (j:Nat) t,fn.params[j]? = some t→Tryz.pinned.checked.prog.wantsStandIn t=false:=by
 obtain rfl : f = 10 := Option.some.inj ((show Tryz.prog.funcNamed "stele/stelelaw22.InterpreterInput" = some 10 by kernel_rfl).symm.trans hf) |>.symm
 obtain rfl:fn=Tryz.f10:=(Option.some.inj (Tryz.func10.symm.trans hfn)).symm
 refine ⟨by kernel_rfl,fun j t ht=>?_⟩
 rw[Tryz.params10] at ht
 obtain rfl:t=52:=by simpa using Array.mem_of_getElem? ht
 exact (show Tryz.prog.wantsStandIn 52=false by kernel_rfl)
end Go.Proofs.YtcbpcianefpniaaGreatDoor.fnInput
namespace Go.Proofs.YtcbpcianefpniaaGreatDoor
theorem interpreterInput_card:Rows.InterpreterInputCardSaid:=
 Claim7.holds_tied_plain_at .later [] _ _ _ _ fnInput.said (fun _ h=>by cases h) (by kernel_rfl) (fun _ h=>by cases h) interpreterInput_row_tie rfl ⟨rfl,rfl⟩ (by kernel_rfl) rfl fnInput.plain (by kernel_rfl)
#print axioms interpreterInput_card
end Go.Proofs.YtcbpcianefpniaaGreatDoor
