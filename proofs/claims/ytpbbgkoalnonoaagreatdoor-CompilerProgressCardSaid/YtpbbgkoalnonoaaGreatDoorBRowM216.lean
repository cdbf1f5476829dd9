/- Texts joined: LawCN. -/
import Derived.Test.YtpbbgkoalnonoaaGreatDoorBRowM22
import Derived.Test.YtpbbgkoalnonoaaGreatDoorBRowM215
set_option linter.unusedVariables false
set_option linter.unusedSimpArgs false
set_option maxRecDepth 100000
set_option maxHeartbeats 4000000
namespace Go.Proofs.YtpbbgkoalnonoaaGreatDoor.Mch
open Go.GL Go.RowKit Go.Stele
open Inp (u32)
open Cmp (I64 bldR bldLV defO orgLV build_spec defaults_spec awake_spec)
attribute [local irreducible] LOps LCode LStep LCalls Go.GL.Pure QThen QBlock RetPost LQ LAny LLate LLateOp LS
section
variable {B0:Nat} {w0:World}
theorem progress_walk (hG:GW B0 w0) (hM:Asm.GM w0) (s:List UInt8) {inp:List Nat} (hin:∀ v∈inp,Lt v) {n:Nat} (hn:n<65536):LCalls (KC B0 w0) 7 [str s,.list (inp.map u32),int .u16 (n:Int)] [] (Ret (bool true)):=by
 have hb:=build_spec (B0:=B0) (w0:=w0) hG hM s defO (by unfold I64;decide) (by unfold I64;decide) (by unfold I64;decide)
 have hd:=defaults_spec (B0:=B0) (w0:=w0)
 have haw:=awake_spec (B0:=B0) (w0:=w0) hG hM
 have hsh:=short_spec (B0:=B0) (w0:=w0) s inp
 obtain ⟨m,hm⟩:∃ m:Nat,m=1+n % 300:=⟨_,rfl⟩
 have hsrc:=fun hs=>Inp.source_spec (B0:=B0) (w0:=w0) hG s hs hin ((m:Nat):Int)
 have hok:=fun (x:Wd) (l:Int) (hs:s.length≤60000) (h:bldR (parseP s) defO=(x,l,0))=>bld_ok hs h
 have eD:orgLV defO=.agg [int .i64 10000,int .i64 0,int .i64 100000]:=rfl
 have hwn:IntKind.i64.wrap (n:Int)=(n:Int):=wrap_i64 zo
 rw[eD] at hb hd
 generalize hr:bldR (parseP s) defO=r at hb
 obtain ⟨x,l,e⟩:=r
 unfold bldLV at hb
 simp only at hb
 refine cI Tryz.func7 rfl (n:=59) rfl rfl rfl ?_
 refine gao ?_
 refine oS (sF [] rfl hd ?_) rfl
 refine oS (sF [_,_] rfl hb ?_) rfl
 refine gab ?_
 refine oS (sF [_,_] rfl hsh ?_) rfl
 refine gaa ?_
 refine oB 23 rfl (fun h1=>?_) (fun h1=>?_)
 ·refine gaa ?_
  refine oC rfl (fun _=>?_) (fun hc=>by cases hc)
  refine gag ?_
  refine oS (sF [] rfl haw ?_) rfl
  refine gaa ?_
  exact retRet rfl (zra rfl) rfl
 have hs:s.length≤1500∧inp.length≤40:=by simpa using h1
 refine gaa ?_
 by_cases he:e=0
 rotate_left
 ·refine oC rfl (fun _=>?_) (fun hc=>?_)
  ·refine gag ?_
   refine oS (sF [] rfl haw ?_) rfl
   refine gaa ?_
   exact retRet rfl (zra rfl) rfl
  ·have h2:(!decide (e=0))=false:=hc
   simp at h2
   exact absurd h2 he
 subst he
 refine oC rfl (fun hc=>by cases hc) (fun _=>?_)
 have hB:=hok x l zo hr
 have hW:=hsrc zo
 have hpo:=progress_out hB inp m zo zo
 have ho:defO.code.toNat=10000:=rfl
 have hrun:=mrun_spec (B0:=B0) (w0:=w0) (code:=x) (og:=10000) (inp:=inp) (steps:=20000) (by have:=hB.len;omega) zDd hin zDd zDd
 rw[ho] at hpo
 generalize sourceI s inp ((m:Nat):Int)=W at hW hpo
 generalize runM 20000 (startM x 10000 inp)=R at hrun hpo
 unfold Inp.encO at hW
 unfold mchLV at hrun
 unfold txtLV at hrun
 refine gac ?_
 refine oP (Pure.rem (a:=(n:Int)) (b:=300) (int_eq hwn) rfl zDd zo) rfl ?_
 refine oP (Pure.add rfl rfl zo) rfl ?_
 rw[show (1:Int)+(n:Int) % 300=(m:Int) by omega]
 refine oS (sF [_,_,_] rfl hW ?_) rfl
 refine oS (sA fun b10=>?_) rfl
 refine gab ?_
 by_cases h13:W.err=13
 rotate_left
 ·refine oC rfl (fun _=>?_) (fun hc=>?_)
  ·refine gag ?_
   refine oS (sF [] rfl haw ?_) rfl
   refine gaa ?_
   exact retRet rfl (zra rfl) rfl
  ·simp at hc
   exact absurd hc h13
 have hp:=hpo h13
 refine oC rfl (fun hc=>?_) (fun _=>?_)
 ·simp[h13] at hc
 refine gac ?_
 refine oS (sL [_] rfl (eC rfl rfl eN) rfl rfl rfl ?_) rfl
 refine gaa ?_
 refine oS (sF [_,_,_,_] rfl hrun ?_) rfl
 refine oS (sA fun b11=>?_) rfl
 refine gab ?_
 refine oS (sF [_,_] rfl (hasPrefix_spec W.out R.2.1) ?_) rfl
 refine gaa ?_
 refine oB 49 rfl (fun hh=>?_) (fun hh=>?_)
 ·refine gaa ?_
  refine oB 56 rfl (fun _=>?_) (fun h2=>by cases h2)
  refine oS (sF [] rfl haw ?_) rfl
  refine gaa ?_
  exact retRet rfl (zra rfl) rfl
 refine gaa ?_
 refine oS (sF [_,_] rfl (hasPrefix_spec R.2.1 W.out) ?_) rfl
 refine gaa ?_
 refine oB 56 rfl (fun _=>?_) (fun h2=>?_)
 ·refine gaa ?_
  refine oS (sF [] rfl haw ?_) rfl
  refine gaa ?_
  exact retRet rfl (zra rfl) rfl
 rcases hp with hp|hp
 ·have h3:=List.isPrefixOf_iff_prefix.2 hp
  exact absurd (h2.symm.trans h3) zDd
 ·have h3:=List.isPrefixOf_iff_prefix.2 hp
  exact absurd (hh.symm.trans h3) zDd
end
end Go.Proofs.YtpbbgkoalnonoaaGreatDoor.Mch
