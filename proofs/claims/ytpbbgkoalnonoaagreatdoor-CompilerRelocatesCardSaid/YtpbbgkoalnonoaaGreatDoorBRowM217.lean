/- Texts joined: LawCO. -/
import Derived.Test.YtpbbgkoalnonoaaGreatDoorBRowM215
set_option linter.unusedVariables false
set_option linter.unusedSimpArgs false
set_option maxRecDepth 100000
set_option maxHeartbeats 4000000
namespace Go.Proofs.YtpbbgkoalnonoaaGreatDoor.Mch
open Go.GL Go.RowKit Go.Stele
open Inp (u32)
open Cmp (I64 bldR bldLV defO orgLV build_spec defaults_spec awake_spec)
attribute [local irreducible] LOps LCode LStep LCalls Go.GL.Pure QThen QBlock RetPost LQ LAny LLate LLateOp LS
section
variable {B0:Nat} {w0:World}
@[reducible] def ogR (b:Nat) (oc os oa:Int):Nat×LObj:=(b,.cells 28 [int .i64 oc,int .i64 os,int .i64 oa])
@[reducible] def ocR (b:Nat) (R:Nat×Wd×Nat):Nat×LObj:=(b,.cells 44 [str R.2.1,int .i64 (R.1:Nat),int .i64 (R.2.2:Nat)])
theorem relocates_walk (hG:GW B0 w0) (hM:Asm.GM w0) (s:List UInt8) {inp:List Nat} (hin:∀ v∈inp,Lt v) (o:Org) (o1:I64 o.code) (o2:I64 o.scalars) (o3:I64 o.arrays):LCalls (KC B0 w0) 8 [str s,.list (inp.map u32),orgLV o] [] (Ret (bool true)):=by
 have hb:=build_spec (B0:=B0) (w0:=w0) hG hM s defO (by unfold I64;decide) (by unfold I64;decide) (by unfold I64;decide)
 have hbo:=build_spec (B0:=B0) (w0:=w0) hG hM s o o1 o2 o3
 have hd:=defaults_spec (B0:=B0) (w0:=w0)
 have haw:=awake_spec (B0:=B0) (w0:=w0) hG hM
 have hsh:=short_spec (B0:=B0) (w0:=w0) s inp
 have hsrc:=fun hs=>Inp.source_spec (B0:=B0) (w0:=w0) hG s hs hin 3000
 have hok:=fun (x:Wd) (l:Int) (hs:s.length≤60000) (h:bldR (parseP s) defO=(x,l,0))=>bld_ok hs h
 have hok2:=fun (x:Wd) (l:Int) (hs:s.length≤60000) (h:bldR (parseP s) o=(x,l,0))=>bld_ok hs h
 have eD:orgLV defO=.agg [int .i64 10000,int .i64 0,int .i64 100000]:=rfl
 have eO:orgLV o=.agg [int .i64 o.code,int .i64 o.scalars,int .i64 o.arrays]:=rfl
 rw[eD] at hb hd
 rw[eO] at hbo ⊢
 generalize hr:bldR (parseP s) defO=r at hb
 obtain ⟨x,l,e⟩:=r
 generalize hr2:bldR (parseP s) o=r2 at hbo
 obtain ⟨y,l2,f⟩:=r2
 unfold bldLV at hb hbo
 simp only at hb hbo
 refine cI Tryz.func8 rfl (n:=78) rfl rfl rfl ?_
 refine gaj ?_
 refine oS (S.box rfl fun b5=>?_) rfl
 refine gaj ?_
 refine oS (sF [] rfl hd ?_) rfl
 refine oS (sF [_,_] rfl hb ?_) rfl
 refine gaj ?_
 refine oS (sF [_,_] rfl hbo ?_) rfl
 refine gaj ?_
 refine oS (sF [_,_] rfl hsh ?_) rfl
 refine gaj ?_
 refine oB 34 rfl (fun h1=>?_) (fun h1=>?_)
 ·refine gaj ?_
  refine oC rfl (fun _=>?_) (fun hc=>by cases hc)
  refine gaj ?_
  refine oS (sF [] rfl haw ?_) rfl
  refine gaj ?_
  exact retRet rfl (zra rfl) rfl
 have hs:s.length≤1500∧inp.length≤40:=by simpa using h1
 refine gaj ?_
 by_cases he:e=0
 rotate_left
 ·refine oB 38 rfl (fun _=>?_) (fun h2=>?_)
  ·refine gaj ?_
   refine oC rfl (fun _=>?_) (fun hc=>by cases hc)
   refine gaj ?_
   refine oS (sF [] rfl haw ?_) rfl
   refine gaj ?_
   exact retRet rfl (zra rfl) rfl
  ·have h3:(!decide (e=0))=false:=h2
   simp at h3
   exact absurd h3 he
 subst he
 refine oB 38 rfl (fun h2=>by cases h2) (fun _=>?_)
 refine gaj ?_
 by_cases hf:f=0
 rotate_left
 ·refine oC rfl (fun _=>?_) (fun hc=>?_)
  ·refine gaj ?_
   refine oS (sF [] rfl haw ?_) rfl
   refine gaj ?_
   exact retRet rfl (zra rfl) rfl
  ·have h2:(!decide (f=0))=false:=hc
   simp at h2
   exact absurd h2 hf
 subst hf
 refine oC rfl (fun hc=>by cases hc) (fun _=>?_)
 have hB:=hok x l zo hr
 have hC:=hok2 y l2 zo hr2
 have hW:=hsrc zo
 obtain ⟨og,hog⟩:∃ n:Nat,o.code=(n:Int):=⟨o.code.toNat,by have:=hC.code0;omega⟩
 have hog1:og+40000≤262144:=by have:=hC.code1;omega
 have hco:=correct_out hB inp
 have hcp:=correct_out hC inp
 have ho:defO.code.toNat=10000:=rfl
 have ho2:o.code.toNat=og:=by omega
 rw[ho] at hco
 rw[ho2] at hcp
 rw[hog]
 have hrun:=lrun_spec (B0:=B0) (w0:=w0) (code:=x) (og:=10000) (inp:=inp) (by have:=hB.len;omega) zDd hin
 have hrun2:=lrun_spec (B0:=B0) (w0:=w0) (code:=y) (og:=og) (inp:=inp) (by have:=hC.len;omega) zo hin
 generalize sourceI s inp 3000=W at hW hco hcp
 generalize runM 1000000 (startM x 10000 inp)=R at hrun hco
 generalize runM 1000000 (startM y og inp)=R2 at hrun2 hcp
 unfold Inp.encO at hW
 unfold mchLV at hrun hrun2
 refine gaj ?_
 refine oS (sF [_,_,_] rfl hW ?_) rfl
 refine oS (sA fun b13=>?_) rfl
 refine gaj ?_
 have hmain:(W.err=0∨W.err=12)→R.2.1=R2.2.1∧R.1=R2.1:=fun h=>by
  obtain ⟨c1,c2⟩:=hco h
  obtain ⟨c3,c4⟩:=hcp h
  exact ⟨c2.trans c4.symm,by omega⟩
 refine LOps.cut [(1,.list (inp.map u32)),(5,ptr b5 0),(7,str x),(10,str y),(53,bool (!decide (W.err=0) && !decide (W.err=12)))] ?_ (fun j2 hj2=>?_)
 ·refine oB 49 rfl (fun g1=>?_) (fun g1=>?_)
  ·refine gaj ?_
   exact ⟨⟨rfl,rfl,rfl,rfl,bool_eq (by rw[g1,Bool.true_and]),trivial⟩,rfl,rfl⟩
  ·refine gaj ?_
   exact ⟨⟨rfl,rfl,rfl,rfl,bool_eq (by rw[g1,Bool.false_and]),trivial⟩,rfl,rfl⟩
 refine gaj ?_
 by_cases hE:W.err=0∨W.err=12
 rotate_left
 ·refine oC rfl (fun _=>?_) (fun hc=>?_)
  ·refine gaj ?_
   refine oS (sF [] rfl haw ?_) rfl
   refine gaj ?_
   exact retRet hj2 (zra rfl) rfl
  ·simp only[Bool.and_eq_false_iff,Bool.not_eq_false',zDe] at hc
   exact absurd hc hE
 refine oC rfl (fun hc=>?_) (fun _=>?_)
 ·rcases hE with h|h <;> simp[h] at hc
 obtain ⟨hq1,hq2⟩:=hmain hE
 refine gad ?_
 refine LCode.weak (H':=[ogR b5 (og:Nat) o.scalars o.arrays]) (zhD zhr) ?_
 refine LCode.midC (A:=Nat×Nat) (fun k=>[(14,ptr k.1 0),(15,ptr k.2 0)]) (fun k=>[ocR k.2 R2,ocR k.1 R,ogR b5 (og:Nat) o.scalars o.arrays]) (fun _=>True) ?_ (fun k _ j3 hj3=>?_)
 ·refine LCode.draw (m:=12) rfl [ogR b5 (og:Nat) o.scalars o.arrays] ?_
  first|refine aT 0 rfl rfl (pM (lv:=.atom _) rfl) ?_
  first|refine aT 1 rfl rfl (pM (lv:=.list _) rfl) ?_|refine aT 1 rfl rfl (pM (lv:=.app _ _ _ _) rfl) ?_|refine aT 1 rfl rfl (pM (lv:=.atom _) rfl) ?_
  first|refine aT 3 rfl rfl (pM (lv:=.atom _) rfl) ?_
  first|refine aT 4 rfl rfl (pF rfl) ?_|refine aT 4 rfl rfl (Pure.field1 rfl rfl) ?_
  first|refine aT 5 rfl rfl (Pure.loadRef (c:=.atom _) rfl rfl) ?_|refine aT 5 rfl rfl (pL (c:=.atom _) rfl zm0 rfl) ?_|refine aT 5 rfl rfl (pL (c:=.atom _) rfl zm1 rfl) ?_|refine aT 5 rfl rfl (pL (c:=.atom _) rfl zm2 rfl) ?_
  first|refine aT 6 rfl rfl (pM (lv:=.list _) rfl) ?_|refine aT 6 rfl rfl (pM (lv:=.app _ _ _ _) rfl) ?_|refine aT 6 rfl rfl (pM (lv:=.atom _) rfl) ?_
  refine LAny.late ?_ zhr
  refine LLate.three (i:=2) (j:=8) (k:=9) zk ?_ ?_ ?_
  ·refine lS (H1:=[]) rfl (.inl rfl) rfl zpr zb0 (sF [_,_,_] rfl hrun ?_)
   refine LLate.three (i:=7) (j:=8) (k:=9) zk ?_ ?_ ?_
   ·refine lS (H1:=[]) rfl (.inl rfl) rfl zpr zb0 (sF [_,_,_] rfl hrun2 ?_)
    refine LLate.two (i:=8) (j:=9) zk ?_ ?_
    ·refine lS (H1:=[]) rfl (.inl rfl) rfl zpr zb0 (sA fun b14=>?_)
     refine zl1 (i:=9) zk ?_
     refine lS (H1:=[]) rfl (.inl rfl) rfl zpr zb0 (sA fun b15=>?_)
     exact zT1
    ·refine lS (H1:=[]) rfl (.inl rfl) rfl zpr zb0 (sA fun b15=>?_)
     refine zl1 (i:=8) zk ?_
     refine lS (H1:=[]) rfl (.inl rfl) rfl zpr zb0 (sA fun b14=>?_)
     exact zT1
   ·refine lS (H1:=[]) rfl (.inl rfl) rfl zpr zb0 (sA fun b14=>?_)
    refine LLate.two (i:=7) (j:=9) zk ?_ ?_
    ·refine lS (H1:=[]) rfl (.inl rfl) rfl zpr zb0 (sF [_,_,_] rfl hrun2 ?_)
     refine zl1 (i:=9) zk ?_
     refine lS (H1:=[]) rfl (.inl rfl) rfl zpr zb0 (sA fun b15=>?_)
     exact zT1
    ·refine lS (H1:=[]) rfl (.inl rfl) rfl zpr zb0 (sA fun b15=>?_)
     exact zT9
   ·refine lS (H1:=[]) rfl (.inl rfl) rfl zpr zb0 (sA fun b15=>?_)
    refine LLate.two (i:=7) (j:=8) zk ?_ ?_
    ·refine lS (H1:=[]) rfl (.inl rfl) rfl zpr zb0 (sF [_,_,_] rfl hrun2 ?_)
     refine zl1 (i:=8) zk ?_
     refine lS (H1:=[]) rfl (.inl rfl) rfl zpr zb0 (sA fun b14=>?_)
     exact zT1
    ·refine lS (H1:=[]) rfl (.inl rfl) rfl zpr zb0 (sA fun b14=>?_)
     exact zT9
  ·refine lS (H1:=[]) rfl (.inl rfl) rfl zpr zb0 (sA fun b14=>?_)
   refine LLate.two (i:=2) (j:=9) zk ?_ ?_
   ·refine lS (H1:=[]) rfl (.inl rfl) rfl zpr zb0 (sF [_,_,_] rfl hrun ?_)
    refine LLate.two (i:=7) (j:=9) zk ?_ ?_
    ·refine lS (H1:=[]) rfl (.inl rfl) rfl zpr zb0 (sF [_,_,_] rfl hrun2 ?_)
     refine zl1 (i:=9) zk ?_
     refine lS (H1:=[]) rfl (.inl rfl) rfl zpr zb0 (sA fun b15=>?_)
     exact zT1
    ·refine lS (H1:=[]) rfl (.inl rfl) rfl zpr zb0 (sA fun b15=>?_)
     exact zT9
   ·refine lS (H1:=[]) rfl (.inl rfl) rfl zpr zb0 (sA fun b15=>?_)
    refine zl1 (i:=2) zk ?_
    refine lS (H1:=[]) rfl (.inl rfl) rfl zpr zb0 (sF [_,_,_] rfl hrun ?_)
    exact zT9
  ·refine lS (H1:=[]) rfl (.inl rfl) rfl zpr zb0 (sA fun b15=>?_)
   refine LLate.two (i:=2) (j:=8) zk ?_ ?_
   ·refine lS (H1:=[]) rfl (.inl rfl) rfl zpr zb0 (sF [_,_,_] rfl hrun ?_)
    refine LLate.two (i:=7) (j:=8) zk ?_ ?_
    ·refine lS (H1:=[]) rfl (.inl rfl) rfl zpr zb0 (sF [_,_,_] rfl hrun2 ?_)
     refine zl1 (i:=8) zk ?_
     refine lS (H1:=[]) rfl (.inl rfl) rfl zpr zb0 (sA fun b14=>?_)
     exact zT1
    ·refine lS (H1:=[]) rfl (.inl rfl) rfl zpr zb0 (sA fun b14=>?_)
     exact zT9
   ·refine lS (H1:=[]) rfl (.inl rfl) rfl zpr zb0 (sA fun b14=>?_)
    refine zl1 (i:=2) zk ?_
    refine lS (H1:=[]) rfl (.inl rfl) rfl zpr zb0 (sF [_,_,_] rfl hrun ?_)
    exact zT9
 have hjj:j3.ds=[]:=hj3.trans hj2
 obtain ⟨b14,b15⟩:=k
 refine gaj ?_
 refine oB 68 rfl (fun _=>?_) (fun hh=>?_)
 rotate_left
 ·have:=zf hh
  exact absurd (by rw[hq2]) this
 refine gaj ?_
 refine oB 75 rfl (fun _=>?_) (fun hh=>?_)
 rotate_left
 ·have:=zf hh
  exact absurd hq1 this
 refine gaj ?_
 refine oS (sF [] rfl haw ?_) rfl
 refine gaj ?_
 exact retRet hjj (zra rfl) rfl
end
end Go.Proofs.YtpbbgkoalnonoaaGreatDoor.Mch
