/- Texts joined: A23H, RZ1, RZ2, LawCA. -/
import Derived.Test.YtpbbgkoalnonoaaGreatDoorBRowCA2
import Derived.Test.YtpbbgkoalnonoaaGreatDoorBRowCA3
import Derived.Test.YtpbbgkoalnonoaaGreatDoorBRowCA6
import Derived.Test.YtpbbgkoalnonoaaGreatDoorBRowCA8
import Derived.Test.YtpbbgkoalnonoaaGreatDoorBRowCA11
import Derived.Test.YtpbbgkoalnonoaaGreatDoorBRowCA12
import Derived.Test.YtpbbgkoalnonoaaGreatDoorBRowCA13
import Derived.Test.YtpbbgkoalnonoaaGreatDoorBRowCA14
set_option linter.unusedVariables false
set_option linter.unusedSimpArgs false
set_option maxRecDepth 100000
set_option maxHeartbeats 4000000
namespace Go.Proofs.YtpbbgkoalnonoaaGreatDoor.R23
open Go.GL Go.RowKit Go.Stele
open Go.Lib (decDigits itoa join)
open Cmp (orgLV own_short nm_len I64 cmpLV bldR bldLV parse_size)
attribute [local irreducible] LOps LCode LStep LCalls Go.GL.Pure QThen QBlock RetPost LQ LAny LLate LLateOp LS
section
variable {B0:Nat} {w0:World}
theorem rcompile_spec (vars:List Nm) (arrays:List (Nm×Int)) (fs:List FnD) (o:Org) (hv6:vars.length≤2000000) (ha6:arrays.length≤2000000) (har:∀ a∈arrays,I64 a.2) (hnd:ndFs fs≤2000000) (hnum:∀ f∈fs,numSs f.body) (o1:I64 o.code) (o2:I64 o.scalars) (o3:I64 o.arrays) :
  LCalls (KC B0 w0) 12 [Chk.encPrG vars arrays fs,orgLV o] [] (Ret (cmpLV (cmpP vars arrays fs o))):=by
 have hck:=RC.rcheck_spec (B0:=B0) (w0:=w0) vars arrays fs hv6 ha6 har hnd
 have hf6:=ndFs_len fs
 have hsm:∀ f∈fs,SmF f:=fun f hf=>smF_of (by have:=ndFs_mem hf;omega)
 obtain ⟨oc,os,oa⟩:=o
 generalize hC:cmpP vars arrays fs ⟨oc,os,oa⟩=R
 have hne:=fun e=>@cmp_ne vars arrays fs ⟨oc,os,oa⟩ e
 rw[hC] at hne
 unfold cmpP at hC
 have ePr:Chk.encPrG vars arrays fs=.agg [.list (vars.map str),.list (arrays.map Chk.encArG),.list (fs.map encFn)]:=rfl
 have eOr:orgLV ⟨oc,os,oa⟩=.agg [int .i64 oc,int .i64 os,int .i64 oa]:=rfl
 rw[ePr,eOr]
 rw[ePr] at hck
 refine cI Tryz.func12 rfl (n:=41) rfl rfl rfl ?_
 refine gaf ?_
 refine oS (S.box rfl fun b2=>?_) rfl
 refine oS (S.box rfl fun b3=>?_) rfl
 refine gab ?_
 refine oS (S.callH (H1:=[]) (F:=[_,_]) [_] rfl zpr hck ?_ (by rintro ch H' ⟨_,nm,h⟩;cases h)) rfl
 rintro lv H' ⟨rfl,nm,h⟩
 cases h
 refine gab ?_
 by_cases hc0:checkP vars arrays fs=0
 rotate_left
 ·exact zT56
 refine oC rfl (fun hc=>?_) (fun _=>?_)
 ·have h2:(!decide (checkP vars arrays fs=0))=true:=hc
  simp[hc0] at h2
 rw[if_neg (by simpa using hc0)] at hC
 obtain ⟨ht,hp,hPa,hPc,hV⟩:=check_parts hc0
 have hown:∀ f∈fs,∀ x∈f.params++f.locals,x.length≤24:=by
  have h:=hc0
  unfold checkP at h
  exact own_short _ _ _ _ _ (orE_zero.1 (orE_zero.1 (orE_zero.1 h).2).2).1
 have hfr:=fresh_zero _ _ hV.names
 have hfn:∀ f∈fs,f.name.length≤24:=fun f hf=>nm_len (hfr.2 _ (List.mem_append_right _ (List.mem_map_of_mem hf))).2
 have hn:∀ f∈fs,f.name.length≤1000∧∀ x∈f.params++f.locals,x.length≤1000:=fun f hf=>⟨by have:=hfn f hf;omega,fun x hx=>by have:=hown f hf x hx;omega⟩
 have hsc8:(scalarsP vars fs).length≤8000:=hV.few
 have hft:=Cmp.rfits_spec (B0:=B0) (w0:=w0) vars arrays fs ⟨oc,os,oa⟩ hv6 zo ha6 hsm hn hp ht hsc8 o1 o2 o3
 rw[ePr,eOr] at hft
 refine gab ?_
 refine oS (sF [_,_] rfl hft ?_) rfl
 refine gad ?_
 by_cases hfit:fitsP vars arrays fs ⟨oc,os,oa⟩=true
 rotate_left
 ·rw[if_pos (by simpa using hfit)] at hC
  subst hC
  refine oC rfl (fun _=>?_) (fun hc=>?_)
  ·refine gao ?_
   exact retRet rfl (rC (zrt rfl) (zra rfl)) rfl
  ·have h2:(!fitsP vars arrays fs ⟨oc,os,oa⟩)=false:=hc
   simp at h2
   exact absurd h2 hfit
 refine oC rfl (fun hc=>?_) (fun _=>?_)
 ·have h2:(!fitsP vars arrays fs ⟨oc,os,oa⟩)=true:=hc
  rw[hfit] at h2
  cases h2
 rw[if_neg (by rw[hfit];decide)] at hC
 have hfitP:fitsP (prOf vars arrays fs).vars (arrsP (prOf vars arrays fs)) (prOf vars arrays fs).funcs ⟨oc,os,oa⟩=true:=by rw[hPa];exact hfit
 have hF:=fit_of hfitP
 have hS0:0≤os:=hF.s0
 obtain ⟨sc,rfl⟩:∃ n:Nat,os=(n:Int):=⟨os.toNat,by omega⟩
 have has:=rassembly_spec (B0:=B0) (w0:=w0) (vars:=vars) (arrays:=arrays) (fs:=fs) (oc:=oc) (sc:=sc) (oa:=oa) ⟨hc0,hfit,hv6,ha6,hnd,hnum⟩
 rw[ePr,eOr] at has
 have hW:=prW_tot hPc hnum hfitP hnd
 have hjt:=join_tot (wordsC (prOf vars arrays fs) ⟨oc,(sc:Int),oa⟩)
 have hwc:wordsC (prOf vars arrays fs) ⟨oc,(sc:Int),oa⟩=prW vars arrays fs ⟨oc,(sc:Int),oa⟩:=by
  unfold wordsC
  rw[hPa]
  rfl
 have hnf:ndFs (prOf vars arrays fs).funcs=ndFs fs:=rfl
 rw[hwc] at hW hjt
 rw[hnf] at hW
 have hW1:=hW.1
 have hlen:(join (prW vars arrays fs ⟨oc,(sc:Int),oa⟩) [32]).length≤300000000:=by omega
 have hasm:=Asm.assemble18_spec (B0:=B0) (w0:=w0) (join (prW vars arrays fs ⟨oc,(sc:Int),oa⟩) [32]) oc hlen
 rw[asmE_eq] at hasm
 simp only at hC
 generalize join (prW vars arrays fs ⟨oc,(sc:Int),oa⟩) [32]=T at has hasm hC
 refine gab ?_
 refine oS (sF [_,_] rfl has ?_) rfl
 refine gaa ?_
 cases hA:asmP T oc with
 |error e=>
  rw[hA] at hasm hC
  simp only at hasm hC
  subst hC
  have he:((e.2:Nat):Int)≠0:=hne _ rfl
  refine oS (S.fnIf [_,_] rfl hasm ?_) rfl
  rintro lv ⟨ln,rfl⟩
  refine gab ?_
  refine oC rfl (fun _=>?_) (fun hc=>?_)
  ·refine gaa ?_
   exact retRet rfl (rC (zrt rfl) (zra rfl)) rfl
  ·have h2:(!decide (((e.2:Nat):Int)=0))=false:=hc
   simp at h2
   omega
 |ok x=>
  rw[hA] at hasm hC
  simp only at hasm hC
  subst hC
  refine oS (S.fnIf [_,_] rfl hasm ?_) rfl
  rintro lv ⟨labs,rfl⟩
  refine gab ?_
  refine oC rfl (fun hc=>by cases hc) (fun _=>?_)
  refine gaa ?_
  exact retRet rfl (rC (zrt rfl) (zra rfl)) rfl
end
end Go.Proofs.YtpbbgkoalnonoaaGreatDoor.R23
namespace Go.Proofs.YtpbbgkoalnonoaaGreatDoor.RC
open Go.GL Go.RowKit Go.Stele
attribute [local irreducible] LOps LCode LStep LCalls Go.GL.Pure QThen QBlock RetPost LQ LAny LLate LLateOp LS
section
variable {B0:Nat} {w0:World}
def SomeN (r:LRes) (H:Heap):Prop:=H=[]∧∃ z,r=.ret (int .i64 z)
def NodesH (B0:Nat) (w0:World) (n:Nat):Prop:=∀ x:Ex,ndE x<n→LCalls (KC B0 w0) 43 [encE x] [] SomeN
theorem nodes_spec:∀ n:Nat,n≤100000000→NodesH B0 w0 n
 |0,_=>fun x h=>by omega
 |n+1,hn6=>by
  have ih:=nodes_spec n zo
  intro x hnd
  obtain ⟨op,num,name,args⟩:=x
  rw[ndE] at hnd
  have hal:=ndEs_len args
  rw[encE_mk]
  refine cI Tryz.func43 rfl (n:=29) rfl rfl rfl ?_
  refine gaf ?_
  refine oS (S.box rfl fun b1=>?_) rfl
  refine gab ?_
  refine oP (Pure.quoW rfl rfl zDd) rfl ?_
  refine oP (Pure.addW rfl rfl) rfl ?_
  refine gac ?_
  refine oP (Pure.quoW rfl rfl zDd) rfl ?_
  refine oP (Pure.addW rfl rfl) rfl ?_
  refine gaa ?_
  refine oL (fun kk ls H'=>∃ (pre l1:List Ex) (z:Int),args=pre++l1∧kk=l1.length∧ls=[(3,int .i64 z),(17,.list (args.map encE)),(18,int .i64 ((args.map encE).length:Int)),(19,int .i64 (pre.length:Int))]∧H'=[])
   ⟨_,_,_,⟨[],args,_,rfl,rfl,rfl,rfl⟩,⟨rfl,rfl,rfl,rfl,trivial⟩,HSub.nil _⟩ ?_
  rintro kk ls H' ⟨pre,l1,z,hL,rfl,rfl,rfl⟩ j2 hj2
  have hb:=pre_le hL (show args.length≤100000000 by omega)
  refine gah ?_
  refine oC rfl (fun hc=>?_) (fun hc=>?_)
  ·obtain ⟨a,l2,rfl⟩:=more hL hc
   have ham:=ndEs_part hL
   refine gak ?_
   refine oP (xR (el':=encE a) (cs:=[_,_,_,_]) rfl rfl zo (by rw[hL];exact get_mid encE pre a l2) rfl rfl) rfl ?_
   refine gaq ?_
   refine oS (sA fun b5=>?_) rfl
   refine gab ?_
   refine oS (S.callH (H1:=[]) (F:=[_]) [_] rfl zpr (ih a zo) ?_ (by rintro ch H' ⟨_,nm,h⟩;cases h)) rfl
   rintro lv H' ⟨rfl,z2,h⟩
   cases h
   refine oP (Pure.addW rfl rfl) rfl ?_
   refine gat ?_
   exact ⟨l2.length,_,_,Nat.lt_succ_self _,⟨pre++[a],l2,_,snoc hL,rfl,rfl,rfl⟩,⟨rfl,rfl,rfl,int_eq (by simp),trivial⟩,HSub.nil _,hj2⟩
  clear hc
  refine gaa ?_
  refine rR hj2 (zra rfl) zhn ⟨rfl,_,rfl⟩
def SizeH (B0:Nat) (w0:World) (n:Nat):Prop:=∀ l:List Sm,ndSs l<n→LCalls (KC B0 w0) 23 [.list (l.map encS)] [] SomeN
theorem rsize_spec:∀ n:Nat,n≤100000000→SizeH B0 w0 n
 |0,_=>fun x h=>by omega
 |n+1,hn6=>by
  have ih:=rsize_spec n zo
  have hC:NodesH B0 w0 n:=nodes_spec n zo
  intro l hnd
  have hal:=ndSs_len l
  refine cI Tryz.func23 rfl (n:=48) rfl rfl rfl ?_
  refine gaa ?_
  refine oL (fun kk ls H'=>∃ (pre l1:List Sm) (z:Int),l=pre++l1∧kk=l1.length∧ls=[(3,int .i64 z),(8,.list (l.map encS)),(9,int .i64 ((l.map encS).length:Int)),(10,int .i64 (pre.length:Int))]∧H'=[])
   ⟨_,_,_,⟨[],l,_,rfl,rfl,rfl,rfl⟩,⟨rfl,rfl,rfl,rfl,trivial⟩,HSub.nil _⟩ ?_
  rintro kk ls HA ⟨pre,l1,z,hL,rfl,rfl,rfl⟩ j hj
  have hb:=pre_le hL (show l.length≤100000000 by omega)
  refine gah ?_
  refine oC rfl (fun hc=>?_) (fun hc=>?_)
  rotate_left
  ·clear hc
   refine gaa ?_
   refine rR hj (zra rfl) zhn ⟨rfl,_,rfl⟩
  obtain ⟨a,l2,rfl⟩:=more hL hc
  have ham:=ndSs_part hL
  obtain ⟨kind,name,index,value,thn,els⟩:=a
  rw[ndS] at ham
  have g2:=ndEs_len value
  have g3:=ndEs_len index
  refine gak ?_
  refine oP (xR (el':=.agg [int .i64 kind,str name,.list (index.map encE),.list (value.map encE),.list (thn.map encS),.list (els.map encS)]) (cs:=[_,_,_,_,_,_]) rfl rfl zo (by rw[hL,←encS_mk];exact get_mid encS pre _ l2) rfl rfl) rfl ?_
  refine gac ?_
  refine oS (sA fun b5=>?_) rfl
  refine gac ?_
  refine LCode.midC (A:=Int) (fun z=>[(3,int .i64 z),(5,ptr b5 0),(8,.list (l.map encS)),(9,int .i64 ((l.map encS).length:Int)),(10,int .i64 (pre.length:Int))]) (fun _=>[smH b5 kind name index value thn els]) (fun _=>True) ?_ (fun z5 _ j5 hj5=>?_)
  ·refine LCode.draw (m:=16) rfl [smH b5 kind name index value thn els] ?_
   refine aT 0 rfl rfl (pM (lv:=.atom _) rfl) ?_
   refine aT 1 rfl rfl (pF rfl) ?_
   refine aT 2 rfl rfl (pL (c:=.atom _) rfl zm0 rfl) ?_
   refine aT 3 rfl rfl (Pure.slen rfl) ?_
   refine aT 6 rfl rfl (pF rfl) ?_
   refine aT 7 rfl rfl (pL (c:=.list _) rfl zm0 rfl) ?_
   refine aT 10 rfl rfl (pF rfl) ?_
   refine aT 11 rfl rfl (pL (c:=.list _) rfl zm0 rfl) ?_
   refine aT 4 rfl rfl (Pure.quoW rfl rfl zDd) ?_
   refine aT 5 rfl rfl (Pure.addW rfl rfl) ?_
   refine LAny.late ?_ zhr
   refine zl1 (i:=8) zk ?_
   refine lS (H1:=[]) rfl (.inl rfl) rfl zpr zhr (S.callH (H1:=[]) (F:=[]) [_] rfl zpr (ih thn zo) ?_ (by rintro ch H' ⟨_,nm,h⟩;cases h))
   rintro lv H' ⟨rfl,z1,h⟩
   cases h
   refine LLate.two (i:=9) (j:=12) zk ?_ ?_
   ·refine lH rfl rfl (Pure.addW rfl rfl) ?_
    refine zl1 (i:=12) zk ?_
    refine lS (H1:=[]) rfl (.inl rfl) rfl zpr zhr (S.callH (H1:=[]) (F:=[]) [_] rfl zpr (ih els zo) ?_ (by rintro ch H' ⟨_,nm,h⟩;cases h))
    rintro lv H' ⟨rfl,z2,h⟩
    cases h
    exact zT43
   ·refine lS (H1:=[]) rfl (.inl rfl) rfl zpr zhr (S.callH (H1:=[]) (F:=[]) [_] rfl zpr (ih els zo) ?_ (by rintro ch H' ⟨_,nm,h⟩;cases h))
    rintro lv H' ⟨rfl,z2,h⟩
    cases h
    refine zl1 (i:=9) zk ?_
    refine lH rfl rfl (Pure.addW rfl rfl) ?_
    exact zT43
  refine gau ?_
  refine LCode.draw (m:=9) rfl [smH b5 kind name index value thn els] ?_
  refine aT 1 rfl rfl (pF rfl) ?_
  refine aT 2 rfl rfl (pL (c:=.list _) rfl zm0 rfl) ?_
  refine aT 4 rfl rfl (pF rfl) ?_
  refine aT 5 rfl rfl (pL (c:=.list _) rfl zm0 rfl) ?_
  refine aT 8 rfl rfl (pM (lv:=.atom _) rfl) ?_
  refine LAny.late ?_ zhp
  refine lO 0 (lS (H1:=[]) rfl (.inl rfl) rfl zpr zhp (S.litA (es:=[]) [] rfl eN rfl rfl rfl fun b7=>?_))
  refine lO 3 (lS (H1:=[(b7,.row 0)]) rfl (.inl rfl) rfl zpr zhp (S.acc (F:=[]) rfl Acc.row rfl (encE_len _) (encE_ok _) (by simp;omega) fun v1 H1 h1=>?_))
  refine lO 6 (lS (H1:=H1) rfl (.inl rfl) rfl zpr zhp (S.acc (F:=[]) rfl h1 rfl (encE_len _) (encE_ok _) (by simp;omega) fun v2 H2 h2=>?_))
  have e2:([]++value.map encE++index.map encE:List LV)=(value++index).map encE:=by simp
  rw[e2] at h2
  refine lO 7 (lH rfl rfl (Pure.llen (h2.elems)) ?_)
  refine lD zk ?_
  refine gad ?_
  refine LCode.sub (d:=35) rfl h2.sub ?_
  refine LCode.weak (H':=[smH b5 kind name index value thn els]) ⟨H2,zPc⟩ ?_
  refine oL (fun kk ls H'=>∃ (pre2 l3:List Ex) (z:Int),value++index=pre2++l3∧kk=l3.length∧ls=[(3,int .i64 z),(8,.list (l.map encS)),(9,int .i64 ((l.map encS).length:Int)),(10,int .i64 (pre.length:Int)),(35,.list ((value++index).map encE)),(36,int .i64 (((value++index).map encE).length:Int)),(37,int .i64 (pre2.length:Int))]∧H'=[])
   ⟨_,_,_,⟨[],value++index,_,rfl,rfl,rfl,rfl⟩,⟨rfl,rfl,rfl,rfl,rfl,rfl,rfl,trivial⟩,HSub.nil _⟩ ?_
  rintro kk ls H' ⟨pre2,l3,z3,hL2,rfl,rfl,rfl⟩ j2 hj2
  have hb2:=pre_le hL2 (show (value++index).length≤100000000 by rw[zLa];omega)
  refine gah ?_
  refine oC rfl (fun hc2=>?_) (fun hc2=>?_)
  ·obtain ⟨a,l4,rfl⟩:=more hL2 hc2
   have ham2:=ndEs_part hL2
   rw[ndEs_app] at ham2
   refine gak ?_
   refine oP (xR (el':=encE a) (cs:=[_,_,_,_]) rfl rfl zo (by rw[hL2];exact get_mid encE pre2 a l4) rfl rfl) rfl ?_
   refine gaq ?_
   refine oS (sA fun b7=>?_) rfl
   refine gab ?_
   refine oS (S.callH (H1:=[]) (F:=[_]) [_] rfl zpr (hC a zo) ?_ (by rintro ch H' ⟨_,nm,h⟩;cases h)) rfl
   rintro lv H' ⟨rfl,z4,h⟩
   cases h
   refine oP (Pure.addW rfl rfl) rfl ?_
   refine gat ?_
   exact ⟨l4.length,_,_,Nat.lt_succ_self _,⟨pre2++[a],l4,_,snoc hL2,rfl,rfl,rfl⟩,⟨rfl,rfl,rfl,rfl,rfl,rfl,int_eq (by simp),trivial⟩,HSub.nil _,hj2⟩
  clear hc2
  refine gaa ?_
  exact ⟨l2.length,_,_,Nat.lt_succ_self _,⟨pre++[Sm.mk kind name index value thn els],l2,_,snoc hL,rfl,rfl,rfl⟩,⟨rfl,rfl,rfl,int_eq (by simp),trivial⟩,HSub.nil _,hj2.trans (hj5.trans hj)⟩
end
end Go.Proofs.YtpbbgkoalnonoaaGreatDoor.RC
namespace Go.Proofs.YtpbbgkoalnonoaaGreatDoor.RC
open Go.GL Go.RowKit Go.Stele
open Chk (encPrG encArG)
attribute [local irreducible] LOps LCode LStep LCalls Go.GL.Pure QThen QBlock RetPost LQ LAny LLate LLateOp LS
section
variable {B0:Nat} {w0:World}
theorem rsizeP_spec (vars:List Nm) (arrays:List (Nm×Int)) (fs:List FnD) (hv6:vars.length≤2000000) (ha6:arrays.length≤2000000) (hf6:fs.length≤2000000) (hsm:∀ f∈fs,SmF f) (hbd:∀ f∈fs,ndSs f.body<100000000) :
  LCalls (KC B0 w0) 9 [encPrG vars arrays fs] [] SomeN:=by
 unfold encPrG
 refine cI Tryz.func9 rfl (n:=92) rfl rfl rfl ?_
 refine gaf ?_
 refine oS (S.box rfl fun b1=>?_) rfl
 refine gaa ?_
 refine oP (Pure.addW rfl rfl) rfl ?_
 refine gaa ?_
 refine oL (fun kk ls H'=>∃ (pre l1:List Nm) (z:Int),vars=pre++l1∧kk=l1.length∧ls=[(1,ptr b1 0),(3,int .i64 z),(20,.list (vars.map str)),(21,int .i64 ((vars.map str).length:Int)),(22,int .i64 (pre.length:Int))]∧H'=[(b1,.cells 26 [.list (vars.map str),.list (arrays.map encArG),.list (fs.map encFn)])])
  ⟨_,_,_,⟨[],vars,_,rfl,rfl,rfl,rfl⟩,⟨rfl,rfl,rfl,rfl,rfl,trivial⟩,zhR _⟩ ?_
 rintro kk ls H' ⟨pre,l1,z,hL,rfl,rfl,rfl⟩ j hj
 have hb:=pre_le hL hv6
 refine gah ?_
 refine oC rfl (fun hc=>?_) (fun hc=>?_)
 ·obtain ⟨a,l2,rfl⟩:=more hL hc
  refine gak ?_
  refine oP (xR (el':=str a) (cs:=[_]) rfl rfl zo (by rw[hL];exact get_mid str pre a l2) rfl rfl) rfl ?_
  refine gab ?_
  refine oP (Pure.quoW rfl rfl zDd) rfl ?_
  refine oP (Pure.addW rfl rfl) rfl ?_
  refine gat ?_
  exact ⟨l2.length,_,_,Nat.lt_succ_self _,⟨pre++[a],l2,_,snoc hL,rfl,rfl,rfl⟩,⟨rfl,rfl,rfl,rfl,int_eq (by simp),trivial⟩,zhR _,hj⟩
 clear hc
 refine gaa ?_
 refine oL (fun kk ls H'=>∃ (pre l1:List (Nm×Int)) (z:Int),arrays=pre++l1∧kk=l1.length∧ls=[(1,ptr b1 0),(3,int .i64 z),(33,.list (arrays.map encArG)),(34,int .i64 ((arrays.map encArG).length:Int)),(35,int .i64 (pre.length:Int))]∧H'=[(b1,.cells 26 [.list (vars.map str),.list (arrays.map encArG),.list (fs.map encFn)])])
  ⟨_,_,_,⟨[],arrays,_,rfl,rfl,rfl,rfl⟩,⟨rfl,rfl,rfl,rfl,rfl,trivial⟩,zhR _⟩ ?_
 rintro kk ls H' ⟨pre3,l1,z3,hL3,rfl,rfl,rfl⟩ j3 hj3
 have hb3:=pre_le hL3 ha6
 refine gah ?_
 refine oC rfl (fun hc=>?_) (fun hc=>?_)
 ·obtain ⟨a,l2,rfl⟩:=more hL3 hc
  refine gak ?_
  refine oP (xR (el':=encArG a) (cs:=[_,_]) rfl rfl zo (by rw[hL3];exact get_mid encArG pre3 a l2) rfl rfl) rfl ?_
  refine gac ?_
  refine oS (sA fun b5=>?_) rfl
  refine gab ?_
  refine oP (Pure.quoW rfl rfl zDd) rfl ?_
  refine oP (Pure.addW rfl rfl) rfl ?_
  refine gat ?_
  exact ⟨l2.length,_,_,Nat.lt_succ_self _,⟨pre3++[a],l2,_,snoc hL3,rfl,rfl,rfl⟩,⟨rfl,rfl,rfl,rfl,int_eq (by simp),trivial⟩,zhD zhr,hj3⟩
 clear hc
 refine gaa ?_
 refine oL (fun kk ls H'=>∃ (pre l1:List FnD) (z:Int),fs=pre++l1∧kk=l1.length∧ls=[(3,int .i64 z),(47,.list (fs.map encFn)),(48,int .i64 ((fs.map encFn).length:Int)),(49,int .i64 (pre.length:Int))]∧H'=[])
  ⟨_,_,_,⟨[],fs,_,rfl,rfl,rfl,rfl⟩,⟨rfl,rfl,rfl,rfl,trivial⟩,HSub.nil _⟩ ?_
 rintro kk ls H' ⟨pre4,l1,z4,hL4,rfl,rfl,rfl⟩ j4 hj4
 have hb4:=pre_le hL4 hf6
 refine gah ?_
 refine oC rfl (fun hc=>?_) (fun hc=>?_)
 rotate_left
 ·clear hc
  refine gaa ?_
  refine rR (hj4.trans (hj3.trans hj)) (zra rfl) zhn ⟨rfl,_,rfl⟩
 obtain ⟨f,l2,rfl⟩:=more hL4 hc
 have hfm:f∈fs:=by rw[hL4];exact List.mem_append_right _ zMs
 have hp6:f.params.length≤2000000:=(hsm f hfm).params
 have hl6:f.locals.length≤2000000:=(hsm f hfm).locals
 have hbz:=rsize_spec (B0:=B0) (w0:=w0) 100000000 (zNr _) f.body (hbd f hfm)
 refine gak ?_
 refine oP (xR (el':=encFn f) (cs:=[_,_,_,_]) rfl rfl zo (by rw[hL4];exact get_mid encFn pre4 f l2) rfl rfl) rfl ?_
 refine gaq ?_
 refine oS (sA fun b7=>?_) rfl
 refine gac ?_
 refine LCode.draw (m:=20) rfl [fnH b7 f] ?_
 refine aT 0 rfl rfl (pM (lv:=.atom _) rfl) ?_
 refine aT 1 rfl rfl (pF rfl) ?_
 refine aT 2 rfl rfl (pL (c:=.atom _) rfl zm0 rfl) ?_
 refine aT 3 rfl rfl (Pure.slen rfl) ?_
 refine aT 4 rfl rfl (Pure.quoW rfl rfl zDd) ?_
 refine aT 5 rfl rfl (Pure.addW rfl rfl) ?_
 refine aT 6 rfl rfl (pF rfl) ?_
 refine aT 7 rfl rfl (pL (c:=.list _) rfl zm0 rfl) ?_
 refine aT 8 rfl rfl (Pure.llen rfl) ?_
 refine aT 9 rfl rfl (Pure.addW rfl rfl) ?_
 refine aT 10 rfl rfl (pF rfl) ?_
 refine aT 11 rfl rfl (pL (c:=.list _) rfl zm0 rfl) ?_
 refine aT 12 rfl rfl (Pure.llen rfl) ?_
 refine aT 13 rfl rfl (Pure.addW rfl rfl) ?_
 refine aT 14 rfl rfl (pF rfl) ?_
 refine aT 15 rfl rfl (pL (c:=.list _) rfl zm0 rfl) ?_
 refine LAny.late ?_ zhr
 refine lO 16 (lS (H1:=[]) rfl (.inl rfl) rfl zpr zhr (S.callH (H1:=[]) (F:=[]) [_] rfl zpr hbz ?_ (by rintro ch H' ⟨_,nm,h⟩;cases h)))
 rintro lv H' ⟨rfl,z1,h⟩
 cases h
 refine lO 17 (lH rfl rfl (Pure.addW rfl rfl) ?_)
 refine lO 18 (lH rfl rfl (Pure.addW rfl rfl) ?_)
 refine lO 19 (lH rfl rfl (pA (lv:=.atom _) rfl) ?_)
 refine lD zk ?_
 refine gad ?_
 refine LCode.draw (m:=9) rfl [fnH b7 f] ?_
 refine aT 1 rfl rfl (pF rfl) ?_
 refine aT 2 rfl rfl (pL (c:=.list _) rfl zm0 rfl) ?_
 refine aT 4 rfl rfl (pF rfl) ?_
 refine aT 5 rfl rfl (pL (c:=.list _) rfl zm0 rfl) ?_
 refine aT 8 rfl rfl (pM (lv:=.atom _) rfl) ?_
 refine LAny.late ?_ zhp
 refine lO 0 (lS (H1:=[]) rfl (.inl rfl) rfl zpr zhp (S.litA (es:=[]) [] rfl eN rfl rfl rfl fun b9=>?_))
 refine lO 3 (lS (H1:=[(b9,.row 0)]) rfl (.inl rfl) rfl zpr zhp (S.acc (F:=[]) rfl Acc.row rfl (strs_len _) (strs_ok _) (by simp;omega) fun v1 H1 h1=>?_))
 refine lO 6 (lS (H1:=H1) rfl (.inl rfl) rfl zpr zhp (S.acc (F:=[]) rfl h1 rfl (strs_len _) (strs_ok _) (by simp;omega) fun v2 H2 h2=>?_))
 have e2:([]++f.params.map str++f.locals.map str:List LV)=(f.params++f.locals).map str:=by simp
 rw[e2] at h2
 refine lO 7 (lH rfl rfl (Pure.llen (h2.elems)) ?_)
 refine lD zk ?_
 refine gad ?_
 refine LCode.sub (d:=78) rfl h2.sub ?_
 refine LCode.weak (H':=[]) zhn ?_
 refine oL (fun kk ls H'=>∃ (pre l1:List Nm) (z:Int),f.params++f.locals=pre++l1∧kk=l1.length∧ls=[(3,int .i64 z),(47,.list (fs.map encFn)),(48,int .i64 ((fs.map encFn).length:Int)),(49,int .i64 (pre4.length:Int)),(78,.list ((f.params++f.locals).map str)),(79,int .i64 (((f.params++f.locals).map str).length:Int)),(80,int .i64 (pre.length:Int))]∧H'=[])
  ⟨_,_,_,⟨[],f.params++f.locals,_,rfl,rfl,rfl,rfl⟩,⟨rfl,rfl,rfl,rfl,rfl,rfl,rfl,trivial⟩,HSub.nil _⟩ ?_
 rintro kk ls H' ⟨pre5,l5,z5,hL5,rfl,rfl,rfl⟩ j5 hj5
 have hb5:=pre_le hL5 (show (f.params++f.locals).length≤4000000 by rw[zLa];omega)
 refine gah ?_
 refine oC rfl (fun hd=>?_) (fun hd=>?_)
 ·obtain ⟨a,l6,rfl⟩:=more hL5 hd
  refine gak ?_
  refine oP (xR (el':=str a) (cs:=[_]) rfl rfl zo (by rw[hL5];exact get_mid str pre5 a l6) rfl rfl) rfl ?_
  refine gab ?_
  refine oP (Pure.quoW rfl rfl zDd) rfl ?_
  refine oP (Pure.addW rfl rfl) rfl ?_
  refine gat ?_
  exact ⟨l6.length,_,_,Nat.lt_succ_self _,⟨pre5++[a],l6,_,snoc hL5,rfl,rfl,rfl⟩,⟨rfl,rfl,rfl,rfl,rfl,rfl,int_eq (by simp),trivial⟩,HSub.nil _,hj5⟩
 clear hd
 refine gaa ?_
 exact ⟨l2.length,_,_,Nat.lt_succ_self _,⟨pre4++[f],l2,_,snoc hL4,rfl,rfl,rfl⟩,⟨rfl,rfl,rfl,int_eq (by simp),trivial⟩,HSub.nil _,hj5.trans hj4⟩
end
end Go.Proofs.YtpbbgkoalnonoaaGreatDoor.RC
namespace Go.Proofs.YtpbbgkoalnonoaaGreatDoor.Cmp
open Go.GL Go.RowKit Go.Stele
open Go.Lib (decDigits itoa join)
attribute [local irreducible] LOps LCode LStep LCalls Go.GL.Pure QThen QBlock RetPost LQ LAny LLate LLateOp LS
section
variable {B0:Nat} {w0:World}
theorem cassembly_walk (hG:GW B0 w0) (hM:Asm.GM w0) (vars:List Nm) (arrays:List (Nm×Int)) (fs:List FnD) (o:Org) (hv6:vars.length≤2000000) (ha6:arrays.length≤2000000) (har:∀ a∈arrays,I64 a.2) (hnd:ndFs fs≤2000000) (hnum:∀ f∈fs,numSs f.body) (o1:I64 o.code) (o2:I64 o.scalars) (o3:I64 o.arrays) :
  LCalls (KC B0 w0) 3 [Chk.encPrG vars arrays fs,orgLV o] [] (Ret (bool true)):=by
 have haw:=awake_spec (B0:=B0) (w0:=w0) hG hM
 have hf6:=ndFs_len fs
 have hsm:∀ f∈fs,SmF f:=fun f hf=>smF_of (by have:=ndFs_mem hf;omega)
 have hsz:=RC.rsizeP_spec (B0:=B0) (w0:=w0) vars arrays fs hv6 ha6 zo hsm (fun f hf=>by
  have h1:=ndFs_mem hf
  unfold ndF at h1
  omega)
 have hcp:=compile_spec (B0:=B0) (w0:=w0) hG hM vars arrays fs o hv6 ha6 har hnd hnum o1 o2 o3
 have hrc:=R23.rcompile_spec (B0:=B0) (w0:=w0) vars arrays fs o hv6 ha6 har hnd hnum o1 o2 o3
 generalize cmpP vars arrays fs o=R at hcp hrc
 obtain ⟨t,e,hR⟩:∃ (t:List UInt8) (e:Int),cmpLV R=.tuple [str t,int .i64 e]:=by
  cases R with
  |error e=>exact ⟨[],e,rfl⟩
  |ok t=>exact ⟨t,0,rfl⟩
 rw[hR] at hcp hrc
 have ePr:Chk.encPrG vars arrays fs=.agg [.list (vars.map str),.list (arrays.map Chk.encArG),.list (fs.map encFn)]:=rfl
 have eOr:orgLV o=.agg [int .i64 o.code,int .i64 o.scalars,int .i64 o.arrays]:=rfl
 rw[ePr,eOr]
 rw[ePr] at hsz
 rw[ePr,eOr] at hcp hrc
 refine cI Tryz.func3 rfl (n:=36) rfl rfl rfl ?_
 refine gaf ?_
 refine oS (S.box rfl fun b2=>?_) rfl
 refine oS (S.box rfl fun b3=>?_) rfl
 refine gab ?_
 refine oS (S.callH (H1:=[]) (F:=[_,_]) [_] rfl zpr hsz ?_ (by rintro ch H' ⟨_,nm,h⟩;cases h)) rfl
 rintro lv H' ⟨rfl,z,h⟩
 cases h
 refine gac ?_
 refine oC rfl (fun _=>?_) (fun _=>?_)
 ·refine gaf ?_
  refine oS (sF [] rfl haw ?_) rfl
  refine gae ?_
  exact retRet rfl (zra rfl) rfl
 refine gab ?_
 refine oS (sF [_,_] rfl hcp ?_) rfl
 refine gab ?_
 refine oS (sF [_,_] rfl hrc ?_) rfl
 refine gaa ?_
 refine oB 28 rfl (fun _=>?_) (fun h=>absurd rfl (zf h))
 refine gan ?_
 refine oB 33 rfl (fun _=>?_) (fun h=>absurd rfl (zf h))
 refine gam ?_
 refine oS (sF [] rfl haw ?_) rfl
 refine gad ?_
 exact retRet rfl (zra rfl) rfl
end
end Go.Proofs.YtpbbgkoalnonoaaGreatDoor.Cmp
