/- Texts joined: ChkW3, GlMax, ChkW4, ChkW5, ChkW6, ChkW7, GlStr, InpY1, ChkW8. -/
import Derived.Deep.WholeRow
import Derived.Lib.Builder
import Derived.Lib.AppendStr
import Derived.KernelRfl
import Derived.Test.YtegmklafpoldgaaGreatDoorBRowPU3
import Derived.Test.YtegmklafpoldgaaGreatDoorBRowPU5
set_option linter.unusedVariables false
set_option linter.unusedSimpArgs false
set_option maxRecDepth 100000
set_option maxHeartbeats 4000000
namespace Go.Proofs.YtegmklafpoldgaaGreatDoor.Chk
open Go.GL Go.RowKit Go.Stele
def vio (nm:List UInt8) (e:Int):List PanicEntry:=[{ v:=.iface 99 (.agg #[.string ⟨nm.toArray⟩,.int .i64 e]),recovered:=false }]
def chkN:Nat→List UInt8→Bool
 |_,[]=>true
 |i,c::r=>(if i=0 then isLetter c else isInner c) && chkN (i+1) r
theorem chkN_inner:∀ (r:List UInt8) (i:Nat),i≠0→chkN i r=r.all isInner
 |[],_,_=>rfl
 |c::r,i,h=>by rw[chkN,if_neg h,chkN_inner r (i+1) zo];rfl
theorem isNm_eq {s:List UInt8} (h0:s≠[]) (h1:s.length≤24) (h2:noName.contains s=false):isNm s=chkN 0 s:=by
 unfold isNm
 rw[decide_eq_true h1,h2]
 cases s with
 |nil=>exact absurd rfl h0
 |cons c r=>
  rw[chkN,if_pos rfl,chkN_inner r 1 zDd]
  rfl
theorem noName_eq (s:List UInt8):noName.contains s=(keywords.contains s || decide (s=[105,110]) || decide (s=[111,117,116])):=by
 have h:noName.contains s=(keywords.contains s || (decide (s=[105,110]) || decide (s=[111,117,116]))):=by
  unfold noName
  rw[Bool.eq_iff_iff]
  simp
 rw[h,Bool.or_assoc]
instance:TMap Tryz.prog 64 3 (.int .i64 0) (int .i64 0):=⟨⟨9,by kernel_rfl,by kernel_rfl⟩,fun w=>(Go.zero_of_info (P:=Tryz.prog) (n:=1) zk).1 w,fun _ _=>rep_atom⟩
instance:TMap Tryz.prog 102 4 (.bool false) (bool false):=⟨⟨9,by kernel_rfl,by kernel_rfl⟩,fun w=>(Go.zero_of_info (P:=Tryz.prog) (n:=1) zk).1 w,fun _ _=>rep_atom⟩
instance:TMap Tryz.prog 103 176 (.agg [.int .i64 0,.int .i64 0,.int .i64 0].toArray) (.agg ([.int .i64 0,.int .i64 0,.int .i64 0].map .atom)):=⟨⟨9,by kernel_rfl,by kernel_rfl⟩,fun w=>(Go.zero_of_info (P:=Tryz.prog) (n:=3) zk).1 w,fun w L=>rep_aggs w L _⟩
def opKV:KV:=[([110,117,109],int .i64 0),([118,97,114],int .i64 0),([101,108,101,109],int .i64 1),([110,101,103],int .i64 1),([110,111,116],int .i64 1),([99,97,108,108],int .i64 (-1)),([124,124],int .i64 2),([38,38],int .i64 2),([61,61],int .i64 2),([33,61],int .i64 2),([60],int .i64 2),([62],int .i64 2),([60,61],int .i64 2),([62,61],int .i64 2),([94],int .i64 2),([43],int .i64 2),([45],int .i64 2),([42],int .i64 2),([47],int .i64 2),([37],int .i64 2)]
theorem opKV_get (op:List UInt8):GL.kvGet opKV op=if opnds op = -2 then none else some (int .i64 (opnds op)):=by
 have key:∀ x∈[[110,117,109],[118,97,114],[101,108,101,109],[110,101,103],[110,111,116],[99,97,108,108],[124,124],[38,38],[61,61],[33,61],[60],[62],[60,61],[62,61],[94],[43],[45],[42],[47],[37]],GL.kvGet opKV x=if opnds x = -2 then none else some (int .i64 (opnds x)):=by
  intro x hx
  simp only[zMi,List.not_mem_nil,or_false] at hx
  rcases hx with rfl|rfl|rfl|rfl|rfl|rfl|rfl|rfl|rfl|rfl|rfl|rfl|rfl|rfl|rfl|rfl|rfl|rfl|rfl|rfl <;> rfl
 by_cases h:op∈[[110,117,109],[118,97,114],[101,108,101,109],[110,101,103],[110,111,116],[99,97,108,108],[124,124],[38,38],[61,61],[33,61],[60],[62],[60,61],[62,61],[94],[43],[45],[42],[47],[37]]
 ·exact key op h
 ·simp only[zMi,List.not_mem_nil,or_false,not_or] at h
  have h2:opnds op = -2:=by
   obtain ⟨a1,a2,a3,a4,a5,a6,a7,a8,a9,a10,a11,a12,a13,a14,a15,a16,a17,a18,a19,a20⟩:=h
   unfold opnds
   rw[if_neg (fun h=>h.elim a1 a2),if_neg (fun h=>h.elim a3 (fun h=>h.elim a4 a5)),if_neg (show ¬ op=nCall from a6),if_neg]
   unfold binOps
   simp only[zMi,List.not_mem_nil,or_false,not_or]
   exact ⟨a7,a8,a9,a10,a11,a12,a13,a14,a15,a16,a17,a18,a19,a20⟩
  rw[if_pos h2]
  obtain ⟨a1,a2,a3,a4,a5,a6,a7,a8,a9,a10,a11,a12,a13,a14,a15,a16,a17,a18,a19,a20⟩:=h
  unfold opKV
  simp only[GL.kvGet]
  rw[if_neg (Ne.symm a1),if_neg (Ne.symm a2),if_neg (Ne.symm a3),if_neg (Ne.symm a4),if_neg (Ne.symm a5),if_neg (Ne.symm a6),if_neg (Ne.symm a7),if_neg (Ne.symm a8),if_neg (Ne.symm a9),if_neg (Ne.symm a10),if_neg (Ne.symm a11),if_neg (Ne.symm a12),if_neg (Ne.symm a13),if_neg (Ne.symm a14),if_neg (Ne.symm a15),if_neg (Ne.symm a16),if_neg (Ne.symm a17),if_neg (Ne.symm a18),if_neg (Ne.symm a19),if_neg (Ne.symm a20)]
attribute [local irreducible] LOps LCode LStep LCalls Go.GL.Pure QThen QBlock RetPost LQ LAny LLate LLateOp LS
section
variable {B0:Nat} {w0:World} {H:Heap}
theorem require_spec (b:Bool) (nm:List UInt8) (e:Int):LCalls (KC B0 w0) 92 [bool b,str nm,int .i64 e] H (fun r H'=>H'=H∧r=if b=true then .ret (.tuple []) else .panic (vio nm e)):=by
 refine cI Tryz.func92 rfl (n:=12) rfl rfl rfl ?_
 refine ggq ?_
 refine oC rfl (fun hc=>?_) (fun hc=>?_)
 ·have hb:b=false:=by simpa using hc
  subst hb
  refine gdq ?_
  refine oS (LStep.panic rfl fun e' he'=>?_) rfl
  exact RetPost.panic (he'.trans rfl) zhr ⟨rfl,rfl⟩
 ·have hb:b=true:=by simpa using hc
  subst hb
  refine gcb ?_
  exact rO rfl rN zhr ⟨rfl,rfl⟩
theorem operands_spec (op:List UInt8):LCalls (KC B0 w0) 235 [str op] [] (Ret (int .i64 (opnds op))):=by
 refine cI Tryz.func235 rfl (n:=15) rfl rfl rfl ?_
 refine ga1 ?_
 refine oS (S.kvNew fun om=>?_) rfl
 refine oS (S.kvInsE (m:=opKV.take 0) (k:=[110,117,109]) (lv:=int .i64 (0)) (opKV.take 1) rfl rfl rfl pH zk fun c0=>?_) rfl
 refine oS (S.kvInsE (m:=opKV.take 1) (k:=[118,97,114]) (lv:=int .i64 (0)) (opKV.take 2) rfl rfl rfl pH zk fun c1=>?_) rfl
 refine oS (S.kvInsE (m:=opKV.take 2) (k:=[101,108,101,109]) (lv:=int .i64 (1)) (opKV.take 3) rfl rfl rfl pH zk fun c2=>?_) rfl
 refine oS (S.kvInsE (m:=opKV.take 3) (k:=[110,101,103]) (lv:=int .i64 (1)) (opKV.take 4) rfl rfl rfl pH zk fun c3=>?_) rfl
 refine oS (S.kvInsE (m:=opKV.take 4) (k:=[110,111,116]) (lv:=int .i64 (1)) (opKV.take 5) rfl rfl rfl pH zk fun c4=>?_) rfl
 refine oS (S.kvInsE (m:=opKV.take 5) (k:=[99,97,108,108]) (lv:=int .i64 (-1)) (opKV.take 6) rfl rfl rfl pH zk fun c5=>?_) rfl
 refine oS (S.kvInsE (m:=opKV.take 6) (k:=[124,124]) (lv:=int .i64 (2)) (opKV.take 7) rfl rfl rfl pH zk fun c6=>?_) rfl
 refine oS (S.kvInsE (m:=opKV.take 7) (k:=[38,38]) (lv:=int .i64 (2)) (opKV.take 8) rfl rfl rfl pH zk fun c7=>?_) rfl
 refine oS (S.kvInsE (m:=opKV.take 8) (k:=[61,61]) (lv:=int .i64 (2)) (opKV.take 9) rfl rfl rfl pH zk fun c8=>?_) rfl
 refine oS (S.kvInsE (m:=opKV.take 9) (k:=[33,61]) (lv:=int .i64 (2)) (opKV.take 10) rfl rfl rfl pH zk fun c9=>?_) rfl
 refine oS (S.kvInsE (m:=opKV.take 10) (k:=[60]) (lv:=int .i64 (2)) (opKV.take 11) rfl rfl rfl pH zk fun c10=>?_) rfl
 refine oS (S.kvInsE (m:=opKV.take 11) (k:=[62]) (lv:=int .i64 (2)) (opKV.take 12) rfl rfl rfl pH zk fun c11=>?_) rfl
 refine oS (S.kvInsE (m:=opKV.take 12) (k:=[60,61]) (lv:=int .i64 (2)) (opKV.take 13) rfl rfl rfl pH zk fun c12=>?_) rfl
 refine oS (S.kvInsE (m:=opKV.take 13) (k:=[62,61]) (lv:=int .i64 (2)) (opKV.take 14) rfl rfl rfl pH zk fun c13=>?_) rfl
 refine oS (S.kvInsE (m:=opKV.take 14) (k:=[94]) (lv:=int .i64 (2)) (opKV.take 15) rfl rfl rfl pH zk fun c14=>?_) rfl
 refine oS (S.kvInsE (m:=opKV.take 15) (k:=[43]) (lv:=int .i64 (2)) (opKV.take 16) rfl rfl rfl pH zk fun c15=>?_) rfl
 refine oS (S.kvInsE (m:=opKV.take 16) (k:=[45]) (lv:=int .i64 (2)) (opKV.take 17) rfl rfl rfl pH zk fun c16=>?_) rfl
 refine oS (S.kvInsE (m:=opKV.take 17) (k:=[42]) (lv:=int .i64 (2)) (opKV.take 18) rfl rfl rfl pH zk fun c17=>?_) rfl
 refine oS (S.kvInsE (m:=opKV.take 18) (k:=[47]) (lv:=int .i64 (2)) (opKV.take 19) rfl rfl rfl pH zk fun c18=>?_) rfl
 refine oS (S.kvInsE (m:=opKV.take 19) (k:=[37]) (lv:=int .i64 (2)) (opKV.take 20) rfl rfl rfl pH zk fun c19=>?_) rfl
 refine LOps.weak (H':=[(om,.map (kvs opKV) c19)]) zhr ?_
 refine gat ?_
 have hg:=opKV_get op
 by_cases h0:opnds op = -2
 ·rw[if_pos h0] at hg
  refine oP (Pure.kvMiss2 rfl rfl zm0 (show GL.kvGet opKV op=none from hg)) rfl ?_
  refine gcc ?_
  refine oC rfl (fun _=>?_) (fun hc=>by cases hc)
  refine gaf ?_
  exact rR rfl (zra rfl) zhn ⟨by rw[h0];rfl,rfl⟩
 ·rw[if_neg h0] at hg
  refine oP (Pure.kvHit2 rfl rfl zm0 (show GL.kvGet opKV op=some (int .i64 (opnds op)) from hg)) rfl ?_
  refine gcc ?_
  refine oC rfl (fun hc=>by cases hc) (fun _=>?_)
  refine gcn ?_
  exact rR rfl (zra rfl) zhn ⟨rfl,rfl⟩
theorem isName_spec (s:List UInt8):LCalls (KC B0 w0) 153 [str s] [] (Ret (bool (isNm s))):=by
 refine cI Tryz.func153 rfl (n:=65) rfl rfl rfl ?_
 refine gdr ?_
 have retF:∀ (h:isNm s=false) {e:Env} {C:Ctx} {n:Nat},e.ds=[]→e.s 2=bool false→RetPost C n [ResultVar.tmp 2] (Ret (bool (isNm s))) .ret e []:=fun h {e C n} hd he=>by
  rw[h]
  exact retRet hd (rC (rT he zsr) rN) rfl
 refine oB 7 rfl (fun h1=>?_) (fun h1=>?_)
 ·have h0:s=[]:=zt h1
  refine gbc ?_
  refine oC rfl (fun _=>?_) (fun hc=>by cases hc)
  refine gaf ?_
  exact retF (by rw[h0];rfl) rfl rfl
 have h0:s≠[]:=zf h1
 refine gds ?_
 refine oB 12 rfl (fun h2=>?_) (fun h2=>?_)
 ·have hl:24<s.length:=by
   have:=zt h2
   omega
  refine gbc ?_
  refine oC rfl (fun _=>?_) (fun hc=>by cases hc)
  refine gaf ?_
  exact retF (by unfold isNm;rw[decide_eq_false zo];rfl) rfl rfl
 have hl:s.length≤24:=by
  have:=zf h2
  omega
 refine gct ?_
 refine oB 16 rfl (fun h3=>?_) (fun h3=>?_)
 ·have h4:s=[105,110]:=zt h3
  refine gbc ?_
  refine oC rfl (fun _=>?_) (fun hc=>by cases hc)
  refine gaf ?_
  exact retF (by rw[h4];rfl) rfl rfl
 refine gct ?_
 refine oB 20 rfl (fun h5=>?_) (fun h5=>?_)
 ·have h4:s=[111,117,116]:=zt h5
  refine gbg ?_
  refine oC rfl (fun _=>?_) (fun hc=>by cases hc)
  refine gaf ?_
  exact retF (by rw[h4];rfl) rfl rfl
 refine gcu ?_
 refine oS (sF [] rfl Keywords_spec ?_) rfl
 refine gaj ?_
 refine oS (sF [_,_] rfl (Contains_spec keywords s zDd) ?_) rfl
 refine ggr ?_
 have hnn:=noName_eq s
 rw[h3,h5,Bool.or_false,Bool.or_false] at hnn
 refine oC rfl (fun hk=>?_) (fun hk=>?_)
 ·have hk':keywords.contains s=true:=hk
  refine gaf ?_
  exact retF (by
   unfold isNm
   rw[hnn,hk',Bool.not_true,Bool.and_false,Bool.false_and]) rfl rfl
 have hk':keywords.contains s=false:=hk
 rw[hk'] at hnn
 have heq:=isNm_eq h0 hl hnn
 refine ggs ?_
 refine oL (fun k ls H'=>∃ pre l1,s=pre++l1∧k=l1.length∧ls=[(0,str s),(26,int .i64 (s.length:Int)),(27,int .i64 (pre.length:Int))]∧H'=[]∧isNm s=chkN pre.length l1)
  ⟨s.length,_,_,⟨[],s,rfl,rfl,rfl,rfl,heq⟩,⟨rfl,rfl,rfl,trivial⟩,zhR _⟩ ?_
 rintro k ls H' ⟨pre,l1,hLe,rfl,rfl,rfl,hI⟩ j hj
 have hb2:pre.length≤24:=by
  rw[hLe,zLa] at hl
  omega
 refine gae ?_
 refine oC rfl (fun hc=>?_) (fun hc=>?_)
 rotate_left
 ·have hlen:=zf hc
  rw[hLe,zLa] at hlen
  obtain rfl:l1=[]:=by
   cases l1 with
   |nil=>rfl
   |cons a l2=>simp at hlen;omega
  refine gbw ?_
  exact retRet hj (zra rfl) (by rw[hI];rfl)
 have hlen:=zt hc
 rw[hLe,zLa] at hlen
 obtain ⟨a,l2,rfl⟩:∃ a l2,l1=a::l2:=by
  cases l1 with
  |nil=>simp at hlen
  |cons a l2=>exact ⟨a,l2,rfl⟩
 have hget:s[((pre.length:Nat):Int).toNat]? = some a:=by
  rw[Int.toNat_natCast,hLe,List.getElem?_append_right (zNr _),Nat.sub_self]
  rfl
 rw[chkN] at hI
 have next:∀ {e:Env} {ds:List Deferred} (h:(if pre.length=0 then isLetter a else isInner a)=true),e.ds=ds→e.s 0=str s→e.s 26=int .i64 (s.length:Int)→e.s 27=int .i64 ((pre.length:Int)+1)→Again (fun k ls H'=>∃ pre l1,s=pre++l1∧k=l1.length∧ls=[(0,str s),(26,int .i64 (s.length:Int)),(27,int .i64 (pre.length:Int))]∧H'=[]∧isNm s=chkN pre.length l1) (a::l2).length ds e []:=fun {e ds} h hd e0 e26 e27=>by
  rw[h,Bool.true_and] at hI
  exact ⟨l2.length,_,_,Nat.lt_succ_self _,⟨pre++[a],l2,by rw[hLe];simp,rfl,rfl,rfl,by rw[hI,zLa];rfl⟩,⟨e0,e26,e27.trans (int_eq (by simp)),trivial⟩,zhR _,hd⟩
 refine gdt ?_
 refine oP (pI (c:=a) rfl rfl zo hget) rfl ?_
 refine ggt ?_
 refine LOps.cut [(0,str s),(3,int .i64 (pre.length:Int)),(4,bool (isLetter a)),(26,int .i64 (s.length:Int)),(27,int .i64 (pre.length:Int))] ?_ (fun j2 hj2=>?_)
 ·refine oB 34 rfl (fun h6=>?_) (fun h6=>?_)
  ·refine gaj ?_
   refine oP (pI (c:=a) rfl rfl zo hget) rfl ?_
   refine ggu ?_
   exact ⟨⟨rfl,rfl,bool_eq (by unfold isLetter;rw[show decide (97≤cv a)=true from h6,Bool.true_and]),rfl,rfl,trivial⟩,rfl,rfl⟩
  ·refine ggv ?_
   exact ⟨⟨rfl,rfl,bool_eq (by unfold isLetter;rw[show decide (97≤cv a)=false from h6,Bool.false_and]),rfl,rfl,trivial⟩,rfl,rfl⟩
 refine gbn ?_
 refine oB 42 rfl (fun h7=>?_) (fun h7=>?_)
 rotate_left
 ·have hl1:isLetter a=true:=by simpa using h7
  refine gdu ?_
  refine oC rfl (fun hc=>by cases hc) (fun _=>?_)
  refine gax ?_
  refine next ?_ ?_ ?_ ?_ ?_
  ·rw[hl1];unfold isInner;rw[hl1];split <;> rfl
  ·exact hj2.trans hj
  ·rfl
  ·rfl
  ·rfl
 have hl0:isLetter a=false:=by simpa using h7
 refine ggw ?_
 refine oB 45 rfl (fun h8=>?_) (fun h8=>?_)
 ·have hp0:pre.length=0:=by have:=zt h8;omega
  refine ggx ?_
  refine oC rfl (fun _=>?_) (fun hc=>by cases hc)
  refine ga2 ?_
  exact retF (by rw[hI,if_pos hp0,hl0,Bool.false_and]) (hj2.trans hj) rfl
 have hp0:¬ pre.length=0:=by have:=zf h8;omega
 rw[if_neg hp0] at hI
 refine gaj ?_
 refine oP (pI (c:=a) rfl rfl zo hget) rfl ?_
 refine ggy ?_
 refine oB 50 rfl (fun h9=>?_) (fun h9=>?_)
 rotate_left
 ·have h95:decide (cv a=95)=true:=by simpa using h9
  refine ggz ?_
  refine oC rfl (fun hc=>by cases hc) (fun _=>?_)
  refine gax ?_
  refine next ?_ ?_ ?_ ?_ ?_
  ·rw[if_neg hp0];unfold isInner;rw[h95,Bool.or_true]
  ·exact hj2.trans hj
  ·rfl
  ·rfl
  ·rfl
 have h95:decide (cv a=95)=false:=by simpa using h9
 refine gaj ?_
 refine oP (pI (c:=a) rfl rfl zo hget) rfl ?_
 refine gg0 ?_
 refine oB 55 rfl (fun h10=>?_) (fun h10=>?_)
 ·have h48:decide (48≤cv a)=false:=by
   have:cv a<48:=zt h10
   exact decide_eq_false zo
  refine gdv ?_
  refine oC rfl (fun _=>?_) (fun hc=>by cases hc)
  refine ga2 ?_
  exact retF (by rw[hI];unfold isInner isDigit;rw[hl0,h95,h48];rfl) (hj2.trans hj) rfl
 have h48:decide (48≤cv a)=true:=by
  have:¬ cv a<48:=zf h10
  exact decide_eq_true zo
 refine gaj ?_
 refine oP (pI (c:=a) rfl rfl zo hget) rfl ?_
 refine gg1 ?_
 refine oC rfl (fun h11=>?_) (fun h11=>?_)
 ·have h57:decide (cv a≤57)=false:=by
   have:57<cv a:=zt h11
   exact decide_eq_false zo
  refine ga2 ?_
  exact retF (by rw[hI];unfold isInner isDigit;rw[hl0,h95,h57,Bool.and_false];rfl) (hj2.trans hj) rfl
 ·have h57:decide (cv a≤57)=true:=by
   have:¬ 57<cv a:=zf h11
   exact decide_eq_true zo
  refine gax ?_
  refine next ?_ ?_ ?_ ?_ ?_
  ·rw[if_neg hp0];unfold isInner isDigit;rw[h48,h57];simp
  ·exact hj2.trans hj
  ·rfl
  ·rfl
  ·rfl
end
end Go.Proofs.YtegmklafpoldgaaGreatDoor.Chk
namespace Go.GL
open Go.RowKit
section
variable {C:Ctx} {e:Env} {H:Heap} {dst:Option Nat} {ty:TypeId} {pos:String} {aft:Array Edge} {g:Option (Nat×Bool)} {K:LV→Heap→Prop} {X:List PanicEntry→Heap→Prop} {x y z:Operand} {k:IntKind}
theorem max_cast (a b:Nat):(if (a:Int)<(b:Int) then (b:Int) else (a:Int))=((max a b:Nat):Int):=by
 split <;> omega
theorem Pure.max2 {a b:Nat} (hx:e.ev x=int k (a:Int)) (hy:e.ev y=int k (b:Int)) {t u:TypeId}:Pure C ⟨dst,.call { callee:=.builtin .max,args:=#[x,y],argTypes:=#[t,u] },ty,pos,aft,g⟩ e H (int k ((max a b:Nat):Int)):=
 .of_any fun ρ _ _ h=>⟨_,rep_atom,fun w'=>by
  have h0:∀ (cs:Array Bool) (args:Array Value),builtin .max #[t,u] ty cs args=(do Pure.pure (.value (←Builtin.max_ #[t,u] ty args))):=fun _ _=>rfl
  rw[execOp_builtin',h0]
  have:=max_cast a b
  simp[Builtin.max_,Builtin.max2,atom_of h hx,atom_of h hy]
  split <;> omega⟩
theorem Pure.max3 {a b c:Nat} (hx:e.ev x=int k (a:Int)) (hy:e.ev y=int k (b:Int)) (hz:e.ev z=int k (c:Int)) {t u v:TypeId}:Pure C ⟨dst,.call { callee:=.builtin .max,args:=#[x,y,z],argTypes:=#[t,u,v] },ty,pos,aft,g⟩ e H (int k ((max (max a b) c:Nat):Int)):=
 .of_any fun ρ _ _ h=>⟨_,rep_atom,fun w'=>by
  have h0:∀ (cs:Array Bool) (args:Array Value),builtin .max #[t,u,v] ty cs args=(do Pure.pure (.value (←Builtin.max_ #[t,u,v] ty args))):=fun _ _=>rfl
  rw[execOp_builtin',h0]
  simp[Builtin.max_,Builtin.max2,atom_of h hx,atom_of h hy,atom_of h hz]
  repeat' split
  all_goals omega⟩
theorem Pure.max2e {A B:Int} (a b:Nat) (hx:e.ev x=int k A) (hy:e.ev y=int k B) (ha:A=(a:Int)) (hb:B=(b:Int)) {t u:TypeId}:Pure C ⟨dst,.call { callee:=.builtin .max,args:=#[x,y],argTypes:=#[t,u] },ty,pos,aft,g⟩ e H (int k ((max a b:Nat):Int)):=by
 subst ha hb
 exact Pure.max2 hx hy
theorem Pure.max3e {A B D:Int} (a b d:Nat) (hx:e.ev x=int k A) (hy:e.ev y=int k B) (hz:e.ev z=int k D) (ha:A=(a:Int)) (hb:B=(b:Int)) (hd:D=(d:Int)) {t u v:TypeId}:Pure C ⟨dst,.call { callee:=.builtin .max,args:=#[x,y,z],argTypes:=#[t,u,v] },ty,pos,aft,g⟩ e H (int k ((max (max a b) d:Nat):Int)):=by
 subst ha hb hd
 exact Pure.max3 hx hy hz
theorem Pure.eqlT {a b:Int} {xT yT:TypeId} (h:a=b) (hx:e.ev x=int k a) (hy:e.ev y=int k b):Pure C ⟨dst,.binOp .eql xT x y yT,ty,pos,aft,g⟩ e H (bool true):=by
 have:=Pure.eql (C:=C) (H:=H) (dst:=dst) (ty:=ty) (pos:=pos) (aft:=aft) (g:=g) (xT:=xT) (yT:=yT) hx hy
 rwa [decide_eq_true h] at this
theorem Pure.eqlF {a b:Int} {xT yT:TypeId} (h:¬ a=b) (hx:e.ev x=int k a) (hy:e.ev y=int k b):Pure C ⟨dst,.binOp .eql xT x y yT,ty,pos,aft,g⟩ e H (bool false):=by
 have:=Pure.eql (C:=C) (H:=H) (dst:=dst) (ty:=ty) (pos:=pos) (aft:=aft) (g:=g) (xT:=xT) (yT:=yT) hx hy
 rwa [decide_eq_false h] at this
def IsSet (m:KV) (l:List (List UInt8)):Prop:=∀ k,kvGet m k=if k∈l then some (bool true) else none
theorem IsSet.nil:IsSet [] []:=fun k=>by simp[kvGet]
theorem IsSet.add {m:KV} {l:List (List UInt8)} (h:IsSet m l) (s:List UInt8):IsSet (kvPut m s (bool true)) (l++[s]):=fun k=>by
 rw[kvGet_put,h k]
 by_cases h1:s=k
 ·rw[if_pos h1,if_pos (by rw[h1];simp)]
 ·rw[if_neg h1]
  by_cases h2:k∈l
  ·rw[if_pos h2,if_pos (List.mem_append_left _ h2)]
  ·rw[if_neg h2,if_neg (by
    intro h3
    rcases List.mem_append.1 h3 with h3|h3
    ·exact h2 h3
    ·exact h1 (List.mem_singleton.1 h3).symm)]
theorem Pure.setHas {t el:TypeId} {zv:Value} [h:TMap C.P t el zv (bool false)] {b clock:Nat} {m:KV} {l:List (List UInt8)} {s:List UInt8} (hm:e.ev x=.atom (.map (some b))) (hx:e.ev y=str s) (hb:(b,.map (kvs m) clock)∈H) (hs:IsSet m l) :
  Pure C ⟨dst,.lookup t x y false,ty,pos,aft,g⟩ e H (bool (decide (s∈l))):=by
 by_cases h1:s∈l
 ·rw[decide_eq_true h1]
  exact Pure.kvHit hm hx hb (by rw[hs s,if_pos h1])
 ·rw[decide_eq_false h1]
  exact Pure.kvMiss hm hx hb (by rw[hs s,if_neg h1])
end
end Go.GL
namespace Go.Proofs.YtegmklafpoldgaaGreatDoor.Chk
open Go.GL Go.RowKit Go.Stele
structure KB where
 cb:Nat
 gm:Nat
 vm:Nat
 am:Nat
 fm:Nat
 om:Nat
 G:KV
 V:KV
 A:KV
 F:KV
 O:KV
 g1:Nat
 g2:Nat
 g3:Nat
 g4:Nat
 g5:Nat
 name:List UInt8
def encSum (f:FSum):LV:=.agg [int .i64 (f.params:Int),int .i64 (f.need:Int),int .i64 (f.depth:Int)]
structure KBok (k:KB) (c:CEnv):Prop where
 G:IsSet k.G c.globals
 V:IsSet k.V c.vars
 A:IsSet k.A c.arrays
 O:IsSet k.O c.own
 F:∀ n,GL.kvGet k.F n=(c.fn n).map encSum
def ckH (k:KB) (d:Nat):Heap:=[(k.cb,.cells 105 [.atom (.map (some k.gm)),.atom (.map (some k.vm)),.atom (.map (some k.am)),.atom (.map (some k.fm)),str k.name,.atom (.map (some k.om)),int .i64 (d:Int)]),(k.gm,.map (kvs k.G) k.g1),(k.vm,.map (kvs k.V) k.g2),(k.am,.map (kvs k.A) k.g3),(k.fm,.map (kvs k.F) k.g4),(k.om,.map (kvs k.O) k.g5)]
def PostK (err:Int) (lv:LV) (H':Heap) (r:LRes) (H:Heap):Prop:=(err=0∧r=.ret lv∧H=H')∨(err≠0∧(∃ nm,r=.panic (vio nm err))∧H=[])
section
variable {C:Ctx} {n:Nat} {e:Env} {H:Heap} {dst:Option Nat} {ty:TypeId} {pos:String} {aft:Array Edge} {g:Option (Nat×Bool)} {K:LV→Heap→Prop} {X:List PanicEntry→Heap→Prop}
theorem sK {err:Int} {lv:LV} {H1 H' F:Heap} {f:FuncId} [TEnter C.P f] (args:List Operand) {ats:Array TypeId} {av:List LV} (has:args.map e.ev=av) (hp:H.Perm (H1++F))
  (hc:LCalls C f av H1 (PostK err lv H')) (hk:err=0→K lv (H'++F)) (hx:∀ nm,err≠0→X (vio nm err) F):LStep C ⟨dst,.call { callee:=.value (.func f),args:=args.toArray,argTypes:=ats },ty,pos,aft,g⟩ e H K X:=by
 refine S.callH args has hp hc ?_ ?_
 ·rintro v H2 (⟨h1,h2,rfl⟩|⟨_,⟨nm,h2⟩,_⟩)
  ·cases h2
   exact hk h1
  ·cases h2
 ·rintro ch H2 (⟨_,h2,_⟩|⟨h1,⟨nm,h2⟩,rfl⟩)
  ·cases h2
  ·cases h2
   exact hx nm h1
theorem LStep.callK {err:Int} {lv:LV} {H':Heap} {f:FuncId} [TEnter C.P f] (args:List Operand) {ats:Array TypeId} {av:List LV} (has:args.map e.ev=av)
  (hc:LCalls C f av H (PostK err lv H')) (hk:err=0→K lv H') (hx:∀ nm,err≠0→X (vio nm err) []):LStep C ⟨dst,.call { callee:=.value (.func f),args:=args.toArray,argTypes:=ats },ty,pos,aft,g⟩ e H K X:=by
 refine LStep.conseq (sK (F:=[]) (K:=fun lv H'=>K lv H') (X:=X) args has (by rw[zLz]) hc (fun h=>by rw[zLz];exact hk h) hx) (fun lv H' h=>⟨lv,H',vR _,zhR _,h⟩)
theorem retK {err:Int} {lv:LV} {H':Heap} {rs:List ResultVar} {vs:List LV} (hd:e.ds=[]) (h:AllRes C n e H rs vs) (he:err=0) (hv:resLV vs=lv) (hH:HSub H' H):RetPost C n rs (PostK err lv H') .ret e H:=
 rR hd h hH (.inl ⟨he,by rw[hv],rfl⟩)
theorem retKn {err:Int} {lv:LV} {H':Heap} {rs:List ResultVar} {vs:List LV} (hd:e.ds=[]) (h:AllRes C n e H rs vs) (he:err=0) (hv:resLV vs=lv) (hH:HSub H' H):RetPost C n rs (PostK err lv H') .normal e H:=
 rO hd h hH (.inl ⟨he,by rw[hv],rfl⟩)
theorem panK {err er:Int} {lv:LV} {H':Heap} {rs:List ResultVar} {nm:List UInt8} (hd:e.ds=[]) (he:err=er) (h0:er≠0):RetPost C n rs (PostK err lv H') (.panic (vio nm er)) e H:=
 RetPost.panic hd zhn (.inr ⟨by rw[he];exact h0,⟨nm,by rw[he]⟩,rfl⟩)
end
attribute [local irreducible] LOps LCode LStep LCalls Go.GL.Pure QThen QBlock RetPost LQ LAny LLate LLateOp LS
section
variable {B0:Nat} {w0:World}
theorem req_spec (b:Bool) (nm:List UInt8) (er:Int) (h0:er≠0):LCalls (KC B0 w0) 92 [bool b,str nm,int .i64 er] [] (PostK (if b=true then 0 else er) (.tuple []) []):=
 LCalls.mono (require_spec b nm er) fun r H ⟨h1,h2⟩=>by
  cases b with
  |true=>exact .inl ⟨rfl,h2,h1⟩
  |false=>exact .inr ⟨h0,⟨nm,h2⟩,h1⟩
theorem scalar_spec {k:KB} {c:CEnv} (hk:KBok k c) (d:Nat) (name:List UInt8):LCalls (KC B0 w0) 214 [ptr k.cb 0,str name] (ckH k d) (PostK (scalarE c name) (.tuple []) (ckH k d)):=by
 generalize hI:scalarE c name=E
 unfold scalarE at hI
 refine cI Tryz.func214 rfl (n:=34) rfl rfl rfl ?_
 refine gdw ?_
 refine oP (Pure.setHas rfl rfl zm2 hk.V) rfl ?_
 have both:∀ {e:Env} {Q:Post} {ops:Array Oper} {rest:List Oper} {n:Nat},True:=fun {_ _ _ _ _}=>trivial
 refine oB 10 rfl (fun h1=>?_) (fun h1=>?_)
 ·have hin:name∈c.vars∨name∈c.own:=.inl (zt h1)
  refine gg2 ?_
  refine oS (sK (H1:=[]) (F:=ckH k d) [_,_,_] rfl zpr (req_spec true name 10 zDd) (fun _=>?_) (fun nm h=>absurd rfl h)) rfl
  refine ga3 ?_
  refine oS (sK (H1:=[]) (F:=ckH k d) [_,_,_] rfl zpr (req_spec true name 7 zDd) (fun _=>?_) (fun nm h=>absurd rfl h)) rfl
  refine gba ?_
  exact retKn rfl rN (by rw[←hI,if_pos hin]) rfl zhr
 have hv:name ∉ c.vars:=zf h1
 refine gg3 ?_
 refine oP (Pure.setHas rfl rfl zm5 hk.O) rfl ?_
 refine oB 17 rfl (fun h2=>?_) (fun h2=>?_)
 ·have hin:name∈c.vars∨name∈c.own:=.inr (zt h2)
  refine gg4 ?_
  refine oS (sK (H1:=[]) (F:=ckH k d) [_,_,_] rfl zpr (req_spec true name 10 zDd) (fun _=>?_) (fun nm h=>absurd rfl h)) rfl
  refine ga3 ?_
  refine oS (sK (H1:=[]) (F:=ckH k d) [_,_,_] rfl zpr (req_spec true name 7 zDd) (fun _=>?_) (fun nm h=>absurd rfl h)) rfl
  refine gba ?_
  exact retKn rfl rN (by rw[←hI,if_pos hin]) rfl zhr
 have ho:name ∉ c.own:=zf h2
 rw[if_neg (fun h=>h.elim hv ho)] at hI
 refine gg5 ?_
 refine oP (Pure.setHas rfl rfl zm1 hk.G) rfl ?_
 refine oB 26 rfl (fun h3=>?_) (fun h3=>?_)
 ·rw[if_pos (zt h3)] at hI
  refine gdx ?_
  refine oS (sK (H1:=[]) (F:=ckH k d) [_,_,_] rfl zpr (req_spec false name 10 zDd) (fun h=>absurd h zDd) (fun nm _ e' he'=>?_)) rfl
  refine gad ?_
  exact panK (he'.trans rfl) (by rw[←hI];rfl) zDd
 ·rw[if_neg (zf h3)] at hI
  refine gdx ?_
  refine oS (sK (H1:=[]) (F:=ckH k d) [_,_,_] rfl zpr (req_spec true name 10 zDd) (fun _=>?_) (fun nm h=>absurd rfl h)) rfl
  refine ga3 ?_
  refine oS (sK (H1:=[]) (F:=ckH k d) [_,_,_] rfl zpr (req_spec false name 7 zDd) (fun h=>absurd h zDd) (fun nm _ e' he'=>?_)) rfl
  exact panK (he'.trans rfl) (by rw[←hI];rfl) zDd
theorem array_spec {k:KB} {c:CEnv} (hk:KBok k c) (d:Nat) (name:List UInt8):LCalls (KC B0 w0) 215 [ptr k.cb 0,str name] (ckH k d) (PostK (arrayE c name) (.tuple []) (ckH k d)):=by
 generalize hI:arrayE c name=E
 unfold arrayE at hI
 refine cI Tryz.func215 rfl (n:=35) rfl rfl rfl ?_
 refine gdw ?_
 refine oP (Pure.setHas rfl rfl zm3 hk.A) rfl ?_
 refine oB 10 rfl (fun h1=>?_) (fun h1=>?_)
 ·refine gg6 ?_
  refine oS (sK (H1:=[]) (F:=ckH k d) [_,_,_] rfl zpr (req_spec true name 10 zDd) (fun _=>?_) (fun nm h=>absurd rfl h)) rfl
  refine ga3 ?_
  refine oS (sK (H1:=[]) (F:=ckH k d) [_,_,_] rfl zpr (req_spec true name 7 zDd) (fun _=>?_) (fun nm h=>absurd rfl h)) rfl
  refine gba ?_
  exact retKn rfl rN (by rw[←hI,if_pos (zt h1)]) rfl zhr
 rw[if_neg (zf h1)] at hI
 refine gg7 ?_
 refine oP (Pure.setHas rfl rfl zm1 hk.G) rfl ?_
 refine oB 18 rfl (fun h2=>?_) (fun h2=>?_)
 ·have hin:name∈c.globals∨name∈c.own:=.inl (zt h2)
  refine gdy ?_
  refine oS (sK (H1:=[]) (F:=ckH k d) [_,_,_] rfl zpr (req_spec false name 10 zDd) (fun h=>absurd h zDd) (fun nm _ e' he'=>?_)) rfl
  refine gad ?_
  exact panK (he'.trans rfl) (by rw[←hI,if_pos hin];rfl) zDd
 refine gg8 ?_
 refine oP (Pure.setHas rfl rfl zm5 hk.O) rfl ?_
 refine oB 26 rfl (fun h3=>?_) (fun h3=>?_)
 ·have hin:name∈c.globals∨name∈c.own:=.inr (zt h3)
  refine gcd ?_
  refine oS (sK (H1:=[]) (F:=ckH k d) [_,_,_] rfl zpr (req_spec false name 10 zDd) (fun h=>absurd h zDd) (fun nm _ e' he'=>?_)) rfl
  refine gad ?_
  exact panK (he'.trans rfl) (by rw[←hI,if_pos hin];rfl) zDd
 rw[if_neg (fun h=>h.elim (zf h2) (zf h3))] at hI
 refine gcd ?_
 refine oS (sK (H1:=[]) (F:=ckH k d) [_,_,_] rfl zpr (req_spec true name 10 zDd) (fun _=>?_) (fun nm h=>absurd rfl h)) rfl
 refine ga3 ?_
 refine oS (sK (H1:=[]) (F:=ckH k d) [_,_,_] rfl zpr (req_spec false name 7 zDd) (fun h=>absurd h zDd) (fun nm _ e' he'=>?_)) rfl
 exact panK (he'.trans rfl) (by rw[←hI];rfl) zDd
end
end Go.Proofs.YtegmklafpoldgaaGreatDoor.Chk
namespace Go.Proofs.YtegmklafpoldgaaGreatDoor.Chk
open Go.GL Go.RowKit Go.Stele
@[reducible] def iv (n:Nat):LV:=int .i64 (n:Int)
attribute [local irreducible] LOps LCode LStep LCalls Go.GL.Pure QThen QBlock RetPost LQ LAny LLate LLateOp LS
section
variable {B0:Nat} {w0:World}
theorem call_spec {k:KB} {c:CEnv} (hk:KBok k c) {B D:Nat} (hB:KnB B D c.funcs) (hB8:B≤100000000) (hD8:D≤100000000) (d:Nat) (hd:d≤1000000000) (name:List UInt8) (ns:List Nat) (hl:ns.length≤2000000) (hns:∀ n∈ns,n≤1000000000) :
  LCalls (KC B0 w0) 236 [ptr k.cb 0,str name,.list (ns.map iv)] (ckH k d) (PostK (callE c name ns.length) (iv (callN c name ns)) (ckH k (max d (callD c nCall name)))):=by
 generalize hI:callE c name ns.length=E
 generalize hN:callN c name ns=N
 generalize hDD:callD c nCall name=DD
 unfold callE at hI
 unfold callN at hN
 unfold callD at hDD
 have hll:(ns.map iv).length=ns.length:=zLm _
 refine cI Tryz.func236 rfl (n:=110) rfl rfl rfl ?_
 refine gdz ?_
 by_cases hin:name=[105,110]
 ·rw[if_pos hin] at hI hN
  rw[if_neg (fun h=>h.2.1 hin)] at hDD
  subst hDD
  refine oC rfl (fun _=>?_) (fun hc=>absurd hin (zf hc))
  refine gd0 ?_
  refine oS (sK (H1:=[]) (F:=ckH k d) [_,_,_] rfl zpr (req_spec (decide (((ns.map iv).length:Int)=0)) name 1 zDd) (fun h=>?_) (fun nm h e' he'=>?_)) rfl
  ·have h0:ns.length=0:=by
    by_cases h1:((ns.map iv).length:Int)=0
    ·omega
    ·rw[decide_eq_false h1] at h
     cases h
   refine ga2 ?_
   exact retK rfl (zra rfl) (by rw[←hI,if_pos h0]) (by rw[←hN];rfl) (by rw[Nat.max_zero];exact zhR _)
  ·have h0:¬ ns.length=0:=by
    intro h1
    rw[decide_eq_true (show ((ns.map iv).length:Int)=0 by omega)] at h
    exact h rfl
   rw[show (if decide (((ns.map iv).length:Int)=0)=true then (0:Int) else 1)=1 by rw[if_neg];simp only[zDe];omega]
   refine gaa ?_
   exact panK (he'.trans rfl) (by rw[←hI,if_neg h0]) zDd
 rw[if_neg hin] at hI hN
 refine oC rfl (fun hc=>absurd (zt hc) hin) (fun _=>?_)
 refine gai ?_
 by_cases hout:name=[111,117,116]
 ·rw[if_pos hout] at hI hN
  rw[if_neg (fun h=>h.2.2 hout)] at hDD
  subst hDD
  refine oC rfl (fun _=>?_) (fun hc=>absurd hout (zf hc))
  refine gd0 ?_
  refine oS (sK (H1:=[]) (F:=ckH k d) [_,_,_] rfl zpr (req_spec (decide (((ns.map iv).length:Int)=1)) name 1 zDd) (fun h=>?_) (fun nm h e' he'=>?_)) rfl
  ·have h0:ns.length=1:=by
    by_cases h1:((ns.map iv).length:Int)=1
    ·omega
    ·rw[decide_eq_false h1] at h
     cases h
   obtain ⟨a,l,rfl⟩:∃ a l,ns=a::l:=by
    cases ns with
    |nil=>simp at h0
    |cons a l=>exact ⟨a,l,rfl⟩
   refine gg9 ?_
   refine oP (xR (el':=iv a) (cs:=[iv a]) rfl rfl zo rfl rfl rfl) rfl ?_
   refine gha ?_
   exact retK rfl (zra rfl) (by rw[←hI,if_pos h0]) (by rw[←hN];rfl) (by rw[Nat.max_zero];exact zhR _)
  ·have h0:¬ ns.length=1:=by
    intro h1
    rw[decide_eq_true (show ((ns.map iv).length:Int)=1 by omega)] at h
    exact h rfl
   rw[show (if decide (((ns.map iv).length:Int)=1)=true then (0:Int) else 1)=1 by rw[if_neg];simp only[zDe];omega]
   refine gaa ?_
   exact panK (he'.trans rfl) (by rw[←hI,if_neg h0]) zDd
 rw[if_neg hout] at hI hN
 rw[if_pos ⟨rfl,hin,hout⟩] at hDD
 refine oC rfl (fun hc=>absurd (zt hc) hout) (fun _=>?_)
 refine ghb ?_
 have hF:=hk.F name
 cases hfn:c.fn name with
 |none=>
  rw[hfn] at hI hF
  refine oP (Pure.kvMiss2 rfl rfl zm4 hF) rfl ?_
  refine gbh ?_
  refine oS (sA fun b7=>?_) rfl
  refine ghc ?_
  refine oP (Pure.setHas rfl rfl zm3 hk.V) rfl ?_
  refine oB 46 rfl (fun h2=>?_) (fun h2=>?_)
  ·have hbad:name∈c.vars∨name∈c.arrays∨name∈c.own:=.inl (zt h2)
   refine gdy ?_
   refine oS (sK (H1:=[]) (F:=_::ckH k d) [_,_,_] rfl zpr (req_spec false name 10 zDd) (fun h=>absurd h zDd) (fun nm _ e' he'=>?_)) rfl
   refine gad ?_
   exact panK (he'.trans rfl) (by rw[←hI];exact if_pos hbad) zDd
  refine gd1 ?_
  refine oP (Pure.setHas rfl rfl zm4 hk.A) rfl ?_
  refine oB 54 rfl (fun h3=>?_) (fun h3=>?_)
  ·have hbad:name∈c.vars∨name∈c.arrays∨name∈c.own:=.inr (.inl (zt h3))
   refine ghd ?_
   refine oS (sK (H1:=[]) (F:=_::ckH k d) [_,_,_] rfl zpr (req_spec false name 10 zDd) (fun h=>absurd h zDd) (fun nm _ e' he'=>?_)) rfl
   refine gad ?_
   exact panK (he'.trans rfl) (by rw[←hI];exact if_pos hbad) zDd
  refine ghe ?_
  refine oP (Pure.setHas rfl rfl zm6 hk.O) rfl ?_
  refine oB 63 rfl (fun h4=>?_) (fun h4=>?_)
  ·have hbad:name∈c.vars∨name∈c.arrays∨name∈c.own:=.inr (.inr (zt h4))
   refine gcd ?_
   refine oS (sK (H1:=[]) (F:=_::ckH k d) [_,_,_] rfl zpr (req_spec false name 10 zDd) (fun h=>absurd h zDd) (fun nm _ e' he'=>?_)) rfl
   refine gad ?_
   exact panK (he'.trans rfl) (by rw[←hI];exact if_pos hbad) zDd
  refine gcd ?_
  refine oS (sK (H1:=[]) (F:=_::ckH k d) [_,_,_] rfl zpr (req_spec true name 10 zDd) (fun _=>?_) (fun nm h=>absurd rfl h)) rfl
  refine gak ?_
  refine oS (sK (H1:=[]) (F:=_::ckH k d) [_,_,_] rfl zpr (req_spec false name 7 zDd) (fun h=>absurd h zDd) (fun nm _ e' he'=>?_)) rfl
  refine gad ?_
  exact panK (he'.trans rfl) (by rw[←hI];exact if_neg (fun h=>h.elim (zf h2) (fun h=>h.elim (zf h3) (zf h4)))) zDd
 |some f=>
  rw[hfn] at hI hF hN hDD
  have hkb:=hB f (List.mem_of_find?_eq_some hfn)
  refine oP (Pure.kvHit2 rfl rfl zm4 hF) rfl ?_
  refine gbh ?_
  refine oS (sA fun b7=>?_) rfl
  refine ghf ?_
  refine oS (sK (H1:=[]) (F:=_::ckH k d) [_,_,_] rfl zpr (req_spec true name 10 zDd) (fun _=>?_) (fun nm h=>absurd rfl h)) rfl
  refine gak ?_
  refine oS (sK (H1:=[]) (F:=_::ckH k d) [_,_,_] rfl zpr (req_spec true name 7 zDd) (fun _=>?_) (fun nm h=>absurd rfl h)) rfl
  refine ghg ?_
  by_cases h0:ns.length=f.params
  rotate_left
  ·have h0':¬ ((ns.map iv).length:Int)=(f.params:Int):=by omega
   refine oB 76 rfl (fun h=>absurd (zt h) h0') (fun _=>?_)
   refine oS (sK (H1:=[]) (F:=_::ckH k d) [_,_,_] rfl zpr (req_spec false name 1 zDd) (fun h=>absurd h zDd) (fun nm _ e' he'=>?_)) rfl
   refine gad ?_
   exact panK (he'.trans rfl) (by rw[←hI];exact if_neg h0) zDd
  have h0':((ns.map iv).length:Int)=(f.params:Int):=by omega
  refine oB 76 rfl (fun _=>?_) (fun h=>absurd h0' (zf h))
  have hI0:E=0:=by rw[←hI];exact if_pos h0
  refine oS (sK (H1:=[]) (F:=_::ckH k d) [_,_,_] rfl zpr (req_spec true name 1 zDd) (fun _=>?_) (fun nm h=>absurd rfl h)) rfl
  refine gcv ?_
  refine cD (m:=12) rfl [(b7,.cells 176 [iv f.params,iv f.need,iv f.depth])] ?_
  refine aT 0 rfl rfl (pM (lv:=.atom _) rfl) ?_
  refine aT 1 rfl rfl (pM (lv:=.atom _) rfl) ?_
  refine aT 2 rfl rfl (pN rfl) ?_
  refine aT 3 rfl rfl (pF rfl) ?_
  refine aT 5 rfl rfl (pF rfl) ?_
  refine aT 6 rfl rfl (pL (c:=.atom _) rfl zm0 rfl) ?_
  refine aT 7 rfl rfl (Pure.add rfl rfl zo) ?_
  refine aL ?_ zhp
  refine lO 4 (lH rfl rfl (pL (c:=iv d) rfl zm1 rfl) ?_)
  refine lO 8 (lH rfl rfl (Pure.max2e d (f.depth+1) rfl rfl zo zo) ?_)
  refine lO 9 (lH rfl rfl (pN rfl) ?_)
  refine lO 10 (lH rfl rfl (pF rfl) ?_)
  refine lO 11 (lS (H1:=[(k.cb,.cells 105 [.atom (.map (some k.gm)),.atom (.map (some k.vm)),.atom (.map (some k.am)),.atom (.map (some k.fm)),str k.name,.atom (.map (some k.om)),int .i64 (d:Int)])]) rfl (.inl rfl) rfl (show Pick _ _ _ from pT pH) zhp (sS (n:=1) (cs':=[_,_,_,_,_,_,iv (max d (f.depth+1))]) rfl pH rfl rfl rfl rfl rfl ?_))
  refine lD zk ?_
  have hdd:max d DD=max d (f.depth+1):=by rw[←hDD]
  rw[hdd]
  refine qN ?_
  refine LCode.perm (H':=(b7,.cells 176 [iv f.params,iv f.need,iv f.depth])::ckH k (max d (f.depth+1))) (List.Perm.swap _ _ _) ?_
  refine ghh ?_
  refine oP (Pure.max2e (f.params+1) f.need rfl rfl zo zo) rfl ?_
  refine ga9 ?_
  refine oL (fun kk ls H'=>∃ (pre l1:List Nat) (m:Nat),ns=pre++l1∧kk=l1.length∧ls=[(9,iv m),(96,.list (ns.map iv)),(97,int .i64 ((ns.map iv).length:Int)),(98,iv pre.length)]∧H'=ckH k (max d (f.depth+1))∧stair pre.length l1 m=N)
   ⟨ns.length,_,_,⟨[],ns,max (f.params+1) f.need,rfl,rfl,rfl,rfl,hN⟩,⟨rfl,rfl,rfl,rfl,trivial⟩,zhD zhr⟩ ?_
  rintro kk ls H' ⟨pre,l1,m,hLe,rfl,rfl,rfl,hS⟩ j hj
  have hb2:pre.length≤2000000:=by
   rw[hLe,zLa] at hl
   omega
  refine gae ?_
  refine oC rfl (fun hc=>?_) (fun hc=>?_)
  ·have hlen:=zt hc
   rw[zLm,hLe,zLa] at hlen
   obtain ⟨a,l2,rfl⟩:∃ a l2,l1=a::l2:=by
    cases l1 with
    |nil=>simp at hlen
    |cons a l2=>exact ⟨a,l2,rfl⟩
   have ha:a≤1000000000:=hns a (by rw[hLe];exact List.mem_append_right _ zMs)
   rw[stair] at hS
   refine gbo ?_
   refine oP (xR (el':=iv a) (cs:=[iv a]) rfl rfl zo (by rw[hLe];exact get_mid iv pre a l2) rfl rfl) rfl ?_
   refine ghi ?_
   refine oP (Pure.max2e m (pre.length+a) rfl rfl zo zo) rfl ?_
   refine gce ?_
   exact ⟨l2.length,_,_,Nat.lt_succ_self _,⟨pre++[a],l2,max m (pre.length+a),by rw[hLe];simp,rfl,rfl,rfl,by rw[zLa];exact hS⟩,⟨rfl,rfl,rfl,int_eq (by simp),trivial⟩,zhR _,hj⟩
  ·have hlen:=zf hc
   rw[zLm,hLe,zLa] at hlen
   obtain rfl:l1=[]:=by
    cases l1 with
    |nil=>rfl
    |cons a l2=>simp at hlen;omega
   rw[stair] at hS
   refine gd2 ?_
   exact retK hj (zra rfl) hI0 (by rw[←hS];rfl) zhr
end
end Go.Proofs.YtegmklafpoldgaaGreatDoor.Chk
namespace Go.Proofs.YtegmklafpoldgaaGreatDoor.Chk
open Go.GL Go.RowKit Go.Stele
theorem permCall {x y:Nat×LObj} {A B:Heap}:List.Perm (x::y::(A++B)) (A++(x::y::B)):=by
 have h:List.Perm (([x,y]++A)++B) ((A++[x,y])++B):=zPc.append_right B
 rw[zAs A] at h
 exact h
theorem permCall1 {x:Nat×LObj} {A B:Heap}:List.Perm (x::(A++B)) (A++(x::B)):=by
 have h:List.Perm (([x]++A)++B) ((A++[x])++B):=zPc.append_right B
 rw[zAs A] at h
 exact h
theorem permAcc {x y:Nat×LObj} {A B:Heap}:List.Perm (A++(x::y::B)) (B++(x::y::A)):=by
 refine permCall.symm.trans ?_
 exact (zPc (l₁:=x::y::A) (l₂:=B))
theorem iv_one (n:Nat):∀ v∈[iv n],v.cells.length=1:=fun v hv=>by rw[List.mem_singleton.1 hv];rfl
theorem needEs_len (c:CEnv):∀ l:List Ex,(needEs c l).length=l.length
 |[]=>rfl
 |x::l=>by rw[needEs,zLc,zLc,needEs_len c l]
theorem needEs_app (c:CEnv) (x:Ex):∀ l:List Ex,needEs c (l++[x])=needEs c l++[needE c x]
 |[]=>rfl
 |y::l=>by
  show needEs c (y::(l++[x]))=_
  rw[needEs,needEs_app c x l,needEs]
  rfl
theorem depEs_app (c:CEnv) (x:Ex):∀ l:List Ex,depEs c (l++[x])=max (depEs c l) (depE c x)
 |[]=>by
  show max (depE c x) 0=max 0 (depE c x)
  omega
 |y::l=>by
  show depEs c (y::(l++[x]))=_
  rw[depEs,depEs_app c x l,depEs,Nat.max_assoc]
theorem needEs_mem {c:CEnv} {B D:Nat} (hB:KnB B D c.funcs):∀ {l:List Ex} {n:Nat},n∈needEs c l→n≤4 * ndEs l+B
 |[],n,h=>by rw[needEs] at h;cases h
 |x::l,n,h=>by
  rw[needEs] at h
  rw[ndEs]
  rcases zMi.1 h with rfl|h
  ·have:=needE_le B D c hB x
   omega
  ·have:=needEs_mem hB h
   omega
attribute [local irreducible] LOps LCode LStep LCalls Go.GL.Pure QThen QBlock RetPost LQ LAny LLate LLateOp LS
section
variable {B0:Nat} {w0:World}
def ExprH (B0:Nat) (w0:World) (k:KB) (c:CEnv) (n:Nat):Prop:=∀ (x:Ex) (d:Nat),ndE x≤n→d≤200000000→LCalls (KC B0 w0) 213 [ptr k.cb 0,encE x] (ckH k d) (PostK (errE c x) (iv (needE c x)) (ckH k (max d (depE c x))))
theorem expr_spec {k:KB} {c:CEnv} (hk:KBok k c) {B D:Nat} (hB:KnB B D c.funcs) (hB8:B≤100000000) (hD8:D≤100000000):∀ n:Nat,n≤2000000→ExprH B0 w0 k c n
 |0,_=>fun x d h _=>by have:=ndE_pos x;omega
 |n+1,hn6=>by
  have ih:=expr_spec hk hB hB8 hD8 n zo
  intro x d hnd hd
  obtain ⟨op,num,name,args⟩:=x
  rw[ndE] at hnd
  have hal:=ndEs_len args
  have hall:(args.map encE).length=args.length:=zLm _
  generalize hI:errE c (Ex.mk op num name args)=E
  rw[errE] at hI
  rw[needE,depE]
  rw[encE_mk]
  refine cI Tryz.func213 rfl (n:=121) rfl rfl rfl ?_
  refine gac ?_
  refine oS (sB rfl fun b3=>?_) rfl
  refine gcf ?_
  refine oS (sF [_] rfl (operands_spec op) ?_) rfl
  refine gby ?_
  refine cM (A:=Unit) (fun _=>[(0,ptr k.cb 0),(3,ptr b3 0)]) (fun _=>(b3,.cells 170 [str op,int .u32 (num:Int),str name,.list (args.map encE)])::ckH k d) (fun _=>opnds op = -1∨opnds op=args.length) ?_ (fun _ hop j hj=>?_)
  ·refine cD (m:=14) rfl [(b3,.cells 170 [str op,int .u32 (num:Int),str name,.list (args.map encE)]),(k.cb,.cells 105 [.atom (.map (some k.gm)),.atom (.map (some k.vm)),.atom (.map (some k.am)),.atom (.map (some k.fm)),str k.name,.atom (.map (some k.om)),int .i64 (d:Int)])] ?_
   refine aT 0 rfl rfl (pM (lv:=.atom _) rfl) ?_
   by_cases h1:opnds op = -1
   ·refine LAny.take (i:=1) (zhP pH zhp) rfl zk zk zk rfl (Pure.eqlT h1 rfl rfl) ?_
    refine aT 2 rfl rfl (pM (lv:=.atom _) rfl) ?_
    refine LAny.takeSkip (i:=3) rfl rfl rfl rfl zk zk zk rfl ?_
    refine LAny.takeSkip (i:=4) rfl rfl rfl rfl zk zk zk rfl ?_
    refine LAny.takeSkip (i:=5) rfl rfl rfl rfl zk zk zk rfl ?_
    refine LAny.takeSkip (i:=6) rfl rfl rfl rfl zk zk zk rfl ?_
    refine LAny.takeSkip (i:=7) rfl rfl rfl rfl zk zk zk rfl ?_
    refine aT 8 rfl rfl (Pure.pickT (lv:=.atom _) rfl rfl) ?_
    refine aT 9 rfl rfl (pM (lv:=.atom _) rfl) ?_
    refine aT 10 rfl rfl (pN rfl) ?_
    refine aT 11 rfl rfl (pF rfl) ?_
    refine aT 12 rfl rfl (pL (c:=.atom _) rfl zm1 rfl) ?_
    refine aL ?_ (zhP pH zhp)
    refine lO 13 (lS (H1:=[]) rfl (.inl rfl) rfl zpr (zhP pH zhp) (LStep.callK [_,_,_] rfl (req_spec true k.name 3 zDd) (fun _=>?_) (fun nm h=>absurd rfl h)))
    refine lD zk ?_
    refine qN ?_
    exact ⟨(),.inl h1,⟨rfl,rfl,trivial⟩,zhR _,rfl⟩
   ·refine LAny.take (i:=1) (zhP pH zhp) rfl zk zk zk rfl (Pure.eqlF h1 rfl rfl) ?_
    refine aT 2 rfl rfl (pM (lv:=.atom _) rfl) ?_
    refine LAny.tkW 3 rfl rfl rfl rfl (pM (lv:=.atom _) rfl) ?_
    refine LAny.tkW 4 rfl rfl rfl rfl (pF rfl) ?_
    refine LAny.tkW 5 rfl rfl rfl rfl (pL (c:=.list _) rfl zm0 rfl) ?_
    refine LAny.tkW 6 rfl rfl rfl rfl (Pure.llen rfl) ?_
    by_cases h2:opnds op=args.length
    ·refine LAny.takeWant (i:=7) (zhP pH zhp) rfl rfl rfl zk zk zk rfl (Pure.eqlT (show opnds op=((args.map encE).length:Int) by rw[hall];exact h2) rfl rfl) ?_
     refine aT 8 rfl rfl (Pure.pickF (lv:=.atom _) rfl rfl) ?_
     refine aT 9 rfl rfl (pM (lv:=.atom _) rfl) ?_
     refine aT 10 rfl rfl (pN rfl) ?_
     refine aT 11 rfl rfl (pF rfl) ?_
     refine aT 12 rfl rfl (pL (c:=.atom _) rfl zm1 rfl) ?_
     refine aL ?_ (zhP pH zhp)
     refine lO 13 (lS (H1:=[]) rfl (.inl rfl) rfl zpr (zhP pH zhp) (LStep.callK [_,_,_] rfl (req_spec true k.name 3 zDd) (fun _=>?_) (fun nm h=>absurd rfl h)))
     refine lD zk ?_
     refine qN ?_
     exact ⟨(),.inr h2,⟨rfl,rfl,trivial⟩,zhR _,rfl⟩
    ·refine LAny.takeWant (i:=7) (zhP pH zhp) rfl rfl rfl zk zk zk rfl (Pure.eqlF (show ¬ opnds op=((args.map encE).length:Int) by rw[hall];exact h2) rfl rfl) ?_
     refine aT 8 rfl rfl (Pure.pickF (lv:=.atom _) rfl rfl) ?_
     refine aT 9 rfl rfl (pM (lv:=.atom _) rfl) ?_
     refine aT 10 rfl rfl (pN rfl) ?_
     refine aT 11 rfl rfl (pF rfl) ?_
     refine aT 12 rfl rfl (pL (c:=.atom _) rfl zm1 rfl) ?_
     refine aL ?_ (zhP pH zhp)
     refine lO 13 (lS (H1:=[]) rfl (.inl rfl) rfl zpr (zhP pH zhp) (LStep.callK [_,_,_] rfl (req_spec false k.name 3 zDd) (fun h=>absurd h zDd) (fun nm _ e' he'=>?_)))
     refine gad ?_
     exact panK (he'.trans rfl) (by rw[←hI,if_neg (fun h=>h.elim h1 h2)];rfl) zDd
  rw[if_pos hop] at hI
  refine ghj ?_
  refine oL (fun kk ls H'=>∃ (pre l1:List Ex) (v:LV) (Ha:Heap),args=pre++l1∧kk=l1.length∧ls=[(0,ptr k.cb 0),(3,ptr b3 0),(6,v),(29,.list (args.map encE)),(30,int .i64 ((args.map encE).length:Int)),(31,int .i64 (pre.length:Int))] ∧
    H'=(b3,.cells 170 [str op,int .u32 (num:Int),str name,.list (args.map encE)])::(ckH k (max d (depEs c pre))++Ha)∧GL.Acc 1 v ((needEs c pre).map iv) Ha []∧orE (errEs c l1) (useE c op name args.length)=E)
   ⟨args.length,_,_,⟨[],args,nilSlice,[],rfl,rfl,rfl,rfl,Acc.nil,hI⟩,⟨rfl,rfl,rfl,rfl,rfl,rfl,trivial⟩,⟨[],by
    rw[zLz,zLz,depEs,Nat.max_zero]⟩⟩ ?_
  rintro kk ls H' ⟨pre,l1,v,Ha,hLe,rfl,rfl,rfl,hacc,hI2⟩ j2 hj2
  have hb2:pre.length≤2000000:=by
   have:=congrArg List.length hLe
   rw[zLa] at this
   omega
  have hdp:max d (depEs c pre)≤200000000:=by
   have:=depEs_le B D c hB pre
   omega
  refine gae ?_
  refine oC rfl (fun hc=>?_) (fun hc=>?_)
  ·have hlen:=zt hc
   rw[zLm,hLe,zLa] at hlen
   obtain ⟨a,l2,rfl⟩:∃ a l2,l1=a::l2:=by
    cases l1 with
    |nil=>simp at hlen
    |cons a l2=>exact ⟨a,l2,rfl⟩
   have ham:ndE a≤ndEs args:=ndEs_mem (by rw[hLe];exact List.mem_append_right _ zMs)
   rw[errEs] at hI2
   refine gag ?_
   refine oP (xR (el':=encE a) (cs:=[_,_,_,_]) rfl rfl zo (by rw[hLe];exact get_mid encE pre a l2) rfl rfl) rfl ?_
   refine gan ?_
   refine oS (sA fun b8=>?_) rfl
   refine ghk ?_
   refine oP (pM (lv:=v) rfl) rfl ?_
   refine ghl ?_
   refine oS (sK [_,_] rfl permCall (ih a _ zo hdp) (fun h0=>?_) (fun nm h0 e' he'=>?_)) rfl
   ·rw[h0] at hI2
    refine oS (sL (es:=[iv (needE c a)]) [_] rfl (eC rfl rfl eN) rfl rfl rfl ?_) rfl
    refine oS (sG permAcc rfl hacc rfl (iv_one _) rfl (by rw[zLm,needEs_len,zLc,zLn];omega) fun v' Ha' hacc'=>?_) rfl
    refine oP (pA (lv:=v') rfl) rfl ?_
    refine gah ?_
    exact ⟨l2.length,_,_,Nat.lt_succ_self _,⟨pre++[a],l2,v',Ha',by rw[hLe];simp,rfl,rfl,rfl,by rw[needEs_app,zMa];exact hacc',by rw[←hI2];rfl⟩,⟨rfl,rfl,rfl,rfl,rfl,int_eq (by simp),trivial⟩,by
     rw[depEs_app,←Nat.max_assoc]
     exact zhD zhr,hj2⟩
   ·refine gaa ?_
    exact panK ((he'.trans hj2).trans hj) (by rw[←hI2];unfold orE;rw[if_pos h0,if_pos h0]) h0
  have hlen:=zf hc
  rw[zLm,hLe,zLa] at hlen
  obtain rfl:l1=[]:=by
   cases l1 with
   |nil=>rfl
   |cons a l2=>simp at hlen;omega
  rw[zLz] at hLe
  subst hLe
  have hI3:useE c op name args.length=E:=by rw[←hI2];rfl
  have hds:j2.ds=[]:=hj2.trans hj
  generalize hd1:max d (depEs c args)=d1 at hdp ⊢
  have hdd:max d (max (depEs c args) (callD c op name))=max d1 (callD c op name):=by rw[←hd1,Nat.max_assoc]
  rw[hdd]
  generalize hns:needEs c args=ns at hacc ⊢
  have hnl:ns.length=args.length:=by rw[←hns,needEs_len]
  have hnb:∀ m∈ns,m≤1000000000:=fun m hm=>by
   rw[←hns] at hm
   have:=needEs_mem hB hm
   omega
  have hel:=hacc.elems
  refine ghm ?_
  have ret1:∀ (nd:LV) {e:Env} {H:Heap},E=0→e.ds=[]→e.s 4=nd→HSub (ckH k d1) H→callD c op name=0→iv (opN c op name ns)=nd→RetPost (KC B0 w0) 121 [ResultVar.tmp 4] (PostK E (iv (opN c op name ns)) (ckH k (max d1 (callD c op name)))) .ret e H:=fun nd {e H} h0 hd he hH hcd hn=>by
   rw[hcd,Nat.max_zero]
   exact retK hd (rC (rT he zsr) rN) h0 hn.symm hH
  have hcall0:¬ op=nCall→callD c op name=0:=fun h=>by
   unfold callD
   rw[if_neg (fun h2=>h h2.1)]
  have hE0:¬ op=nVar→¬ op=nElem→¬ op=nCall→E=0:=fun a1 a2 a3=>by
   rw[←hI3]
   unfold useE
   rw[if_neg a1,if_neg a2,if_neg a3]
  have HS:HSub (ckH k d1) ((b3,.cells 170 [str op,int .u32 (num:Int),str name,.list (args.map encE)])::(ckH k d1++Ha)):=zhD hsub_left
  by_cases h1:op=[110,117,109]
  ·refine oC rfl (fun _=>?_) (fun hc=>absurd h1 (zf hc))
   refine ga2 ?_
   refine ret1 (iv 1) ?_ ?_ ?_ ?_ ?_ ?_
   ·subst h1;exact hE0 zDd zDd zDd
   ·exact hds
   ·rfl
   ·exact HS
   ·subst h1;exact hcall0 zDd
   ·subst h1;rfl
  refine oC rfl (fun hc=>absurd (zt hc) h1) (fun _=>?_)
  refine gai ?_
  by_cases h2:op=[118,97,114]
  ·refine oC rfl (fun _=>?_) (fun hc=>absurd h2 (zf hc))
   have hI4:scalarE c name=E:=by rw[←hI3];subst h2;rfl
   refine gcw ?_
   refine oS (sK [_,_] rfl permCall1 (scalar_spec hk d1 name) (fun h0=>?_) (fun nm h0 e' he'=>?_)) rfl
   ·rw[hI4] at h0
    refine ga2 ?_
    refine ret1 (iv 1) h0 ?_ ?_ ?_ ?_ ?_
    ·exact hds
    ·rfl
    ·exact hsub_left
    ·subst h2;exact hcall0 zDd
    ·subst h2;rfl
   ·refine gaa ?_
    exact panK (he'.trans hds) hI4.symm h0
  refine oC rfl (fun hc=>absurd (zt hc) h2) (fun _=>?_)
  refine gai ?_
  by_cases h3:op=[101,108,101,109]
  ·refine oC rfl (fun _=>?_) (fun hc=>absurd h3 (zf hc))
   have hI4:arrayE c name=E:=by rw[←hI3];subst h3;rfl
   obtain ⟨n0,rfl⟩:∃ n0,ns=[n0]:=by
    have h9:ns.length=1:=by
     rcases hop with h|h
     ·subst h3;exact absurd h zDd
     ·subst h3
      have h9:(1:Int)=(args.length:Int):=h
      omega
    cases ns with
    |nil=>cases h9
    |cons a l=>
     cases l with
     |nil=>exact ⟨a,rfl⟩
     |cons b l=>simp at h9
   have hn0:=hnb n0 zMs
   refine gcw ?_
   refine oS (sK [_,_] rfl permCall1 (array_spec hk d1 name) (fun h0=>?_) (fun nm h0 e' he'=>?_)) rfl
   ·rw[hI4] at h0
    refine gcg ?_
    refine oP (pM (lv:=v) rfl) rfl ?_
    refine oP (xR (el':=iv n0) (cs:=[iv n0]) hel rfl zo rfl rfl rfl) rfl ?_
    refine gd3 ?_
    refine ret1 (int .i64 (1+(n0:Int))) h0 ?_ ?_ ?_ ?_ ?_
    ·exact hds
    ·rfl
    ·exact hsub_left
    ·subst h3;exact hcall0 zDd
    ·subst h3;exact int_eq (show ((1+n0:Nat):Int)=_ by omega)
   ·refine gaa ?_
    exact panK (he'.trans hds) hI4.symm h0
  refine oC rfl (fun hc=>absurd (zt hc) h3) (fun _=>?_)
  refine gai ?_
  by_cases h4:op=[99,97,108,108]
  ·refine oC rfl (fun _=>?_) (fun hc=>absurd h4 (zf hc))
   have hI4:callE c name ns.length=E:=by rw[←hI3,hnl];subst h4;rfl
   have hN4:opN c op name ns=callN c name ns:=by subst h4;rfl
   have hD4:callD c op name=callD c nCall name:=by subst h4;rfl
   refine gcw ?_
   refine oP (pM (lv:=v) rfl) rfl ?_
   refine LOps.sub 67 rfl hacc.sub ?_
   refine oS (sK [_,_,_] rfl permCall1 (call_spec hk hB hB8 hD8 d1 zo name ns zo hnb) (fun h0=>?_) (fun nm h0 e' he'=>?_)) rfl
   ·rw[hI4] at h0
    refine gau ?_
    rw[hN4,hD4]
    exact retK hds (zra rfl) h0 rfl hsub_left
   ·refine gaa ?_
    exact panK (he'.trans hds) hI4.symm h0
  refine oC rfl (fun hc=>absurd (zt hc) h4) (fun _=>?_)
  have hE00:=hE0 h2 h3 h4
  have hcd:=hcall0 h4
  refine gai ?_
  by_cases h5:op=[110,101,103]
  ·refine oC rfl (fun _=>?_) (fun hc=>absurd h5 (zf hc))
   obtain ⟨n0,rfl⟩:∃ n0,ns=[n0]:=by
    have h9:ns.length=1:=by
     rcases hop with h|h
     ·subst h5;exact absurd h zDd
     ·subst h5
      have h9:(1:Int)=(args.length:Int):=h
      omega
    cases ns with
    |nil=>cases h9
    |cons a l=>
     cases l with
     |nil=>exact ⟨a,rfl⟩
     |cons b l=>simp at h9
   have hn0:=hnb n0 zMs
   refine gac ?_
   refine oP (pM (lv:=v) rfl) rfl ?_
   refine oP (xR (el':=iv n0) (cs:=[iv n0]) hel rfl zo rfl rfl rfl) rfl ?_
   refine gd3 ?_
   refine ret1 (int .i64 (1+(n0:Int))) hE00 ?_ ?_ ?_ hcd ?_
   ·exact hds
   ·rfl
   ·exact HS
   ·subst h5;exact int_eq (show ((1+n0:Nat):Int)=_ by omega)
  refine oC rfl (fun hc=>absurd (zt hc) h5) (fun _=>?_)
  have h5n:=h5
  clear h5
  refine gai ?_
  by_cases h5:op=[110,111,116]
  ·refine oC rfl (fun _=>?_) (fun hc=>absurd h5 (zf hc))
   obtain ⟨n0,rfl⟩:∃ n0,ns=[n0]:=by
    have h9:ns.length=1:=by
     rcases hop with h|h
     ·subst h5;exact absurd h zDd
     ·subst h5
      have h9:(1:Int)=(args.length:Int):=h
      omega
    cases ns with
    |nil=>cases h9
    |cons a l=>
     cases l with
     |nil=>exact ⟨a,rfl⟩
     |cons b l=>simp at h9
   have hn0:=hnb n0 zMs
   refine gac ?_
   refine oP (pM (lv:=v) rfl) rfl ?_
   refine oP (xR (el':=iv n0) (cs:=[iv n0]) hel rfl zo rfl rfl rfl) rfl ?_
   refine gch ?_
   refine oP (Pure.max2e 2 n0 rfl rfl rfl rfl) rfl ?_
   refine gau ?_
   refine ret1 (iv (max 2 n0)) hE00 ?_ ?_ ?_ hcd ?_
   ·exact hds
   ·rfl
   ·exact HS
   ·subst h5;rfl
  refine oC rfl (fun hc=>absurd (zt hc) h5) (fun _=>?_)
  have hbin:ns.length=2:=by
   unfold opnds at hop
   rw[if_neg (fun h=>h.elim h1 h2),if_neg (fun h=>h.elim h3 (fun h=>h.elim h5n h5)),if_neg (show ¬ op=nCall from h4)] at hop
   split at hop
   ·rcases hop with h|h <;> omega
   ·rcases hop with h|h <;> omega
  obtain ⟨a,b,rfl⟩:∃ a b,ns=[a,b]:=by
   match ns,hbin with
   |[a,b],_=>exact ⟨a,b,rfl⟩
  have ha:=hnb a zMs
  have hb:=hnb b (zMo _ zMs)
  refine ghn ?_
  refine LCode.quiet zk ?_
  refine qP (pM (lv:=v) rfl) rfl ?_
  refine qP (xR (el':=iv a) (cs:=[iv a]) hel rfl zo rfl rfl rfl) rfl ?_
  refine gho ?_
  refine qP (pM (lv:=v) rfl) rfl ?_
  refine qP (xR (el':=iv b) (cs:=[iv b]) hel rfl zo rfl rfl rfl) rfl ?_
  refine ghp ?_
  by_cases h6:op=[62]
  ·refine oC rfl (fun _=>?_) (fun hc=>absurd h6 (zf hc))
   refine ga6 ?_
   refine oC rfl (fun _=>?_) (fun hc=>absurd h6 (zf hc))
   refine gbz ?_
   refine oP (Pure.max3e 3 a (1+b) rfl rfl rfl rfl rfl zo) rfl ?_
   refine gau ?_
   refine ret1 (iv (max (max 3 a) (1+b))) hE00 ?_ ?_ ?_ hcd ?_
   ·exact hds
   ·rfl
   ·exact HS
   ·subst h6;rfl
  refine oC rfl (fun hc=>absurd (zt hc) h6) (fun _=>?_)
  have h6n:=h6
  clear h6
  refine gd4 ?_
  by_cases h6:op=[60,61]
  ·refine oC rfl (fun _=>?_) (fun hc=>absurd h6 (zf hc))
   refine gbz ?_
   refine oP (Pure.max3e 3 a (1+b) rfl rfl rfl rfl rfl zo) rfl ?_
   refine gau ?_
   refine ret1 (iv (max (max 3 a) (1+b))) hE00 ?_ ?_ ?_ hcd ?_
   ·exact hds
   ·rfl
   ·exact HS
   ·subst h6;rfl
  refine oC rfl (fun hc=>absurd (zt hc) h6) (fun _=>?_)
  refine gai ?_
  by_cases h7:op=[33,61]
  ·refine oC rfl (fun _=>?_) (fun hc=>absurd h7 (zf hc))
   refine gbz ?_
   refine oP (Pure.max3e 3 (1+a) (2+b) rfl rfl rfl rfl zo zo) rfl ?_
   refine gau ?_
   refine ret1 (iv (max (max 3 (1+a)) (2+b))) hE00 ?_ ?_ ?_ hcd ?_
   ·exact hds
   ·rfl
   ·exact HS
   ·subst h7;rfl
  refine oC rfl (fun hc=>absurd (zt hc) h7) (fun _=>?_)
  refine gai ?_
  by_cases h8:op=[38,38]
  ·refine oC rfl (fun _=>?_) (fun hc=>absurd h8 (zf hc))
   refine gbz ?_
   refine oP (Pure.max2e (1+a) (2+b) rfl rfl zo zo) rfl ?_
   refine gau ?_
   refine ret1 (iv (max (1+a) (2+b))) hE00 ?_ ?_ ?_ hcd ?_
   ·exact hds
   ·rfl
   ·exact HS
   ·subst h8;rfl
  refine oC rfl (fun hc=>absurd (zt hc) h8) (fun _=>?_)
  refine gai ?_
  by_cases h9:op=[124,124]
  ·refine oC rfl (fun _=>?_) (fun hc=>absurd h9 (zf hc))
   refine gbz ?_
   refine oP (Pure.max2e (2+a) (3+b) rfl rfl zo zo) rfl ?_
   refine gau ?_
   refine ret1 (iv (max (2+a) (3+b))) hE00 ?_ ?_ ?_ hcd ?_
   ·exact hds
   ·rfl
   ·exact HS
   ·subst h9;rfl
  refine oC rfl (fun hc=>absurd (zt hc) h9) (fun _=>?_)
  refine ghq ?_
  refine oP (Pure.max3e 2 a (1+b) rfl rfl rfl rfl rfl zo) rfl ?_
  refine ga0 ?_
  refine ret1 (iv (max (max 2 a) (1+b))) hE00 ?_ ?_ ?_ hcd ?_
  ·exact hds
  ·rfl
  ·exact HS
  ·unfold opN
   rw[if_neg (fun h=>h.elim h1 h2),if_neg (fun h=>h.elim h3 h5n),if_neg (show ¬ op=nCall from h4),if_neg (show ¬ op=nNot from h5),if_neg (fun h=>h.elim h6n h6),if_neg h7,if_neg h8,if_neg h9]
   rfl
end
end Go.Proofs.YtegmklafpoldgaaGreatDoor.Chk
namespace Go.Proofs.YtegmklafpoldgaaGreatDoor.Chk
open Go.GL Go.RowKit Go.Stele
theorem form_1 {name:List UInt8} {index value:List Ex} {thn els:List Sm}:formS (.mk 1 name index value thn els)=((!decide (name=[])) && decide (((index.map encE).length:Int)=0) && decide (((value.map encE).length:Int)=1) && decide (((thn.map encS).length:Int)=0) && decide (((els.map encS).length:Int)=0)):=by
 rw[Bool.eq_iff_iff]
 simp only[formS,zBa,zDe,Bool.not_eq_true',decide_eq_false_iff_not,zLm]
 constructor
 ·exact zT11
 ·exact zT12
theorem form_2 {name:List UInt8} {index value:List Ex} {thn els:List Sm}:formS (.mk 2 name index value thn els)=((!decide (name=[])) && decide (((index.map encE).length:Int)=1) && decide (((value.map encE).length:Int)=1) && decide (((thn.map encS).length:Int)=0) && decide (((els.map encS).length:Int)=0)):=by
 rw[Bool.eq_iff_iff]
 simp only[formS,zBa,zDe,Bool.not_eq_true',decide_eq_false_iff_not,zLm]
 constructor
 ·exact zT11
 ·exact zT12
theorem form_3 {name:List UInt8} {index value:List Ex} {thn els:List Sm}:formS (.mk 3 name index value thn els)=((!!decide (name=[])) && decide (((index.map encE).length:Int)=0) && decide (((value.map encE).length:Int)=1)):=by
 rw[Bool.eq_iff_iff]
 simp only[formS,zBa,zDe,Bool.not_eq_true',decide_eq_false_iff_not,zLm]
 constructor
 ·intro h
  have h':_:=zt h
  obtain ⟨a1,a2,a3⟩:=h'
  exact ⟨⟨by simpa using a1,by omega⟩,by omega⟩
 ·rintro ⟨⟨a1,a2⟩,a3⟩
  exact decide_eq_true ⟨by simpa using a1,by omega,by omega⟩
theorem form_4 {name:List UInt8} {index value:List Ex} {thn els:List Sm}:formS (.mk 4 name index value thn els)=((!!decide (name=[])) && decide (((index.map encE).length:Int)=0) && decide (((value.map encE).length:Int)=1) && decide (((els.map encS).length:Int)=0)):=by
 rw[Bool.eq_iff_iff]
 simp only[formS,zBa,zDe,Bool.not_eq_true',decide_eq_false_iff_not,zLm]
 constructor
 ·intro h
  have h':_:=zt h
  obtain ⟨a1,a2,a3,a4⟩:=h'
  exact ⟨⟨⟨by simpa using a1,by omega⟩,by omega⟩,by omega⟩
 ·rintro ⟨⟨⟨a1,a2⟩,a3⟩,a4⟩
  exact decide_eq_true ⟨by simpa using a1,by omega,by omega,by omega⟩
theorem form_5 {name:List UInt8} {index value:List Ex} {thn els:List Sm}:formS (.mk 5 name index value thn els)=((!!decide (name=[])) && decide (((index.map encE).length:Int)=0) && decide (((value.map encE).length:Int)=1) && decide (((thn.map encS).length:Int)=0) && decide (((els.map encS).length:Int)=0)):=by
 rw[Bool.eq_iff_iff]
 simp only[formS,zBa,zDe,Bool.not_eq_true',decide_eq_false_iff_not,zLm]
 constructor
 ·exact zT11
 ·exact zT12
theorem form_6 {name:List UInt8} {index value:List Ex} {thn els:List Sm}:formS (.mk 6 name index value thn els)=((!!decide (name=[])) && decide (((index.map encE).length:Int)=0) && decide (((value.map encE).length:Int)=1) && decide (((thn.map encS).length:Int)=0) && decide (((els.map encS).length:Int)=0) && decide (exOp (value.headD default)=[99,97,108,108])):=by
 rw[Bool.eq_iff_iff]
 simp only[formS,zBa,zDe,Bool.not_eq_true',decide_eq_false_iff_not,zLm]
 constructor
 ·intro h
  have h':_:=zt h
  obtain ⟨a1,a2,a3,a4,a5,a6⟩:=h'
  exact ⟨⟨⟨⟨⟨by simpa using a1,by omega⟩,by omega⟩,by omega⟩,by omega⟩,a6⟩
 ·rintro ⟨⟨⟨⟨⟨a1,a2⟩,a3⟩,a4⟩,a5⟩,a6⟩
  exact decide_eq_true ⟨by simpa using a1,by omega,by omega,by omega,by omega,a6⟩
theorem form_7 {name:List UInt8} {index value:List Ex} {thn els:List Sm}:formS (.mk 7 name index value thn els)=((!!decide (name=[])) && decide (((index.map encE).length:Int)=0) && decide (((value.map encE).length:Int)=0) && decide (((thn.map encS).length:Int)=0) && decide (((els.map encS).length:Int)=0)):=by
 rw[Bool.eq_iff_iff]
 simp only[formS,zBa,zDe,Bool.not_eq_true',decide_eq_false_iff_not,zLm]
 constructor
 ·exact zT11
 ·exact zT12
attribute [local irreducible] LOps LCode LStep LCalls Go.GL.Pure QThen QBlock RetPost LQ LAny LLate LLateOp LS
section
variable {B0:Nat} {w0:World}
theorem formed_spec (s:Sm):LCalls (KC B0 w0) 212 [encS s] [] (Ret (bool (formS s))):=by
 obtain ⟨kind,name,index,value,thn,els⟩:=s
 rw[encS_mk]
 refine cI Tryz.func212 rfl (n:=159) rfl rfl rfl ?_
 refine gac ?_
 refine oS (sB rfl fun b1=>?_) rfl
 refine gby ?_
 refine LCode.quiet zk ?_
 refine ghr ?_
 by_cases hk1:kind=1
 ·subst hk1
  refine oC rfl (fun _=>?_) (fun hc=>by cases hc)
  rw[form_1]
  refine gab ?_
  refine oB 28 rfl (fun q1=>?_) (fun q1=>?_)
  rotate_left
  ·exact zT3
  refine gap ?_
  refine oB 32 rfl (fun q2=>?_) (fun q2=>?_)
  rotate_left
  ·exact zT4
  refine gap ?_
  refine oB 36 rfl (fun q3=>?_) (fun q3=>?_)
  rotate_left
  ·exact zT9
  refine gap ?_
  refine oB 40 rfl (fun q4=>?_) (fun q4=>?_)
  rotate_left
  ·exact zT10
  refine gbp ?_
  refine rR rfl (zra rfl) zhn ⟨?_,rfl⟩
  simp only[q1,q2,q3,q4,Bool.true_and]
  rfl
 refine oC rfl (fun hc=>absurd (zt hc) hk1) (fun _=>?_)
 refine gav ?_
 by_cases hk2:kind=2
 ·subst hk2
  refine oC rfl (fun _=>?_) (fun hc=>by cases hc)
  rw[form_2]
  refine gab ?_
  refine oB 47 rfl (fun q1=>?_) (fun q1=>?_)
  rotate_left
  ·exact zT3
  refine gap ?_
  refine oB 51 rfl (fun q2=>?_) (fun q2=>?_)
  rotate_left
  ·exact zT4
  refine gap ?_
  refine oB 55 rfl (fun q3=>?_) (fun q3=>?_)
  rotate_left
  ·exact zT9
  refine gap ?_
  refine oB 59 rfl (fun q4=>?_) (fun q4=>?_)
  rotate_left
  ·exact zT10
  refine gbp ?_
  refine rR rfl (zra rfl) zhn ⟨?_,rfl⟩
  simp only[q1,q2,q3,q4,Bool.true_and]
  rfl
 refine oC rfl (fun hc=>absurd (zt hc) hk2) (fun _=>?_)
 refine gav ?_
 by_cases hk3:kind=3
 ·subst hk3
  refine oC rfl (fun _=>?_) (fun hc=>by cases hc)
  rw[form_3]
  refine gbn ?_
  refine oB 67 rfl (fun q1=>?_) (fun q1=>?_)
  rotate_left
  ·exact zT3
  refine gap ?_
  refine oB 71 rfl (fun q2=>?_) (fun q2=>?_)
  rotate_left
  ·refine gbk ?_
   refine rR rfl (zra rfl) zhn ⟨?_,rfl⟩
   simp only[q1,q2,Bool.false_and,Bool.and_false,Bool.true_and]
   rfl
  refine gbp ?_
  refine rR rfl (zra rfl) zhn ⟨?_,rfl⟩
  simp only[q1,q2,Bool.true_and]
  rfl
 refine oC rfl (fun hc=>absurd (zt hc) hk3) (fun _=>?_)
 refine gav ?_
 by_cases hk4:kind=4
 ·subst hk4
  refine oC rfl (fun _=>?_) (fun hc=>by cases hc)
  rw[form_4]
  refine gbn ?_
  refine oB 79 rfl (fun q1=>?_) (fun q1=>?_)
  rotate_left
  ·exact zT3
  refine gap ?_
  refine oB 83 rfl (fun q2=>?_) (fun q2=>?_)
  rotate_left
  ·exact zT4
  refine gap ?_
  refine oB 87 rfl (fun q3=>?_) (fun q3=>?_)
  rotate_left
  ·refine gbk ?_
   refine rR rfl (zra rfl) zhn ⟨?_,rfl⟩
   simp only[q1,q2,q3,Bool.false_and,Bool.and_false,Bool.true_and]
   rfl
  refine gbp ?_
  refine rR rfl (zra rfl) zhn ⟨?_,rfl⟩
  simp only[q1,q2,q3,Bool.true_and]
  rfl
 refine oC rfl (fun hc=>absurd (zt hc) hk4) (fun _=>?_)
 refine gav ?_
 by_cases hk5:kind=5
 ·subst hk5
  refine oC rfl (fun _=>?_) (fun hc=>by cases hc)
  rw[form_5]
  refine gbn ?_
  refine oB 95 rfl (fun q1=>?_) (fun q1=>?_)
  rotate_left
  ·exact zT3
  refine gap ?_
  refine oB 99 rfl (fun q2=>?_) (fun q2=>?_)
  rotate_left
  ·exact zT4
  refine gap ?_
  refine oB 103 rfl (fun q3=>?_) (fun q3=>?_)
  rotate_left
  ·exact zT9
  refine gap ?_
  refine oB 107 rfl (fun q4=>?_) (fun q4=>?_)
  rotate_left
  ·exact zT10
  refine gbp ?_
  refine rR rfl (zra rfl) zhn ⟨?_,rfl⟩
  simp only[q1,q2,q3,q4,Bool.true_and]
  rfl
 refine oC rfl (fun hc=>absurd (zt hc) hk5) (fun _=>?_)
 refine gav ?_
 by_cases hk6:kind=6
 ·subst hk6
  refine oC rfl (fun _=>?_) (fun hc=>by cases hc)
  rw[form_6]
  refine gbn ?_
  refine oB 115 rfl (fun q1=>?_) (fun q1=>?_)
  rotate_left
  ·exact zT3
  refine gap ?_
  refine oB 119 rfl (fun q2=>?_) (fun q2=>?_)
  rotate_left
  ·exact zT4
  refine gap ?_
  refine oB 123 rfl (fun q3=>?_) (fun q3=>?_)
  rotate_left
  ·exact zT9
  refine gap ?_
  refine oB 127 rfl (fun q4=>?_) (fun q4=>?_)
  rotate_left
  ·refine gao ?_
   refine rR rfl (zra rfl) zhn ⟨?_,rfl⟩
   simp only[q1,q2,q3,q4,Bool.false_and,Bool.and_false,Bool.true_and]
   rfl
  refine gap ?_
  refine oB 131 rfl (fun q5=>?_) (fun q5=>?_)
  rotate_left
  ·refine gbk ?_
   refine rR rfl (zra rfl) zhn ⟨?_,rfl⟩
   simp only[q1,q2,q3,q4,q5,Bool.false_and,Bool.and_false,Bool.true_and]
   rfl
  refine ghs ?_
  obtain ⟨x0,rfl⟩:∃ x,value=[x]:=by
   have h1:((value.map encE).length:Int)=1:=zt q3
   rw[zLm] at h1
   cases value with
   |nil=>simp at h1
   |cons x l=>
    cases l with
    |nil=>exact ⟨x,rfl⟩
    |cons y l=>simp at h1;omega
  first|refine LOps.want rfl rfl ?_|skip
  refine oP (xR (el':=encE x0) (cs:=[_,_,_,_]) rfl rfl zo rfl rfl rfl) rfl ?_
  refine ght ?_
  refine rR rfl (zra rfl) zhn ⟨?_,rfl⟩
  simp only[q1,q2,q3,q4,q5,Bool.true_and]
  rfl
 refine oC rfl (fun hc=>absurd (zt hc) hk6) (fun _=>?_)
 refine gav ?_
 by_cases hk7:kind=7
 ·subst hk7
  refine oC rfl (fun _=>?_) (fun hc=>by cases hc)
  rw[form_7]
  refine gbn ?_
  refine oB 143 rfl (fun q1=>?_) (fun q1=>?_)
  rotate_left
  ·exact zT3
  refine gap ?_
  refine oB 147 rfl (fun q2=>?_) (fun q2=>?_)
  rotate_left
  ·exact zT4
  refine gap ?_
  refine oB 151 rfl (fun q3=>?_) (fun q3=>?_)
  rotate_left
  ·exact zT9
  refine gap ?_
  refine oB 155 rfl (fun q4=>?_) (fun q4=>?_)
  rotate_left
  ·exact zT10
  refine gbp ?_
  refine rR rfl (zra rfl) zhn ⟨?_,rfl⟩
  simp only[q1,q2,q3,q4,Bool.true_and]
  rfl
 refine oC rfl (fun hc=>absurd (zt hc) hk7) (fun _=>?_)
 refine gd5 ?_
 refine rR rfl (zra rfl) zhn ⟨?_,rfl⟩
 have hf:formS (.mk kind name index value thn els)=false:=by
  simp only[formS]
  rw[if_neg hk1,if_neg hk2,if_neg hk3,if_neg hk4,if_neg hk5,if_neg hk6,if_neg hk7]
 rw[hf]
 rfl
end
end Go.Proofs.YtegmklafpoldgaaGreatDoor.Chk
namespace Go.GL
open Go.RowKit
section
variable {C:Ctx} {e:Env} {H:Heap} {x y:Operand} {dst:Option Nat} {ty:TypeId} {pos:String} {aft:Array Edge} {g:Option (Nat×Bool)} {K:LV→Heap→Prop} {X:List PanicEntry→Heap→Prop}
def byts (l:List UInt8):List LV:=l.map fun b=>int .u8 b.toNat
theorem byts_len (l:List UInt8):(byts l).length=l.length:=zLm _
theorem byts_size (l:List UInt8):∀ v∈byts l,v.cells.length=1:=by
 intro v hv
 obtain ⟨b,_,rfl⟩:=List.mem_map.1 hv
 rfl
theorem byts_flat (l:List UInt8):(byts l).flatMap LV.cells=byts l:=by
 induction l with
 |nil=>rfl
 |cons b l ih=>
  have h:byts (b::l)=int .u8 b.toNat::byts l:=rfl
  rw[h,List.flatMap_cons,ih]
  try rfl
def bytV (l:List UInt8):List Value:=l.map fun b=>.int .u8 b.toNat
theorem bytV_flat (l:List UInt8):∀ v∈bytV l,(∀ cs,v≠Value.agg cs)∧(∀ cs,v≠Value.tuple cs):=by
 intro v hv
 obtain ⟨b,_,rfl⟩:=List.mem_map.1 hv
 exact And.intro (fun _ h=>by cases h) (fun _ h=>by cases h)
theorem first_str {P:Program} (l:List UInt8) (w':World):(Builtin.firstCells 1 l.length (.string ⟨l.toArray⟩)).run P w'=.ok (bytV l).toArray w':=by
 have:=Go.Lib.run_firstCells_string (P:=P) w' 1 ⟨l.toArray⟩
 rw[size_mk] at this
 rw[this]
 try rfl
/-! ### A buffer whose cells are all known: it can be frozen -/
theorem repL_atoms_eq {w:World} {L:Live}:∀ {zs xs:List Value},RepL w L (zs.map .atom) xs→xs=zs
 |[],_,h=>by simpa only[List.map_nil,RepL] using h
 |z::zs,xs,h=>by
  simp only[zMc,RepL] at h
  obtain ⟨y,ys,rfl,h1,h2⟩:=h
  simp only[Rep] at h1
  rw[h1,repL_atoms_eq h2]
inductive BRow (el:TypeId):Value→List UInt8→Heap→Prop
 |nil:BRow el (.slice none 0 0) [] []
 |row {b:Nat} {l:List UInt8} {xs:List Value} (h0:l≠[]) (h1:l.length≤xs.length) (h2:xs.take l.length=bytV l):BRow el (.slice (some ⟨b,0,none⟩) l.length xs.length) l [(b,.cells el (xs.map .atom))]
theorem bytV_len (l:List UInt8):(bytV l).length=l.length:=zLm _
theorem bytV_app (l m:List UInt8):bytV (l++m)=bytV l++bytV m:=zMa
theorem left_newB {w:World} {L:Live} (hH:RelH C w L []) {el:TypeId} {l:List UInt8} {xs:List Value} (h0:l≠[]) (h1:l.length≤xs.length) (h2:xs.take l.length=bytV l) (hk:∀ v' H',BRow el v' l H'→K (.atom v') H') :
  Left C w L [] (World.push w (.cells xs.toArray el)) (.slice (some ⟨w.heap.size,0,none⟩) l.length xs.length) K:=by
 have hx:=ext_push hH.wf (.cells xs.toArray el) 0
 have:=fr_push hH (.cells xs.toArray el) 0 [(w.heap.size,.cells el (xs.map .atom))] (fun p hp=>by
  simp only[List.mem_singleton] at hp
  subst hp
  exact ⟨rfl,by simp[Live.upd],xs,heap_push_self,repL_atoms xs⟩) (by simp)
 exact ⟨.atom _,_,_,this.1,this.2,rep_atom,hk _ _ (BRow.row h0 h1 h2)⟩
theorem LStep.appB {sT xT el bytes:Nat} [ht:TSlice C.P sT el 1] [hr:TRow C.P el 1 bytes] [hx2:TStr C.P xT] {v:Value} {l m:List UInt8}
  (hx:e.ev x=.atom v) (ha:BRow el v l H) (hy:e.ev y=str m) (hroom:(l.length+m.length) * bytes≤140737488355328)
  (hk:∀ v' H',BRow el v' (l++m) H'→K (.atom v') H'):LStep C ⟨dst,.call { callee:=.builtin .append,args:=#[x,y],argTypes:=#[sT,xT] },ty,pos,aft,g⟩ e H K X:=by
 have h0:∀ (cs:Array Bool) (args:Array Value),builtin .append #[sT,xT] ty cs args=(do Pure.pure (.value (←Builtin.append_ #[sT,xT] ty args))):=fun _ _=>rfl
 have hlen:∀ w':World,(Builtin.lenOf (.string ⟨m.toArray⟩)).run C.P w'=.ok m.length w':=fun w'=>by simp[Builtin.lenOf,size_mk]
 cases ha with
 |nil=>
  by_cases hne:m=[]
  ·subst hne
   intro ρ w L h hH
   have hr:(Builtin.append_ #[sT,xT] ty #[.slice none 0 0,.string ⟨#[]⟩]).run C.P w=.ok (.slice none 0 0) w:=by
    obtain ⟨i,hi,his⟩:=ht.size
    simp[Builtin.append_,run_underlying' ht.und,run_underlying' hx2.und,sizeOf,typeInfo,hi,Builtin.lenOf,Builtin.firstCells,show (ByteArray.mk #[]).size=0 from rfl,show ((ByteArray.mk #[]).extract 0 0).data=#[] from rfl]
   rw[execOp_builtin',h0]
   simp only[List.map_toArray,zMc,List.map_nil,Sem.run_bind,atom_of h hx,atom_of h hy,hr,Result.andThen_ok,Sem.run_pure]
   exact ⟨_,[],L,Fr.refl _ _ _,hH,rep_atom,hk _ _ BRow.nil⟩
  ·intro ρ w L h hH
   have hpos:0<m.length:=List.length_pos_iff.2 hne
   obtain ⟨cap',rest,r1,r2,r3⟩:=run_append_new (ty:=ty) (P:=C.P) (w:=w) (sT:=sT) (xT:=xT) (a:=none) (len:=0) (cap:=0) (n:=m.length) (xv:=.string ⟨m.toArray⟩) (old:=[]) (new:=bytV m) (.inl hx2.und) hlen (fun w' _=>first_str m w')
    (fun w' _=>by simp[Builtin.firstCells]) (by simpa using hroom) zo
   rw[execOp_builtin',h0]
   simp only[List.map_toArray,zMc,List.map_nil,Sem.run_bind,atom_of h hx,atom_of h hy,r3,Result.andThen_ok,Sem.run_pure,List.nil_append,Nat.zero_add]
   have hcl:(bytV m++rest).length=cap':=by rw[zLa,r2,bytV_len];omega
   obtain ⟨lv,H',L',g1,g2,g3,g4⟩:=left_newB (K:=K) (el:=el) (l:=m) (xs:=bytV m++rest) hH.drew hne (by rw[hcl];omega) (by rw[List.take_left' (bytV_len m)]) (fun v' H' h'=>hk v' H' h')
   rw[hcl] at g3
   exact ⟨lv,H',L',g1.of_drew,g2,g3,g4⟩
 |row hne h1 h2=>
  rename_i b xs
  intro ρ w L h hH
  obtain ⟨hb0,hbs,hl,zs,hz1,hz2⟩:=hH.objs _ (List.mem_singleton.2 rfl)
  have hz:=repL_atoms_eq hz2
  subst hz
  simp only at hb0 hbs hl hz1
  rw[execOp_builtin',h0]
  simp only[List.map_toArray,zMc,List.map_nil,Sem.run_bind,atom_of h hx,atom_of h hy]
  by_cases hc:l.length+m.length≤zs.length
  ·have hrun:=run_append_in (ty:=ty) (P:=C.P) (w:=w) (sT:=sT) (xT:=xT) (s:=1) (a:=some ⟨b,0,none⟩) (len:=l.length) (cap:=zs.length) (n:=m.length) (xv:=.string ⟨m.toArray⟩) (new:=bytV m) (.inl hx2.und) hlen (fun w' _=>first_str m w') hc
   obtain ⟨w',r1,r2,r3,r4,r5,r6,r7⟩:=storeCells_run (P:=C.P) (b:=b) (off:=0+l.length * 1) (t:=el) (fr:=(0,0)) (bytV m) 0 w zs hz1 (by rw[bytV_len];omega) (fun j _ _=>by simp) (bytV_flat m)
   rw[hrun]
   simp only[add_mk,r1,Result.andThen_ok,Sem.run_pure]
   have hx':(zs.take (0+l.length * 1+0)++bytV m++zs.drop (0+l.length * 1+0+(bytV m).length)).length=zs.length:=by
    simp only[zLa,List.length_take,List.length_drop,bytV_len]
    omega
   have hfin:=left_write (v:=.slice (some ⟨b,0,none⟩) (l.length+m.length) zs.length) (lv:=.atom (.slice (some ⟨b,0,none⟩) (l.length+m.length) zs.length)) (K:=K) (cs':=(zs.take (0+l.length * 1+0)++bytV m++zs.drop (0+l.length * 1+0+(bytV m).length)).map .atom) hH r2 r3 r4 r5 r6 r7 (by rw[hx',zLm]) (repL_atoms _) rep_atom (by
    have hb:BRow el (.slice (some ⟨b,0,none⟩) (l++m).length (zs.take (0+l.length * 1+0)++bytV m++zs.drop (0+l.length * 1+0+(bytV m).length)).length) (l++m) _:=BRow.row (b:=b) (el:=el) (by simp[hne]) (by rw[hx',zLa];exact hc) (by
     have he:0+l.length * 1+0=l.length:=by omega
     rw[he,h2,←bytV_app,List.take_left' (bytV_len _)])
    rw[hx',zLa] at hb
    exact hk _ _ hb)
   exact hfin
  ·have hold:∀ w':World,w'.heap=w.heap→(Builtin.firstCells 1 l.length (.slice (some ⟨b,0,none⟩) l.length zs.length)).run C.P w'=.ok (bytV l).toArray w':=fun w' hw=>by
    have:=loadCellsFrom_run (P:=C.P) (w:=w') (b:=b) (off:=0) l.length 0 #[] (bytV l) (bytV_len l) (fun j x' hj=>by
     have hj':zs[j]? = some x':=by
      rw[←h2,List.getElem?_take] at hj
      split at hj
      ·exact hj
      ·cases hj
     simp[World.cell?,hw,hz1,hj'])
    simp only[Builtin.firstCells,loadCells,Nat.mul_one,this]
    simp
   obtain ⟨cap',rest,r1,r2,r3⟩:=run_append_new (ty:=ty) (P:=C.P) (w:=w) (sT:=sT) (xT:=xT) (a:=some ⟨b,0,none⟩) (len:=l.length) (cap:=zs.length) (n:=m.length) (xv:=.string ⟨m.toArray⟩) (old:=bytV l) (new:=bytV m) (.inl hx2.und) hlen (fun w' _=>first_str m w') hold hroom zo
   rw[r3]
   simp only[Result.andThen_ok,Sem.run_pure]
   have hcl:(bytV l++bytV m++rest).length=cap':=by rw[zLa,zLa,r2,bytV_len,bytV_len];omega
   have hH0:RelH C w L []:=hH.sub (List.nil_sublist _)
   obtain ⟨lv,H',L',g1,g2,g3,g4⟩:=left_newB (K:=K) (el:=el) (l:=l++m) (xs:=bytV l++bytV m++rest) hH0.drew (by simp[hne]) (by rw[hcl,zLa];omega) (by rw[←bytV_app,List.take_left' (bytV_len _)]) (fun v' H' h'=>hk v' H' h')
   rw[hcl,zLa] at g3
   exact ⟨lv,H',L',g1.of_drew.wide (by simp),g2,g3,g4⟩
theorem S.appB1 {sT xT el bytes:Nat} [ht:TSlice C.P sT el 1] [hr:TRow C.P el 1 bytes] [hx2:TStr C.P xT] {v:Value} {l m:List UInt8} {H1:Heap} {q:Nat×LObj}
  (hx:e.ev x=.atom v) (ha:BRow el v l H1) (hy:e.ev y=str m) (hroom:(l.length+m.length) * bytes≤140737488355328)
  (hk:∀ v' H',BRow el v' (l++m) H'→K (.atom v') (q::H')):LStep C ⟨dst,.call { callee:=.builtin .append,args:=#[x,y],argTypes:=#[sT,xT] },ty,pos,aft,g⟩ e (q::H1) K X:=by
 refine LStep.conseq (K:=fun lv H'=>∃ v' H2,lv=.atom v'∧H'=H2++[q]∧BRow el v' (l++m) H2) (LStep.frame (List.perm_append_singleton _ _).symm (LStep.appB hx ha hy hroom fun v' H' h=>⟨v',H',rfl,rfl,h⟩)) ?_
 rintro lv H' ⟨v',H2,rfl,rfl,h⟩
 exact ⟨_,[q]++H2,vR _,⟨[],by simp⟩,hk _ _ h⟩
end
end Go.GL
namespace Go.Proofs.YtegmklafpoldgaaGreatDoor.Inp
open Go.GL Go.RowKit Go.Stele
theorem swap1 {x:Nat×LObj} {H:Heap}:(x::H).Perm (H++[x]):=zPc (l₁:=[x])
theorem form_value {kind:Int} {name:List UInt8} {index value:List Ex} {thn els:List Sm} (h:formS (.mk kind name index value thn els)=true) (h7:¬ kind=7):∃ x,value=[x]:=by
 have h1:value.length=1:=by
  simp only[formS] at h
  repeat' (split at h)
  all_goals first
   |(simp only[zDe] at h;omega)
   |cases h
   |contradiction
 cases value with
 |nil=>cases h1
 |cons x l=>
  cases l with
  |nil=>exact ⟨x,rfl⟩
  |cons y l=>simp at h1
theorem form_index {name:List UInt8} {index value:List Ex} {thn els:List Sm} (h:formS (.mk 2 name index value thn els)=true):∃ x,index=[x]:=by
 have h1:index.length=1:=by
  simp only[formS] at h
  simp only[show ¬ ((2:Int)=1) by decide,if_false,if_true,zDe] at h
  exact h.2.1
 cases index with
 |nil=>cases h1
 |cons x l=>
  cases l with
  |nil=>exact ⟨x,rfl⟩
  |cons y l=>simp at h1
end Go.Proofs.YtegmklafpoldgaaGreatDoor.Inp
namespace Go.Proofs.YtegmklafpoldgaaGreatDoor.Chk
open Go.GL Go.RowKit Go.Stele
theorem form_idx0 {kind:Int} {name:List UInt8} {index value:List Ex} {thn els:List Sm} (h:formS (.mk kind name index value thn els)=true) (h2:¬ kind=2):index=[]:=by
 have h1:index.length=0:=by
  simp only[formS] at h
  repeat' (split at h)
  all_goals first
   |(simp only[zDe] at h;omega)
   |cases h
   |contradiction
 exact List.length_eq_zero_iff.1 h1
theorem form_none {kind:Int} {name:List UInt8} {index value:List Ex} {thn els:List Sm} (h:formS (.mk kind name index value thn els)=true) (h3:¬ kind=3) (h4:¬ kind=4):thn=[]∧els=[]:=by
 have h1:thn.length=0∧els.length=0:=by
  simp only[formS] at h
  repeat' (split at h)
  all_goals first
   |(simp only[zDe] at h;constructor <;> omega)
   |cases h
   |contradiction
 exact ⟨List.length_eq_zero_iff.1 h1.1,List.length_eq_zero_iff.1 h1.2⟩
theorem form_seven {name:List UInt8} {index value:List Ex} {thn els:List Sm} (h:formS (.mk 7 name index value thn els)=true):value=[]:=by
 have h1:value.length=0:=by
  simp only[formS] at h
  repeat' (split at h)
  all_goals first
   |(simp only[zDe] at h;omega)
   |cases h
   |contradiction
 exact List.length_eq_zero_iff.1 h1
attribute [local irreducible] LOps LCode LStep LCalls Go.GL.Pure QThen QBlock RetPost LQ LAny LLate LLateOp LS
section
variable {B0:Nat} {w0:World}
def StmtH (B0:Nat) (w0:World) (k:KB) (c:CEnv) (n:Nat):Prop:=∀ (x:Sm) (d:Nat),ndS x≤n→d≤200000000→LCalls (KC B0 w0) 187 [ptr k.cb 0,encS x] (ckH k d) (PostK (errS c x) (iv (needS c x)) (ckH k (max d (depS c x))))
def StmtsH (B0:Nat) (w0:World) (k:KB) (c:CEnv) (n:Nat):Prop:=∀ (l:List Sm) (d:Nat),ndSs l≤n→d≤200000000→LCalls (KC B0 w0) 154 [ptr k.cb 0,.list (l.map encS)] (ckH k d) (PostK (errSs c l) (iv (needSs c l)) (ckH k (max d (depSs c l))))
theorem stmts_spec {k:KB} {c:CEnv} {B D:Nat} (hB:KnB B D c.funcs) (hD8:D≤100000000) {n:Nat} (hn6:n≤2000000) (ih:StmtH B0 w0 k c n):StmtsH B0 w0 k c n:=by
 intro l d hnd hd
 have hal:=ndSs_len l
 generalize hN:needSs c l=N
 generalize hDD:max d (depSs c l)=DD
 refine cI Tryz.func154 rfl (n:=21) rfl rfl rfl ?_
 refine ga9 ?_
 refine oL (fun kk ls H'=>∃ (pre l1:List Sm) (m d1:Nat),l=pre++l1∧kk=l1.length∧ls=[(0,ptr k.cb 0),(5,iv m),(8,.list (l.map encS)),(9,int .i64 ((l.map encS).length:Int)),(10,iv pre.length)]∧H'=ckH k d1∧d1≤200000000∧errSs c l1=errSs c l∧max m (needSs c l1)=N∧max d1 (depSs c l1)=DD)
  ⟨l.length,_,_,⟨[],l,0,d,rfl,rfl,rfl,rfl,hd,rfl,by omega,hDD⟩,⟨rfl,rfl,rfl,rfl,rfl,trivial⟩,zhR _⟩ ?_
 rintro kk ls H' ⟨pre,l1,m,d1,hLe,rfl,rfl,rfl,hd1,hE,hM,hD1⟩ j hj
 have hb2:pre.length≤2000000:=by
  have:=congrArg List.length hLe
  rw[zLa] at this
  omega
 refine gae ?_
 refine oC rfl (fun hc=>?_) (fun hc=>?_)
 ·have hlen:=zt hc
  rw[zLm,hLe,zLa] at hlen
  obtain ⟨a,l2,rfl⟩:∃ a l2,l1=a::l2:=by
   cases l1 with
   |nil=>simp at hlen
   |cons a l2=>exact ⟨a,l2,rfl⟩
  have ham:ndS a≤n:=by
   have h1:∀ (p:List Sm) (x:Sm) (r:List Sm),ndS x≤ndSs (p++x::r):=fun p=>by
    induction p with
    |nil=>intro x r;show ndS x≤ndSs (x::r);rw[ndSs];omega
    |cons y p ih2=>intro x r;show ndS x≤ndSs (y::(p++x::r));rw[ndSs];have:=ih2 x r;omega
   have:=h1 pre a l2
   rw[←hLe] at this
   omega
  rw[errSs] at hE
  rw[needSs] at hM
  rw[depSs] at hD1
  have hda:=depS_le B D c hB a
  refine gag ?_
  refine oP (xR (el':=encS a) (cs:=[_,_,_,_,_,_]) rfl rfl zo (by rw[hLe];exact get_mid encS pre a l2) rfl rfl) rfl ?_
  refine gd6 ?_
  refine oS (sA fun b7=>?_) rfl
  refine ghu ?_
  refine oS (sK [_,_] rfl (Inp.swap1) (ih a d1 ham hd1) (fun h0=>?_) (fun nm h0 e' he'=>?_)) rfl
  ·rw[h0] at hE
   refine oP (Pure.max2e m (needS c a) rfl rfl rfl rfl) rfl ?_
   refine gce ?_
   exact ⟨l2.length,_,_,Nat.lt_succ_self _,⟨pre++[a],l2,max m (needS c a),max d1 (depS c a),by rw[hLe];simp,rfl,rfl,rfl,by omega,hE,by omega,by omega⟩,⟨rfl,rfl,rfl,rfl,int_eq (by simp),trivial⟩,hsub_left,hj⟩
  ·refine gaa ?_
   exact panK (he'.trans hj) (by rw[←hE];unfold orE;rw[if_pos h0]) h0
 ·have hlen:=zf hc
  rw[zLm,hLe,zLa] at hlen
  obtain rfl:l1=[]:=by
   cases l1 with
   |nil=>rfl
   |cons a l2=>simp at hlen;omega
  rw[needSs] at hM
  rw[depSs] at hD1
  have e1:m=N:=by omega
  have e2:d1=DD:=by omega
  subst e1 e2
  refine gd2 ?_
  exact retK hj (zra rfl) (hE.symm.trans rfl) rfl zhr
theorem stmt_spec {k:KB} {c:CEnv} (hk:KBok k c) {B D:Nat} (hB:KnB B D c.funcs) (hB8:B≤50000000) (hD8:D≤100000000):∀ n:Nat,n≤2000000→StmtH B0 w0 k c n
 |0,_=>fun x d h _=>by have:=ndS_pos x;omega
 |n+1,hn6=>by
  have ihs:=stmts_spec (B0:=B0) (w0:=w0) hB hD8 (n:=n) zo (stmt_spec hk hB hB8 hD8 n zo)
  have hX:ExprH B0 w0 k c n:=expr_spec hk hB zo hD8 n zo
  intro x d hnd hd
  obtain ⟨kind,name,index,value,thn,els⟩:=x
  rw[ndS] at hnd
  generalize hI:errS c (Sm.mk kind name index value thn els)=E
  rw[errS] at hI
  generalize hN:needS c (Sm.mk kind name index value thn els)=N
  rw[needS] at hN
  generalize hDD:max d (depS c (Sm.mk kind name index value thn els))=DD
  rw[depS] at hDD
  have hfs:=formed_spec (B0:=B0) (w0:=w0) (Sm.mk kind name index value thn els)
  rw[encS_mk] at hfs ⊢
  refine cI Tryz.func187 rfl (n:=65) rfl rfl rfl ?_
  refine gac ?_
  refine oS (sB rfl fun b3=>?_) rfl
  refine gby ?_
  refine cM (A:=Unit) (fun _=>[(0,ptr k.cb 0),(3,ptr b3 0)]) (fun _=>(b3,.cells 168 [int .i64 kind,str name,.list (index.map encE),.list (value.map encE),.list (thn.map encS),.list (els.map encS)])::ckH k d) (fun _=>formS (Sm.mk kind name index value thn els)=true) ?_ (fun _ hform j hj=>?_)
  ·refine cD (m:=7) rfl [(b3,.cells 168 [int .i64 kind,str name,.list (index.map encE),.list (value.map encE),.list (thn.map encS),.list (els.map encS)]),(k.cb,.cells 105 [.atom (.map (some k.gm)),.atom (.map (some k.vm)),.atom (.map (some k.am)),.atom (.map (some k.fm)),str k.name,.atom (.map (some k.om)),int .i64 (d:Int)])] ?_
   refine aT 0 rfl rfl (pG (cs':=[_,_,_,_,_,_]) rfl zm0 rfl rfl) ?_
   refine aT 2 rfl rfl (pM (lv:=.atom _) rfl) ?_
   refine aT 3 rfl rfl (pN rfl) ?_
   refine aT 4 rfl rfl (pF rfl) ?_
   refine aT 5 rfl rfl (pL (c:=.atom _) rfl zm1 rfl) ?_
   refine aL ?_ (zhP pH zhp)
   refine lO 1 (lS (H1:=[]) rfl (.inl rfl) rfl zpr (zhP pH zhp) (sF [_] rfl hfs ?_))
   cases hf:formS (Sm.mk kind name index value thn els) with
   |true=>
    refine lO 6 (lS (H1:=[]) rfl (.inl rfl) rfl zpr (zhP pH zhp) (LStep.callK [_,_,_] rfl (req_spec true k.name 3 zDd) (fun _=>?_) (fun nm h=>absurd rfl h)))
    refine lD zk ?_
    refine qN ?_
    exact ⟨(),rfl,⟨rfl,rfl,trivial⟩,zhR _,rfl⟩
   |false=>
    rw[hf,if_pos rfl] at hI
    refine lO 6 (lS (H1:=[]) rfl (.inl rfl) rfl zpr (zhP pH zhp) (LStep.callK [_,_,_] rfl (req_spec false k.name 3 zDd) (fun h=>absurd h zDd) (fun nm _ e' he'=>?_)))
    refine gad ?_
    exact panK (he'.trans rfl) (by rw[←hI];rfl) zDd
  rw[hform,if_neg zDd] at hI
  refine ghv ?_
  by_cases h7:kind=7
  ·subst h7
   obtain rfl:=form_seven hform
   obtain rfl:=form_idx0 hform zDd
   obtain ⟨rfl,rfl⟩:=form_none hform zDd zDd
   refine oC rfl (fun _=>?_) (fun hc=>by cases hc)
   refine gaf ?_
   have e2:d=DD:=by
    rw[←hDD]
    simp only[depEs,depSs]
    omega
   subst e2
   exact retK hj (zra rfl) (by rw[←hI];rfl) (by rw[←hN];rfl) (zhD zhr)
  refine oC rfl (fun hc=>absurd (zt hc) h7) (fun _=>?_)
  obtain ⟨x0,rfl⟩:=Inp.form_value hform h7
  rw[if_neg h7] at hN
  have hnx:ndE x0≤n:=by
   rw[ndEs,ndEs] at hnd
   omega
  have hdx:=depE_le B D c hB x0
  have hnx0:=needE_le B D c hB x0
  have hEv:∀ E2,orE (errEs c [x0]) E2=orE (errE c x0) E2:=fun E2=>by
   rw[errEs,errEs]
   unfold orE
   by_cases h:errE c x0≠0
   ·rw[if_pos h,if_pos h]
   ·rw[if_neg h,if_neg zDd,if_neg h]
  rw[hEv] at hI
  rw[show ([x0]:List Ex).headD default=x0 from rfl] at hN
  have hDx:depEs c [x0]=depE c x0:=by
   rw[depEs,depEs]
   omega
  rw[hDx] at hDD
  refine ghw ?_
  refine oP (xR (el':=encE x0) (cs:=[_,_,_,_]) rfl rfl zo rfl rfl rfl) rfl ?_
  refine gan ?_
  refine oS (sK [_,_] rfl (Inp.swap1) (hX x0 d hnx hd) (fun h0=>?_) (fun nm h0 e' he'=>?_)) rfl
  rotate_left
  ·refine gad ?_
   exact panK (he'.trans hj) (by rw[←hI];unfold orE;rw[if_pos h0]) h0
  rw[h0,show ∀ E2,orE 0 E2=E2 from fun E2=>rfl] at hI
  generalize hd1:max d (depE c x0)=d1
  refine LOps.perm (Inp.swap1 (H:=ckH k d1)).symm ?_
  refine ghx ?_
  by_cases hk1:kind=1
  ·subst hk1
   obtain rfl:=form_idx0 hform zDd
   obtain ⟨rfl,rfl⟩:=form_none hform zDd zDd
   have hI4:scalarE c name=E:=by
    rw[←hI]
    simp only[errEs,errSs]
    unfold orE
    by_cases ha:scalarE c name=0 <;> simp[ha]
   refine oC rfl (fun _=>?_) (fun hc=>by cases hc)
   refine gd7 ?_
   refine oS (sK [_,_] rfl (Inp.swap1) (scalar_spec hk d1 name) (fun h1=>?_) (fun nm h1 e' he'=>?_)) rfl
   ·rw[hI4] at h1
    refine ghy ?_
    refine oP (Pure.max2e 2 (needE c x0) rfl rfl rfl rfl) rfl ?_
    refine ga0 ?_
    have e2:d1=DD:=by
     rw[←hDD,←hd1]
     simp only[depEs,depSs]
     omega
    subst e2
    refine retK hj (zra rfl) h1 ?_ hsub_left
    rw[←hN]
    simp only[needSs]
    exact int_eq (by simp)
   ·refine gaa ?_
    exact panK (he'.trans hj) hI4.symm h1
  refine oC rfl (fun hc=>absurd (zt hc) hk1) (fun _=>?_)
  rw[if_neg hk1] at hI
  refine gav ?_
  by_cases hk2:kind=2
  ·subst hk2
   obtain ⟨i0,rfl⟩:=Inp.form_index hform
   obtain ⟨rfl,rfl⟩:=form_none hform zDd zDd
   have hni:ndE i0≤n:=by
    rw[ndEs,ndEs,ndEs,ndEs] at hnd
    omega
   have hdi:=depE_le B D c hB i0
   have hni0:=needE_le B D c hB i0
   have hI4:orE (errE c i0) (arrayE c name)=E:=by
    rw[←hI]
    simp only[errEs,errSs]
    unfold orE
    by_cases ha:errE c i0=0 <;> by_cases hb:arrayE c name=0 <;> simp[ha,hb]
   refine oC rfl (fun _=>?_) (fun hc=>by cases hc)
   refine ga7 ?_
   refine oP (xR (el':=encE i0) (cs:=[_,_,_,_]) rfl rfl zo rfl rfl rfl) rfl ?_
   refine gan ?_
   refine oS (sK [_,_] rfl (Inp.swap1) (hX i0 d1 hni zo) (fun h1=>?_) (fun nm h1 e' he'=>?_)) rfl
   rotate_left
   ·refine gaa ?_
    exact panK (he'.trans hj) (by rw[←hI4];unfold orE;rw[if_pos h1]) h1
   rw[h1] at hI4
   refine LOps.perm (Inp.swap1 (H:=ckH k (max d1 (depE c i0)))).symm ?_
   refine gd8 ?_
   refine oS (sK [_,_] rfl (Inp.swap1) (array_spec hk (max d1 (depE c i0)) name) (fun h2=>?_) (fun nm h2 e' he'=>?_)) rfl
   ·refine ghz ?_
    refine oP (Pure.max2e (needE c x0) (2+needE c i0) rfl rfl rfl zo) rfl ?_
    refine gau ?_
    have e2:max d1 (depE c i0)=DD:=by
     rw[←hDD,←hd1]
     simp only[depEs,depSs]
     omega
    rw[←e2]
    exact retK hj (zra rfl) (hI4.symm.trans h2) (by rw[←hN];rfl) hsub_left
   ·refine gaa ?_
    exact panK (he'.trans hj) hI4.symm h2
  refine oC rfl (fun hc=>absurd (zt hc) hk2) (fun _=>?_)
  obtain rfl:=form_idx0 hform hk2
  rw[if_neg hk2] at hI hN
  refine gav ?_
  by_cases hk5:kind=5
  ·subst hk5
   obtain ⟨rfl,rfl⟩:=form_none hform zDd zDd
   refine oC rfl (fun _=>?_) (fun hc=>by cases hc)
   refine gcr ?_
   have e2:d1=DD:=by
    rw[←hDD,←hd1]
    simp only[depEs,depSs]
    omega
   subst e2
   exact retK hj (zra rfl) (by rw[←hI];rfl) (by rw[←hN];rfl) (zhD zhr)
  refine oC rfl (fun hc=>absurd (zt hc) hk5) (fun _=>?_)
  rw[if_neg hk5] at hN
  have hI5:orE (errSs c thn) (errSs c els)=E:=by
   rw[←hI]
   simp only[errEs]
   rfl
  refine gav ?_
  by_cases hk3:kind=3
  ·refine oC rfl (fun _=>?_) (fun hc=>absurd hk3 (zf hc))
   refine ga6 ?_
   refine oC rfl (fun _=>?_) (fun hc=>absurd hk3 (zf hc))
   refine cD (m:=11) rfl [(b3,.cells 168 [int .i64 kind,str name,.list (([]:List Ex).map encE),.list ([x0].map encE),.list (thn.map encS),.list (els.map encS)])] ?_
   refine aT 0 rfl rfl (pM (lv:=.atom _) rfl) ?_
   refine aT 1 rfl rfl (pM (lv:=.atom _) rfl) ?_
   refine aT 2 rfl rfl (pF rfl) ?_
   refine aT 3 rfl rfl (pL (c:=.list _) rfl zm0 rfl) ?_
   refine aT 5 rfl rfl (pM (lv:=.atom _) rfl) ?_
   refine aT 6 rfl rfl (pF rfl) ?_
   refine aT 7 rfl rfl (pL (c:=.list _) rfl zm0 rfl) ?_
   refine aL ?_ zhp
   refine lO 4 (lS (H1:=ckH k d1) rfl (.inl rfl) rfl Inp.swap1 zhr (LStep.callK [_,_] rfl (ihs thn d1 (by rw[ndEs,ndEs,ndEs] at hnd;omega) zo) (fun h1=>?_) (fun nm h1 e' he'=>?_)))
   rotate_left
   ·refine gaa ?_
    exact panK (he'.trans hj) (by rw[←hI5];unfold orE;rw[if_pos h1]) h1
   rw[h1] at hI5
   have hdt:=depSs_le B D c hB thn
   refine lO 8 (lS (H1:=ckH k (max d1 (depSs c thn))) rfl (.inl rfl) rfl zpr zhr (LStep.callK [_,_] rfl (ihs els (max d1 (depSs c thn)) (by rw[ndEs,ndEs,ndEs] at hnd;omega) zo) (fun h2=>?_) (fun nm h2 e' he'=>?_)))
   rotate_left
   ·refine gaa ?_
    exact panK (he'.trans hj) hI5.symm h2
   refine lO 9 (lH rfl rfl (Pure.max3e (needE c x0) (needSs c thn) (needSs c els) rfl rfl rfl rfl rfl rfl) ?_)
   refine lO 10 (lH rfl rfl (pA (lv:=.atom _) rfl) ?_)
   refine lD zk ?_
   refine gd9 ?_
   refine oP (Pure.max2e 2 (max (max (needE c x0) (needSs c thn)) (needSs c els)) rfl rfl rfl rfl) rfl ?_
   refine ga0 ?_
   have e2:max (max d1 (depSs c thn)) (depSs c els)=DD:=by
    rw[←hDD,←hd1]
    simp only[depEs]
    omega
   rw[←e2]
   exact retK hj (zra rfl) (hI5.symm.trans h2) (by rw[←hN];rfl) hsub_left
  refine oC rfl (fun hc=>absurd (zt hc) hk3) (fun _=>?_)
  refine gh0 ?_
  by_cases hk4:kind=4
  ·refine oC rfl (fun _=>?_) (fun hc=>absurd hk4 (zf hc))
   refine cD (m:=11) rfl [(b3,.cells 168 [int .i64 kind,str name,.list (([]:List Ex).map encE),.list ([x0].map encE),.list (thn.map encS),.list (els.map encS)])] ?_
   refine aT 0 rfl rfl (pM (lv:=.atom _) rfl) ?_
   refine aT 1 rfl rfl (pM (lv:=.atom _) rfl) ?_
   refine aT 2 rfl rfl (pF rfl) ?_
   refine aT 3 rfl rfl (pL (c:=.list _) rfl zm0 rfl) ?_
   refine aT 5 rfl rfl (pM (lv:=.atom _) rfl) ?_
   refine aT 6 rfl rfl (pF rfl) ?_
   refine aT 7 rfl rfl (pL (c:=.list _) rfl zm0 rfl) ?_
   refine aL ?_ zhp
   refine lO 4 (lS (H1:=ckH k d1) rfl (.inl rfl) rfl Inp.swap1 zhr (LStep.callK [_,_] rfl (ihs thn d1 (by rw[ndEs,ndEs,ndEs] at hnd;omega) zo) (fun h1=>?_) (fun nm h1 e' he'=>?_)))
   rotate_left
   ·refine gaa ?_
    exact panK (he'.trans hj) (by rw[←hI5];unfold orE;rw[if_pos h1]) h1
   rw[h1] at hI5
   have hdt:=depSs_le B D c hB thn
   refine lO 8 (lS (H1:=ckH k (max d1 (depSs c thn))) rfl (.inl rfl) rfl zpr zhr (LStep.callK [_,_] rfl (ihs els (max d1 (depSs c thn)) (by rw[ndEs,ndEs,ndEs] at hnd;omega) zo) (fun h2=>?_) (fun nm h2 e' he'=>?_)))
   rotate_left
   ·refine gaa ?_
    exact panK (he'.trans hj) hI5.symm h2
   refine lO 9 (lH rfl rfl (Pure.max3e (needE c x0) (needSs c thn) (needSs c els) rfl rfl rfl rfl rfl rfl) ?_)
   refine lO 10 (lH rfl rfl (pA (lv:=.atom _) rfl) ?_)
   refine lD zk ?_
   refine gd9 ?_
   refine oP (Pure.max2e 2 (max (max (needE c x0) (needSs c thn)) (needSs c els)) rfl rfl rfl rfl) rfl ?_
   refine ga0 ?_
   have e2:max (max d1 (depSs c thn)) (depSs c els)=DD:=by
    rw[←hDD,←hd1]
    simp only[depEs]
    omega
   rw[←e2]
   exact retK hj (zra rfl) (hI5.symm.trans h2) (by rw[←hN];rfl) hsub_left
  refine oC rfl (fun hc=>absurd (zt hc) hk4) (fun _=>?_)
  obtain ⟨rfl,rfl⟩:=form_none hform hk3 hk4
  refine gb0 ?_
  refine oP (Pure.max2e 2 (needE c x0) rfl rfl rfl rfl) rfl ?_
  refine ga0 ?_
  have e2:d1=DD:=by
   rw[←hDD,←hd1]
   simp only[depEs,depSs]
   omega
  subst e2
  refine retK hj (zra rfl) (by rw[←hI5];rfl) ?_ (zhD zhr)
  rw[←hN]
  simp only[needSs]
  exact int_eq (by simp)
end
end Go.Proofs.YtegmklafpoldgaaGreatDoor.Chk
