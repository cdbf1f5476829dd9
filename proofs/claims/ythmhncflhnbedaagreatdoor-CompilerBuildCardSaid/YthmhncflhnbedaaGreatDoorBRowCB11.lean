/- Texts joined: AsmRef, A18B, A18C, A18D, A18E, A18F, RLex1, A23A, RC1, RC2, RC3, RC4. -/
import Derived.Lib.ItoaLen
import Derived.Test.YthmhncflhnbedaaGreatDoorBRowCB3
import Derived.Test.YthmhncflhnbedaaGreatDoorBRowCB4
import Derived.Test.YthmhncflhnbedaaGreatDoorBRowCB5
import Derived.Test.YthmhncflhnbedaaGreatDoorBRowCB6
import Derived.Test.YthmhncflhnbedaaGreatDoorBRowCB8
import Derived.Test.YthmhncflhnbedaaGreatDoorBRowCB9
import Derived.Test.YthmhncflhnbedaaGreatDoorBRowCB10
set_option linter.unusedVariables false
set_option linter.unusedSimpArgs false
set_option maxRecDepth 100000
set_option maxHeartbeats 4000000
namespace Go.Stele
open Go.Lib
/-! ### Six digits -/
def padW:Nat->Nat->Wd
 |0,_=>[]
 |k+1,n=>padW k (n / 10)++[UInt8.ofNat (48+n % 10)]
theorem qle:∀ k,padW k 0=List.replicate k 48
 |0=>rfl
 |k+1=>by
  rw[padW,Nat.zero_div,qle k,List.replicate_succ']
  try rfl
theorem qkx:∀ k n,(padW k n).length=k
 |0,_=>rfl
 |k+1,n=>by rw[padW,zLa,qkx k];try rfl
theorem qnz:∀ (k n j:Nat),k<=j+(decDigits n).length->(List.replicate j 48++decDigits n).drop (j+(decDigits n).length-k)=padW k n
 |0,n,j,_=>by
  rw[padW,List.drop_eq_nil_of_le];rw[zLa,List.length_replicate]
  omega
 |k+1,n,j,h=>by
  by_cases hn:n<10
  ·have e1:decDigits n=[UInt8.ofNat (48+n)]:=decDigits_one hn;rw[e1,List.length_singleton] at h;rw[e1,List.length_singleton,padW,show n / 10=0 by omega,qle,show n % 10=n by omega,List.drop_append_of_le_length (by rw[List.length_replicate];omega),List.drop_replicate];congr 2;omega
  ·have e1:decDigits n=decDigits (n / 10)++[UInt8.ofNat (48+n % 10)]:=by rw[decDigits,dif_neg hn]
   have e2:(decDigits n).length=(decDigits (n / 10)).length+1:=by rw[e1,zLa];try rfl
   have ih:=qnz k (n / 10) j (by omega);rw[e2,padW,<-ih,e1,<-zAs,List.drop_append_of_le_length (by rw[zLa,List.length_replicate];omega)];congr 2;omega
theorem qpK (n:Nat):qev n=padW 6 n:=by
 have h1:=List.length_pos_iff.2 (qcV n);have:=qnz 6 n 5 (by omega);rw[<-this];unfold qev;have e:([48,48,48,48,48]:List UInt8)=List.replicate 5 48:=rfl;rw[e,zLa,List.length_replicate]
/-! ### The first token at fault -/
def fltW (all met:List Wd) (w:Wd):Nat:=match defW w with
 |some x=>if x∈met then 8 else 0
 |none=>match refW w with
  |some x=>if x∈all then 0 else 7
  |none=>if qeI w=true then 0 else 3
def errW (all:List Wd):List Wd->List Wd->Nat
 |_,[]=>0
 |met,w::r=>if fltW all met w≠0 then fltW all met w else errW all (met++defs [w]) r
theorem qlM (all:List Wd):∀ (l:List (Wd×Nat)) (met:List Wd),(errT all met l).2=errW all met (l.map (·.1))
 |[],met=>rfl
 |(w,ln)::r,met=>by
  rw[errT,zMc,errW];unfold fltW defs;rw[List.filterMap_cons,List.filterMap_nil]
  cases hd:defW w with
  |some x=>
   simp only
   by_cases h:x∈met
   ·rw[if_pos h,if_pos h,if_pos zDd]
   ·rw[if_neg h,if_neg h,if_neg zDd]
    exact qlM all r _
  |none=>
   simp only
   cases hr:refW w with
   |some x=>
    simp only
    by_cases h:x∈all
    ·rw[if_pos h,if_pos h,if_neg zDd,zLz];exact qlM all r _
    ·rw[if_neg h,if_neg h,if_pos zDd]
   |none=>
    simp only
    by_cases h:qeI w=true
    ·rw[if_pos h,if_pos h,if_neg zDd,zLz];exact qlM all r _
    ·rw[if_neg h,if_neg h,if_pos zDd]
def asmE (src:Wd) (og:Int):Except Nat Wd:=
 if og<0∨262144<=og then .error 2
 else if errW (defs (qbo src)) [] (qbo src)≠0 then .error (errW (defs (qbo src)) [] (qbo src))
 else if 40000<(qiL (qb8 (qhD (fun _=>0) og.toNat (qbo src))) (qbo src)).length then .error 6
 else .ok (qiL (qb8 (qhD (fun _=>0) og.toNat (qbo src))) (qbo src))
theorem qp8 (src:Wd) (og:Int):asmE src og=match asmP src og with
  |.error e=>.error e.2
  |.ok x=>.ok x.1:=by
 unfold asmE asmP;rw[qlM,qfk]
 by_cases h1:og<0∨262144<=og
 ·rw[if_pos h1,if_pos h1]
 rw[if_neg h1,if_neg h1]
 by_cases h2:errW (defs (qbo src)) [] (qbo src)≠0
 ·rw[if_pos h2,if_pos h2];simp only;rw[qlM,qfk]
 rw[if_neg h2,if_neg h2]
 try split <;> rfl
end Go.Stele
namespace Go.Proofs.YthmhncflhnbedaaGreatDoor.Asm
open Go.GL Go.RowKit Go.Stele
def qg0 (i:Nat) (c:UInt8):Bool:=!qaz c && (decide (i=0) || (!qao c && decide (cv c≠95)))
theorem qiN {i:Nat} {c:UInt8} (h:qg0 i c=false):qaH c=true/\(i=0->qaz c=true):=by
 unfold qg0 at h;unfold qaH
 cases hl:qaz c with
 |true=>exact ⟨rfl,fun _=>rfl⟩
 |false=>
  rw[hl] at h;simp only[Bool.not_false,Bool.true_and,Bool.or_eq_false_iff,Bool.and_eq_false_iff,decide_eq_false_iff_not,Bool.not_eq_false',ne_eq,Decidable.not_not] at h;refine ⟨?_,fun e=>absurd e h.1⟩;rcases h.2 with h2|h2
  ·rw[h2];rfl
  ·rw[decide_eq_true h2,Bool.or_true]
theorem qn6 {s:Wd} {i:Nat} (h:i<s.length) (hb:qg0 i s[i]=true):qfj s=false:=by
 cases s with
 |nil=>rfl
 |cons c r=>
  rw[qkJ];unfold qg0 at hb;simp only[zBa,Bool.not_eq_true',Bool.or_eq_true,zDe] at hb;obtain ⟨h1,h2⟩:=hb;rcases h2 with h2|⟨h2,h3⟩
  ·subst h2;rw[List.getElem_cons_zero] at h1;rw[h1,Bool.and_false,Bool.false_and]
  ·have:(c::r).all qaH=false:=by
    rw[<-Bool.not_eq_true,List.all_eq_true];intro hall;have h4:=hall _ (List.getElem_mem h);unfold qaH at h4;rw[h1,h2] at h4;simp at h4;exact h3 h4
   rw[this,Bool.and_false]
theorem qqV {s:Wd} (h:∀ i (h:i<s.length),qg0 i s[i]=false):(decide (s≠[]) && decide (s.length<=40))=qfj s:=by
 cases s with
 |nil=>rfl
 |cons c r=>
  rw[qkJ];have h1:qaz c=true:=(qiN (h 0 (by simp))).2 rfl
  have h2:(c::r).all qaH=true:=by
   rw[List.all_eq_true];intro x hx;obtain ⟨i,hi,rfl⟩:=List.getElem_of_mem hx;exact (qiN (h i hi)).1
  rw[h1,h2,Bool.and_true,Bool.and_true]
  simp
def qgU:List UInt8:=[43,45,42,47,37,94,60,64,33,63,58,59,44,46,36]
theorem qq5 (c:UInt8):qg5.contains c=(qao c || qgU.contains c):=by
 rw[Bool.eq_iff_iff];unfold qg5 qgU qao;simp only[List.contains_cons,List.contains_nil,Bool.or_eq_true,beq_iff_eq,Bool.or_false,zBa,zDe,<-UInt8.toNat_inj];simp[cv];omega
theorem qr0 {s:Wd} (h:s≠[]):(qeI s && decide (s≠[]))=qeI s:=by
 rw[decide_eq_true h,Bool.and_true]
def dfLV:Option Wd->LV
 |some x=>.tuple [str x,bool true]
 |none=>.tuple [str [],bool false]
attribute [local irreducible] LOps qae qag LCalls Go.GL.Pure qaA qaq qah LQ LAny qaF qap
section
variable {B0:Nat} {w0:World}
theorem qeh (c:UInt8):LCalls (KC B0 w0) 146 [int .u8 (c.toNat:Int)] [] (Ret (bool (qao c))):=by
 refine cI Tryz.func146 rfl (n:=9) rfl rfl rfl ?_;refine gab ?_;refine oB 5 rfl (fun h1=>?_) (fun h1=>?_)
 ·have h1':48<=cv c:=zt h1;refine gac ?_;exact qac rfl (zra rfl) (qai (by unfold qao;rw[decide_eq_true h1',Bool.true_and]))
 ·have h1':¬ 48<=cv c:=zf h1;refine gae ?_;exact qac rfl (zra rfl) (qai (by unfold qao;rw[decide_eq_false h1',Bool.false_and]))
theorem ql7 (c:UInt8):LCalls (KC B0 w0) 147 [int .u8 (c.toNat:Int)] [] (Ret (bool (qgU.contains c))):=by
 have hl:qgU.length=15:=rfl;refine cI Tryz.func147 rfl (n:=12) rfl rfl rfl ?_;refine gaa ?_
 refine oL (fun k ls H=>∃ i:Nat,i<=15/\k=15-i/\ls=[(0,int .u8 (c.toNat:Int)),(3,int .i64 (i:Nat))]/\H=[]/\qgU.contains c=(qgU.drop i).contains c)
  ⟨_,_,_,⟨0,Nat.zero_le _,rfl,rfl,rfl,rfl⟩,⟨rfl,rfl,trivial⟩,zhR _⟩ ?_
 rintro k ls H ⟨i,hi,rfl,rfl,rfl,hD⟩ j hj;refine gaa ?_;refine oC rfl (fun hc=>?_) (fun hc=>?_)
 ·have hlt:i<qgU.length:=by have:=zt hc;omega
  rw[List.drop_eq_getElem_cons hlt,List.contains_cons] at hD;have hg:qgU[(i:Int).toNat]? = some qgU[i]:=by rw[Int.toNat_natCast,List.getElem?_eq_getElem hlt]
  generalize qgU[i]=d at hD hg;refine gaa ?_;refine oP (pI (l:=qgU) (c:=d) rfl rfl zo hg) rfl ?_;refine gad ?_;refine oC rfl (fun h=>?_) (fun h=>?_)
  ·have h2:d=c:=UInt8.toNat_inj.1 (Int.ofNat.inj (zt h));rw[h2] at hD;refine gaz ?_;exact qac hj (zra rfl) (qai (by rw[hD];simp))
  ·have h2:¬ d=c:=fun e=>zf h (by rw[e]);refine gaa ?_;exact ⟨_,_,_,by omega,⟨i+1,by omega,rfl,rfl,rfl,by rw[hD,show (c == d)=false from beq_false_of_ne (fun e=>h2 e.symm),Bool.false_or]⟩,⟨rfl,qaf zo,trivial⟩,zhR _,hj⟩
 ·have hi':i=15:=by have:=zf hc;omega
  subst hi';refine gaa ?_;exact qac hj (zra rfl) (qai (by rw[hD];rfl))
theorem qix (s:Wd) (hs:s.length<=1000000000):LCalls (KC B0 w0) 145 [str s] [] (Ret (bool (qfj s))):=by
 refine cI Tryz.func145 rfl (n:=47) rfl rfl rfl ?_;refine gaa ?_
 refine oL (fun k ls H=>∃ i:Nat,i<=s.length/\k=s.length-i/\ls=[(0,str s),(3,int .i64 (i:Nat))]/\H=[]/\∀ x (h:x<s.length),x<i->qg0 x s[x]=false)
  ⟨_,_,_,⟨0,Nat.zero_le _,rfl,rfl,rfl,fun x h hx=>by omega⟩,⟨rfl,rfl,trivial⟩,zhR _⟩ ?_
 rintro k ls H ⟨i,hi,rfl,rfl,rfl,hD⟩ j hj;refine gab ?_;refine oC rfl (fun hc=>?_) (fun hc=>?_)
 ·have hlt:i<s.length:=by have:=zt hc;omega
  have hbn:=qn6 hlt;have hg:s[(i:Int).toNat]? = some s[i]:=by rw[Int.toNat_natCast,List.getElem?_eq_getElem hlt]
  obtain ⟨c,hcx⟩:∃ c,c=s[i]:=⟨_,rfl⟩;rw[<-hcx] at hbn hg;refine gaa ?_;refine oP (pI (c:=c) rfl rfl zo hg) rfl ?_;refine gac ?_;refine LOps.cut [(0,str s),(3,int .i64 (i:Nat)),(4,bool (qaz c))] ?_ (fun j2 hj2=>?_)
  ·refine oB 15 rfl (fun h1=>?_) (fun h1=>?_)
   ·have h1':97<=cv c:=zt h1;refine gal ?_;refine oP (pI (c:=c) rfl rfl zo hg) rfl ?_;refine gac ?_;exact ⟨⟨rfl,rfl,qai (by unfold qaz;rw[decide_eq_true h1',Bool.true_and]),trivial⟩,rfl,rfl⟩
   ·have h1':¬ 97<=cv c:=zf h1;refine gae ?_;exact ⟨⟨rfl,rfl,qai (by unfold qaz;rw[decide_eq_false h1',Bool.false_and]),trivial⟩,rfl,rfl⟩
  refine gaa ?_;refine LOps.cut [(0,str s),(3,int .i64 (i:Nat)),(39,bool (qg0 i c))] ?_ (fun j3 hj3=>?_)
  ·refine oB 23 rfl (fun h1=>?_) (fun h1=>?_);rotate_left
   ·have h1':(!qaz c)=false:=h1;refine gac ?_;exact ⟨⟨rfl,rfl,qai (by unfold qg0;rw[h1',Bool.false_and]),trivial⟩,rfl,rfl⟩
   have h1':(!qaz c)=true:=h1;refine gaq ?_;refine oB 26 rfl (fun h2=>?_) (fun h2=>?_)
   ·have h2':i=0:=by have:=zt h2;omega
    refine gac ?_;exact ⟨⟨rfl,rfl,qai (by unfold qg0;rw[h1',decide_eq_true h2',Bool.true_and,Bool.true_or]),trivial⟩,rfl,rfl⟩
   have h2':¬ i=0:=by have:=zf h2;omega
   refine gal ?_;refine oP (pI (c:=c) rfl rfl zo hg) rfl ?_;refine gal ?_;refine oS (sF [_] rfl (qeh c) ?_) rfl;refine gad ?_;refine oB 32 rfl (fun h3=>?_) (fun h3=>?_)
   ·have h3':(!qao c)=true:=h3;refine gal ?_;refine oP (pI (c:=c) rfl rfl zo hg) rfl ?_;refine gac ?_
    exact ⟨⟨rfl,rfl,qai (by
     unfold qg0
     rw[h1',h3',decide_eq_false h2',Bool.true_and,Bool.true_and,Bool.false_or,<-decide_not]),trivial⟩,rfl,rfl⟩
   ·have h3':(!qao c)=false:=h3;refine gad ?_
    exact ⟨⟨rfl,rfl,qai (by
     unfold qg0;rw[h1',h3',decide_eq_false h2']
     rfl),trivial⟩,rfl,rfl⟩
  refine oC rfl (fun h=>?_) (fun h=>?_)
  ·have h':qg0 i c=true:=h;refine gaz ?_;exact qac (hj3.trans (hj2.trans hj)) (zra rfl) (qai (hbn h').symm)
  ·have h':qg0 i c=false:=h;refine gaa ?_
   exact ⟨_,_,_,by omega,⟨i+1,by omega,rfl,rfl,rfl,fun x hx hx1=>by
    by_cases he:x=i
    ·subst he;rw[<-hcx];exact h'
    ·exact hD x hx zo⟩,⟨rfl,qaf zo,trivial⟩,zhR _,hj3.trans (hj2.trans hj)⟩
 ·have hi':i=s.length:=by have:=zf hc;omega
  subst hi';have hN:=qqV (s:=s) fun x hx=>hD x hx hx;refine gab ?_;refine oB 42 rfl (fun h1=>?_) (fun h1=>?_)
  ·have h1':s≠[]:=by simpa using h1
   rw[decide_eq_true h1',Bool.true_and] at hN;refine gac ?_;exact qac hj (zra rfl) (qai (by rw[<-hN,decide_eq_decide];omega))
  ·have h1':¬ s≠[]:=by simpa using h1
   rw[decide_eq_false h1',Bool.false_and] at hN;refine gae ?_;exact qac hj (zra rfl) (qai hN)
theorem qmC (s:Wd) (hs:s.length<=1000000000):LCalls (KC B0 w0) 87 [str s] [] (Ret (bool (qeI s && decide (s≠[])))):=by
 refine cI Tryz.func87 rfl (n:=24) rfl rfl rfl ?_;refine gaa ?_
 refine oL (fun k ls H=>∃ i:Nat,i<=s.length/\k=s.length-i/\ls=[(0,str s),(3,int .i64 (i:Nat))]/\H=[]/\qeI s=qeI (s.drop i))
  ⟨_,_,_,⟨0,Nat.zero_le _,rfl,rfl,rfl,rfl⟩,⟨rfl,rfl,trivial⟩,zhR _⟩ ?_
 rintro k ls H ⟨i,hi,rfl,rfl,rfl,hD⟩ j hj;refine gab ?_;refine oC rfl (fun hc=>?_) (fun hc=>?_)
 ·have hlt:i<s.length:=by have:=zt hc;omega
  have hg:s[(i:Int).toNat]? = some s[i]:=by rw[Int.toNat_natCast,List.getElem?_eq_getElem hlt]
  rw[List.drop_eq_getElem_cons hlt] at hD;unfold qeI at hD;rw[List.all_cons,qq5] at hD;generalize s[i]=c at hD hg;refine gaa ?_;refine oP (pI (c:=c) rfl rfl zo hg) rfl ?_;refine oS (sF [_] rfl (qeh c) ?_) rfl;refine gad ?_;refine oB 15 rfl (fun h1=>?_) (fun h1=>?_)
  ·have h1':qao c=false:=by simpa using h1
   rw[h1',Bool.false_or] at hD;refine gal ?_;refine oP (pI (c:=c) rfl rfl zo hg) rfl ?_;refine gal ?_;refine oS (sF [_] rfl (ql7 c) ?_) rfl;refine gad ?_;refine oC rfl (fun h=>?_) (fun h=>?_)
   ·have h':qgU.contains c=false:=by simpa using h
    rw[h',Bool.false_and] at hD;refine gaz ?_;exact qac hj (zra rfl) (qai (by unfold qeI;rw[hD,Bool.false_and]))
   ·have h':qgU.contains c=true:=by simpa using h
    rw[h',Bool.true_and] at hD;refine gaa ?_;exact ⟨_,_,_,by omega,⟨i+1,by omega,rfl,rfl,rfl,hD⟩,⟨rfl,qaf zo,trivial⟩,zhR _,hj⟩
  ·have h1':qao c=true:=by simpa using h1
   rw[h1',Bool.true_or,Bool.true_and] at hD;refine gae ?_;refine oC rfl (fun h=>by cases h) (fun h=>?_);refine gaa ?_;exact ⟨_,_,_,by omega,⟨i+1,by omega,rfl,rfl,rfl,hD⟩,⟨rfl,qaf zo,trivial⟩,zhR _,hj⟩
 ·have hi':i=s.length:=by have:=zf hc;omega
  subst hi';rw[List.drop_length] at hD;have hD:qeI s=true:=hD;refine gab ?_;exact qac hj (zra rfl) (qai (by rw[hD,Bool.true_and,<-decide_not]))
end
end Go.Proofs.YthmhncflhnbedaaGreatDoor.Asm
namespace Go.Proofs.YthmhncflhnbedaaGreatDoor.Asm
open Go.GL Go.RowKit Go.Stele
theorem qsj {n:Int} (h:0<=n/\n<=255):IntKind.u8.wrap n=n:=by
 simp only[IntKind.wrap,IntKind.bits,IntKind.signed,Bool.false_and]
 simp
 omega
theorem qrR {s:Wd} (h:s.getLast? ≠ some 58):defW s=none:=by
 unfold defW;rw[if_neg fun g=>h g.1]
theorem qoR {s:Wd} (h:s.getLast? = some 58):defW s=if qfj s.dropLast=true then some s.dropLast else none:=by
 unfold defW
 by_cases hn:qfj s.dropLast=true
 ·rw[if_pos ⟨h,hn⟩,if_pos hn]
 ·rw[if_neg fun g=>hn g.2,if_neg hn]
theorem qjw:∀ (k n:Nat),padW (k+1) n=UInt8.ofNat (48+n / 10 ^ k % 10)::padW k n
 |0,n=>by simp[padW]
 |k+1,n=>by
  rw[padW,qjw k (n / 10),padW,List.cons_append,Nat.div_div_eq_div_mul,Nat.pow_succ,Nat.mul_comm 10]
def qqI (t w:Wd):Wd:=t++(if qcY t && qcz w then [32] else [])++w
theorem qpd (known:Wd->Nat) (t w:Wd) (h:defW w=none):addT known t w=qqI t (qbN known w):=by
 unfold addT;rw[h];rfl
attribute [local irreducible] LOps qae qag LCalls Go.GL.Pure qaA qaq qah LQ LAny qaF qap
section
variable {B0:Nat} {w0:World}
theorem qdj (s:Wd) (hs:s.length<=1000000000):LCalls (KC B0 w0) 85 [str s] [] (Ret (dfLV (defW s))):=by
 refine cI Tryz.func85 rfl (n:=28) rfl rfl rfl ?_;refine gaa ?_;refine oB 6 rfl (fun h1=>?_) (fun h1=>?_)
 ·have h1':s=[]:=zt h1;subst h1';refine gad ?_;refine oC rfl (fun _=>?_) (fun h=>by cases h);refine gap ?_;exact qac rfl (rC (zrt rfl) (zra rfl)) rfl
 have h1':s≠[]:=zf h1;have hp:0<s.length:=List.length_pos_iff.2 h1';have hl:s.getLast? = some s[s.length-1]:=by rw[List.getLast?_eq_getElem?,List.getElem?_eq_getElem zo]
 have hdl:(s.take ((s.length:Int)-1).toNat).drop (0:Int).toNat=s.dropLast:=by
  rw[show ((s.length:Int)-1).toNat=s.length-1 by omega,List.dropLast_eq_take];rfl
 have hget:s[((s.length:Int)-1).toNat]? = some s[s.length-1]:=by
  rw[show ((s.length:Int)-1).toNat=s.length-1 by omega,List.getElem?_eq_getElem zo]
 generalize s[s.length-1]=c at hl hget;refine gac ?_;refine oP (pI (c:=c) rfl rfl zo hget) rfl ?_;refine gac ?_;refine oB 14 rfl (fun h2=>?_) (fun h2=>?_)
 ·have h2':¬ c=58:=fun e=>by
   have h3:(!decide ((c.toNat:Int)=58))=true:=h2;have e2:(c.toNat:Int)=58:=(qdY c 58 zDd).1 e;rw[decide_eq_true e2] at h3;cases h3
  have hD:=qrR (s:=s) (by rw[hl];simp[h2']);refine gad ?_;refine oC rfl (fun _=>?_) (fun h=>by cases h);refine gap ?_;exact qac rfl (rC (zrt rfl) (zra rfl)) (by rw[hD];rfl)
 have h2':c=58:=by
  have h3:(!decide ((c.toNat:Int)=58))=false:=h2;simp only[Bool.not_eq_false',zDe] at h3;exact (qdY c 58 zDd).2 h3
 subst h2';have hD:=qoR hl;have hdn:s.dropLast.length<=1000000000:=by rw[List.length_dropLast];omega
 refine gac ?_;refine oP (Pure.ssliceE (l:=s) (i:=0) (j:=(s.length:Int)-1) rfl rfl ⟨_,rfl⟩ zDd zo zo hdl) rfl ?_;refine gal ?_;refine oS (sF [_] rfl (qix s.dropLast hdn) ?_) rfl;refine gad ?_;refine oC rfl (fun h=>?_) (fun h=>?_)
 ·have h':qfj s.dropLast=false:=by simpa using h
  rw[h',if_neg zDd] at hD;refine gap ?_;exact qac rfl (rC (zrt rfl) (zra rfl)) (by rw[hD];rfl)
 ·have h':qfj s.dropLast=true:=by simpa using h
  rw[if_pos h'] at hD;refine gab ?_;refine oP (Pure.ssliceE (l:=s) (i:=0) (j:=(s.length:Int)-1) rfl rfl ⟨_,rfl⟩ zDd zo zo hdl) rfl ?_;refine gae ?_;exact qac rfl (rC (zrt rfl) (zra rfl)) (by rw[hD];rfl)
theorem qgt (s:Wd) (hs:s.length<=1000000000):LCalls (KC B0 w0) 86 [str s] [] (Ret (dfLV (refW s))):=by
 refine cI Tryz.func86 rfl (n:=19) rfl rfl rfl ?_;refine gaa ?_;refine oB 6 rfl (fun h1=>?_) (fun h1=>?_)
 ·have h1':s=[]:=zt h1;subst h1';refine gad ?_;refine oC rfl (fun _=>?_) (fun h=>by cases h);refine gap ?_;exact qac rfl (rC (zrt rfl) (zra rfl)) rfl
 have h1':s≠[]:=zf h1;clear h1
 obtain ⟨c,r,rfl⟩:∃ c r,s=c::r:=by
  cases s with
  |nil=>exact absurd rfl h1'
  |cons c r=>exact ⟨c,r,rfl⟩
 have hD:refW (c::r)=if c=38/\qfj r=true then some r else none:=rfl
 have hcl:(c::r).length=r.length+1:=rfl
 have hdl:((c::r).take (((c::r).length:Nat):Int).toNat).drop (1:Int).toNat=r:=by
  rw[Int.toNat_natCast,List.take_length];rfl
 refine gal ?_;refine oP (pI (c:=c) rfl rfl zo rfl) rfl ?_;refine gac ?_;refine oB 11 rfl (fun h2=>?_) (fun h2=>?_)
 ·have h2':¬ c=38:=fun e=>by
   have h3:(!decide ((c.toNat:Int)=38))=true:=h2;have e2:(c.toNat:Int)=38:=(qdY c 38 zDd).1 e;rw[decide_eq_true e2] at h3;cases h3
  rw[if_neg fun g=>h2' g.1] at hD;refine gad ?_;refine oC rfl (fun _=>?_) (fun h=>by cases h);refine gap ?_;exact qac rfl (rC (zrt rfl) (zra rfl)) (by rw[hD];rfl)
 have h2':c=38:=by
  have h3:(!decide ((c.toNat:Int)=38))=false:=h2;simp only[Bool.not_eq_false',zDe] at h3;exact (qdY c 38 zDd).2 h3
 subst h2';refine gal ?_;refine oP (Pure.ssliceE (l:=38::r) (i:=1) (j:=(((38::r).length:Nat):Int)) rfl ⟨_,rfl⟩ rfl zDd zo zo hdl) rfl ?_;refine gal ?_;refine oS (sF [_] rfl (qix r zo) ?_) rfl;refine gad ?_;refine oC rfl (fun h=>?_) (fun h=>?_)
 ·have h':qfj r=false:=by simpa using h
  rw[if_neg (by rw[h'];simp)] at hD;refine gap ?_;exact qac rfl (rC (zrt rfl) (zra rfl)) (by rw[hD];rfl)
 ·have h':qfj r=true:=by simpa using h
  rw[if_pos ⟨rfl,h'⟩] at hD;refine gau ?_;refine oP (Pure.ssliceE (l:=38::r) (i:=1) (j:=(((38::r).length:Nat):Int)) rfl ⟨_,rfl⟩ rfl zDd zo zo hdl) rfl ?_;refine gae ?_;exact qac rfl (rC (zrt rfl) (zra rfl)) (by rw[hD];rfl)
theorem qoa (n:Nat) (hn:n<=4000000000000):LCalls (KC B0 w0) 89 [int .i64 (n:Int)] [] (Ret (str (padW 6 n))):=by
 refine cI Tryz.func89 rfl (n:=20) rfl rfl rfl ?_;refine gaa ?_
 refine oL (fun k ls H=>∃ i:Nat,i<=6/\k=6-i/\ls=[(0,int .i64 ((n / 10 ^ i:Nat):Int)),(3,str (padW i n)),(4,int .i64 (i:Nat))]/\H=[])
  ⟨_,_,_,⟨0,Nat.zero_le _,rfl,rfl,rfl⟩,⟨qaf (by simp),rfl,rfl,trivial⟩,zhR _⟩ ?_
 rintro k ls H ⟨i,hi,rfl,rfl,rfl⟩ j hj;have hfr:=qjw i n;have hpl:=qkx i n;have hdv:n / 10 ^ (i+1)=n / 10 ^ i / 10:=by rw[Nat.pow_succ,Nat.div_div_eq_div_mul]
 have hle:n / 10 ^ i<=n:=Nat.div_le_self _ _;generalize n / 10 ^ i=m at hfr hdv hle ⊢
 have hbytes:some [int .u8 (IntKind.u8.wrap (48+(m:Int) % 10))]=some ([UInt8.ofNat (48+m % 10)].map fun b=>int .u8 b.toNat):=by
  have h:((UInt8.ofNat (48+m % 10)).toNat:Int)=48+((m % 10:Nat):Int):=by
   rw[UInt8.toNat_ofNat'];omega
  simp only[zMc,List.map_nil,h];rw[qsj zo]
  simp
 refine gaa ?_;refine oC rfl (fun hc=>?_) (fun hc=>?_)
 ·have hlt:i<6:=by have:=zt hc;omega
  refine gaa ?_;refine oP (Pure.rem (a:=(m:Int)) (b:=10) rfl rfl zDd zo) rfl ?_;refine qiR ?_;refine oP (Pure.bytesStr (l:=[UInt8.ofNat (48+m % 10)]) hbytes (by simp)) rfl ?_;refine gab ?_;refine oP (Pure.quo (a:=(m:Int)) (b:=10) rfl rfl zDd zo zo) rfl ?_;refine gaa ?_;exact ⟨_,_,_,by omega,⟨i+1,by omega,rfl,rfl,rfl⟩,⟨qaf (by rw[hdv];omega),qjz (by rw[hfr];rfl),qaf zo,trivial⟩,zhR _,hj⟩
 ·have hi':i=6:=by have:=zf hc;omega
  subst hi';refine gaa ?_;exact qac hj (zra rfl) rfl
theorem qif (t w:Wd) (ht:t.length<=2000000000000) (hw:w.length<=2000000000000):LCalls (KC B0 w0) 88 [str t,str w] [] (Ret (str (qqI t w))):=by
 refine cI Tryz.func88 rfl (n:=31) rfl rfl rfl ?_;refine gab ?_;refine LOps.cut [(0,str t),(1,str w),(23,bool (qcY t && qcz w))] ?_ (fun j2 hj2=>?_)
 ·refine oB 7 rfl (fun h1=>?_) (fun h1=>?_);rotate_left
  ·have h1':t=[]:=by simpa using h1
   subst h1';refine gae ?_;exact ⟨⟨rfl,rfl,rfl,trivial⟩,rfl,rfl⟩
  have h1':t≠[]:=by simpa using h1
  clear h1;have hp:0<t.length:=List.length_pos_iff.2 h1';have hl:t.getLast? = some t[t.length-1]:=by rw[List.getLast?_eq_getElem?,List.getElem?_eq_getElem zo]
  have hget:t[((t.length:Int)-1).toNat]? = some t[t.length-1]:=by
   rw[show ((t.length:Int)-1).toNat=t.length-1 by omega,List.getElem?_eq_getElem zo]
  have hL:qcY t=qao t[t.length-1]:=by unfold qcY;rw[hl]
  generalize t[t.length-1]=c at hl hget hL;refine gac ?_;refine oB 11 rfl (fun h2=>?_) (fun h2=>?_);rotate_left
  ·have h2':w=[]:=by simpa using h2
   subst h2';refine gae ?_;exact ⟨⟨rfl,rfl,qai (by rw[show qcz []=false from rfl,Bool.and_false]),trivial⟩,rfl,rfl⟩
  have h2':w≠[]:=by simpa using h2
  clear h2
  obtain ⟨d,r,rfl⟩:∃ d r,w=d::r:=by
   cases w with
   |nil=>exact absurd rfl h2'
   |cons c r=>exact ⟨c,r,rfl⟩
  refine gac ?_;refine oP (pI (c:=c) rfl rfl zo hget) rfl ?_;refine gal ?_;refine oS (sF [_] rfl (qeh c) ?_) rfl;refine gaq ?_;refine oB 19 rfl (fun h3=>?_) (fun h3=>?_)
  ·have h3':qao c=true:=h3;refine gal ?_;refine oP (pI (c:=d) rfl rfl zo rfl) rfl ?_;refine gal ?_;refine oS (sF [_] rfl (qeh d) ?_) rfl;refine gad ?_;exact ⟨⟨rfl,rfl,qai (by rw[hL,h3',Bool.true_and];rfl),trivial⟩,rfl,rfl⟩
  ·have h3':qao c=false:=h3;refine gae ?_;exact ⟨⟨rfl,rfl,qai (by rw[hL,h3',Bool.false_and]),trivial⟩,rfl,rfl⟩
 refine oC rfl (fun h=>?_) (fun h=>?_)
 ·have h':(qcY t && qcz w)=true:=h;refine gab ?_;exact qac hj2 (zra rfl) (qjz (by unfold qqI;rw[if_pos h']))
 ·have h':(qcY t && qcz w)=false:=h;refine gab ?_;exact qac hj2 (zra rfl) (qjz (by unfold qqI;rw[if_neg (by rw[h'];decide),zLz]))
theorem qjq (l:List (Wd×Nat)) (x:Wd) (hl:l.length<=2000000000):LCalls (KC B0 w0) 90 [.list (l.map qa1),str x] [] (Ret (int .i64 ((qb8 l x:Nat):Int))):=by
 have hla:(l.map qa1).length=l.length:=zLm _;refine cI Tryz.func90 rfl (n:=24) rfl rfl rfl ?_;refine gaa ?_
 refine oL (fun k ls H=>∃ i:Nat,i<=l.length/\k=l.length-i/\ls=[(0,.list (l.map qa1)),(1,str x),(5,int .i64 (i:Nat))]/\H=[]/\qb8 l x=qb8 (l.drop i) x)
  ⟨_,_,_,⟨0,Nat.zero_le _,rfl,rfl,rfl,rfl⟩,⟨rfl,rfl,rfl,trivial⟩,zhR _⟩ ?_
 rintro k ls H ⟨i,hi,rfl,rfl,rfl,hD⟩ j hj;refine gaa ?_;refine oC rfl (fun hc=>?_) (fun hc=>?_)
 ·have hlt:i<l.length:=by have:=zt hc;omega
  have hmg:=qa0 qa1 l i hlt;rw[List.drop_eq_getElem_cons hlt] at hD;generalize l[i]=p at hD hmg;obtain ⟨y,a⟩:=p
  have hF:qb8 ((y,a)::l.drop (i+1)) x=if y=x then a else qb8 (l.drop (i+1)) x:=by
   unfold qb8;rw[List.find?_cons]
   by_cases hy:y=x
   ·rw[if_pos hy,decide_eq_true hy]
   ·rw[if_neg hy,decide_eq_false hy]
  rw[hF] at hD;refine gaa ?_;refine oP (xR (el':=qa1 (y,a)) (cs:=[_,_]) rfl rfl zo hmg rfl rfl) rfl ?_;refine gac ?_;refine oC rfl (fun h=>?_) (fun h=>?_)
  ·have h':y=x:=zt h;rw[if_pos h'] at hD;refine gaa ?_;refine oP (xR (el':=qa1 (y,a)) (cs:=[_,_]) rfl rfl zo hmg rfl rfl) rfl ?_;refine gac ?_;exact qac hj (zra rfl) (by rw[hD];rfl)
  ·have h':¬ y=x:=zf h;rw[if_neg h'] at hD;refine gaa ?_;exact ⟨_,_,_,by omega,⟨i+1,by omega,rfl,rfl,rfl,hD⟩,⟨rfl,rfl,qaf zo,trivial⟩,zhR _,hj⟩
 ·have hi':i=l.length:=by have:=zf hc;omega
  subst hi';rw[List.drop_length] at hD;refine gaa ?_;exact qac hj (zra rfl) (by rw[hD];rfl)
end
end Go.Proofs.YthmhncflhnbedaaGreatDoor.Asm
namespace Go.Proofs.YthmhncflhnbedaaGreatDoor.Asm
open Go.GL Go.RowKit Go.Stele
theorem qgz {w x y:Wd} {r:List Wd} (h:defW w=some y):x∈defs (w::r) ↔ (y=x∨x∈defs r):=by
 unfold defs;rw[List.filterMap_cons,h,zMi];exact or_congr_left eq_comm
theorem qgf {w x:Wd} {r:List Wd} (h:defW w=none):x∈defs (w::r) ↔ x∈defs r:=by
 unfold defs;rw[List.filterMap_cons,h]
theorem qn3 {l:List Wd} {i:Nat} (h:i<l.length) (kn:Wd->Nat) (og:Nat):(l.take (i+1)).foldl (qbp kn og) ([],[])=qbp kn og ((l.take i).foldl (qbp kn og) ([],[])) l[i]:=by
 rw[List.take_succ_eq_append_getElem h,List.foldl_append];rfl
attribute [local irreducible] LOps qae qag LCalls Go.GL.Pure qaA qaq qah LQ LAny qaF qap
section
variable {B0:Nat} {w0:World}
theorem qlE (ts:List (Wd×Nat)) (i:Nat) (hi:i<ts.length) (hl:ts.length<=1000000000) (hs:∀ p∈ts,p.1≠[]/\p.1.length<=1000000000) :
  LCalls (KC B0 w0) 40 [.list (ts.map qa1),int .i64 (i:Nat)] [] (Ret (int .i64 ((fltW (defs (txt ts)) (defs (txt (ts.take i))) ts[i].1:Nat):Int))):=by
 have hla:(ts.map qa1).length=ts.length:=zLm _;have hmi:=qa0 qa1 ts i hi;obtain ⟨hne,hle⟩:=hs _ (List.getElem_mem hi);generalize ts[i]=p at hmi hne hle;obtain ⟨w,ln⟩:=p;simp only at hne hle;have hD:=qdj (B0:=B0) (w0:=w0) w hle;have hR:=qgt (B0:=B0) (w0:=w0) w hle;have hC:=qmC (B0:=B0) (w0:=w0) w hle;rw[qr0 hne] at hC;generalize hF:fltW (defs (txt ts)) (defs (txt (ts.take i))) w=F;unfold fltW at hF;refine cI Tryz.func40 rfl (n:=81) rfl rfl rfl ?_;refine zQ52 ?_;refine oS (sF [_] rfl hD ?_) rfl
 cases hdw:defW w with
 |some x=>
  rw[hdw] at hF;simp only at hF;unfold dfLV;refine gaa ?_;refine oC rfl (fun _=>?_) (fun h=>by cases h);refine gaa ?_
  refine oL (fun kk ls H=>∃ k:Nat,k<=i/\kk=i-k/\ls=[(0,.list (ts.map qa1)),(1,int .i64 (i:Nat)),(5,str x),(7,int .i64 (k:Nat))]/\H=[]/\(x∈defs (txt (ts.take i)) ↔ x∈defs (txt ((ts.take i).drop k))))
   ⟨_,_,_,⟨0,Nat.zero_le _,rfl,rfl,rfl,Iff.rfl⟩,⟨rfl,rfl,rfl,rfl,trivial⟩,zhR _⟩ ?_
  rintro kk ls H ⟨k,hk,rfl,rfl,rfl,hM⟩ j hj;refine gaa ?_;refine oC rfl (fun hc=>?_) (fun hc=>?_)
  ·have hlt:k<i:=by have:=zt hc;omega
   have hlt2:k<(ts.take i).length:=by rw[List.length_take];omega
   have hmk:=qa0 qa1 ts k zo;have hsk:=(hs _ (List.getElem_mem (show k<ts.length by omega))).2;have hg:(ts.take i)[k]=ts[k]:=List.getElem_take;rw[List.drop_eq_getElem_cons hlt2,hg] at hM;generalize ts[k]=q at hmk hsk hM;obtain ⟨u,lu⟩:=q;simp only at hsk;have hM:x∈defs (txt (ts.take i)) ↔ x∈defs (u::txt ((ts.take i).drop (k+1))):=hM;have hDu:=qdj (B0:=B0) (w0:=w0) u hsk;refine gaa ?_;refine oP (xR (el':=qa1 (u,lu)) (cs:=[_,_]) rfl rfl zo hmk rfl rfl) rfl ?_;refine gac ?_;refine oS (sF [_] rfl hDu ?_) rfl
   cases hdu:defW u with
   |none=>
    rw[qgf hdu] at hM;unfold dfLV;refine gaa ?_;refine oC rfl (fun h=>by cases h) (fun _=>?_);refine gaa ?_
    exact ⟨_,_,_,by omega,⟨k+1,by omega,rfl,rfl,rfl,hM⟩,⟨rfl,rfl,rfl,qaf zo,trivial⟩,zhR _,hj⟩
   |some y=>
    rw[qgz hdu] at hM;unfold dfLV;refine gaa ?_;refine oC rfl (fun h=>?_) (fun h=>?_)
    ·have h':y=x:=zt h;rw[if_pos (hM.2 (.inl h'))] at hF;subst hF;refine gaz ?_;exact qac hj (zra rfl) rfl
    ·have h':¬ y=x:=zf h;refine gaa ?_;exact ⟨_,_,_,by omega,⟨k+1,by omega,rfl,rfl,rfl,hM.trans ⟨fun g=>g.resolve_left h',.inr⟩⟩,⟨rfl,rfl,rfl,qaf zo,trivial⟩,zhR _,hj⟩
  ·have hk':k=i:=by have:=zf hc;omega
   subst hk';rw[List.drop_eq_nil_of_le (by rw[List.length_take];omega)] at hM;rw[if_neg (fun g=>by have:=hM.1 g;cases this)] at hF;subst hF;refine gaa ?_
   exact qac hj (zra rfl) rfl
 |none=>
  rw[hdw] at hF;simp only at hF;unfold dfLV;refine gaa ?_;refine oC rfl (fun h=>by cases h) (fun _=>?_);refine zQ52 ?_;refine oS (sF [_] rfl hR ?_) rfl
  cases hrw:refW w with
  |some x=>
   rw[hrw] at hF;simp only at hF;unfold dfLV;refine gaa ?_;refine oC rfl (fun _=>?_) (fun h=>by cases h);refine gaa ?_
   refine oL (fun kk ls H=>∃ k:Nat,k<=ts.length/\kk=ts.length-k/\ls=[(0,.list (ts.map qa1)),(5,str x),(10,int .i64 (k:Nat))]/\H=[]/\(x∈defs (txt ts) ↔ x∈defs (txt (ts.drop k))))
    ⟨_,_,_,⟨0,Nat.zero_le _,rfl,rfl,rfl,Iff.rfl⟩,⟨rfl,rfl,rfl,trivial⟩,zhR _⟩ ?_
   rintro kk ls H ⟨k,hk,rfl,rfl,rfl,hM⟩ j hj;refine gaa ?_;refine oC rfl (fun hc=>?_) (fun hc=>?_)
   ·have hlt:k<ts.length:=by have:=zt hc;omega
    have hmk:=qa0 qa1 ts k zo;have hsk:=(hs _ (List.getElem_mem hlt)).2;rw[List.drop_eq_getElem_cons hlt] at hM;generalize ts[k]=q at hmk hsk hM;obtain ⟨u,lu⟩:=q;simp only at hsk;have hM:x∈defs (txt ts) ↔ x∈defs (u::txt (ts.drop (k+1))):=hM;have hDu:=qdj (B0:=B0) (w0:=w0) u hsk;refine gaa ?_;refine oP (xR (el':=qa1 (u,lu)) (cs:=[_,_]) rfl rfl zo hmk rfl rfl) rfl ?_;refine gac ?_;refine oS (sF [_] rfl hDu ?_) rfl
    cases hdu:defW u with
    |none=>
     rw[qgf hdu] at hM;unfold dfLV;refine gaa ?_;refine oC rfl (fun h=>by cases h) (fun _=>?_);refine gaa ?_
     exact ⟨_,_,_,by omega,⟨k+1,by omega,rfl,rfl,rfl,hM⟩,⟨rfl,rfl,qaf zo,trivial⟩,zhR _,hj⟩
    |some y=>
     rw[qgz hdu] at hM;unfold dfLV;refine gaa ?_;refine oC rfl (fun h=>?_) (fun h=>?_)
     ·have h':y=x:=zt h;rw[if_pos (hM.2 (.inl h'))] at hF;subst hF;refine gaz ?_;exact qac hj (zra rfl) rfl
     ·have h':¬ y=x:=zf h;refine gaa ?_;exact ⟨_,_,_,by omega,⟨k+1,by omega,rfl,rfl,rfl,hM.trans ⟨fun g=>g.resolve_left h',.inr⟩⟩,⟨rfl,rfl,qaf zo,trivial⟩,zhR _,hj⟩
   ·have hk':k=ts.length:=by have:=zf hc;omega
    subst hk';rw[List.drop_length] at hM;rw[if_neg (fun g=>by have:=hM.1 g;cases this)] at hF;subst hF;refine gaa ?_
    exact qac hj (zra rfl) rfl
  |none=>
   rw[hrw] at hF;simp only at hF;unfold dfLV;refine gaa ?_;refine oC rfl (fun h=>by cases h) (fun _=>?_);refine zQ52 ?_;refine oS (sF [_] rfl hC ?_) rfl;refine gad ?_;refine oC rfl (fun h=>?_) (fun h=>?_)
   ·have h':qeI w=false:=by simpa using h
    rw[if_neg (by rw[h'];decide)] at hF;subst hF;refine gap ?_;exact qac rfl (zra rfl) rfl
   ·have h':qeI w=true:=by simpa using h
    rw[if_pos h'] at hF;subst hF;refine gaa ?_;exact qac rfl (zra rfl) rfl
end
end Go.Proofs.YthmhncflhnbedaaGreatDoor.Asm
namespace Go.Proofs.YthmhncflhnbedaaGreatDoor.Asm
open Go.GL Go.RowKit Go.Stele
theorem tot_take (l:List Wd) (i:Nat):tot (l.take i)<=tot l:=by
 unfold tot
 have h:(l.map fun w=>w.length+1).sum=((l.take i).map fun w=>w.length+1).sum+((l.drop i).map fun w=>w.length+1).sum:=by
  rw[<-List.sum_append,<-zMa,List.take_append_drop]
 omega
def Asm18 (R:Except Nat Wd) (lv:LV):Prop:=match R with
 |.error e=>∃ (ln:Int),lv=.tuple [str [],.list [],int .i64 ln,int .i64 (e:Nat)]
 |.ok t=>∃ labs:List (Wd×Nat),lv=.tuple [str t,.list (labs.map qa1),int .i64 0,int .i64 0]
attribute [local irreducible] LOps qae qag LCalls Go.GL.Pure qaA qaq qah LQ LAny qaF qap
section
variable {B0:Nat} {w0:World}
theorem qhi (ts:List (Wd×Nat)) (og:Nat) (kn:List (Wd×Nat)) (hog:og<=1000000) (hl:ts.length<=1000000000) (hs:∀ p∈ts,p.1≠[]/\p.1.length<=1000000000) (hkl:kn.length<=1000000000) (hka:∀ x,qb8 kn x<=1000000000000) (hT:3 * tot (txt ts)<=1000000000000) :
  LCalls (KC B0 w0) 41 [.list (ts.map qa1),int .i64 (og:Nat),.list (kn.map qa1)] [] (Ret (.tuple [str ((txt ts).foldl (qbp (qb8 kn) og) ([],[])).1,.list (((txt ts).foldl (qbp (qb8 kn) og) ([],[])).2.map qa1)])):=by
 have hla:(ts.map qa1).length=ts.length:=zLm _;have htl:(txt ts).length=ts.length:=zLm _
 have htx:∀ i,(((txt ts).take i).foldl (qbp (qb8 kn) og) ([],[])).1.length<=1000000000000:=fun i=>by
  rw[qdZ]
  have h1:=qiI (qb8 kn) ((txt ts).take i) (fun w hw=>by
   obtain ⟨p,hp,rfl⟩:=List.mem_map.1 (List.mem_of_mem_take hw)
   exact (hs p hp).1)
  have h2:=qgJ ((txt ts).take i) false;have h3:=tot_take (txt ts) i;unfold qiL at h1;rw[h1];omega
 refine cI Tryz.func41 rfl (n:=64) rfl rfl rfl ?_;refine ga0 ?_;refine oS (S.litA [] rfl eN rfl rfl rfl fun b=>?_) rfl;refine oP (pA (lv:=str []) rfl) rfl ?_;refine oP (pA (lv:=.app b 0 2 []) rfl) rfl ?_;refine gaa ?_
 refine oL (fun kk ls H=>∃ (i:Nat) (t:Wd) (labs:List (Wd×Nat)) (v:LV),i<=ts.length/\kk=ts.length-i/\ls=[(0,.list (ts.map qa1)),(1,int .i64 (og:Nat)),(2,.list (kn.map qa1)),(8,str t),(9,v),(10,int .i64 (i:Nat))]/\Acc 2 v (labs.map qa1) H []/\labs.length<=i/\((txt ts).take i).foldl (qbp (qb8 kn) og) ([],[])=(t,labs))
  ⟨_,_,_,⟨0,[],[],.app b 0 2 [],Nat.zero_le _,rfl,rfl,Acc.row,zNr _,rfl⟩,⟨rfl,rfl,rfl,rfl,rfl,rfl,trivial⟩,zhR _⟩ ?_
 rintro kk ls H ⟨i,t,labs,v,hi,rfl,rfl,hacc,hll,hS⟩ j hj;have hlm:(labs.map qa1).length=labs.length:=zLm _;have ht:=htx i;rw[hS] at ht;simp only at ht;refine gaa ?_;refine oC rfl (fun hc=>?_) (fun hc=>?_);rotate_left
 ·have hi':i=ts.length:=by have:=zf hc;omega
  subst hi';rw[<-htl,List.take_length] at hS;rw[hS];refine qae.sub (d:=9) (v:=v) rfl hacc.sub ?_;refine cW zhn ?_;refine gab ?_;exact qac hj (rC (zrt rfl) (rC (rT (v:=.list _) rfl zsr) rN)) rfl
 have hlt:i<ts.length:=by have:=zt hc;omega
 have hst:=qn3 (l:=txt ts) (i:=i) zo (qb8 kn) og;have hS2:=htx (i+1);have hgt:(txt ts)[i]'zo=ts[i].1:=List.getElem_map _;rw[hS,hgt] at hst;rw[hst] at hS2;have hmi:=qa0 qa1 ts i hlt;obtain ⟨hne,hle⟩:=hs _ (List.getElem_mem hlt);generalize ts[i]=p at hmi hne hle hst hS2;obtain ⟨w,ln⟩:=p;simp only at hne hle hst hS2;have hD:=qdj (B0:=B0) (w0:=w0) w hle;have hR:=qgt (B0:=B0) (w0:=w0) w hle;unfold qbp at hst hS2;simp only at hst hS2;refine zQ52 ?_;refine oS (sF [_] rfl hD ?_) rfl
 cases hdw:defW w with
 |some x=>
  rw[hdw] at hst;simp only at hst;unfold dfLV;refine gaa ?_;refine oC rfl (fun _=>?_) (fun h=>by cases h);refine gag ?_;refine zQ60 ?_;refine qiR ?_;refine oS (S.acc rfl hacc rfl (by simp;rfl) rfl (by rw[hlm];simp;omega) fun v' H2 hacc'=>?_) rfl;refine zQ62 ?_;refine gaa ?_
  exact ⟨_,_,_,by omega,⟨i+1,t,labs++[(x,og+t.length)],v',by omega,rfl,rfl,by rw[zMa];exact hacc',by simp;omega,hst⟩,⟨rfl,rfl,rfl,rfl,rfl,qaf zo,trivial⟩,zhR _,hj⟩
 |none=>
  rw[hdw] at hst hS2;simp only at hst hS2;rw[qpd _ _ _ hdw] at hst hS2;unfold dfLV;refine gaa ?_;refine oC rfl (fun h=>by cases h) (fun _=>?_);refine zQ52 ?_;refine oS (sF [_] rfl hR ?_) rfl
  cases hrw:refW w with
  |some x=>
   have hp:qbN (qb8 kn) w=padW 6 (qb8 kn x):=by
    unfold qbN;rw[hrw];exact qpK _
   rw[hp] at hst;have hx:=hka x;have h6:=qkx 6 (qb8 kn x);unfold dfLV;refine gaa ?_;refine oC rfl (fun _=>?_) (fun h=>by cases h);refine gaa ?_;refine oS (sF [_,_] rfl (qjq kn x zo) ?_) rfl;refine oS (sF [_] rfl (qoa (qb8 kn x) zo) ?_) rfl;refine oS (sF [_,_] rfl (qif t (padW 6 (qb8 kn x)) zo zo) ?_) rfl;refine gaa ?_
   exact ⟨_,_,_,by omega,⟨i+1,_,labs,v,by omega,rfl,rfl,hacc,by omega,hst⟩,⟨rfl,rfl,rfl,rfl,rfl,qaf zo,trivial⟩,zhR _,hj⟩
  |none=>
   have hp:qbN (qb8 kn) w=w:=by
    unfold qbN;rw[hrw]
   rw[hp] at hst;unfold dfLV;refine gaa ?_;refine oC rfl (fun h=>by cases h) (fun _=>?_);refine zQ52 ?_;refine oS (sF [_,_] rfl (qif t w zo zo) ?_) rfl;refine gaa ?_;exact ⟨_,_,_,by omega,⟨i+1,_,labs,v,by omega,rfl,rfl,hacc,by omega,hst⟩,⟨rfl,rfl,rfl,rfl,rfl,qaf zo,trivial⟩,zhR _,hj⟩
end
end Go.Proofs.YthmhncflhnbedaaGreatDoor.Asm
namespace Go.Proofs.YthmhncflhnbedaaGreatDoor.Asm
open Go.GL Go.RowKit Go.Stele
theorem qpO:qb8 []=fun _=>0:=rfl
attribute [local irreducible] LOps qae qag LCalls Go.GL.Pure qaA qaq qah LQ LAny qaF qap
section
variable {B0:Nat} {w0:World}
theorem assemble18_spec (src:List UInt8) (og:Int) (hsrc:src.length<=300000000) :
  LCalls (KC B0 w0) 13 [str src,int .i64 og] [] (qh0 (Asm18 (asmE src og))):=by
 have hw:=qlt (B0:=B0) (w0:=w0) src hsrc;have hA:asmE src og=asmE src og:=rfl
 conv at hA=>rhs;unfold asmE
 generalize hR:asmE src og=R at hA ⊢;refine LCalls.intro4 Tryz.func13 rfl (n:=62) rfl rfl rfl ?_;refine gaa ?_;refine oB 17 rfl (fun h1=>?_) (fun h1=>?_)
 ·have h1':og<0:=zt h1;rw[if_pos (.inl h1')] at hA;subst hA;refine gad ?_;refine oC rfl (fun _=>?_) (fun h=>by cases h);refine gag ?_;refine oS (sL (es:=[]) [] rfl eN rfl rfl rfl ?_) rfl;refine gac ?_;exact qb4 rfl (rC (zrt rfl) (rC (rT (v:=.list _) rfl zsr) (rC (zrt rfl) (zra rfl)))) ⟨_,rfl⟩
 have h1':¬ og<0:=zf h1;refine gac ?_;refine oC rfl (fun h2=>?_) (fun h2=>?_)
 ·have h2':og ≥ 262144:=zt h2;rw[if_pos (.inr h2')] at hA;subst hA;refine gag ?_;refine oS (sL (es:=[]) [] rfl eN rfl rfl rfl ?_) rfl;refine gac ?_;exact qb4 rfl (rC (zrt rfl) (rC (rT (v:=.list _) rfl zsr) (rC (zrt rfl) (zra rfl)))) ⟨_,rfl⟩
 have h2':¬ og ≥ 262144:=zf h2;rw[if_neg zo] at hA;obtain ⟨o,rfl⟩:∃ o:Nat,og=(o:Int):=⟨og.toNat,by omega⟩;rw[Int.toNat_natCast] at hA;refine gau ?_;refine oS (S.fnIf [_] rfl hw ?_) rfl;rintro lv ⟨ts,rfl,hts⟩;have hwt:=qip src;have hwl:=qg8 src;have hcl:=qhg src;rw[<-hts] at hwt hwl hcl hA;rw[zLm] at hwl;have hne:∀ w∈txt ts,w≠[]:=fun w hw=>(hcl w hw).1
 have hs:∀ p∈ts,p.1≠[]/\p.1.length<=1000000000:=fun p hp=>by
  have hm:p.1∈ts.map (·.1):=List.mem_map_of_mem hp;have:=qml hm;exact ⟨(hcl _ hm).1,by omega⟩
 have hla:(ts.map qa1).length=ts.length:=zLm _;generalize hE:errW (defs (ts.map (·.1))) [] (ts.map (·.1))=E at hA;refine gab ?_
 refine oL (fun kk ls H=>∃ i:Nat,i<=ts.length/\kk=ts.length-i/\ls=[(1,int .i64 (o:Nat)),(8,.list (ts.map qa1)),(9,int .i64 (i:Nat))]/\H=[]/\errW (defs (txt ts)) (defs (txt (ts.take i))) (txt (ts.drop i))=E)
  ⟨_,_,_,⟨0,Nat.zero_le _,rfl,rfl,rfl,hE⟩,⟨rfl,rfl,rfl,trivial⟩,zhR _⟩ ?_
 rintro kk ls H ⟨i,hi,rfl,rfl,rfl,hI⟩ j hj;refine gaa ?_;refine oC rfl (fun hc=>?_) (fun hc=>?_)
 ·have hlt:i<ts.length:=by have:=zt hc;omega
  have hf:=qlE (B0:=B0) (w0:=w0) ts i hlt zo hs;have hmi:=qa0 qa1 ts i hlt
  have htk:defs (txt (ts.take (i+1)))=defs (txt (ts.take i))++defs [ts[i].1]:=by
   rw[List.take_succ_eq_append_getElem hlt,<-qkb,txt,zMa];rfl
  rw[List.drop_eq_getElem_cons hlt] at hI;generalize ts[i]=p at hI hf hmi htk;obtain ⟨w,ln⟩:=p;have hI:errW (defs (txt ts)) (defs (txt (ts.take i))) (w::txt (ts.drop (i+1)))=E:=hI;rw[errW,<-htk] at hI;simp only at hf;generalize fltW (defs (txt ts)) (defs (txt (ts.take i))) w=F at hI hf;refine gaa ?_;refine oS (sF [_,_] rfl hf ?_) rfl;refine gab ?_
  by_cases hF:F=0
  ·subst hF;rw[if_neg (fun g=>g rfl)] at hI;refine oC rfl (fun h=>?_) (fun _=>?_)
   ·have h3:(!decide (((0:Nat):Int)=0))=true:=h;simp at h3
   refine gaa ?_;exact ⟨_,_,_,by omega,⟨i+1,by omega,rfl,rfl,rfl,hI⟩,⟨rfl,rfl,qaf zo,trivial⟩,zhR _,hj⟩
  ·rw[if_pos hF] at hI;subst hI;rw[if_pos hF] at hA;subst hA;refine oC rfl (fun _=>?_) (fun h=>?_);rotate_left
   ·have h3:(!decide ((F:Int)=0))=false:=h;simp at h3;exact absurd h3 hF
   refine ga1 ?_;refine cD (m:=11) rfl [] ?_;refine aT 1 rfl rfl (pM (lv:=.list _) rfl) ?_;refine aT 2 rfl rfl (pM (lv:=.atom _) rfl) ?_;refine aT 3 rfl rfl (xR (el':=qa1 (w,ln)) (cs:=[_,_]) rfl rfl zo hmi rfl rfl) ?_;refine aT 4 rfl rfl (Pure.field1 rfl rfl) ?_;refine aT 5 rfl rfl (pO (c:=.atom _) rfl rfl) ?_;refine aT 6 rfl rfl (pM (lv:=.atom _) rfl) ?_;refine aT 7 rfl rfl (pA (lv:=.atom _) rfl) ?_;refine aL ?_ zhr;refine lO 0 (lS (H1:=[]) rfl (.inl rfl) rfl zpr zhr (sL (es:=[]) [] rfl eN rfl rfl rfl ?_));refine lO 8 (lH rfl rfl (pA (lv:=.list []) rfl) ?_);refine lO 9 (lH rfl rfl (pA (lv:=.atom _) rfl) ?_);refine lO 10 (lH rfl rfl (pA (lv:=.atom _) rfl) ?_);refine lD zk ?_;refine gae ?_;exact qb4 hj (rC (zrt rfl) (rC (rT (v:=.list _) rfl zsr) (rC (zrt rfl) (zra rfl)))) ⟨_,rfl⟩
 have hi':i=ts.length:=by have:=zf hc;omega
 subst hi';rw[List.drop_length] at hI;have hI:0=E:=hI;subst hI;rw[if_neg (fun g=>g rfl)] at hA
 have hT:3 * tot (txt ts)<=1000000000000:=by
  have:tot (txt ts)<=src.length+1:=hwt;omega
 have hb1:=qhi (B0:=B0) (w0:=w0) ts o [] zo zo hs zDd (fun x=>Nat.zero_le _) hT;rw[qpO] at hb1;have hlabs:((txt ts).foldl (qbp (fun _=>0) o) ([],[])).2=qhD (fun _=>0) o (ts.map (·.1)):=rfl
 have hlen:∀ kn,((txt ts).foldl (qbp kn o) ([],[])).1.length=lenW false (txt ts):=fun kn=>by
  rw[qdZ];exact qiI kn _ hne
 have hlw:=qgJ (txt ts) false
 have hle:∀ p∈((txt ts).foldl (qbp (fun _=>0) o) ([],[])).2,p.2<=1000000000000:=fun p hp=>by
  have:=qmN (fun _=>0) o (lenW false (txt ts)) (txt ts) ([],[]) hne (by rw[hlen];exact zNr _) (fun p hp=>by cases hp) p hp;have h5:tot (txt ts)<=src.length+1:=hwt;omega
 have hll:=(qjg (fun _=>0) o (txt ts) ([],[])).2;have htl:(txt ts).length=ts.length:=zLm _;rw[hlabs] at hle hll;rw[hlabs] at hb1;generalize qhD (fun _=>0) o (ts.map (·.1))=labs at hle hll hA hb1;have hb2:=qhi (B0:=B0) (w0:=w0) ts o labs zo zo hs (by simp only[zLn] at hll;omega) (qm1 hle) hT;have e1:((txt ts).foldl (qbp (qb8 labs) o) ([],[])).1=qiL (qb8 labs) (ts.map (·.1)):=qdZ _ _ _ _;rw[e1] at hb2;generalize qiL (qb8 labs) (ts.map (·.1))=tx at hA hb2;refine gaa ?_;refine oS (sL (es:=[]) [] rfl eN rfl rfl rfl ?_) rfl;refine oS (sF [_,_,_] rfl hb1 ?_) rfl;refine gab ?_;refine oS (sF [_,_,_] rfl hb2 ?_) rfl;refine gab ?_;refine oC rfl (fun h=>?_) (fun h=>?_)
 ·have h5:40000<tx.length:=by have:=zt h;omega
  rw[if_pos h5] at hA;subst hA;refine gag ?_;refine oS (sL (es:=[]) [] rfl eN rfl rfl rfl ?_) rfl;refine gac ?_;exact qb4 hj (rC (zrt rfl) (rC (rT (v:=.list _) rfl zsr) (rC (zrt rfl) (zra rfl)))) ⟨_,rfl⟩
 ·have h5:¬ 40000<tx.length:=by have:=zf h;omega
  rw[if_neg h5] at hA;subst hA;refine gab ?_;exact qb4 hj (rC (zrt rfl) (rC (rT (v:=.list _) rfl zsr) (rC (zrt rfl) (zra rfl)))) ⟨_,rfl⟩
end
end Go.Proofs.YthmhncflhnbedaaGreatDoor.Asm
namespace Go.Proofs.YthmhncflhnbedaaGreatDoor
open Go.GL Go.RowKit Go.Stele
attribute [local irreducible] LOps qae qag LCalls Go.GL.Pure qaA qaq qah LQ LAny qaF qap
section
variable {B0:Nat} {w0:World}
theorem qf4 (c:UInt8):LCalls (KC B0 w0) 128 [int .u8 c.toNat] [] (Ret (bool (qao c))):=by
 refine cI Tryz.func128 rfl (n:=9) rfl rfl rfl ?_;refine gab ?_;refine oB 5 rfl (fun ht=>?_) (fun ht=>?_)
 ·refine gac ?_;exact qac rfl (zra rfl) (by simp[qbv,qao,ht])
 ·refine gae ?_;exact qac rfl (zra rfl) (by simp[qbv,qao,ht])
theorem qhx (c:UInt8):LCalls (KC B0 w0) 130 [int .u8 c.toNat] [] (Ret (bool (qaz c))):=by
 refine cI Tryz.func130 rfl (n:=9) rfl rfl rfl ?_;refine gab ?_;refine oB 5 rfl (fun ht=>?_) (fun ht=>?_)
 ·refine gac ?_;exact qac rfl (zra rfl) (by simp[qbv,qaz,ht])
 ·refine gae ?_;exact qac rfl (zra rfl) (by simp[qbv,qaz,ht])
theorem qjX (c:UInt8):LCalls (KC B0 w0) 174 [int .u8 c.toNat] [] (Ret (bool (qaH c))):=by
 refine cI Tryz.func174 rfl (n:=13) rfl rfl rfl ?_;refine gaw ?_;refine oS (sF [_] rfl (qhx c) ?_) rfl;refine gax ?_;refine oB 5 rfl (fun ht=>?_) (fun ht=>?_)
 ·refine gad ?_;exact qac rfl (zra rfl) (by simp[qbv,qaH,ht])
 ·refine gal ?_;refine oS (sF [_] rfl (qf4 c) ?_) rfl;refine gae ?_;refine oB 9 rfl (fun hd=>?_) (fun hd=>?_)
  ·exact zT40
  ·exact zT40
theorem qjr:LCalls (KC B0 w0) 205 [] [] (Ret (.list (qaX.map str))):=by
 refine cI Tryz.func205 rfl (n:=2) rfl rfl rfl ?_;refine ga0 ?_;refine oS (sL [_,_,_,_,_,_,_,_] rfl (qaC qaX) rfl rfl rfl ?_) rfl;refine gac ?_;exact qac rfl (rC (rT (v:=.list _) rfl zsr) rN) rfl
theorem qj8 (s:List UInt8):LCalls (KC B0 w0) 175 [str s] [] (Ret (bool (qaX.contains s))):=by
 refine cI Tryz.func175 rfl (n:=18) rfl rfl rfl ?_;refine ga0 ?_;refine oS (sF [] rfl qjr ?_) rfl;refine gab ?_
 refine oL (fun k ls H=>∃ m:Nat,k=8-m/\ls=[(0,str s),(3,.list (qaX.map str)),(4,int .i64 m)]/\H=[]/\m<=8/\qaX.contains s=(qaX.drop m).contains s)
  ⟨_,_,_,⟨0,rfl,rfl,rfl,by omega,by simp⟩,⟨rfl,rfl,rfl,trivial⟩,zhR _⟩ ?_
 rintro k ls H ⟨m,rfl,rfl,rfl,hm,hI⟩ j hj;have h8:qaX.length=8:=rfl;refine gaa ?_;refine oC rfl (fun hc=>?_) (fun hc=>?_)
 ·have hlt:m<qaX.length:=by have:=zt hc;simp at this;omega
  refine gaa ?_;refine oP (xR (el':=str qaX[m]) rfl rfl zo (by simp) rfl rfl) rfl ?_;refine gac ?_;refine oC rfl (fun he=>?_) (fun he=>?_)
  ·have hx:qaX[m]=s:=by simpa using he
   refine gaz ?_
   exact qac hj (zra rfl) (by
    have:qaX.contains s=true:=by rw[<-hx];simp
    rw[this]
    rfl)
  ·have hx:¬ qaX[m]=s:=by simpa using he
   refine gaa ?_
   exact ⟨_,_,_,by omega,⟨m+1,rfl,rfl,rfl,by omega,by
    rw[hI,List.drop_eq_getElem_cons hlt,List.contains_cons]
    simp[Ne.symm hx]⟩,⟨rfl,rfl,qaf zo,trivial⟩,zhR _,hj⟩
 ·have hge:qaX.length<=m:=by have:=zf hc;simp at this;omega
  refine gaa ?_
  exact qac hj (zra rfl) (by
   rw[hI,List.drop_eq_nil_of_le hge]
   rfl)
theorem qlY {n:Int} (h:0<=n/\n<=255):IntKind.u8.wrap n=n:=by
 simp only[IntKind.wrap,IntKind.bits,IntKind.signed,Bool.false_and]
 simp
 omega
theorem qeZ:∀ (n:Nat),n<=4611686018427387904->LCalls (KC B0 w0) 132 [int .i64 n] [] (Ret (str (Go.Lib.decDigits n))):=by
 intro n
 induction n using Nat.strongRecOn with
 |_ n ih=>
  intro hn;refine cI Tryz.func132 rfl (n:=20) rfl rfl rfl ?_;refine gaa ?_;refine oC rfl (fun hc=>?_) (fun hc=>?_)
  ·have hlt:n<10:=by have:=zt hc;omega
   refine gab ?_;rw[qlY zo];refine zQ15 ?_
   refine oP (Pure.bytesStr (l:=[UInt8.ofNat (48+n)]) (by
    have h:((UInt8.ofNat (48+n)).toNat:Int)=48+(n:Int):=by
     rw[UInt8.toNat_ofNat'];omega
    simp only[zMc,List.map_nil,h]
    rfl) (by simp)) rfl ?_
   refine gae ?_
   exact qac rfl (zra rfl) (by
    rw[Go.Lib.decDigits,dif_pos hlt]
    rfl)
  ·have hge:¬ n<10:=by have:=zf hc;omega
   refine gad ?_;have hq:((n:Int) / 10)=((n / 10:Nat):Int):=by omega
   have hm:((n:Int) % 10)=((n % 10:Nat):Int):=by omega
   have hbytes:some [int .u8 (IntKind.u8.wrap (48+(n:Int) % 10))]=some ([UInt8.ofNat (48+n % 10)].map fun b=>int .u8 b.toNat):=by
    have h:((UInt8.ofNat (48+n % 10)).toNat:Int)=48+((n % 10:Nat):Int):=by
     rw[UInt8.toNat_ofNat'];omega
    simp only[zMc,List.map_nil,h,hm];rw[qlY zo]
   have hrec:LCalls (KC B0 w0) 132 [int .i64 ((n:Int) / 10)] [] (Ret (str (Go.Lib.decDigits (n / 10)))):=by
    rw[hq];exact ih (n / 10) zo zo
   have hlen:(Go.Lib.decDigits (n / 10)).length+[UInt8.ofNat (48+n % 10)].length<=9223372036854775807:=by
    rw[Go.Lib.decDigits_length];have:=Go.Lib.nDigits_le20 (n / 10) zo
    simp
    omega
   have hres:Go.Lib.decDigits n=Go.Lib.decDigits (n / 10)++[UInt8.ofNat (48+n % 10)]:=by rw[Go.Lib.decDigits,dif_neg hge]
   refine cD (m:=11) rfl [] ?_;refine aT 0 rfl rfl (pM (lv:=.atom _) rfl) ?_;refine LAny.take (i:=1) zhn rfl zk zk zk rfl (Pure.quo rfl rfl zDd zo zo) ?_;refine aT 3 rfl rfl (pM (lv:=.atom _) rfl) ?_;refine LAny.take (i:=4) zhn rfl zk zk zk rfl (Pure.rem rfl rfl zDd zo) ?_;refine aT 5 rfl rfl (Pure.add rfl rfl zo) ?_;refine aT 6 rfl rfl (Pure.cvt rfl) ?_;refine aL ?_ zhn;refine zl2 (i:=2) (j:=7) zk ?_ ?_
   ·refine (lS (i:=2) (H1:=[]) (F:=[]) rfl (.inl rfl) rfl zpr zhn (sF [_] rfl hrec ?_));refine zl1 zk (lS (i:=7) (H1:=[]) (F:=[]) rfl (.inl rfl) rfl zpr zhn (sL [_] rfl (zeC rfl rfl eN) rfl rfl rfl ?_));refine zl1 zk (lS (i:=8) (H1:=[]) (F:=[]) rfl (.inl rfl) rfl zpr zhn (Pure.step (Pure.bytesStr (l:=[UInt8.ofNat (48+n % 10)]) hbytes (by simp)) ?_));refine zQ41 ?_;exact qac rfl (zra rfl) (by rw[hres];rfl)
   ·refine (lS (i:=7) (H1:=[]) (F:=[]) rfl (.inl rfl) rfl zpr zhn (sL [_] rfl (zeC rfl rfl eN) rfl rfl rfl ?_));refine zl2 (i:=2) (j:=8) zk ?_ ?_
    ·refine (lS (i:=2) (H1:=[]) (F:=[]) rfl (.inl rfl) rfl zpr zhn (sF [_] rfl hrec ?_));refine zl1 zk (lS (i:=8) (H1:=[]) (F:=[]) rfl (.inl rfl) rfl zpr zhn (Pure.step (Pure.bytesStr (l:=[UInt8.ofNat (48+n % 10)]) hbytes (by simp)) ?_));refine zQ41 ?_;exact qac rfl (zra rfl) (by rw[hres];rfl)
    ·refine (lS (i:=8) (H1:=[]) (F:=[]) rfl (.inl rfl) rfl zpr zhn (Pure.step (Pure.bytesStr (l:=[UInt8.ofNat (48+n % 10)]) hbytes (by simp)) ?_));refine zl1 zk (lS (i:=2) (H1:=[]) (F:=[]) rfl (.inl rfl) rfl zpr zhn (sF [_] rfl hrec ?_));refine zQ41 ?_;exact qac rfl (zra rfl) (by rw[hres];rfl)
end
end Go.Proofs.YthmhncflhnbedaaGreatDoor
namespace Go.Proofs.YthmhncflhnbedaaGreatDoor.R23
open Go.GL Go.RowKit Go.Stele
open Go.Lib (decDigits itoa join)
theorem qrI:∀ r:List Wd,(Go.Lib.joinTail [32] r).length=tot r
 |[]=>rfl
 |y::r=>by
  have:=qrI r;unfold Go.Lib.joinTail at this ⊢;unfold tot at this ⊢;rw[zMc,List.flatten_cons,zLa,this,zMc,List.sum_cons]
  simp
theorem qeQ (ws:List Wd):(join ws [32]).length<=tot ws:=by
 cases ws with
 |nil=>exact Nat.zero_le _
 |cons x r=>
  rw[Go.Lib.join_cons,zLa,qrI];unfold tot;rw[zMc,List.sum_cons];omega
theorem qsl {ws:List Wd} (h:ws≠[]) (hw:∀ x∈ws,x≠[]):join ws [32]≠[]:=by
 cases ws with
 |nil=>exact absurd rfl h
 |cons x r=>
  rw[Go.Lib.join_cons];have:=hw x zMs;intro e;exact this (List.append_eq_nil_iff.1 e).1
theorem qaj (a b:List Wd):tot (a++b)=tot a+tot b:=by
 unfold tot;rw[zMa,List.sum_append]
def tLV (ws:List Wd) (n:Nat):LV:=.agg [str (join ws [32]),int .i64 (n:Nat)]
attribute [local irreducible] LOps qae qag LCalls Go.GL.Pure qaA qaq qah LQ LAny qaF qap
section
variable {B0:Nat} {w0:World}
theorem qak (ws l:List Wd) (n:Nat) (hw:∀ x∈ws,x≠[]) (hl:∀ x∈l,x≠[]) (hT:tot (ws++l)<=1000000000000) :
  LCalls (KC B0 w0) 81 [tLV ws n,.list (l.map str)] [] (Ret (tLV (ws++l) n)):=by
 have hla:(l.map str).length=l.length:=zLm _
 have hll:l.length<=1000000000000:=by
  have h1:=qaj ws l
  have h2:l.length<=tot l:=by
   clear hT h1 hl hla
   induction l with
   |nil=>exact Nat.zero_le _
   |cons a r ih=>
    unfold tot at ih ⊢;rw[zMc,List.sum_cons,zLc];omega
  omega
 unfold tLV;refine cI Tryz.func81 rfl (n:=28) rfl rfl rfl ?_;refine gag ?_;refine oS (sB rfl fun b2=>?_) rfl;refine oS (sA fun b4=>?_) rfl;refine gaa ?_
 refine oL (fun kk ls H'=>∃ i:Nat,i<=l.length/\kk=l.length-i/\ls=[(1,.list (l.map str)),(2,ptr b2 0),(4,ptr b4 0),(5,int .i64 (i:Nat))]/\H'=[(b2,.cells 160 [str (join (ws++l.take i) [32]),int .i64 (n:Nat)]),(b4,.cells 160 [str [],int .i64 0])])
  ⟨_,_,_,⟨0,Nat.zero_le _,rfl,rfl,by rw[List.take_zero,zLz]⟩,⟨rfl,rfl,rfl,rfl,trivial⟩,⟨[],by simpa using List.Perm.swap _ _ _⟩⟩ ?_
 rintro kk ls H' ⟨i,hi,rfl,rfl,rfl⟩ j hj
 have hW:∀ x∈ws++l.take i,x≠[]:=fun x hx=>by
  rcases List.mem_append.1 hx with h|h
  ·exact hw x h
  ·exact hl x (List.mem_of_mem_take h)
 have hJ:=qeQ (ws++l.take i)
 have hTi:tot (ws++l.take i)<=1000000000000:=by
  have h1:=qaj ws l;have h2:=qaj ws (l.take i);have h3:=Asm.tot_take l i;omega
 refine gaa ?_;refine oC rfl (fun hc=>?_) (fun hc=>?_);rotate_left
 ·have hi':i=l.length:=by have:=zf hc;omega
  subst hi';rw[List.take_length];refine gab ?_;exact qac hj (rC (rA rfl zm0 rfl zsr) rN) rfl
 have hlt:i<l.length:=by have:=zt hc;omega
 have hmi:=qa0 str l i hlt
 have hli:l[i].length<=1000000000000:=by
  have h1:=qml (List.mem_append_right ws (List.getElem_mem hlt));omega
 have hnx:ws++l.take (i+1)=(ws++l.take i)++[l[i]]:=by rw[List.take_succ_eq_append_getElem hlt,zAs]
 rw[show (l.take (i+1))=l.take i++[l[i]] from List.take_succ_eq_append_getElem hlt] at hnx;generalize hgw:l[i]=w at hmi hli hnx;have hsn:=qjT (ws++l.take i) w;have hone:join ([]++[w]) [32]=w:=Go.Lib.join_one w [32];have htk:l.take (i+1)=l.take i++[w]:=by rw[List.take_succ_eq_append_getElem hlt,hgw]
 have hne:=@qsl (ws++l.take i);rw[show ws++(l.take i++[w])=ws++l.take i++[w] from (zAs ..).symm] at hnx;refine gab ?_;have hfin:∀ t:Wd,t++w=join (ws++l.take (i+1)) [32]->t.length<=1000000000001->True:=fun _ _ _=>trivial;refine cM (A:=Wd) (fun _=>[(1,.list (l.map str)),(2,ptr b2 0),(4,ptr b4 0),(5,int .i64 (i:Nat))]) (fun t=>[(b2,.cells 160 [str t,int .i64 (n:Nat)]),(b4,.cells 160 [str [],int .i64 0])]) (fun t=>t++w=join (ws++l.take (i+1)) [32]/\t.length<=1000000000001) ?_ ?_
 ·refine oC rfl (fun h=>?_) (fun h=>?_)
  ·have h1:join (ws++l.take i) [32]≠[]:=by simpa using h
   have h2:ws++l.take i≠[]:=fun e=>h1 (by rw[e];rfl);refine gab ?_;exact ⟨join (ws++l.take i) [32]++[32],⟨by rw[htk,<-zAs ws,hsn h2],by rw[zLa];simp;omega⟩,⟨rfl,rfl,rfl,rfl,trivial⟩,zhR _,rfl⟩
  ·have h1:join (ws++l.take i) [32]=[]:=by simpa using h
   have h2:ws++l.take i=[]:=Decidable.byContradiction fun e=>hne e hW h1;refine gar ?_;exact ⟨join (ws++l.take i) [32],⟨by rw[htk,<-zAs ws,h2,hone];rfl,by omega⟩,⟨rfl,rfl,rfl,rfl,trivial⟩,zhR _,rfl⟩
 rintro t ⟨ht,htl⟩ j2 hj2;refine qae.tail 8 zk ?_;refine gac ?_;refine lP (xR (el':=str w) (cs:=[_]) rfl rfl zo hmi rfl rfl) rfl ?_;refine gab ?_;exact ⟨_,_,_,by omega,⟨i+1,by omega,rfl,rfl,by rw[<-ht]⟩,⟨rfl,rfl,rfl,qaf zo,trivial⟩,zhR _,hj2.trans hj⟩
theorem qcS (n:Nat) (h:n<=4611686018427387904):LCalls (KC B0 w0) 82 [int .i64 (n:Nat)] [] (Ret (str (decDigits n))):=by
 have hD:=qeZ (B0:=B0) (w0:=w0) n h;refine cI Tryz.func82 rfl (n:=5) rfl rfl rfl ?_;refine gaw ?_;refine oS (sF [_] rfl hD ?_) rfl;refine gae ?_;exact qac rfl (zra rfl) rfl
theorem qhr (ws:List Wd) (n:Nat) (h:n<=1000000000000):LCalls (KC B0 w0) 185 [tLV ws n] [] (Ret (.tuple [tLV ws (n+1),str (labW n)])):=by
 have hD:=qcS (B0:=B0) (w0:=w0) n zo
 have hd:(decDigits n).length<=20:=by
  rw[Go.Lib.decDigits_length];exact Go.Lib.nDigits_le20 n zo
 unfold tLV;refine cI Tryz.func185 rfl (n:=15) rfl rfl rfl ?_;refine gag ?_;refine oS (sB rfl fun b1=>?_) rfl;refine oS (sA fun b2=>?_) rfl;refine gab ?_;refine oS (sF [_] rfl hD ?_) rfl;refine gab ?_;exact qac rfl (rC (rA rfl zm0 rfl zsr) (zra rfl)) rfl
end
end Go.Proofs.YthmhncflhnbedaaGreatDoor.R23
namespace Go.Proofs.YthmhncflhnbedaaGreatDoor.RC
open Go.GL Go.RowKit Go.Stele
theorem get_mid {A B:Type} (g:A->B) (pre:List A) (a:A) (l:List A):((pre++a::l).map g)[((pre.length:Nat):Int).toNat]? = some (g a):=by
 rw[Int.toNat_natCast,List.getElem?_map,List.getElem?_append_right (zNr _),Nat.sub_self];rfl
theorem more {A B:Type} {g:A->B} {L pre l1:List A} (hL:L=pre++l1) (h:decide ((pre.length:Int)<((L.map g).length:Int))=true):∃ a l2,l1=a::l2:=by
 have:=zt h;rw[zLm,hL,zLa] at this
 cases l1 with
 |nil=>simp at this
 |cons a l2=>exact ⟨a,l2,rfl⟩
theorem qaS {A B:Type} {g:A->B} {L pre l1:List A} (hL:L=pre++l1) (h:decide ((pre.length:Int)<((L.map g).length:Int))=false):l1=[]:=by
 have:=zf h;rw[zLm,hL,zLa] at this
 cases l1 with
 |nil=>rfl
 |cons a l2=>simp at this;omega
theorem qbR {A:Type} {L pre l1:List A} {n:Nat} (hL:L=pre++l1) (h:L.length<=n):pre.length<=n:=by
 rw[hL,zLa] at h;omega
theorem snoc {A:Type} {L pre l2:List A} {a:A} (hL:L=pre++a::l2):L=(pre++[a])++l2:=by rw[hL];simp
def kwL:List Nm:=[[97,114,114,97,121],[101,108,115,101],[102,117,110,99],[104,97,108,116],[105,102],[105,110],[111,117,116],[114,101,116,117,114,110],[118,97,114],[119,104,105,108,101]]
theorem qrH (s:Nm):s∈kwL ↔ s∈qfP:=by
 have h1:∀ x∈kwL,x∈qfP:=by decide +kernel
 have h2:∀ x∈qfP,x∈kwL:=by decide +kernel
 exact ⟨h1 s,h2 s⟩
def b01 (b:Bool):Int:=if b=true then 1 else 0
theorem nm_kw {s:Nm} (h:s∈kwL):isNm s=false:=by
 have h1:qfP.contains s=true:=List.elem_eq_true_of_mem ((qrH s).1 h);unfold isNm;rw[h1]
 simp
theorem qrv {s:Nm} (h:s=[]∨24<s.length):isNm s=false:=by
 unfold isNm;rcases h with rfl|h
 ·simp
 ·rw[decide_eq_false zo];rfl
theorem nm_eq {c:UInt8} {r:List UInt8} (h0:(c::r) ∉ kwL) (h1:(c::r).length<=24):isNm (c::r)=(qaz c && r.all qaH):=by
 have h2:qfP.contains (c::r)=false:=by
  rw[Bool.eq_false_iff];intro h;exact h0 ((qrH _).2 (List.contains_iff_mem.1 h))
 unfold isNm;rw[decide_eq_true h1,h2];rfl
theorem qnB {A:Type} {s x:A} {pre:List A} (h:s ∉ pre) (hx:¬ s=x):s ∉ pre++[x]:=fun hm=>by
 rcases List.mem_append.1 hm with h1|h1
 ·exact h h1
 ·exact hx (List.mem_singleton.1 h1)
theorem qho:∀ (l k k':List Nm),(∀ x,x∈k ↔ x∈k')->qa2 k l=qa2 k' l
 |[],k,k',_=>rfl
 |s::l,k,k',h=>by
  rw[qa2,qa2];split
  ·rfl
  ·by_cases h1:s∈k
   ·rw[if_pos h1,if_pos ((h s).1 h1)]
   ·rw[if_neg h1,if_neg fun h2=>h1 ((h s).2 h2)];exact qho l _ _ fun x=>by simp only[zMi,h x]
theorem qqj {A:Type} {x a:A} {k p:List A}:x∈a::(k++p) ↔ x∈k++(p++[a]):=by
 rw[<-zAs,zMi,List.mem_append (t:=[a]),List.mem_singleton,or_comm]
def qs4 (known l:List Nm) (r:LRes) (H:Heap):Prop:=H=[]/\∃ nm,(qa2 known l=0->r=.ret (.tuple [.list ((known++l).map str),.agg [str nm,int .i64 0]]))/\(qa2 known l≠0->r=.ret (.tuple [.list [],.agg [str nm,int .i64 (qa2 known l)]]))
attribute [local irreducible] LOps qae qag LCalls Go.GL.Pure qaA qaq qah LQ LAny qaF qap LS
section
variable {B0:Nat} {w0:World}
theorem qcs (l:List Nm) (s:Nm) (hl:l.length<=1000000000):LCalls (KC B0 w0) 136 [.list (l.map str),str s] [] (Ret (bool (decide (s∈l)))):=by
 refine cI Tryz.func136 rfl (n:=17) rfl rfl rfl ?_;refine gaa ?_
 refine oL (fun k ls H'=>∃ pre l1,l=pre++l1/\k=l1.length/\ls=[(1,str s),(7,.list (l.map str)),(8,int .i64 ((l.map str).length:Int)),(9,int .i64 (pre.length:Int))]/\H'=[]/\s ∉ pre)
  ⟨_,_,_,⟨[],l,rfl,rfl,rfl,rfl,List.not_mem_nil⟩,⟨rfl,rfl,rfl,rfl,trivial⟩,zhR _⟩ ?_
 rintro k ls H' ⟨pre,l1,hL,rfl,rfl,rfl,hn⟩ j hj;have hb:=qbR hL hl;refine gai ?_;refine oC rfl (fun hc=>?_) (fun hc=>?_)
 ·obtain ⟨a,l2,rfl⟩:=more hL hc;refine zQ90 ?_;refine oC rfl (fun hd=>?_) (fun hd=>?_)
  ·have he:a=s:=zt hd;refine gaz ?_;exact qac hj (zra rfl) (qai (decide_eq_true (by rw[hL,he];simp)).symm)
  ·have he:¬ a=s:=zf hd;refine gaa ?_;exact ⟨l2.length,_,_,Nat.lt_succ_self _,⟨pre++[a],l2,snoc hL,rfl,rfl,rfl,qnB hn fun h=>he h.symm⟩,⟨rfl,rfl,rfl,qaf (by simp),trivial⟩,zhR _,hj⟩
 ·obtain rfl:=qaS hL hc;refine gaa ?_;exact qac hj (zra rfl) (qai (decide_eq_false (by rw[hL,zLz];exact hn)).symm)
theorem qp5 (s:Nm):LCalls (KC B0 w0) 135 [str s] [] (Ret (int .i64 (b01 (isNm s)))):=by
 refine cI Tryz.func135 rfl (n:=68) rfl rfl rfl ?_;refine ga0 ?_
 refine oS (sL (es:=kwL.map str) [_,_,_,_,_,_,_,_,_,_] rfl (by
  intro v hv;obtain ⟨x,_,rfl⟩:=List.mem_map.1 hv
  exact ⟨rfl,rfl⟩) rfl rfl rfl ?_) rfl
 refine gad ?_
 refine oL (fun k ls H'=>∃ pre l1,kwL=pre++l1/\k=l1.length/\ls=[(0,str s),(6,.list (kwL.map str)),(7,int .i64 ((kwL.map str).length:Int)),(8,int .i64 (pre.length:Int))]/\H'=[]/\s ∉ pre)
  ⟨_,_,_,⟨[],kwL,rfl,rfl,rfl,rfl,List.not_mem_nil⟩,⟨rfl,rfl,rfl,rfl,trivial⟩,zhR _⟩ ?_
 rintro k ls H' ⟨pre,l1,hL,rfl,rfl,rfl,hn⟩ j hj;have hb:=qbR hL (show kwL.length<=10 by decide)
 have retF:∀ (h:isNm s=false) {e:Env} {C:Ctx} {n:Nat},e.ds=[]->e.s 2=int .i64 0->qah C n [ResultVar.tmp 2] (Ret (int .i64 (b01 (isNm s)))) .ret e []:=fun h {e C n} hd he=>by
  rw[h];exact qac hd (rC (rT he zsr) rN) rfl
 refine gai ?_;refine oC rfl (fun hc=>?_) (fun hc=>?_)
 ·obtain ⟨a,l2,rfl⟩:=more hL hc;refine zQ90 ?_;refine oC rfl (fun hd=>?_) (fun hd=>?_)
  ·have he:s=a:=zt hd;refine gaz ?_;exact retF (nm_kw (by rw[hL,he];simp)) hj rfl
  ·have he:¬ s=a:=zf hd;refine gaa ?_;exact ⟨l2.length,_,_,Nat.lt_succ_self _,⟨pre++[a],l2,snoc hL,rfl,rfl,rfl,qnB hn he⟩,⟨rfl,rfl,rfl,qaf (by simp),trivial⟩,zhR _,hj⟩
 obtain rfl:=qaS hL hc;rw[zLz] at hL;rw[<-hL] at hn;clear hL hb hc;refine gab ?_;refine oB 19 rfl (fun h1=>?_) (fun h1=>?_)
 ·have h0:s=[]:=by
   have:=zt h1;exact List.length_eq_zero_iff.1 zo
  refine gad ?_;refine oC rfl (fun _=>?_) (fun hc=>by cases hc);refine gap ?_;exact retF (qrv (.inl h0)) hj rfl
 obtain ⟨c,r,rfl⟩:∃ c r,s=c::r:=by
  cases s with
  |nil=>exact absurd rfl (zf h1)
  |cons c r=>exact ⟨c,r,rfl⟩
 refine gac ?_;refine oB 24 rfl (fun h2=>?_) (fun h2=>?_)
 ·have:=zt h2;refine gad ?_;refine oC rfl (fun _=>?_) (fun hc=>by cases hc);refine gap ?_;exact retF (qrv (.inr zo)) hj rfl
 have hl:(c::r).length<=24:=by
  have:=zf h2;omega
 have heq:=nm_eq hn hl;have hcvc:cv c=(c.toNat:Int):=rfl;refine gal ?_;refine oP (pI (c:=c) rfl rfl zo rfl) rfl ?_;refine gad ?_;refine oB 29 rfl (fun h3=>?_) (fun h3=>?_)
 ·have h4:qaz c=false:=by
   have:=zt h3;unfold qaz;rw[decide_eq_false zo,Bool.false_and]
  refine gad ?_;refine oC rfl (fun _=>?_) (fun hc=>by cases hc);refine gap ?_;exact retF (by rw[heq,h4,Bool.false_and]) hj rfl
 refine gal ?_;refine oP (pI (c:=c) rfl rfl zo rfl) rfl ?_;refine gac ?_;refine oC rfl (fun h5=>?_) (fun h5=>?_)
 ·have h4:qaz c=false:=by
   have:=zt h5;unfold qaz;rw[Bool.and_eq_false_iff];exact .inr (decide_eq_false zo)
  refine gap ?_;exact retF (by rw[heq,h4,Bool.false_and]) hj rfl
 have h4:qaz c=true:=by
  have g1:=zf h3;have g2:=zf h5;unfold qaz;rw[decide_eq_true zo,decide_eq_true zo];rfl
 rw[h4,Bool.true_and] at heq;refine gaa ?_
 refine oL (fun k ls H'=>∃ pre l1,c::r=pre++l1/\1<=pre.length/\k=l1.length/\ls=[(0,str (c::r)),(5,int .i64 (pre.length:Int))]/\H'=[]/\isNm (c::r)=l1.all qaH)
  ⟨_,_,_,⟨[c],r,rfl,zNr _,rfl,rfl,rfl,heq⟩,⟨rfl,rfl,trivial⟩,zhR _⟩ ?_
 rintro k ls H' ⟨pre,l1,hL,hp1,rfl,rfl,rfl,hI⟩ j2 hj2;have hb:=qbR hL hl;refine gab ?_;refine oC rfl (fun hc=>?_) (fun hc=>?_);rotate_left
 ·have hlen:=zf hc;rw[hL,zLa] at hlen
  obtain rfl:l1=[]:=by
   cases l1 with
   |nil=>rfl
   |cons a l2=>simp at hlen;omega
  refine gaa ?_;exact qac (hj2.trans hj) (zra rfl) (by rw[hI];rfl)
 have hlen:=zt hc;rw[hL,zLa] at hlen
 obtain ⟨a,l2,rfl⟩:∃ a l2,l1=a::l2:=by
  cases l1 with
  |nil=>simp at hlen
  |cons a l2=>exact ⟨a,l2,rfl⟩
 have hget:(c::r)[((pre.length:Nat):Int).toNat]? = some a:=by
  rw[Int.toNat_natCast,hL,List.getElem?_append_right (zNr _),Nat.sub_self];rfl
 have hcva:cv a=(a.toNat:Int):=rfl
 have nl:∀ {b1 b2 b3:Bool},qaz a=false->b1=decide (48<=cv a)->b2=decide (cv a<=57)->b3=decide (cv a=95)->qaH a=((b1 && b2) || b3):=fun h h1 h2 h3=>by
  unfold qaH;rw[h,h1,h2,h3]
  first|rfl|simp[qao]
 refine gaa ?_;refine LOps.cut [(0,str (c::r)),(5,int .i64 (pre.length:Int)),(67,bool (!qaH a))] ?_ (fun j3 hj3=>?_)
 ·refine oP (pI (c:=a) rfl rfl zo hget) rfl ?_;refine gad ?_;refine oB 44 rfl (fun h6=>?_) (fun h6=>?_)
  ·have hlet:qaz a=false:=by have:=zt h6;unfold qaz;rw[decide_eq_false zo];rfl
   refine gad ?_;refine oP (pI (c:=a) rfl rfl zo hget) rfl ?_;refine gad ?_;refine oB 55 rfl (fun h8=>?_) (fun h8=>?_)
   ·exact zT45
   have g8:=zf h8;refine gal ?_;refine zQ56 ?_;refine oB 62 rfl (fun h9=>?_) (fun h9=>?_)
   ·exact zT46
   ·exact zT41
  have g6:=zf h6;refine gal ?_;refine zQ56 ?_;refine oB 50 rfl (fun h7=>?_) (fun h7=>?_)
  ·have hlet:qaz a=false:=by have:=zt h7;unfold qaz;rw[decide_eq_false (show ¬ cv a<=122 by omega),Bool.and_false]
   refine gal ?_;refine oP (pI (c:=a) rfl rfl zo hget) rfl ?_;refine gad ?_;refine oB 55 rfl (fun h8=>?_) (fun h8=>?_)
   ·exact zT45
   have g8:=zf h8;refine gal ?_;refine zQ56 ?_;refine oB 62 rfl (fun h9=>?_) (fun h9=>?_)
   ·exact zT46
   ·exact zT41
  have g7:=zf h7;have hlet:qaz a=true:=by unfold qaz;rw[decide_eq_true (show 97<=cv a by omega),decide_eq_true (show cv a<=122 by omega)];rfl
  refine gac ?_;exact ⟨⟨rfl,rfl,qai (by unfold qaH;rw[hlet];rfl),trivial⟩,rfl,rfl⟩
 refine oC rfl (fun h10=>?_) (fun h10=>?_)
 ·have hin:qaH a=false:=by simpa using h10
  refine gaz ?_;exact retF (by rw[hI,List.all_cons,hin,Bool.false_and]) (hj3.trans (hj2.trans hj)) rfl
 ·have hin:qaH a=true:=by simpa using h10
  refine gaa ?_;exact ⟨l2.length,_,_,Nat.lt_succ_self _,⟨pre++[a],l2,snoc hL,by simp,rfl,rfl,rfl,by rw[hI,List.all_cons,hin,Bool.true_and]⟩,⟨rfl,qaf (by simp),trivial⟩,zhR _,hj3.trans hj2⟩
theorem qjy (known l:List Nm) (hk:known.length<=100000000) (hl:l.length<=100000000):LCalls (KC B0 w0) 76 [.list (known.map str),.list (l.map str)] [] (qs4 known l):=by
 refine cI Tryz.func76 rfl (n:=33) rfl rfl rfl ?_;refine ga0 ?_;refine oS (sA fun b5=>?_) rfl;refine gaa ?_
 refine oL (fun k ls H'=>∃ pre l1,l=pre++l1/\k=l1.length/\ls=[(0,.list ((known++pre).map str)),(5,ptr b5 0),(8,.list (l.map str)),(9,int .i64 ((l.map str).length:Int)),(10,int .i64 (pre.length:Int))]/\H'=[(b5,.cells 145 [str [],int .i64 0])]/\qa2 known l=qa2 (known++pre) l1)
  ⟨_,_,_,⟨[],l,rfl,rfl,rfl,rfl,by rw[zLz]⟩,⟨by rw[zLz];rfl,rfl,rfl,rfl,rfl,trivial⟩,zhR _⟩ ?_
 rintro k ls H' ⟨pre,l1,hL,rfl,rfl,rfl,hI⟩ j hj;have hb:=qbR hL hl;refine gai ?_;refine oC rfl (fun hc=>?_) (fun hc=>?_);rotate_left
 ·obtain rfl:=qaS hL hc;rw[zLz] at hL;subst hL;refine gab ?_;refine rR hj (rC (rT (v:=.list ((known++l).map str)) rfl zsr) (rC (rA (k:=2) rfl zm0 rfl zsr) rN)) zhn ⟨rfl,[],fun _=>rfl,fun h=>absurd (hI.trans rfl) h⟩
 obtain ⟨a,l2,rfl⟩:=more hL hc;rw[qa2] at hI;refine zQ90 ?_;refine oS (sF [_] rfl (qp5 a) ?_) rfl;refine gad ?_;refine oC rfl (fun h1=>?_) (fun h1=>?_)
 ·have hn:isNm a=false:=by
   cases h:isNm a with
   |false=>rfl
   |true=>rw[h] at h1;cases h1
  rw[if_pos hn] at hI;refine gab ?_;refine rR hj (rC (rT (v:=qaa) rfl vN) (rC (rA (k:=2) rfl zm0 rfl zsr) rN)) zhn ⟨rfl,a,fun h=>(by rw[hI] at h;cases h),fun _=>by rw[hI];rfl⟩
 have hn:isNm a=true:=by
  cases h:isNm a with
  |true=>rfl
  |false=>rw[h] at h1;cases h1
 rw[if_neg (by rw[hn];decide)] at hI;refine gaa ?_;refine oS (sF [_,_] rfl (qcs (known++pre) a (by rw[zLa];omega)) ?_) rfl;refine gam ?_;refine oC rfl (fun h2=>?_) (fun h2=>?_)
 ·have hm:a∈known++pre:=zt h2;rw[if_pos hm] at hI;refine gab ?_;refine rR hj (rC (rT (v:=qaa) rfl vN) (rC (rA (k:=2) rfl zm0 rfl zsr) rN)) zhn ⟨rfl,a,fun h=>(by rw[hI] at h;cases h),fun _=>by rw[hI];rfl⟩
 have hm:a ∉ known++pre:=zf h2;rw[if_neg hm] at hI;refine gak ?_;refine oS (S.litA (es:=[]) [] rfl eN rfl rfl rfl fun b6=>?_) rfl;refine gad ?_;refine oS (sG (A:=[_]) (H1:=[(b6,.row 0)]) zpr rfl Acc.row rfl (qa6 _) (qbt _) (by simp;omega) fun v2 H2 h2=>?_) rfl;refine gax ?_;refine oS (sL (es:=[a].map str) [_] rfl (zeC rfl rfl eN) rfl rfl rfl ?_) rfl;refine oS (sG (A:=[_]) (H1:=H2) (zPc (l₁:=[_])) rfl h2 rfl (qa6 _) (qbt _) (by simp;omega) fun v3 H3 h3=>?_) rfl;refine LOps.sub 29 rfl h3.sub ?_;refine LOps.weak (H':=[(b5,.cells 145 [str [],int .i64 0])]) zhp ?_;refine gab ?_
 exact ⟨l2.length,_,_,Nat.lt_succ_self _,⟨pre++[a],l2,snoc hL,rfl,rfl,rfl,by
  rw[hI]
  exact qho _ _ _ fun x=>qqj⟩,⟨(by show LV.list ([]++(known++pre).map str++[a].map str)=_;simp),rfl,rfl,rfl,qaf (by simp),trivial⟩,zhR _,hj⟩
end
end Go.Proofs.YthmhncflhnbedaaGreatDoor.RC
namespace Go.Proofs.YthmhncflhnbedaaGreatDoor.RC
open Go.GL Go.RowKit Go.Stele
def scV (own:Nm) (c:CEnv) (fs:List FnD):LV:=.agg [str own,.list (c.own.map str),.list (c.vars.map str),.list (c.arrays.map str),.list (fs.map qav),.list (c.later.map str)]
structure ScOk (c:CEnv) (fs:List FnD):Prop where
 fns:c.funcs.map (fun s=>(s.name,s.params))=fs.map (fun f=>(f.name,f.params.length))
 own:c.own.length<=1000000000
 vars:c.vars.length<=1000000000
 arrays:c.arrays.length<=1000000000
 later:c.later.length<=1000000000
 funs:fs.length<=1000000000
 pars:∀ f∈fs,f.params.length<=1000000000
def qf9 (e:Int) (r:LRes) (H:Heap):Prop:=H=[]/\∃ nm,r=.ret (.agg [str nm,int .i64 e])
def FnIx (c:CEnv) (fs:List FnD) (name:Nm) (i:Int):Prop:=(∃ s pre f post,c.fn name=some s/\fs=pre++f::post/\i=(pre.length:Int)/\s.params=f.params.length)∨(c.fn name=none/\i = -1)
section
variable {C:Ctx} {n:Nat} {e:Env} {H:Heap} {dst:Option Nat} {ty:TypeId} {pos:String} {aft:Array Edge} {g:Option (Nat×Bool)} {K:LV->Heap->Prop} {X:List PanicEntry->Heap->Prop}
theorem S.pb {f:FuncId} [TEnter C.P f] (args:List Operand) {ats:Array TypeId} {avs:List LV} {er:Int} (has:args.map e.ev=avs) (hc:LCalls C f avs [] (qf9 er)) (hk:∀ nm,K (.agg [str nm,int .i64 er]) H) :
  qag C ⟨dst,.call { callee:=.value (.func f),args:=args.toArray,argTypes:=ats },ty,pos,aft,g⟩ e H K X:=
 S.callH (H1:=[]) args has zpr hc (by rintro v H' ⟨rfl,nm,h⟩;cases h;exact hk nm) (by rintro ch H' ⟨_,nm,h⟩;cases h)
theorem retB {rs:List ResultVar} {vs:List LV} {nm:Nm} {er:Int} (hd:e.ds=[]) (h:qbF C n e H rs vs) (hv:qbv vs=.agg [str nm,int .i64 er]):qah C n rs (qf9 er) .ret e H:=
 rR hd h zhn ⟨rfl,nm,by rw[hv]⟩
end
attribute [local irreducible] LOps qae qag LCalls Go.GL.Pure qaA qaq qah LQ LAny qaF qap LS
section
variable {B0:Nat} {w0:World}
theorem qmx (op:Nm):LCalls (KC B0 w0) 208 [str op] [] (Ret (int .i64 (b01 (decide (op∈qeW))))):=by
 refine cI Tryz.func208 rfl (n:=6) rfl rfl rfl ?_;refine ga0 ?_
 refine oS (sL (es:=qeW.map str) [_,_,_,_,_,_,_,_,_,_,_,_,_,_] rfl (by
  intro v hv;obtain ⟨x,_,rfl⟩:=List.mem_map.1 hv
  exact ⟨rfl,rfl⟩) rfl rfl rfl ?_) rfl
 refine gax ?_;refine oS (sF [_,_] rfl (qcs qeW op zDd) ?_) rfl;refine gam ?_;refine oC rfl (fun hc=>?_) (fun hc=>?_)
 ·refine gap ?_;exact qac rfl (zra rfl) (by rw[show decide (op∈qeW)=true from hc];rfl)
 ·refine gaa ?_;exact qac rfl (zra rfl) (by rw[show decide (op∈qeW)=false from hc];rfl)
theorem qob (x:Ex):LCalls (KC B0 w0) 179 [encE x] [] (Ret (bool (decide (qba (exOp x) = -1∨qba (exOp x)=((qtg x).length:Int))))):=by
 obtain ⟨op,num,name,args⟩:=x;have hlen:((args.map encE).length:Int)=(args.length:Int):=by rw[zLm]
 rw[qbW];show LCalls _ _ _ _ (Ret (bool (decide (qba op = -1∨qba op=(args.length:Int)))));generalize hI:decide (qba op = -1∨qba op=(args.length:Int))=R;refine cI Tryz.func179 rfl (n:=32) rfl rfl rfl ?_;refine gag ?_;refine oS (sB rfl fun b1=>?_) rfl;refine gaa ?_
 by_cases h1:op=[110,117,109]
 ·subst h1;refine oC rfl (fun _=>?_) (fun hc=>by cases hc);refine gar ?_;refine oC rfl (fun _=>?_) (fun hc=>by cases hc);refine gaa ?_;exact qac rfl (zra rfl) (qai (by rw[<-hI,hlen];exact decide_eq_decide.2 (by rw[show qba [110,117,109]=0 from rfl];omega)))
 refine oC rfl (fun hc=>absurd (zt hc) h1) (fun _=>?_);refine gaj ?_
 by_cases h2:op=[118,97,114]
 ·subst h2;refine oC rfl (fun _=>?_) (fun hc=>by cases hc);refine gaa ?_;exact qac rfl (zra rfl) (qai (by rw[<-hI,hlen];exact decide_eq_decide.2 (by rw[show qba [118,97,114]=0 from rfl];omega)))
 refine oC rfl (fun hc=>absurd (zt hc) h2) (fun _=>?_);refine gaj ?_
 by_cases h3:op=[101,108,101,109]
 ·subst h3;refine oC rfl (fun _=>?_) (fun hc=>by cases hc);refine gar ?_;refine oC rfl (fun _=>?_) (fun hc=>by cases hc);refine gaa ?_;exact qac rfl (zra rfl) (qai (by rw[<-hI,hlen];exact decide_eq_decide.2 (by rw[show qba [101,108,101,109]=1 from rfl];omega)))
 refine oC rfl (fun hc=>absurd (zt hc) h3) (fun _=>?_);refine gaj ?_
 by_cases h4:op=[110,101,103]
 ·subst h4;refine oC rfl (fun _=>?_) (fun hc=>by cases hc);refine gar ?_;refine oC rfl (fun _=>?_) (fun hc=>by cases hc);refine gaa ?_;exact qac rfl (zra rfl) (qai (by rw[<-hI,hlen];exact decide_eq_decide.2 (by rw[show qba [110,101,103]=1 from rfl];omega)))
 refine oC rfl (fun hc=>absurd (zt hc) h4) (fun _=>?_);refine gaj ?_
 by_cases h5:op=[110,111,116]
 ·subst h5;refine oC rfl (fun _=>?_) (fun hc=>by cases hc);refine gaa ?_;exact qac rfl (zra rfl) (qai (by rw[<-hI,hlen];exact decide_eq_decide.2 (by rw[show qba [110,111,116]=1 from rfl];omega)))
 refine oC rfl (fun hc=>absurd (zt hc) h5) (fun _=>?_);refine gaj ?_
 by_cases h6:op=[99,97,108,108]
 ·subst h6;refine oC rfl (fun _=>?_) (fun hc=>by cases hc);refine gaz ?_;exact qac rfl (zra rfl) (qai (by rw[<-hI];exact (decide_eq_true (.inl rfl)).symm))
 refine oC rfl (fun hc=>absurd (zt hc) h6) (fun _=>?_);refine gaa ?_;refine oS (sF [_] rfl (qmx op) ?_) rfl
 have ho:qba op=if op∈qeW then 2 else -2:=by
  unfold qba;rw[if_neg (fun h=>h.elim h1 h2),if_neg (fun h=>h.elim h3 (fun h=>h.elim h4 h5)),if_neg (show ¬ op=qa8 from h6)]
 by_cases h7:op∈qeW
 ·rw[if_pos h7] at ho;rw[decide_eq_true h7];refine gad ?_;exact qac rfl (zra rfl) (qai (by rw[<-hI,hlen];exact decide_eq_decide.2 (by rw[ho];omega)))
 ·rw[if_neg h7] at ho;rw[decide_eq_false h7];refine gad ?_;exact qac rfl (zra rfl) (qai (by rw[<-hI];exact (decide_eq_false (by rw[ho];omega)).symm))
theorem qrQ {c:CEnv} {name:Nm} {s:FSum} {l:List FSum}:(s::l).find? (fun f=>decide (f.name=name))=if s.name=name then some s else l.find? (fun f=>decide (f.name=name)):=by
 rw[List.find?_cons]
 by_cases h:s.name=name
 ·rw[decide_eq_true h,if_pos h]
 ·rw[decide_eq_false h,if_neg h]
theorem qeT {own:Nm} {c:CEnv} {fs:List FnD} (h:ScOk c fs) (name:Nm):LCalls (KC B0 w0) 209 [scV own c fs,str name] [] (qh0 fun v=>∃ i,v=int .i64 i/\FnIx c fs name i):=by
 unfold scV;refine cI Tryz.func209 rfl (n:=21) rfl rfl rfl ?_;refine gag ?_;refine oS (sB rfl fun b2=>?_) rfl;refine gaa ?_
 refine oL (fun k ls H'=>∃ (pre l1:List FnD) (cl:List FSum),fs=pre++l1/\k=l1.length/\ls=[(1,str name),(8,.list (fs.map qav)),(9,int .i64 ((fs.map qav).length:Int)),(10,int .i64 (pre.length:Int))]/\H'=[]/\cl.map (fun s=>(s.name,s.params))=l1.map (fun f=>(f.name,f.params.length))/\c.fn name=cl.find? (fun f=>decide (f.name=name)))
  ⟨_,_,_,⟨[],fs,c.funcs,rfl,rfl,rfl,rfl,h.fns,rfl⟩,⟨rfl,rfl,rfl,rfl,trivial⟩,HSub.nil _⟩ ?_
 rintro k ls H' ⟨pre,l1,cl,hL,rfl,rfl,rfl,hcl,hI⟩ j hj;have hb:=qbR hL h.funs;refine gai ?_;refine oC rfl (fun hc=>?_) (fun hc=>?_)
 ·obtain ⟨a,l2,rfl⟩:=more hL hc
  obtain ⟨s,cl,rfl⟩:∃ s l,cl=s::l:=by
   cases cl with
   |nil=>simp at hcl
   |cons s l=>exact ⟨s,l,rfl⟩
  rw[zMc,zMc] at hcl;injection hcl with hs hcl;injection hs with hs1 hs2;rw[qrQ (c:=c)] at hI;refine gaa ?_;refine oP (xR (el':=qav a) (cs:=[_,_,_,_]) rfl rfl zo (by rw[hL];exact get_mid qav pre a l2) rfl rfl) rfl ?_;refine gav ?_;refine oS (sA fun b6=>?_) rfl;refine gab ?_;refine oC rfl (fun hd=>?_) (fun hd=>?_)
  ·have he:a.name=name:=zt hd;rw[if_pos (hs1.trans he)] at hI;refine gaa ?_;exact qb4 hj (zra rfl) ⟨_,rfl,.inl ⟨s,pre,a,l2,hI,hL,rfl,hs2⟩⟩
  ·have he:¬ a.name=name:=zf hd;rw[if_neg (fun g=>he (hs1.symm.trans g))] at hI;refine gaa ?_;exact ⟨l2.length,_,_,Nat.lt_succ_self _,⟨pre++[a],l2,cl,snoc hL,rfl,rfl,rfl,hcl,hI⟩,⟨rfl,rfl,rfl,qaf (by simp),trivial⟩,HSub.nil _,hj⟩
 ·obtain rfl:=qaS hL hc
  have hcl0:cl=[]:=by
   cases cl with
   |nil=>rfl
   |cons s l=>simp at hcl
  subst hcl0;refine gaa ?_;exact qb4 hj (zra rfl) ⟨_,rfl,.inr ⟨hI,rfl⟩⟩
theorem qb7 {own:Nm} {c:CEnv} {fs:List FnD} (h:ScOk c fs) (name:Nm):LCalls (KC B0 w0) 139 [scV own c fs,str name] [] (qf9 (qbj c name)):=by
 unfold scV;generalize hI:qbj c name=R;unfold qbj CEnv.globals at hI;refine cI Tryz.func139 rfl (n:=30) rfl rfl rfl ?_;refine gag ?_;refine oS (sB rfl fun b2=>?_) rfl;refine oS (sA fun b4=>?_) rfl;refine gab ?_;refine oS (sF [_,_] rfl (qcs c.own name h.own) ?_) rfl;refine gax ?_
 by_cases h1:name∈c.own
 ·rw[if_pos (.inr h1)] at hI;refine oB 9 rfl (fun _=>?_) (fun g=>absurd h1 (zf g));refine gad ?_;refine oC rfl (fun _=>?_) (fun hc=>by cases hc);refine gab ?_;exact retB (nm:=[]) rfl (rC (rA rfl zm0 rfl zsr) rN) (by rw[<-hI];rfl)
 refine oB 9 rfl (fun g=>absurd (zt g) h1) (fun _=>?_);refine gac ?_;refine oS (sF [_,_] rfl (qcs c.vars name h.vars) ?_) rfl;refine gae ?_;refine oC rfl (fun h2=>?_) (fun h2=>?_)
 ·rw[if_pos (.inl (zt h2))] at hI;refine gab ?_;exact retB (nm:=[]) rfl (rC (rA rfl zm0 rfl zsr) rN) (by rw[<-hI];rfl)
 have h2':name ∉ c.vars:=zf h2;rw[if_neg (fun g=>g.elim h2' h1)] at hI;simp only[List.mem_append,h2',false_or] at hI;refine gab ?_;refine oS (sF [_,_] rfl (qcs c.arrays name h.arrays) ?_) rfl;refine gax ?_
 by_cases h3:name∈c.arrays
 ·rw[if_pos (.inl h3)] at hI;refine oB 20 rfl (fun _=>?_) (fun g=>absurd h3 (zf g));refine gad ?_;refine oC rfl (fun _=>?_) (fun hc=>by cases hc);refine gab ?_;exact retB (nm:=name) rfl (rC (rA rfl zm0 rfl zsr) rN) (by rw[<-hI];rfl)
 refine oB 20 rfl (fun g=>absurd (zt g) h3) (fun _=>?_);refine gac ?_;refine oS (sF [_,_] rfl (qcs c.later name h.later) ?_) rfl;refine gae ?_;refine oC rfl (fun h4=>?_) (fun h4=>?_)
 ·rw[if_pos (.inr (zt h4))] at hI;refine gab ?_;exact retB (nm:=name) rfl (rC (rA rfl zm0 rfl zsr) rN) (by rw[<-hI];rfl)
 ·rw[if_neg (fun g=>g.elim h3 (zf h4))] at hI;refine gab ?_;exact retB (nm:=name) rfl (rC (rA rfl zm0 rfl zsr) rN) (by rw[<-hI];rfl)
theorem qhn {own:Nm} {c:CEnv} {fs:List FnD} (h:ScOk c fs) (name:Nm):LCalls (KC B0 w0) 140 [scV own c fs,str name] [] (qf9 (qdr c name)):=by
 unfold scV;generalize hI:qdr c name=R;unfold qdr CEnv.globals at hI;refine cI Tryz.func140 rfl (n:=30) rfl rfl rfl ?_;refine gag ?_;refine oS (sB rfl fun b2=>?_) rfl;refine oS (sA fun b4=>?_) rfl;refine gab ?_;refine oS (sF [_,_] rfl (qcs c.arrays name h.arrays) ?_) rfl;refine gam ?_;refine oC rfl (fun h1=>?_) (fun h1=>?_)
 ·rw[if_pos (zt h1)] at hI;refine gab ?_;exact retB (nm:=[]) rfl (rC (rA rfl zm0 rfl zsr) rN) (by rw[<-hI];rfl)
 have h1':name ∉ c.arrays:=zf h1;rw[if_neg h1'] at hI;simp only[List.mem_append,h1',or_false] at hI;refine gab ?_;refine oS (sF [_,_] rfl (qcs c.own name h.own) ?_) rfl;refine gax ?_
 by_cases h2:name∈c.own
 ·rw[if_pos (.inr h2)] at hI;refine oB 14 rfl (fun _=>?_) (fun g=>absurd h2 (zf g));refine gad ?_;refine oC rfl (fun _=>?_) (fun hc=>by cases hc);refine gab ?_;exact retB (nm:=name) rfl (rC (rA rfl zm0 rfl zsr) rN) (by rw[<-hI];rfl)
 refine oB 14 rfl (fun g=>absurd (zt g) h2) (fun _=>?_);refine gac ?_;refine oS (sF [_,_] rfl (qcs c.vars name h.vars) ?_) rfl;refine gae ?_
 by_cases h3:name∈c.vars
 ·rw[if_pos (.inl (.inl h3))] at hI;refine oB 20 rfl (fun _=>?_) (fun g=>absurd h3 (zf g));refine gad ?_;refine oC rfl (fun _=>?_) (fun hc=>by cases hc);refine gab ?_;exact retB (nm:=name) rfl (rC (rA rfl zm0 rfl zsr) rN) (by rw[<-hI];rfl)
 refine oB 20 rfl (fun g=>absurd (zt g) h3) (fun _=>?_);refine gac ?_;refine oS (sF [_,_] rfl (qcs c.later name h.later) ?_) rfl;refine gae ?_;refine oC rfl (fun h4=>?_) (fun h4=>?_)
 ·rw[if_pos (.inl (.inr (zt h4)))] at hI;refine gab ?_;exact retB (nm:=name) rfl (rC (rA rfl zm0 rfl zsr) rN) (by rw[<-hI];rfl)
 ·rw[if_neg (fun g=>g.elim (fun g=>g.elim h3 (zf h4)) h2)] at hI;refine gab ?_;exact retB (nm:=name) rfl (rC (rA rfl zm0 rfl zsr) rN) (by rw[<-hI];rfl)
end
end Go.Proofs.YthmhncflhnbedaaGreatDoor.RC
namespace Go.Proofs.YthmhncflhnbedaaGreatDoor.RC
open Go.GL Go.RowKit Go.Stele
@[reducible] def scH (b:Nat) (own:Nm) (c:CEnv) (fs:List FnD):Nat×LObj:=(b,.cells 149 [str own,.list (c.own.map str),.list (c.vars.map str),.list (c.arrays.map str),.list (fs.map qav),.list (c.later.map str)])
@[reducible] def exH (b:Nat) (op:Nm) (num:Nat) (name:Nm) (args:List Ex):Nat×LObj:=(b,.cells 182 [str op,int .u32 (num:Int),str name,.list (args.map encE)])
@[reducible] def pbH (b:Nat) (nm:Nm) (e:Int):Nat×LObj:=(b,.cells 145 [str nm,int .i64 e])
theorem qmJ {p q:Prop} [Decidable p] [Decidable q] {a b:Int} (h:p ↔ q) (_:a=a) (_:b=b):(if p then a else b)=if q then a else b:=by
 by_cases hp:p
 ·rw[if_pos hp,if_pos (h.1 hp)]
 ·rw[if_neg hp,if_neg fun hq=>hp (h.2 hq)]
attribute [local irreducible] LOps qae qag LCalls Go.GL.Pure qaA qaq qah LQ LAny qaF qap LS
section
variable {B0:Nat} {w0:World}
theorem qmp {own:Nm} {c:CEnv} {fs:List FnD} (h:ScOk c fs) (op:Nm) (num:Nat) (name:Nm) (args:List Ex):LCalls (KC B0 w0) 180 [scV own c fs,encE (.mk op num name args)] [] (qf9 (callE c name args.length)):=by
 have hlen:((args.map encE).length:Int)=(args.length:Int):=by rw[zLm]
 have hfun:=qeT (B0:=B0) (w0:=w0) (own:=own) h name;rw[qbW];unfold scV at hfun ⊢;generalize hI:callE c name args.length=R;unfold callE at hI;refine cI Tryz.func180 rfl (n:=64) rfl rfl rfl ?_;refine gag ?_;refine oS (sB rfl fun b2=>?_) rfl;refine oS (sB rfl fun b3=>?_) rfl;refine oS (sA fun b4=>?_) rfl;refine gab ?_;refine oS (S.fnIf [_,_] rfl hfun ?_) rfl;rintro lv ⟨i,rfl,hix⟩;refine ga2 ?_;refine qae.mid (A:=Int) (fun w=>[(2,ptr b2 0),(3,ptr b3 0),(4,ptr b4 0),(5,int .i64 w)]) (fun _=>[pbH b4 [] 0,exH b3 op num name args,scH b2 own c fs]) (fun w=>R=if (args.length:Int)=w then 0 else 1) ?_ ?_
 ·refine gab ?_
  by_cases h1:name=[105,110]
  ·subst h1;rw[if_pos rfl] at hI;refine oC rfl (fun _=>?_) (fun hc=>by cases hc);refine gad ?_;exact ⟨0,by rw[<-hI];exact qmJ zo rfl rfl,⟨rfl,rfl,rfl,rfl,trivial⟩,rfl,rfl⟩
  rw[if_neg h1] at hI;refine oC rfl (fun hc=>absurd (zt hc) h1) (fun _=>?_);refine gab ?_
  by_cases h2:name=[111,117,116]
  ·subst h2;rw[if_pos rfl] at hI;refine oC rfl (fun _=>?_) (fun hc=>by cases hc);refine gaa ?_;exact ⟨1,by rw[<-hI];exact qmJ zo rfl rfl,⟨rfl,rfl,rfl,rfl,trivial⟩,rfl,rfl⟩
  rw[if_neg h2] at hI;refine oC rfl (fun hc=>absurd (zt hc) h2) (fun _=>?_);refine gab ?_;rcases hix with ⟨s,pre,f,post,hfn,hfs,rfl,hp⟩|⟨hfn,rfl⟩
  ·rw[hfn] at hI;have hI':(if args.length=s.params then (0:Int) else 1)=R:=hI;refine oC rfl (fun _=>?_) (fun hc=>by have:=zf hc;omega);refine gab ?_;refine oP (xR (el':=qav f) (cs:=[_,_,_,_]) rfl rfl zo (by rw[hfs];exact get_mid qav pre f post) rfl rfl) rfl ?_;refine gac ?_;exact ⟨((f.params.map str).length:Int),by rw[<-hI',zLm,<-hp];exact qmJ zo rfl rfl,⟨rfl,rfl,rfl,rfl,trivial⟩,rfl,rfl⟩
  ·rw[hfn] at hI;have hI':(if name∈c.vars∨name∈c.arrays∨name∈c.own then (10:Int) else 7)=R:=hI;refine oC rfl (fun hc=>by cases hc) (fun _=>?_);refine gab ?_;refine oS (sF [_,_] rfl (qcs c.own name h.own) ?_) rfl;refine gax ?_
   by_cases h3:name∈c.own
   ·rw[if_pos (.inr (.inr h3))] at hI';refine oB 38 rfl (fun _=>?_) (fun g=>absurd h3 (zf g));refine gad ?_;refine oC rfl (fun _=>?_) (fun hc=>by cases hc);refine gab ?_;exact retB (nm:=name) rfl (rC (rA rfl zm0 rfl zsr) rN) (by rw[<-hI'];rfl)
   refine oB 38 rfl (fun g=>absurd (zt g) h3) (fun _=>?_);refine gac ?_;refine oS (sF [_,_] rfl (qcs c.vars name h.vars) ?_) rfl;refine gae ?_
   by_cases h4:name∈c.vars
   ·rw[if_pos (.inl h4)] at hI';refine oB 45 rfl (fun _=>?_) (fun g=>absurd h4 (zf g));refine gad ?_;refine oC rfl (fun _=>?_) (fun hc=>by cases hc);refine gab ?_;exact retB (nm:=name) rfl (rC (rA rfl zm0 rfl zsr) rN) (by rw[<-hI'];rfl)
   refine oB 45 rfl (fun g=>absurd (zt g) h4) (fun _=>?_);refine gac ?_;refine oS (sF [_,_] rfl (qcs c.arrays name h.arrays) ?_) rfl;refine gae ?_;refine oC rfl (fun h5=>?_) (fun h5=>?_)
   ·rw[if_pos (.inr (.inl (zt h5)))] at hI';refine gab ?_;exact retB (nm:=name) rfl (rC (rA rfl zm0 rfl zsr) rN) (by rw[<-hI'];rfl)
   ·rw[if_neg (fun g=>g.elim h4 (fun g=>g.elim (zf h5) h3))] at hI';refine gab ?_;exact retB (nm:=name) rfl (rC (rA rfl zm0 rfl zsr) rN) (by rw[<-hI'];rfl)
 intro w hw j hj;refine gab ?_;refine oC rfl (fun hc=>?_) (fun hc=>?_)
 ·have h1:¬ (args.length:Int)=w:=by
   have h2:(!decide (((args.map encE).length:Int)=w))=true:=hc;rw[hlen] at h2;simpa using h2
  rw[if_neg h1] at hw;refine gab ?_;exact retB (nm:=name) hj (rC (rA rfl zm0 rfl zsr) rN) (by rw[hw];rfl)
 ·have h1:(args.length:Int)=w:=by
   have h2:(!decide (((args.map encE).length:Int)=w))=false:=hc;rw[hlen] at h2;simpa using h2
  rw[if_pos h1] at hw;refine gab ?_;exact retB (nm:=[]) hj (rC (rA rfl zm0 rfl zsr) rN) (by rw[hw];rfl)
def qql (B0:Nat) (w0:World) (own:Nm) (c:CEnv) (fs:List FnD) (n:Nat):Prop:=∀ x:Ex,ndE x<=n->LCalls (KC B0 w0) 138 [scV own c fs,encE x] [] (qf9 (errE c x))
theorem qcF {own:Nm} {c:CEnv} {fs:List FnD} (h:ScOk c fs):∀ n:Nat,n<=100000000->qql B0 w0 own c fs n
 |0,_=>fun x h=>by have:=qgN x;omega
 |n+1,hn6=>by
  have ih:=qcF (own:=own) h n zo;intro x hnd;obtain ⟨op,num,name,args⟩:=x;rw[ndE] at hnd;have hal:=qbT args;have hlen:(args.map encE).length=args.length:=zLm _;have hsh:=qob (B0:=B0) (w0:=w0) (.mk op num name args);have hsc:=qb7 (B0:=B0) (w0:=w0) (own:=own) h name;have hix:=qhn (B0:=B0) (w0:=w0) (own:=own) h name;have hca:=qmp (B0:=B0) (w0:=w0) (own:=own) h op num name args;have ih':∀ x:Ex,ndE x<=n->LCalls (KC B0 w0) 138 [.agg [str own,.list (c.own.map str),.list (c.vars.map str),.list (c.arrays.map str),.list (fs.map qav),.list (c.later.map str)],encE x] [] (qf9 (errE c x)):=ih;generalize hI:errE c (Ex.mk op num name args)=E;rw[errE] at hI;rw[qbW] at hsh hca ⊢;unfold scV at hsc hix hca ⊢;have hsh':LCalls (KC B0 w0) 179 [.agg [str op,int .u32 (num:Int),str name,.list (args.map encE)]] [] (Ret (bool (decide (qba op = -1∨qba op=(args.length:Int))))):=hsh;refine cI Tryz.func138 rfl (n:=49) rfl rfl rfl ?_;refine gag ?_;refine oS (sB rfl fun b2=>?_) rfl;refine oS (sB rfl fun b3=>?_) rfl;refine oS (sA fun b4=>?_) rfl;refine gab ?_;refine oS (sF [_] rfl hsh' ?_) rfl;refine gad ?_;refine oC rfl (fun hc=>?_) (fun hc=>?_)
  ·have hop:¬ (qba op = -1∨qba op=(args.length:Int)):=by simpa using hc
   rw[if_neg hop] at hI;refine gab ?_;exact retB (nm:=own) rfl (rC (rA rfl zm0 rfl zsr) rN) (by rw[<-hI];rfl)
  have hop:qba op = -1∨qba op=(args.length:Int):=Decidable.byContradiction fun h=>by rw[decide_eq_false h] at hc;cases hc
  rw[if_pos hop] at hI;refine gab ?_
  refine oL (fun kk ls H'=>∃ (pre l1:List Ex),args=pre++l1/\kk=l1.length/\ls=[(2,ptr b2 0),(3,ptr b3 0),(4,ptr b4 0),(15,.list (args.map encE)),(16,int .i64 ((args.map encE).length:Int)),(17,int .i64 (pre.length:Int))] /\
    H'=[pbH b4 [] 0,exH b3 op num name args,scH b2 own c fs]/\orE (qaZ c l1) (useE c op name args.length)=E)
   ⟨args.length,_,_,⟨[],args,rfl,rfl,rfl,rfl,hI⟩,⟨rfl,rfl,rfl,rfl,rfl,rfl,trivial⟩,zhR _⟩ ?_
  rintro kk ls H' ⟨pre,l1,hL,rfl,rfl,rfl,hI2⟩ j hj;have hb:=qbR hL (show args.length<=100000000 by omega);refine gai ?_;refine oC rfl (fun hc=>?_) (fun hc=>?_)
  ·obtain ⟨a,l2,rfl⟩:=more hL hc;have ham:ndE a<=ndEs args:=qdo (by rw[hL];exact List.mem_append_right _ zMs);rw[qaZ] at hI2;refine zQ87 ?_;refine oS (sA fun b6=>?_) rfl;refine gab ?_;refine oS (S.pb [_,_] rfl (ih' a zo) fun nm=>?_) rfl;refine oS (sA fun b7=>?_) rfl;refine gab ?_
   by_cases h1:errE c a=0
   ·rw[h1] at hI2 ⊢;refine oC rfl (fun hd=>by cases hd) (fun _=>?_);refine gaa ?_;exact ⟨l2.length,_,_,Nat.lt_succ_self _,⟨pre++[a],l2,snoc hL,rfl,rfl,rfl,hI2⟩,⟨rfl,rfl,rfl,rfl,rfl,qaf (by simp),trivial⟩,zhD (zhD zhr),hj⟩
   ·refine oC rfl (fun _=>?_) (fun hd=>?_);rotate_left
    ·have h2:(!decide (errE c a=0))=false:=hd;simp at h2;exact absurd h2 h1
    have hE:E=errE c a:=by
     rw[<-hI2];unfold orE;rw[if_pos (show (if errE c a≠0 then errE c a else qaZ c l2)≠0 by rw[if_pos h1];exact h1),if_pos h1]
    refine gab ?_;exact retB (nm:=nm) hj (rC (rA (k:=2) rfl zm0 rfl zsr) rN) (by rw[hE];rfl)
  obtain rfl:=qaS hL hc;have hI3:useE c op name args.length=E:=hI2;unfold useE at hI3;refine gab ?_
  by_cases h1:op=[118,97,114]
  ·subst h1;rw[if_pos (show ([118,97,114]:Nm)=nVar from rfl)] at hI3;refine oC rfl (fun _=>?_) (fun hd=>by cases hd);refine gab ?_;refine oS (S.pb [_,_] rfl hsc fun nm=>?_) rfl;refine gad ?_;exact retB (nm:=nm) hj (rC (rA rfl zm0 rfl zsr) rN) (by rw[<-hI3];rfl)
  rw[if_neg (show ¬ op=nVar from h1)] at hI3;refine oC rfl (fun hd=>absurd (zt hd) h1) (fun _=>?_);refine gaj ?_
  by_cases h2:op=[101,108,101,109]
  ·subst h2;rw[if_pos (show ([101,108,101,109]:Nm)=qdH from rfl)] at hI3;refine oC rfl (fun _=>?_) (fun hd=>by cases hd);refine gab ?_;refine oS (S.pb [_,_] rfl hix fun nm=>?_) rfl;refine gad ?_;exact retB (nm:=nm) hj (rC (rA rfl zm0 rfl zsr) rN) (by rw[<-hI3];rfl)
  rw[if_neg (show ¬ op=qdH from h2)] at hI3;refine oC rfl (fun hd=>absurd (zt hd) h2) (fun _=>?_);refine gaj ?_
  by_cases h3:op=[99,97,108,108]
  ·subst h3;rw[if_pos (show ([99,97,108,108]:Nm)=qa8 from rfl)] at hI3;refine oC rfl (fun _=>?_) (fun hd=>by cases hd);refine gab ?_;refine oS (S.pb [_,_] rfl hca fun nm=>?_) rfl;refine gad ?_;exact retB (nm:=nm) hj (rC (rA rfl zm0 rfl zsr) rN) (by rw[<-hI3];rfl)
  rw[if_neg (show ¬ op=qa8 from h3)] at hI3;refine oC rfl (fun hd=>absurd (zt hd) h3) (fun _=>?_);refine gab ?_;exact retB (nm:=[]) hj (rC (rA rfl zm0 rfl zsr) rN) (by rw[<-hI3];rfl)
end
end Go.Proofs.YthmhncflhnbedaaGreatDoor.RC
namespace Go.Proofs.YthmhncflhnbedaaGreatDoor.RC
open Go.GL Go.RowKit Go.Stele
attribute [local irreducible] LOps qae qag LCalls Go.GL.Pure qaA qaq qah LQ LAny qaF qap LS
section
variable {B0:Nat} {w0:World}
theorem qpt (s:Sm):LCalls (KC B0 w0) 137 [encS s] [] (Ret (bool (qbz s))):=by
 obtain ⟨kind,name,index,value,thn,els⟩:=s;rw[qbk];refine cI Tryz.func137 rfl (n:=159) rfl rfl rfl ?_;refine gag ?_;refine oS (sB rfl fun b1=>?_) rfl;refine gad ?_;refine zQ85 ?_;refine gab ?_
 by_cases hk1:kind=1
 ·subst hk1;refine oC rfl (fun _=>?_) (fun hc=>by cases hc);rw[Chk.form_1];refine gaf ?_;refine oB 28 rfl (fun q1=>?_) (fun q1=>?_);rotate_left
  ·exact zT2
  refine gaq ?_;refine oB 32 rfl (fun q2=>?_) (fun q2=>?_);rotate_left
  ·exact zT1
  refine gaq ?_;refine oB 36 rfl (fun q3=>?_) (fun q3=>?_);rotate_left
  ·exact zT5
  refine gaq ?_;refine oB 40 rfl (fun q4=>?_) (fun q4=>?_);rotate_left
  ·exact zT7
  refine zQ54 ?_;simp only[q1,q2,q3,q4,Bool.true_and];rfl
 refine oC rfl (fun hc=>absurd (zt hc) hk1) (fun _=>?_);refine gay ?_
 by_cases hk2:kind=2
 ·subst hk2;refine oC rfl (fun _=>?_) (fun hc=>by cases hc);rw[Chk.form_2];refine gaf ?_;refine oB 47 rfl (fun q1=>?_) (fun q1=>?_);rotate_left
  ·exact zT2
  refine gaq ?_;refine oB 51 rfl (fun q2=>?_) (fun q2=>?_);rotate_left
  ·exact zT1
  refine gaq ?_;refine oB 55 rfl (fun q3=>?_) (fun q3=>?_);rotate_left
  ·exact zT5
  refine gaq ?_;refine oB 59 rfl (fun q4=>?_) (fun q4=>?_);rotate_left
  ·exact zT7
  refine zQ54 ?_;simp only[q1,q2,q3,q4,Bool.true_and];rfl
 refine oC rfl (fun hc=>absurd (zt hc) hk2) (fun _=>?_);refine gay ?_
 by_cases hk3:kind=3
 ·subst hk3;refine oC rfl (fun _=>?_) (fun hc=>by cases hc);rw[Chk.form_3];refine gaa ?_;refine oB 67 rfl (fun q1=>?_) (fun q1=>?_);rotate_left
  ·exact zT2
  refine gaq ?_;refine oB 71 rfl (fun q2=>?_) (fun q2=>?_);rotate_left
  ·exact zT1
  refine zQ54 ?_;simp only[q1,q2,Bool.true_and];rfl
 refine oC rfl (fun hc=>absurd (zt hc) hk3) (fun _=>?_);refine gay ?_
 by_cases hk4:kind=4
 ·subst hk4;refine oC rfl (fun _=>?_) (fun hc=>by cases hc);rw[Chk.form_4];refine gaa ?_;refine oB 79 rfl (fun q1=>?_) (fun q1=>?_);rotate_left
  ·exact zT2
  refine gaq ?_;refine oB 83 rfl (fun q2=>?_) (fun q2=>?_);rotate_left
  ·exact zT1
  refine gaq ?_;refine oB 87 rfl (fun q3=>?_) (fun q3=>?_);rotate_left
  ·exact zT5
  refine zQ54 ?_;simp only[q1,q2,q3,Bool.true_and];rfl
 refine oC rfl (fun hc=>absurd (zt hc) hk4) (fun _=>?_);refine gay ?_
 by_cases hk5:kind=5
 ·subst hk5;refine oC rfl (fun _=>?_) (fun hc=>by cases hc);rw[Chk.form_5];refine gaa ?_;refine oB 95 rfl (fun q1=>?_) (fun q1=>?_);rotate_left
  ·exact zT2
  refine gaq ?_;refine oB 99 rfl (fun q2=>?_) (fun q2=>?_);rotate_left
  ·exact zT1
  refine gaq ?_;refine oB 103 rfl (fun q3=>?_) (fun q3=>?_);rotate_left
  ·exact zT5
  refine gaq ?_;refine oB 107 rfl (fun q4=>?_) (fun q4=>?_);rotate_left
  ·exact zT7
  refine zQ54 ?_;simp only[q1,q2,q3,q4,Bool.true_and];rfl
 refine oC rfl (fun hc=>absurd (zt hc) hk5) (fun _=>?_);refine gay ?_
 by_cases hk6:kind=6
 ·subst hk6;refine oC rfl (fun _=>?_) (fun hc=>by cases hc);rw[Chk.form_6];refine gaa ?_;refine oB 115 rfl (fun q1=>?_) (fun q1=>?_);rotate_left
  ·exact zT2
  refine gaq ?_;refine oB 119 rfl (fun q2=>?_) (fun q2=>?_);rotate_left
  ·exact zT1
  refine gaq ?_;refine oB 123 rfl (fun q3=>?_) (fun q3=>?_);rotate_left
  ·exact zT5
  refine gaq ?_;refine oB 127 rfl (fun q4=>?_) (fun q4=>?_);rotate_left
  ·exact zT7
  refine gaq ?_;refine oB 131 rfl (fun q5=>?_) (fun q5=>?_);rotate_left
  ·refine zQ14 ?_;simp only[q1,q2,q3,q4,q5,Bool.false_and,Bool.and_false,Bool.true_and];rfl
  refine gad ?_
  obtain ⟨x0,rfl⟩:∃ x,value=[x]:=by
   have h1:((value.map encE).length:Int)=1:=zt q3;rw[zLm] at h1
   cases value with
   |nil=>simp at h1
   |cons x l=>
    cases l with
    |nil=>exact ⟨x,rfl⟩
    |cons y l=>simp at h1;omega
  first|refine LOps.want rfl rfl ?_|skip
  refine oP (xR (el':=encE x0) (cs:=[_,_,_,_]) rfl rfl zo rfl rfl rfl) rfl ?_;refine gac ?_;refine rR rfl (zra rfl) zhn ⟨?_,rfl⟩;simp only[q1,q2,q3,q4,q5,Bool.true_and];rfl
 refine oC rfl (fun hc=>absurd (zt hc) hk6) (fun _=>?_);refine gay ?_
 by_cases hk7:kind=7
 ·subst hk7;refine oC rfl (fun _=>?_) (fun hc=>by cases hc);rw[Chk.form_7];refine gaa ?_;refine oB 143 rfl (fun q1=>?_) (fun q1=>?_);rotate_left
  ·exact zT2
  refine gaq ?_;refine oB 147 rfl (fun q2=>?_) (fun q2=>?_);rotate_left
  ·exact zT1
  refine gaq ?_;refine oB 151 rfl (fun q3=>?_) (fun q3=>?_);rotate_left
  ·exact zT5
  refine gaq ?_;refine oB 155 rfl (fun q4=>?_) (fun q4=>?_);rotate_left
  ·exact zT7
  refine zQ54 ?_;simp only[q1,q2,q3,q4,Bool.true_and];rfl
 refine oC rfl (fun hc=>absurd (zt hc) hk7) (fun _=>?_);refine gaa ?_;refine rR rfl (zra rfl) zhn ⟨?_,rfl⟩
 have hf:qbz (.mk kind name index value thn els)=false:=by
  simp only[qbz];rw[if_neg hk1,if_neg hk2,if_neg hk3,if_neg hk4,if_neg hk5,if_neg hk6,if_neg hk7]
 rw[hf];rfl
end
end Go.Proofs.YthmhncflhnbedaaGreatDoor.RC
