/- Texts joined: ParP3, ParP4, ParP5, ParP6, GlRange, ParP7, ParP8, ParS1, ParS2, ParS3. -/
import Derived.RangeFuncFrom
import Derived.RangeFuncLeaves
import Derived.TacticsIn
import Derived.Test.YthmhncflhnbedaaGreatDoorBRowCB3
import Derived.Test.YthmhncflhnbedaaGreatDoorBRowCB4
import Derived.Test.YthmhncflhnbedaaGreatDoorBRowCB6
set_option linter.unusedVariables false
set_option linter.unusedSimpArgs false
set_option maxRecDepth 100000
set_option maxHeartbeats 4000000
namespace Go.Proofs.YthmhncflhnbedaaGreatDoor
open Go.GL Go.RowKit Go.Stele
attribute [local irreducible] LOps qae qag LCalls Go.GL.Pure qaA qaq qah LQ LAny qaF qap
theorem qau {A B:Type} {v:A} {i op:Nat} {f:A->Nat->Nat->OR B}:qal (some (.ok v i op)) f=f v i op:=rfl
theorem qay {A B:Type} {l e:Int} {f:A->Nat->Nat->OR B}:qal (some (.err l e)) f=some (.err l e):=rfl
theorem qaU {A B:Type} {r:OR A} {f:A->Nat->Nat->OR B} {q:Res B} (h:qal r f=some q):∃ r1,r=some r1:=by
 cases r with
 |none=>cases h
 |some r1=>exact ⟨r1,rfl⟩
structure TOK (T:List Tok):Prop where
 len:T.length<=100000
 txt:∀ t∈T,t.text.length<=100000
 num:∀ t∈T,t.kind=1->∃ u,u<4294967296/\Go.Lib.parseUintB 32 t.text=.ok u
theorem qqw {n:Int} (h:0<=n/\n<=4294967295):IntKind.u32.wrap n=n:=by
 simp only[IntKind.wrap,IntKind.bits,IntKind.signed,Bool.false_and]
 simp
 omega
theorem qdK {T:List Tok} {k:Int} {i op i' op':Nat} {s:List UInt8} (h:qbS T k i op=.ok s i' op'):i'=i+1/\op'=op/\∃ t,T[i]? = some t/\t.kind=k/\t.text=s:=by
 unfold qbS at h;split at h
 ·rename_i t ht
  split at h
  ·rename_i hk
   cases h;exact ⟨rfl,rfl,t,ht,hk,rfl⟩
  ·cases h
 ·cases h
def qnG (l:List (List UInt8)):LV:=.list (l.map str)
def encN (n:Nat):LV:=int .u32 n
def qko (B0:Nat) (w0:World) (sb:Nat) (T:List Tok) (f:Nat):Prop:=
 ∀ i op r,i<=T.length->op<=100->eLev T f 0 i op=some r->LCalls (KC B0 w0) 193 [ptr sb 0] [srcH sb T i op] (qdy sb T encE r)
section
variable {B0:Nat} {w0:World}
theorem qhh (hG:GW B0 w0) (sb:Nat) (T:List Tok) (hT:TOK T) (i op:Nat) (hi:i<=1000000):LCalls (KC B0 w0) 109 [ptr sb 0] [srcH sb T i op] (qdy sb T encN (qb5 T i op)):=by
 have hl:=hT.len;refine cI Tryz.func109 rfl (n:=13) rfl rfl rfl ?_;refine gaw ?_;refine oS (sP [_,_] rfl pH (qd8 sb T i op 1 hl hi) (fun s i1 op1 h1=>?_) (fun l er i1 op1 h1 e' he'=>?_)) rfl
 ·obtain ⟨rfl,rfl,t,ht,hk,rfl⟩:=qdK h1;have hmem:=List.mem_of_getElem? ht;obtain ⟨u,hu,hp⟩:=hT.num t hmem hk;have htx:=hT.txt t hmem;have hn:qkr t.text=u:=by rw[qkr,hp]
  have hw:IntKind.u32.wrap (u:Int)=(u:Int):=qqw zo;refine oS (sF [_,_,_] rfl (qhs t.text zo u hp) ?_) rfl;refine gab ?_;exact retP (v:=qkr t.text) rfl (zra rfl) (by rw[qb5,h1];rfl) (by rw[hn];exact qaf hw) zhr
 ·refine gas ?_;exact panP (he'.trans rfl) (by rw[qb5,h1];rfl) zhr
theorem qia (sb:Nat) (T:List Tok) (hT:TOK T) (f i op:Nat) (r:Res (List (List UInt8))) (hi:i<=T.length) (hr:qeV T f i op=some r) :
  LCalls (KC B0 w0) 105 [ptr sb 0] [srcH sb T i op] (qdy sb T qnG r):=by
 have hl:=hT.len;rw[qeV] at hr;refine cI Tryz.func105 rfl (n:=15) rfl rfl rfl ?_;refine gaw ?_;refine oS (sP [_,_] rfl pH (qd8 sb T i op 2 hl zo) (fun s i1 op1 h1=>?_) (fun l er i1 op1 h1 e' he'=>?_)) rfl
 ·rw[h1,qau] at hr
  have hi1:i1<=T.length:=by
   have:=qbC T 2 i op;rw[h1] at this;exact this.2.2.1 hi
  refine oS (S.litA [_] rfl (zeC rfl rfl eN) rfl rfl rfl fun b=>?_) rfl;refine gac ?_
  refine oL (fun k ls H=>∃ (v:LV) (l:List (List UInt8)) (i2:Nat) (Ha:Heap),ls=[(0,ptr sb 0),(3,v)]/\H=srcH sb T i2 op1::Ha/\Acc 1 v (l.map str) Ha []/\i2<=T.length/\l.length<=i2+1/\qaR T k l i2 op1=some r)
   ⟨f,_,srcH sb T i1 op1::[(b,.row 1)],⟨.app b 1 1 [str s],[s],i1,_,rfl,rfl,Acc.row,hi1,by simp,hr⟩,⟨rfl,rfl,trivial⟩,zhP zp1 zhr⟩ ?_
  rintro k ls H ⟨v,l,i2,Ha,rfl,rfl,hacc,hi2,hll,hI⟩ j hj
  obtain ⟨k,rfl⟩:∃ k',k=k'+1:=by
   cases k with
   |zero=>rw[qaR] at hI;cases hI
   |succ k=>exact ⟨k,rfl⟩
  rw[qaR] at hI;refine gaf ?_;refine oS (sH [_,_] rfl pH (qcE sb T i2 op1 [44] hl zo) ?_) rfl;refine gam ?_;refine oC rfl (fun hc=>?_) (fun hc=>?_)
  ·have hlt:=qaG hc;rw[if_pos hc] at hI;simp only[hc,if_true];refine gak ?_;refine qih ?_;refine oS (sP [_,_] rfl pH (qd8 sb T (i2+1) op1 2 hl zo) (fun s2 i3 op3 h3=>?_) (fun l er i3 op3 h3 e' he'=>?_)) rfl
   ·rw[h3,qau] at hI;obtain ⟨rfl,rfl,t,ht,_,_⟩:=qdK h3;have:=qh9 ht;refine zQ15 ?_;refine oS (S.acc1 rfl hacc rfl (by simp;rfl) rfl (by simp;omega) fun v' H' hacc'=>?_) rfl;refine zQ62 ?_;refine gad ?_;exact ⟨k,_,_,by omega,⟨v',l++[s2],i2+1+1,H',rfl,rfl,by rw[zMa];exact hacc',by omega,by simp;omega,hI⟩,⟨rfl,rfl,trivial⟩,zhR _,hj⟩
   ·rw[h3,qay] at hI;refine gah ?_;exact panP (he'.trans hj) (by cases hI;rfl) zhp
  ·have hc':qaE T i2 [[44]]=false:=hc;rw[if_neg (by rw[hc'];decide)] at hI;simp only[hc',Bool.false_eq_true,if_false];refine gaa ?_;refine zQ38 ?_;exact retP (v:=l) hj (rC (rT (v:=v) rfl hacc.sub) rN) (by cases hI;rfl) rfl zhp
 ·exact zT27
theorem qoz (sb:Nat) (T:List Tok) (hT:TOK T) (f:Nat) (hE:qko B0 w0 sb T f) (i op:Nat) (r:Res Ex) (hi:i<=T.length) (ho:op<=100) (hr:qcU T (f+1) i op=some r) :
  LCalls (KC B0 w0) 227 [ptr sb 0] [srcH sb T i op] (qdy sb T encE r):=by
 have hl:=hT.len;rw[qcU] at hr;refine cI Tryz.func227 rfl (n:=11) rfl rfl rfl ?_;refine gag ?_;refine oS (sA fun b=>?_) rfl;refine gan ?_;refine oS (sP [_,_] rfl zp1 (qcm sb T i op [91] hl zo zo) (fun v i1 op1 h1=>?_) (fun l er i1 op1 h1 e' he'=>?_)) rfl
 ·rw[h1,qau] at hr;obtain ⟨rfl,rfl,ho1,hi1⟩:=qbu h1;refine gan ?_;obtain ⟨r1,hr1⟩:=qaU hr;refine oS (sP [_] rfl pH (hE _ _ r1 zo zo hr1) (fun v i2 op2 h2=>?_) (fun l er i2 op2 h2 e' he'=>?_)) rfl
  ·rw[hr1,h2,qau] at hr;obtain ⟨g1,_,g3,rfl⟩:=(qcQ T f).1 0 _ _ _ (hr1.trans (congrArg some h2));have g4:=g3 zo;refine oS (sA fun b2=>?_) rfl;refine gab ?_;refine oS (sP [_,_] rfl zp1 (qeL sb T i2 (op+1) [93] hl zo zo zo) (fun u i3 op3 h3=>?_) (fun l er i3 op3 h3 e' he'=>?_)) rfl
   ·rw[h3,qau] at hr;refine gab ?_;exact retP rfl (rC (rA rfl zm0 rfl zsr) rN) (by cases hr;rfl) rfl (zhD zhp)
   ·rw[h3,qay] at hr;refine gas ?_;exact panP (he'.trans rfl) (by cases hr;rfl) zhp
  ·rw[hr1,h2,qay] at hr;refine gas ?_;exact panP (he'.trans rfl) (by cases hr;rfl) zhp
 ·exact zT27
end
end Go.Proofs.YthmhncflhnbedaaGreatDoor
namespace Go.Proofs.YthmhncflhnbedaaGreatDoor
open Go.GL Go.RowKit Go.Stele
attribute [local irreducible] LOps qae qag LCalls Go.GL.Pure qaA qaq qah LQ LAny qaF qap
def encEL (l:List Ex):LV:=.list (l.map encE)
section
variable {B0:Nat} {w0:World}
theorem qlL (sb:Nat) (T:List Tok) (hT:TOK T) (f:Nat) (hE:∀ g,g<f->qko B0 w0 sb T g) (i op:Nat) (r:Res (List Ex)) (hi:i<=T.length) (ho:op<=100) (hr:qet T f i op=some r) :
  LCalls (KC B0 w0) 226 [ptr sb 0] [srcH sb T i op] (qdy sb T encEL r):=by
 have hl:=hT.len
 obtain ⟨f,rfl⟩:∃ g,f=g+1:=by
  cases f with
  |zero=>rw[qet] at hr;cases hr
  |succ g=>exact ⟨g,rfl⟩
 rw[qet] at hr;refine cI Tryz.func226 rfl (n:=23) rfl rfl rfl ?_;refine gaw ?_;refine oS (sP [_,_] rfl pH (qcm sb T i op [40] hl zo zo) (fun v i1 op1 h1=>?_) (fun l er i1 op1 h1 e' he'=>?_)) rfl
 ·rw[h1,qau] at hr;obtain ⟨rfl,rfl,ho1,hi1⟩:=qbu h1;refine gaa ?_;obtain ⟨r1,hr1⟩:=qaU hr
  refine oL (fun k ls H=>∃ (v:LV) (l:List Ex) (i2:Nat) (Ha:Heap),k<=f/\ls=[(0,ptr sb 0),(3,v)]/\H=srcH sb T i2 (op+1)::Ha/\Acc 4 v (l.map encE) Ha []/\i2<=T.length/\l.length<=i2+1/\qaM T k l i2 (op+1)=some r1)
   ⟨f,_,srcH sb T (i+1) (op+1)::[],⟨qaa,[],i+1,_,zNr _,rfl,rfl,Acc.nil,by omega,by simp,hr1⟩,⟨rfl,rfl,trivial⟩,zhR _⟩ ?_
  rintro k ls H ⟨v,l,i2,Ha,hkf,rfl,rfl,hacc,hi2,hll,hI⟩ j hj
  obtain ⟨k,rfl⟩:∃ k',k=k'+1:=by
   cases k with
   |zero=>rw[qaM] at hI;cases hI
   |succ k=>exact ⟨k,rfl⟩
  rw[qaM] at hI;refine gaf ?_;refine zQ15 ?_;refine oS (sH [_,_] rfl pH (qc7 sb T i2 (op+1) [[41]] hl zo (by simp)) ?_) rfl;refine gad ?_;refine oC rfl (fun hc=>?_) (fun hc=>?_)
  ·have hc':qaE T i2 [[41]]=false:=by simpa using hc
   rw[if_neg (by rw[hc'];decide)] at hI;refine gak ?_;refine zQ60 ?_;refine oP (Pure.llen hacc.elems) rfl ?_;refine gac ?_;refine oC rfl (fun hd=>?_) (fun hd=>?_)
   ·have hl0:¬ l=[]:=by
     rintro rfl;have:=zt hd;simp at this
    rw[if_neg hl0] at hI;refine gaf ?_;refine oS (sP [_,_] rfl pH (qd4 sb T i2 (op+1) [44] hl zo) (fun u i3 op3 h3=>?_) (fun l er i3 op3 h3 e' he'=>?_)) rfl
    ·rw[h3,qau] at hI
     obtain ⟨q1,q2,q3,rfl⟩:i2<=i3/\(true=true->i2<i3)/\(i2<=T.length->i3<=T.length)/\op3=op+1:=by
      have:=qbb T [44] i2 (op+1);rw[h3] at this;exact this
     have q4:=q3 hi2;refine gai ?_;refine qih ?_;obtain ⟨r2,hr2⟩:=qaU hI;refine oS (sP [_] rfl pH (hE k zo _ _ r2 zo zo hr2) (fun e2 i4 op4 h4=>?_) (fun l er i4 op4 h4 e' he'=>?_)) rfl
     ·exact zT15
     ·rw[hr2,h4,qay] at hI;rw[hr1] at hr;cases hI;rw[qay] at hr;refine gah ?_;exact panP (he'.trans hj) (by cases hr;rfl) zhp
    ·rw[h3,qay] at hI;rw[hr1] at hr;cases hI;rw[qay] at hr;refine gah ?_;exact panP (he'.trans hj) (by cases hr;rfl) zhp
   ·have hl0:l=[]:=by
     have:=zf hd;simp at this;exact this
    rw[if_pos hl0,qau] at hI;refine gak ?_;refine qih ?_;obtain ⟨r2,hr2⟩:=qaU hI;refine oS (sP [_] rfl pH (hE k zo _ _ r2 zo zo hr2) (fun e2 i4 op4 h4=>?_) (fun l er i4 op4 h4 e' he'=>?_)) rfl
    ·exact zT15
    ·rw[hr2,h4,qay] at hI;rw[hr1] at hr;cases hI;rw[qay] at hr;refine gah ?_;exact panP (he'.trans hj) (by cases hr;rfl) zhp
  ·have hc':qaE T i2 [[41]]=true:=by simpa using hc
   rw[if_pos hc'] at hI;refine gaa ?_;rw[hr1] at hr;cases hI;rw[qau] at hr;refine oS (sP [_,_] rfl pH (qeL sb T i2 (op+1) [41] hl zo zo zo) (fun u i3 op3 h3=>?_) (fun l er i3 op3 h3 e' he'=>?_)) rfl
   ·rw[h3,qau] at hr;refine gai ?_;refine zQ38 ?_;exact retP (v:=l) hj (rC (rT (v:=v) rfl hacc.sub) rN) (by cases hr;rfl) rfl zhp
   ·rw[h3,qay] at hr;refine gas ?_;exact panP (he'.trans hj) (by cases hr;rfl) zhp
 ·exact zT27
theorem qit (sb:Nat) (T:List Tok) (hT:TOK T) (f:Nat) (hE:∀ g,g<f->qko B0 w0 sb T g) (i op:Nat) (r:Res Ex) (hi:i<=T.length) (ho:op<=100) (hr:qcU T f i op=some r) :
  LCalls (KC B0 w0) 227 [ptr sb 0] [srcH sb T i op] (qdy sb T encE r):=by
 cases f with
 |zero=>rw[qcU] at hr;cases hr
 |succ f=>exact qoz sb T hT f (hE f zo) i op r hi ho hr
theorem qps (hG:GW B0 w0) (sb:Nat) (T:List Tok) (hT:TOK T) (f:Nat) (hE:∀ g,g<f->qko B0 w0 sb T g) (i op:Nat) (r:Res Ex) (hi:i<=T.length) (ho:op<=100) (hr:qfO T f i op=some r) :
  LCalls (KC B0 w0) 244 [ptr sb 0] [srcH sb T i op] (qdy sb T encE r):=by
 have hl:=hT.len;have hml:(T.map qbJ).length=T.length:=zLm _
 obtain ⟨f,rfl⟩:∃ g,f=g+1:=by
  cases f with
  |zero=>rw[qfO] at hr;cases hr
  |succ g=>exact ⟨g,rfl⟩
 rw[qfO] at hr;refine cI Tryz.func244 rfl (n:=63) rfl rfl rfl ?_;refine gag ?_;refine oS (sA fun b=>?_) rfl;refine gan ?_;refine zQ15 ?_;refine oS (sH [_,_] rfl zp1 (qc7 sb T i op [[40]] hl zo (by simp)) ?_) rfl;refine gam ?_;refine oC rfl (fun hp=>?_) (fun hp=>?_)
 ·rw[if_pos hp] at hr;refine gaf ?_;refine oS (sP [_,_] rfl pH (qcm sb T i op [40] hl zo zo) (fun v i1 op1 h1=>?_) (fun l er i1 op1 h1 e' he'=>?_)) rfl
  ·rw[h1,qau] at hr;obtain ⟨rfl,rfl,ho1,hi1⟩:=qbu h1;refine gan ?_;obtain ⟨r1,hr1⟩:=qaU hr;refine oS (sP [_] rfl pH (hE f zo _ _ r1 zo zo hr1) (fun v i2 op2 h2=>?_) (fun l er i2 op2 h2 e' he'=>?_)) rfl
   ·rw[hr1,h2,qau] at hr;obtain ⟨g1,_,g3,rfl⟩:=(qcQ T f).1 0 _ _ _ (hr1.trans (congrArg some h2));have g4:=g3 zo;refine oS (sA fun b2=>?_) rfl;refine gab ?_;refine oS (sP [_,_] rfl zp1 (qeL sb T i2 (op+1) [41] hl zo zo zo) (fun u i3 op3 h3=>?_) (fun l er i3 op3 h3 e' he'=>?_)) rfl
    ·rw[h3,qau] at hr;refine gab ?_;exact retP rfl (rC (rA rfl zm0 rfl zsr) rN) (by cases hr;rfl) rfl (zhD zhp)
    ·rw[h3,qay] at hr;refine gas ?_;exact panP (he'.trans rfl) (by cases hr;rfl) zhp
   ·rw[hr1,h2,qay] at hr;refine gas ?_;exact panP (he'.trans rfl) (by cases hr;rfl) zhp
  ·exact zT27
 ·have hp':qaE T i [[40]]=false:=hp;rw[if_neg (by rw[hp'];decide)] at hr;refine gad ?_;refine cC [(0,ptr sb 0),(2,ptr b 0),(38,bool (decide (qck T i=1)))] ?_ (fun j hj=>?_)
  ·refine zQ85 ?_;refine gao ?_;refine LQ.bcase 25 rfl (fun h=>?_) (fun h=>?_)
   ·have hlt:i<T.length:=by have:=zt h;omega
    refine zQ34 ?_;refine gac ?_;exact ⟨⟨rfl,rfl,qai (by rw[qck,List.getElem?_eq_getElem hlt]),trivial⟩,rfl,rfl⟩
   ·have hge:T.length<=i:=by have:=zf h;omega
    refine gao ?_;exact ⟨⟨rfl,rfl,qai (by rw[qck,List.getElem?_eq_none hge];rfl),trivial⟩,rfl,rfl⟩
  ·skip
   refine oC rfl (fun hk=>?_) (fun hk=>?_)
   ·rw[if_pos (zt hk)] at hr;refine gaf ?_;refine oS (sP [_] rfl pH (qhh hG sb T hT i op zo) (fun n i1 op1 h1=>?_) (fun l er i1 op1 h1 e' he'=>?_)) rfl
    ·rw[h1,qau] at hr;refine gac ?_;exact retP (v:=.mk nNum n [] []) hj (rC (rA (k:=4) rfl zm0 rfl (vA (bs:=[_,_,_,.list []]) ⟨vR _,vR _,vR _,vN,trivial⟩)) rN) (by cases hr;rfl) (by rw[qbW];rfl) (zhP zp1 zhn)
    ·rw[h1,qay] at hr;refine gas ?_;exact panP (he'.trans hj) (by cases hr;rfl) zhp
   ·rw[if_neg (zf hk)] at hr;refine gau ?_;refine oS (sP [_,_] rfl pH (qd8 sb T i op 2 hl zo) (fun s i1 op1 h1=>?_) (fun l er i1 op1 h1 e' he'=>?_)) rfl
    ·rw[h1,qau] at hr;obtain ⟨rfl,rfl,t,ht,_,_⟩:=qdK h1;have:=qh9 ht;refine gaa ?_;refine zQ15 ?_;refine oS (sH [_,_] rfl pH (qc7 sb T (i+1) op1 [[91]] hl zo (by simp)) ?_) rfl;refine ga2 ?_;refine oC rfl (fun hx=>?_) (fun hx=>?_)
     ·rw[if_pos hx] at hr;obtain ⟨r1,hr1⟩:=qaU hr;refine gaf ?_;refine oS (sP [_] rfl pH (qit sb T hT f (fun g hg=>hE g zo) (i+1) op1 r1 zo zo hr1) (fun e2 i2 op2 h2=>?_) (fun l er i2 op2 h2 e' he'=>?_)) rfl
      ·rw[hr1,h2,qau] at hr;refine zQ15 ?_;refine gac ?_;exact retP (v:=.mk qdH 0 s [e2]) hj (rC (rA rfl zm0 rfl zsr) rN) (by cases hr;rfl) (by rw[qbW];rfl) (zhP zp1 zhn)
      ·exact zT26
     ·have hx':qaE T (i+1) [[91]]=false:=hx;rw[if_neg (by rw[hx'];decide)] at hr;refine gaf ?_;refine zQ15 ?_;refine oS (sH [_,_] rfl pH (qc7 sb T (i+1) op1 [[40]] hl zo (by simp)) ?_) rfl;refine ga2 ?_;refine oC rfl (fun hy=>?_) (fun hy=>?_)
      ·rw[if_pos hy] at hr;obtain ⟨r1,hr1⟩:=qaU hr;refine gaf ?_;refine oS (sP [_] rfl pH (qlL sb T hT f (fun g hg=>hE g zo) (i+1) op1 r1 zo zo hr1) (fun e2 i2 op2 h2=>?_) (fun l er i2 op2 h2 e' he'=>?_)) rfl
       ·rw[hr1,h2,qau] at hr;refine gac ?_;exact retP (v:=.mk qa8 0 s e2) hj (rC (rA rfl zm0 rfl zsr) rN) (by cases hr;rfl) (by rw[qbW];rfl) (zhP zp1 zhn)
       ·exact zT26
      ·have hy':qaE T (i+1) [[40]]=false:=hy;rw[if_neg (by rw[hy'];decide)] at hr;refine gab ?_;exact retP (v:=.mk nVar 0 s []) hj (rC (rA (k:=4) rfl zm0 rfl (vA (bs:=[_,_,_,.list []]) ⟨vR _,vR _,vR _,vN,trivial⟩)) rN) (by cases hr;rfl) (by rw[qbW];rfl) (zhP zp1 zhn)
    ·rw[h1,qay] at hr;refine gas ?_;exact panP (he'.trans hj) (by cases hr;rfl) zhp
end
end Go.Proofs.YthmhncflhnbedaaGreatDoor
namespace Go.Proofs.YthmhncflhnbedaaGreatDoor
open Go.GL Go.RowKit Go.Stele
attribute [local irreducible] LOps qae qag LCalls Go.GL.Pure qaA qaq qah LQ LAny qaF qap
def e45:MapEntry:={ key:=.string ⟨#[45]⟩,val:=.string ⟨#[110,101,103]⟩,born:=0 }
def e33:MapEntry:={ key:=.string ⟨#[33]⟩,val:=.string ⟨#[110,111,116]⟩,born:=1 }
section
variable {B0:Nat} {w0:World}
def qs1 (B0:Nat) (w0:World) (sb:Nat) (T:List Tok) (f:Nat):Prop:=
 ∀ i op r,i<=T.length->op<=100->qcu T f i op=some r->LCalls (KC B0 w0) 222 [ptr sb 0] [srcH sb T i op] (qdy sb T encE r)
def qkZ (T:List Tok) (i:Nat) (seen:Array Nat):Prop:=
 seen=#[]∨(seen=#[0]/\qaE T i [[45]]=false)∨(seen=#[1]/\qaE T i [[33]]=false)∨((seen=#[0,1]∨seen=#[1,0])/\qaE T i [[45]]=false/\qaE T i [[33]]=false)
theorem qpD {T:List Tok} {i:Nat} {seen:Array Nat} (h:qkZ T i seen) (ho:#[e45,e33].filter (fun e=>!seen.contains e.born)=#[]):qaE T i [[45]]=false/\qaE T i [[33]]=false:=by
 have h1:=Array.filter_eq_empty_iff.1 ho e45 (by simp);have h2:=Array.filter_eq_empty_iff.1 ho e33 (by simp);rcases h with rfl|⟨rfl,_⟩|⟨rfl,_⟩|⟨_,h3,h4⟩
 ·simp[e45] at h1
 ·simp[e33] at h2
 ·simp[e45] at h1
 ·exact ⟨h3,h4⟩
theorem qp3 {T:List Tok} {i:Nat} {seen:Array Nat} {e:MapEntry} (h:qkZ T i seen) (he:e∈(#[e45,e33].filter (fun e=>!seen.contains e.born)).toList) :
  seen.size<2/\((e=e45/\(qaE T i [[45]]=false->qkZ T i (seen.push 0)))∨(e=e33/\(qaE T i [[33]]=false->qkZ T i (seen.push 1)))):=by
 have he':=Array.mem_filter.1 (Array.mem_toList_iff.1 he);have hor:e=e45∨e=e33:=by simpa using he'.1
 have hno:=he'.2;rcases h with rfl|⟨rfl,h1⟩|⟨rfl,h1⟩|⟨rfl|rfl,_,_⟩
 ·rcases hor with rfl|rfl
  ·exact ⟨by decide,.inl ⟨rfl,fun h=>.inr (.inl ⟨rfl,h⟩)⟩⟩
  ·exact ⟨by decide,.inr ⟨rfl,fun h=>.inr (.inr (.inl ⟨rfl,h⟩))⟩⟩
 ·rcases hor with rfl|rfl
  ·simp[e45] at hno
  ·exact ⟨by decide,.inr ⟨rfl,fun h=>.inr (.inr (.inr ⟨.inl rfl,h1,h⟩))⟩⟩
 ·rcases hor with rfl|rfl
  ·exact ⟨by decide,.inl ⟨rfl,fun h=>.inr (.inr (.inr ⟨.inr rfl,h,h1⟩))⟩⟩
  ·simp[e33] at hno
 ·rcases hor with rfl|rfl
  ·simp[e45] at hno
  ·simp[e33] at hno
 ·rcases hor with rfl|rfl
  ·simp[e45] at hno
  ·simp[e33] at hno
theorem qol {T:List Tok} {i:Nat} (h:qaE T i [[33]]=true):qaE T i [[45]]=false:=by
 unfold qaE at h ⊢;split at h
 ·rename_i t ht
  simp only[zBa] at h;have h2:t.text=[33]:=by simpa using h.2
  rw[h2]
  simp
 ·cases h
theorem qom (hG:GW B0 w0) (sb:Nat) (T:List Tok) (hT:TOK T):∀ f:Nat,(∀ g,g<f->qko B0 w0 sb T g)->qs1 B0 w0 sb T f:=by
 intro f
 induction f with
 |zero=>intro _ i op r _ _ hr;rw[qcu] at hr;cases hr
 |succ f ih=>
  intro hE i op r hi ho hr;have hl:=hT.len;rw[qcu] at hr;refine cI Tryz.func222 rfl (n:=36) rfl rfl rfl ?_;refine gag ?_;refine oS (sA fun b=>?_) rfl;refine gai ?_;refine oS (S.makeMap fun mb=>?_) rfl;refine oS (S.insert (k:=⟨#[45]⟩) (v:=.string ⟨#[110,101,103]⟩) (kt:=9) (el:=9) zk zk rfl rfl rfl pH (by simp) ?_) rfl;refine oS (S.insert (k:=⟨#[33]⟩) (v:=.string ⟨#[110,111,116]⟩) (kt:=9) (el:=9) zk zk rfl rfl rfl pH (fun e he=>⟨⟨#[45]⟩,by simp at he;rw[he],by decide⟩) ?_) rfl;refine oP (pM (lv:=.atom _) rfl) rfl ?_;refine oS (S.range (kt:=9) (el:=9) zk rfl zm0 fun rb=>?_) rfl;refine gad ?_
  refine oL (fun k ls H=>∃ seen:Array Nat,k=2-seen.size/\ls=[(0,ptr sb 0),(2,ptr b 0),(8,ptr rb 0)]/\H=[(rb,.obj (.mapIter (some mb) 2 seen 2)),(mb,.obj (.map #[e45,e33] 2)),(b,.cells 182 [str [],int .u32 0,str [],qaa]),srcH sb T i op]/\qkZ T i seen)
   ⟨_,_,_,⟨#[],rfl,rfl,rfl,.inl rfl⟩,⟨rfl,rfl,rfl,trivial⟩,zhR _⟩ ?_
  rintro k ls H ⟨seen,rfl,rfl,rfl,hS⟩ j hj;refine gag ?_;refine oS (S.next (F:=[(b,.cells 182 [str [],int .u32 0,str [],qaa]),srcH sb T i op]) rfl zpr zDd (fun hov=>?_) (fun en hen=>?_)) rfl
  ·obtain ⟨hn1,hn2⟩:=qpD hS hov;rw[if_neg (by rw[hn1];decide),if_neg (by rw[hn2];decide)] at hr;refine gad ?_;refine oC rfl (fun hcc=>?_) (fun hcc=>?_)
   ·cases hcc
   ·refine gaa ?_;refine oS (sP [_] rfl zp3 (qps hG sb T hT f (fun g hg=>hE g zo) i op r hi ho hr) (fun v i1 op1 h1=>?_) (fun l er i1 op1 h1 e' he'=>?_)) rfl
    ·refine gac ?_;exact retP (v:=v) hj (rC (rA rfl zm0 rfl zsr) rN) h1 rfl (zhP zp1 zhn)
    ·refine gas ?_;exact panP (he'.trans hj) h1 zhp
  ·obtain ⟨hsz,⟨rfl,hnext⟩|⟨rfl,hnext⟩⟩:=qp3 hS hen
   ·refine gad ?_;refine oC rfl (fun hcc=>?_) (fun hcc=>?_)
    ·refine gak ?_;refine oP (Pure.entry (en:=e45) (stamp:=0) rfl zm0 zm1 rfl (by show (seen.push 0).back? = _;simp) rfl) rfl ?_;refine gaa ?_;refine zQ15 ?_;refine oS (sH [_,_] rfl zp3 (qc7 sb T i op [[45]] hl zo (by simp)) ?_) rfl;refine gam ?_;refine oC rfl (fun hc=>?_) (fun hc=>?_)
     ·rw[if_pos hc] at hr;refine gaf ?_;refine oS (sP [_,_] rfl pH (qcm sb T i op [45] hl zo zo) (fun v i1 op1 h1=>?_) (fun l er i1 op1 h1 e' he'=>?_)) rfl
      ·rw[h1,qau] at hr;obtain ⟨rfl,rfl,ho1,hi1⟩:=qbu h1;refine gan ?_;obtain ⟨r1,hr1⟩:=qaU hr;refine oS (sP [_] rfl pH (ih (fun g hg=>hE g zo) _ _ r1 zo zo hr1) (fun e2 i2 op2 h2=>?_) (fun l er i2 op2 h2 e' he'=>?_)) rfl
       ·rw[hr1,h2,qau] at hr;obtain ⟨g1,_,g3,rfl⟩:=(qcQ T f).2.2.1 _ _ _ (hr1.trans (congrArg some h2));have g4:=g3 zo;refine zQ15 ?_;refine gac ?_;refine oS (sA fun b2=>?_) rfl;refine gab ?_
        exact retP (v:=.mk nNeg 0 [] [e2]) hj (rC (rA rfl zm0 rfl zsr) rN) (by cases hr;rfl) (by rw[qbW];rfl) (by
         rw[show (((op+1:Nat):Int)-1)=((op+1-1:Nat):Int) by omega]
         exact zhP zp1 zhn)
       ·exact zT26
      ·rw[h1,qay] at hr;refine gah ?_;exact panP (he'.trans hj) (by cases hr;rfl) zhp
     ·refine gad ?_;exact ⟨_,_,_,by have:=hsz;simp;omega,⟨seen.push 0,rfl,rfl,rfl,hnext hc⟩,⟨rfl,rfl,rfl,trivial⟩,zhP zp1 (zhP zp1 (zhP zp1 zhp)),hj⟩
    ·cases hcc
   ·refine gad ?_;refine oC rfl (fun hcc=>?_) (fun hcc=>?_)
    ·refine gak ?_;refine oP (Pure.entry (en:=e33) (stamp:=1) rfl zm0 zm1 rfl (by show (seen.push 1).back? = _;simp) rfl) rfl ?_;refine gaa ?_;refine zQ15 ?_;refine oS (sH [_,_] rfl zp3 (qc7 sb T i op [[33]] hl zo (by simp)) ?_) rfl;refine gam ?_;refine oC rfl (fun hc=>?_) (fun hc=>?_)
     ·rw[if_neg (by rw[qol hc];decide),if_pos hc] at hr;refine gaf ?_;refine oS (sP [_,_] rfl pH (qcm sb T i op [33] hl zo zo) (fun v i1 op1 h1=>?_) (fun l er i1 op1 h1 e' he'=>?_)) rfl
      ·rw[h1,qau] at hr;obtain ⟨rfl,rfl,ho1,hi1⟩:=qbu h1;refine gan ?_;obtain ⟨r1,hr1⟩:=qaU hr;refine oS (sP [_] rfl pH (ih (fun g hg=>hE g zo) _ _ r1 zo zo hr1) (fun e2 i2 op2 h2=>?_) (fun l er i2 op2 h2 e' he'=>?_)) rfl
       ·rw[hr1,h2,qau] at hr;obtain ⟨g1,_,g3,rfl⟩:=(qcQ T f).2.2.1 _ _ _ (hr1.trans (congrArg some h2));have g4:=g3 zo;refine zQ15 ?_;refine gac ?_;refine oS (sA fun b2=>?_) rfl;refine gab ?_
        exact retP (v:=.mk nNot 0 [] [e2]) hj (rC (rA rfl zm0 rfl zsr) rN) (by cases hr;rfl) (by rw[qbW];rfl) (by
         rw[show (((op+1:Nat):Int)-1)=((op+1-1:Nat):Int) by omega]
         exact zhP zp1 zhn)
       ·exact zT26
      ·rw[h1,qay] at hr;refine gah ?_;exact panP (he'.trans hj) (by cases hr;rfl) zhp
     ·refine gad ?_;exact ⟨_,_,_,by have:=hsz;simp;omega,⟨seen.push 1,rfl,rfl,rfl,hnext hc⟩,⟨rfl,rfl,rfl,trivial⟩,zhP zp1 (zhP zp1 (zhP zp1 zhp)),hj⟩
    ·cases hcc
end
end Go.Proofs.YthmhncflhnbedaaGreatDoor
namespace Go.Proofs.YthmhncflhnbedaaGreatDoor
open Go.GL Go.RowKit Go.Stele
inductive Clo (sb:Nat):Nat->FuncId->Array Value->Array Value->Heap->Prop
 |un:Clo sb 6 222 #[.pointer (some ⟨sb,0,none⟩)] #[] []
 |bin {k bo bs bp bn:Nat} {f:FuncId} {first caps:Array Value} {H:Heap} (h:Clo sb (k+1) f first caps H):Clo sb k 246 #[] #[.pointer (some ⟨bo,0,none⟩),.pointer (some ⟨bs,0,none⟩),.pointer (some ⟨bp,0,none⟩),.pointer (some ⟨bn,0,none⟩)]
   ((bo,.cells 224 [.atom (.func (.func f) first caps)])::(bs,.cells 48 [ptr sb 0])::(bp,.cells 30 [.list ((qbq k).map str)])::(bn,.cells 4 [bool (decide ((k:Int)=2))])::H)
def qsz {A:Type} (sb:Nat) (T:List Tok) (enc:A->LV) (Hc:Heap) (res:Res A) (r:LRes) (H:Heap):Prop:=match res with
 |.ok v i op=>r=.ret (enc v)/\H=srcH sb T i op::Hc
 |.err l e=>r=.panic (pan l e)/\∃ i op:Nat,H=srcH sb T i op::Hc
def CloC (B0:Nat) (w0:World) (sb:Nat) (T:List Tok) (f:Nat):Prop:=
 ∀ k fn first caps Hc i op r,Clo sb k fn first caps Hc->i<=T.length->op<=100->eLev T f k i op=some r ->
  LCalls (KC B0 w0) fn (first.toList.map .atom++caps.toList.map .atom) (srcH sb T i op::Hc) (qsz sb T encE Hc r)
section steps
variable {C:Ctx} {e:Env} {H:Heap} {dst:Option Nat} {ty:TypeId} {pos:String} {aft:Array Edge} {g:Option (Nat×Bool)} {K:LV->Heap->Prop} {X:List PanicEntry->Heap->Prop}
theorem qsO (a b:List LV) {e:Env}:a++([]:List Operand).map e.ev++b=a++b:=by simp
theorem S.callClo {A:Type} {enc:A->LV} {res:Res A} {sb i op:Nat} {T:List Tok} {fo:Operand} {f:FuncId} [TEnter C.P f] {first caps:Array Value} {ats:Array TypeId} {Hc F:Heap} (hf:e.ev fo=.atom (.func (.func f) first caps)) (hp:Pick (srcH sb T i op) H (F++Hc))
  (hc:LCalls C f (first.toList.map .atom++caps.toList.map .atom) (srcH sb T i op::Hc) (qsz sb T enc Hc res)) (hk:∀ v i' op',res=.ok v i' op'->K (enc v) (srcH sb T i' op'::(F++Hc))) (hx:∀ l er i' op',res=.err l er->X (pan l er) (srcH sb T i' op'::Hc++F)) :
  qag C ⟨dst,.call { callee:=.value fo,args:=#[],argTypes:=ats },ty,pos,aft,g⟩ e H K X:=by
 have hp':H.Perm ((srcH sb T i op::Hc)++F):=hp.trans (List.Perm.cons _ zPc);refine qag.conseq (K:=fun v H'=>∃ u i' op',res=.ok u i' op'/\v=enc u/\H'=srcH sb T i' op'::Hc++F) (S.callV (H1:=srcH sb T i op::Hc) (F:=F) [] hf (qsO _ _) hp' hc ?_ ?_) ?_
 ·intro v H' h
  cases hr:res with
  |ok u i' op'=>rw[hr] at h;obtain ⟨h1,rfl⟩:=h;cases h1;exact ⟨u,i',op',rfl,rfl,rfl⟩
  |err l er=>rw[hr] at h;obtain ⟨h1,_⟩:=h;cases h1
 ·intro ch H' h
  cases hr:res with
  |ok u i' op'=>rw[hr] at h;obtain ⟨h1,_⟩:=h;cases h1
  |err l er=>rw[hr] at h;obtain ⟨h1,i',op',rfl⟩:=h;cases h1;exact hx _ _ _ _ hr
 ·rintro v H' ⟨u,i',op',h1,rfl,rfl⟩;exact ⟨_,_,vR _,⟨[],by simpa using zPc⟩,hk u i' op' h1⟩
end steps
theorem Clo.enter {sb k:Nat} {f:FuncId} {first caps:Array Value} {H:Heap} (h:Clo sb k f first caps H):TEnter Tryz.prog f:=by
 cases h <;> infer_instance
theorem Clo.le {sb k:Nat} {f:FuncId} {first caps:Array Value} {H:Heap} (h:Clo sb k f first caps H):k<=6:=by
 induction h with
 |un=>exact zNr _
 |bin _ ih=>omega
attribute [local irreducible] LOps qae qag LCalls Go.GL.Pure qaA qaq qah LQ LAny qaF qap
theorem qq6 {s:Nat×LObj} {A B Hc:Heap}:HSub (s::(B++Hc)) ((s::Hc++[])++(A++B)):=by
 refine ⟨A,?_⟩;have h1:(Hc++(A++B)).Perm ((B++Hc)++A):=zPc.trans (by rw[zAs];exact zPc);simpa using List.Perm.cons s h1
theorem qk8 {s u:Nat×LObj} {A Hc:Heap}:HSub (u::s::(A++Hc)) (u::((s::([]++Hc))++A)):=by
 refine ⟨[],?_⟩;have h1:(Hc++A).Perm (A++Hc):=zPc;simpa using List.Perm.cons u (List.Perm.cons s h1)
theorem HSub.appR {H' l1 l2:Heap} (h:HSub H' l2):HSub H' (l1++l2):=by
 obtain ⟨G,hG⟩:=h;refine ⟨G++l1,?_⟩;have h1:(l1++l2).Perm (l2++l1):=zPc;have h2:(l2++l1).Perm ((H'++G)++l1):=hG.append_right l1;simpa using h1.trans h2
theorem qm2 {a:Nat×LObj} {l1 l2:Heap}:([]++(l1++a::l2)).Perm ([a]++(l1++l2)):=by
 exact (List.nil_append _).symm▸List.perm_middle
theorem qrm (k:Nat):(qbq k).length<=1000:=by
 unfold qbq;split <;> simp
theorem qpB {T:List Tok} {i:Nat} (h:i<T.length):qca T i=T[i].text:=by rw[qca,List.getElem?_eq_getElem h]
section
variable {B0:Nat} {w0:World}
theorem qro (hG:GW B0 w0) (sb:Nat) (T:List Tok) (hT:TOK T) (f:Nat) (hC:∀ g,g<f->CloC B0 w0 sb T g) (k bo bs bp bn:Nat) (fn:FuncId) (first caps:Array Value) (Hc:Heap) (hclo:Clo sb (k+1) fn first caps Hc) (i op:Nat) (r:Res Ex)
  (hi:i<=T.length) (ho:op<=100) (hr:eLev T f k i op=some r) :
  LCalls (KC B0 w0) 246 [ptr bo 0,ptr bs 0,ptr bp 0,ptr bn 0] (srcH sb T i op::(bo,.cells 224 [.atom (.func (.func fn) first caps)])::(bs,.cells 48 [ptr sb 0])::(bp,.cells 30 [.list ((qbq k).map str)])::(bn,.cells 4 [bool (decide ((k:Int)=2))])::Hc)
   (qsz sb T encE ((bo,.cells 224 [.atom (.func (.func fn) first caps)])::(bs,.cells 48 [ptr sb 0])::(bp,.cells 30 [.list ((qbq k).map str)])::(bn,.cells 4 [bool (decide ((k:Int)=2))])::Hc) r):=by
 have hl:=hT.len;have hk6:=hclo.le;have hen:=hclo.enter
 obtain ⟨f,rfl⟩:∃ g,f=g+1:=by
  cases f with
  |zero=>rw[eLev] at hr;cases hr
  |succ g=>exact ⟨g,rfl⟩
 rw[eLev,if_neg zo] at hr;obtain ⟨r1,hr1⟩:=qaU hr;refine cI Tryz.func246 rfl (n:=38) rfl rfl rfl ?_;refine gag ?_;refine oS (sA fun b=>?_) rfl;refine gab ?_;refine oS (S.callClo (F:=[(b,_),(bo,_),(bs,_),(bp,_),(bn,_)]) (Hc:=Hc) rfl zp1 (hC f zo _ _ _ _ _ _ _ r1 hclo hi ho hr1) (fun v i1 op1 h1=>?_) (fun l er i1 op1 h1 e' he'=>?_)) rfl
 ·rw[hr1,h1,qau] at hr;obtain ⟨g1,_,g3,rfl⟩:=(qcQ T f).1 _ _ _ _ (hr1.trans (congrArg some h1));have g4:=g3 hi;refine oS (sA fun b5=>?_) rfl;refine gac ?_
  refine oL (fun q ls H=>∃ (ex:Ex) (i2:Nat),q<=f/\ls=[(0,ptr bo 0),(1,ptr bs 0),(2,ptr bp 0),(3,ptr bn 0),(4,ptr b 0),(5,ptr b5 0)] /\
    H=(b5,.cells 182 [str (exOp ex),int .u32 (qes ex),str (qcX ex),.list (qbL ex)])::srcH sb T i2 op1::(b,.cells 182 [str [],int .u32 0,str [],qaa])::([(bo,.cells 224 [.atom (.func (.func fn) first caps)]),(bs,.cells 48 [ptr sb 0]),(bp,.cells 30 [.list ((qbq k).map str)]),(bn,.cells 4 [bool (decide ((k:Int)=2))])]++Hc)/\i2<=T.length/\qej T q k ex i2 op1=some r)
   ⟨f,_,_,⟨v,i1,zNr _,rfl,rfl,g4,hr⟩,⟨rfl,rfl,rfl,rfl,rfl,rfl,trivial⟩,zhR _⟩ ?_
  rintro q ls H ⟨ex,i2,hqf,rfl,rfl,hi2,hI⟩ j hj
  obtain ⟨q,rfl⟩:∃ q',q=q'+1:=by
   cases q with
   |zero=>rw[qej] at hI;cases hI
   |succ q=>exact ⟨q,rfl⟩
  rw[qej] at hI;refine gab ?_;refine oS (sH [_,_] rfl zp1 (qc7 sb T i2 op1 (qbq k) hl zo (qrm k)) ?_) rfl;refine gam ?_;refine oC rfl (fun hc=>?_) (fun hc=>?_)
  ·have hlt:=qaG hc;rw[if_pos hc] at hI;refine gad ?_;refine cC [(0,ptr bo 0),(1,ptr bs 0),(2,ptr bp 0),(3,ptr bn 0),(4,ptr b 0),(5,ptr b5 0),(6,str (qca T i2))] ?_ (fun j2 hj2=>?_)
   ·refine zQ85 ?_;refine gac ?_;refine qP (xR (el':=qbJ T[i2]) (cs:=[_,_,_]) rfl rfl zo (qa0 _ _ _ hlt) rfl rfl) rfl ?_;refine gao ?_;exact ⟨⟨rfl,rfl,rfl,rfl,rfl,rfl,qjz (qpB hlt).symm,trivial⟩,rfl,rfl⟩
   ·obtain ⟨r2,hr2⟩:=qaU hI;refine gab ?_;refine cD (m:=7) rfl [(bo,.cells 224 [.atom (.func (.func fn) first caps)])] ?_;have hHF:HSub [(bo,.cells 224 [.atom (.func (.func fn) first caps)])] (srcH sb T (i2+1) op1::(b5,.cells 182 [str (exOp ex),int .u32 (qes ex),str (qcX ex),.list (qbL ex)])::(b,.cells 182 [str [],int .u32 0,str [],qaa])::(bo,.cells 224 [.atom (.func (.func fn) first caps)])::[(bs,.cells 48 [ptr sb 0]),(bp,.cells 30 [.list ((qbq k).map str)]),(bn,.cells 4 [bool (decide ((k:Int)=2))])]++Hc):=zhP zp3 zhn;refine LAny.take (i:=0) hHF rfl zk zk zk rfl (pM (lv:=.atom _) rfl) ?_;refine LAny.take (i:=2) hHF rfl zk zk zk rfl (pL (c:=.atom _) rfl zm0 rfl) ?_;refine aL ?_ hHF;refine zl2 (i:=1) (j:=3) zk ?_ ?_
    ·have hperm:(srcH sb T (i2+1) op1::(b5,LObj.cells 182 [str (exOp ex),int .u32 (qes ex),str (qcX ex),.list (qbL ex)])::(b,LObj.cells 182 [str [],int .u32 0,str [],qaa])::([(bo,LObj.cells 224 [.atom (.func (.func fn) first caps)]),(bs,LObj.cells 48 [ptr sb 0]),(bp,LObj.cells 30 [.list ((qbq k).map str)]),(bn,LObj.cells 4 [bool (decide ((k:Int)=2))])]++Hc)).Perm ((srcH sb T (i2+1) op1::Hc)++[(b5,LObj.cells 182 [str (exOp ex),int .u32 (qes ex),str (qcX ex),.list (qbL ex)]),(b,LObj.cells 182 [str [],int .u32 0,str [],qaa]),(bo,LObj.cells 224 [.atom (.func (.func fn) first caps)]),(bs,LObj.cells 48 [ptr sb 0]),(bp,LObj.cells 30 [.list ((qbq k).map str)]),(bn,LObj.cells 4 [bool (decide ((k:Int)=2))])]):=List.Perm.cons _ (show ([(b5,LObj.cells 182 [str (exOp ex),int .u32 (qes ex),str (qcX ex),.list (qbL ex)]),(b,LObj.cells 182 [str [],int .u32 0,str [],qaa]),(bo,LObj.cells 224 [.atom (.func (.func fn) first caps)]),(bs,LObj.cells 48 [ptr sb 0]),(bp,LObj.cells 30 [.list ((qbq k).map str)]),(bn,LObj.cells 4 [bool (decide ((k:Int)=2))])]++Hc).Perm (Hc++[(b5,LObj.cells 182 [str (exOp ex),int .u32 (qes ex),str (qcX ex),.list (qbL ex)]),(b,LObj.cells 182 [str [],int .u32 0,str [],qaa]),(bo,LObj.cells 224 [.atom (.func (.func fn) first caps)]),(bs,LObj.cells 48 [ptr sb 0]),(bp,LObj.cells 30 [.list ((qbq k).map str)]),(bn,LObj.cells 4 [bool (decide ((k:Int)=2))])]) from zPc);refine lH rfl rfl (pG (cs':=[_,_,_,_]) rfl zm1 rfl rfl) ?_;refine lO 3 (lS (H1:=srcH sb T (i2+1) op1::Hc) (F:=[(b5,LObj.cells 182 [str (exOp ex),int .u32 (qes ex),str (qcX ex),.list (qbL ex)]),(b,LObj.cells 182 [str [],int .u32 0,str [],qaa]),(bo,LObj.cells 224 [.atom (.func (.func fn) first caps)]),(bs,LObj.cells 48 [ptr sb 0]),(bp,LObj.cells 30 [.list ((qbq k).map str)]),(bn,LObj.cells 4 [bool (decide ((k:Int)=2))])]) rfl (.inl rfl) rfl (hperm) (zhP zp2 zhn) (S.callClo (F:=[]) (Hc:=Hc) rfl pH (hC q zo _ _ _ _ _ _ _ r2 hclo zo ho hr2) (fun e2 i3 op3 h3=>?_) (fun l er i3 op3 h3 e' he'=>?_)))
     ·rw[hr2,h3,qau] at hI;obtain ⟨q1,q2,q3,rfl⟩:=(qcQ T q).1 _ _ _ _ (hr2.trans (congrArg some h3));have q4:=q3 zo;refine lO 4 (lS (H1:=[]) (F:=(srcH sb T i3 op3::([]++Hc))++[(b5,LObj.cells 182 [str (exOp ex),int .u32 (qes ex),str (qcX ex),.list (qbL ex)]),(b,LObj.cells 182 [str [],int .u32 0,str [],qaa]),(bo,LObj.cells 224 [.atom (.func (.func fn) first caps)]),(bs,LObj.cells 48 [ptr sb 0]),(bp,LObj.cells 30 [.list ((qbq k).map str)]),(bn,LObj.cells 4 [bool (decide ((k:Int)=2))])]) rfl (.inl rfl) rfl zpr (HSub.appR (zhP zp2 zhn)) (sL (es:=[encE ex,encE e2]) [_,_] rfl (zeC rfl rfl (zeC rfl rfl eN)) rfl rfl rfl ?_));refine lO 5 (lH rfl rfl (pB _ (cs:=[_,_,_,_]) rfl) ?_);refine lO 6 (lS (H1:=[(b5,LObj.cells 182 [str (exOp ex),int .u32 (qes ex),str (qcX ex),.list (qbL ex)])]) (F:=(srcH sb T i3 op3::([]++Hc))++[(b,LObj.cells 182 [str [],int .u32 0,str [],qaa]),(bo,LObj.cells 224 [.atom (.func (.func fn) first caps)]),(bs,LObj.cells 48 [ptr sb 0]),(bp,LObj.cells 30 [.list ((qbq k).map str)]),(bn,LObj.cells 4 [bool (decide ((k:Int)=2))])]) rfl (.inl rfl) rfl qm2 (HSub.appR (zhP zp1 zhn)) (sS (cs':=[_,_,_,_]) rfl pH rfl rfl rfl rfl rfl ?_));refine qhE ?_;refine cW (H':=(b5,LObj.cells 182 [str (qca T i2),int .u32 0,str [],.list [encE ex,encE e2]])::srcH sb T i3 op3::(b,LObj.cells 182 [str [],int .u32 0,str [],qaa])::([(bo,LObj.cells 224 [.atom (.func (.func fn) first caps)]),(bs,LObj.cells 48 [ptr sb 0]),(bp,LObj.cells 30 [.list ((qbq k).map str)]),(bn,LObj.cells 4 [bool (decide ((k:Int)=2))])]++Hc)) (qk8 (A:=[(b,LObj.cells 182 [str [],int .u32 0,str [],qaa]),(bo,LObj.cells 224 [.atom (.func (.func fn) first caps)]),(bs,LObj.cells 48 [ptr sb 0]),(bp,LObj.cells 30 [.list ((qbq k).map str)]),(bn,LObj.cells 4 [bool (decide ((k:Int)=2))])])) ?_;refine gab ?_;refine oC rfl (fun hk2=>?_) (fun hk2=>?_)
      ·exact zT42
      ·exact zT28
     ·exact zT9
    ·have hperm:(srcH sb T (i2+1) op1::(b5,LObj.cells 182 [str (exOp ex),int .u32 (qes ex),str (qcX ex),.list (qbL ex)])::(b,LObj.cells 182 [str [],int .u32 0,str [],qaa])::([(bo,LObj.cells 224 [.atom (.func (.func fn) first caps)]),(bs,LObj.cells 48 [ptr sb 0]),(bp,LObj.cells 30 [.list ((qbq k).map str)]),(bn,LObj.cells 4 [bool (decide ((k:Int)=2))])]++Hc)).Perm ((srcH sb T (i2+1) op1::Hc)++[(b5,LObj.cells 182 [str (exOp ex),int .u32 (qes ex),str (qcX ex),.list (qbL ex)]),(b,LObj.cells 182 [str [],int .u32 0,str [],qaa]),(bo,LObj.cells 224 [.atom (.func (.func fn) first caps)]),(bs,LObj.cells 48 [ptr sb 0]),(bp,LObj.cells 30 [.list ((qbq k).map str)]),(bn,LObj.cells 4 [bool (decide ((k:Int)=2))])]):=List.Perm.cons _ (show ([(b5,LObj.cells 182 [str (exOp ex),int .u32 (qes ex),str (qcX ex),.list (qbL ex)]),(b,LObj.cells 182 [str [],int .u32 0,str [],qaa]),(bo,LObj.cells 224 [.atom (.func (.func fn) first caps)]),(bs,LObj.cells 48 [ptr sb 0]),(bp,LObj.cells 30 [.list ((qbq k).map str)]),(bn,LObj.cells 4 [bool (decide ((k:Int)=2))])]++Hc).Perm (Hc++[(b5,LObj.cells 182 [str (exOp ex),int .u32 (qes ex),str (qcX ex),.list (qbL ex)]),(b,LObj.cells 182 [str [],int .u32 0,str [],qaa]),(bo,LObj.cells 224 [.atom (.func (.func fn) first caps)]),(bs,LObj.cells 48 [ptr sb 0]),(bp,LObj.cells 30 [.list ((qbq k).map str)]),(bn,LObj.cells 4 [bool (decide ((k:Int)=2))])]) from zPc);refine (lS (H1:=srcH sb T (i2+1) op1::Hc) (F:=[(b5,LObj.cells 182 [str (exOp ex),int .u32 (qes ex),str (qcX ex),.list (qbL ex)]),(b,LObj.cells 182 [str [],int .u32 0,str [],qaa]),(bo,LObj.cells 224 [.atom (.func (.func fn) first caps)]),(bs,LObj.cells 48 [ptr sb 0]),(bp,LObj.cells 30 [.list ((qbq k).map str)]),(bn,LObj.cells 4 [bool (decide ((k:Int)=2))])]) rfl (.inl rfl) rfl (hperm) (zhP zp2 zhn) (S.callClo (F:=[]) (Hc:=Hc) rfl pH (hC q zo _ _ _ _ _ _ _ r2 hclo zo ho hr2) (fun e2 i3 op3 h3=>?_) (fun l er i3 op3 h3 e' he'=>?_)))
     ·rw[hr2,h3,qau] at hI;obtain ⟨q1,q2,q3,rfl⟩:=(qcQ T q).1 _ _ _ _ (hr2.trans (congrArg some h3));have q4:=q3 zo;refine lO 1 (lH rfl rfl (pG (cs':=[_,_,_,_]) rfl (List.mem_append_right _ zm0) rfl rfl) ?_);refine lO 4 (lS (H1:=[]) (F:=(srcH sb T i3 op3::([]++Hc))++[(b5,LObj.cells 182 [str (exOp ex),int .u32 (qes ex),str (qcX ex),.list (qbL ex)]),(b,LObj.cells 182 [str [],int .u32 0,str [],qaa]),(bo,LObj.cells 224 [.atom (.func (.func fn) first caps)]),(bs,LObj.cells 48 [ptr sb 0]),(bp,LObj.cells 30 [.list ((qbq k).map str)]),(bn,LObj.cells 4 [bool (decide ((k:Int)=2))])]) rfl (.inl rfl) rfl zpr (HSub.appR (zhP zp2 zhn)) (sL (es:=[encE ex,encE e2]) [_,_] rfl (zeC rfl rfl (zeC rfl rfl eN)) rfl rfl rfl ?_));refine lO 5 (lH rfl rfl (pB _ (cs:=[_,_,_,_]) rfl) ?_);refine lO 6 (lS (H1:=[(b5,LObj.cells 182 [str (exOp ex),int .u32 (qes ex),str (qcX ex),.list (qbL ex)])]) (F:=(srcH sb T i3 op3::([]++Hc))++[(b,LObj.cells 182 [str [],int .u32 0,str [],qaa]),(bo,LObj.cells 224 [.atom (.func (.func fn) first caps)]),(bs,LObj.cells 48 [ptr sb 0]),(bp,LObj.cells 30 [.list ((qbq k).map str)]),(bn,LObj.cells 4 [bool (decide ((k:Int)=2))])]) rfl (.inl rfl) rfl qm2 (HSub.appR (zhP zp1 zhn)) (sS (cs':=[_,_,_,_]) rfl pH rfl rfl rfl rfl rfl ?_));refine qhE ?_;refine cW (H':=(b5,LObj.cells 182 [str (qca T i2),int .u32 0,str [],.list [encE ex,encE e2]])::srcH sb T i3 op3::(b,LObj.cells 182 [str [],int .u32 0,str [],qaa])::([(bo,LObj.cells 224 [.atom (.func (.func fn) first caps)]),(bs,LObj.cells 48 [ptr sb 0]),(bp,LObj.cells 30 [.list ((qbq k).map str)]),(bn,LObj.cells 4 [bool (decide ((k:Int)=2))])]++Hc)) (qk8 (A:=[(b,LObj.cells 182 [str [],int .u32 0,str [],qaa]),(bo,LObj.cells 224 [.atom (.func (.func fn) first caps)]),(bs,LObj.cells 48 [ptr sb 0]),(bp,LObj.cells 30 [.list ((qbq k).map str)]),(bn,LObj.cells 4 [bool (decide ((k:Int)=2))])])) ?_;refine gab ?_;refine oC rfl (fun hk2=>?_) (fun hk2=>?_)
      ·exact zT42
      ·exact zT28
     ·exact zT9
  ·have hc':qaE T i2 (qbq k)=false:=hc;rw[if_neg (by rw[hc'];decide)] at hI;refine gab ?_;exact rR hj (rC (rA rfl zm0 rfl zsr) rN) (zhD (zhP pH (zhD zhr))) (by cases hI;exact ⟨rfl,rfl⟩)
 ·rw[hr1,h1,qay] at hr;refine gas ?_;refine qah.panic (he'.trans rfl) (H':=srcH sb T i1 op1::(bo,.cells 224 [.atom (.func (.func fn) first caps)])::(bs,.cells 48 [ptr sb 0])::(bp,.cells 30 [.list ((qbq k).map str)])::(bn,.cells 4 [bool (decide ((k:Int)=2))])::Hc) ?_ (by cases hr;exact ⟨rfl,i1,op1,rfl⟩);exact zhP pH ⟨[(b,_)],zPc.trans (by exact List.Perm.refl _ |>.trans (List.perm_append_singleton _ _).symm)⟩
end
end Go.Proofs.YthmhncflhnbedaaGreatDoor
namespace Go.GL
open Go.RowKit
def qkE:Op->Bool
 |.defer _=>false
 |_=>true
theorem qkh {l n:Nat} {P:Program} {f:FuncId} {args:Array Value} {w:World} {R:Ending->World->Prop} (h:Calls P f args w R):CallsIn (Fence.wide.inRound l) n P f args w R:=(callsIn_wide (n:=n)).2 h
theorem qlS {l n:Nat} {P:Program} {row:String} {args:Array Value} {w:World} {R:Value->World->Prop} (h:Rows P row args w R):RowsIn (Fence.wide.inRound l) n P row args w R:=fun c cs _=>
 let ⟨v,w',r,s⟩:=h c cs
 ⟨v,w',r,stepsIn_wide.2 s⟩
theorem qlA {l n:Nat} {P:Program} {o:Oper} {a:Act} {w:World} {next next':Act->World->Prop} {Q:Exit->Act->World->Prop} (ho:qkE o.op=true)
  (hn:∀ a w,next a w->next' a w) (h:o.wp P a w next Q):o.wpIn (Fence.wide.inRound l) n P a w next' Q:=by
 refine ⟨fun _ _=>trivial,?_⟩;have hs:o.semAt (Fence.wide.inRound l).round a.eval=execOp a.eval o:=Oper.semAt_eq _ _ _ fun c hc=>by rw[hc] at ho;cases ho
 rw[hs];unfold Oper.wp at h;revert h;generalize (execOp a.eval o).run P w=r;intro h
 cases r with
 |ok x w'=>
  cases x with
  |value v=>exact hn _ _ h
  |skip=>exact hn _ _ h
  |defer d=>exact hn _ _ h
  |enter f args=>
   refine ⟨fun hd=>(by cases hd),qkh (Calls.mono h ?_)⟩;intro e w'' he
   cases e with
   |returned v=>exact hn _ _ he
   |panicked ch=>exact he
   |outgrown=>exact he
  |row row args=>
   refine ⟨fun hd=>(by cases hd),qlS (Rows.mono h ?_)⟩;intro v w'' he
   exact hn _ _ he
  |_=>exact h.elim
 |halt x w'=>
  cases x <;> first|exact h|exact h.elim
theorem qfq {l n:Nat} {P:Program} {ops:Array Oper} {Q:Exit->Act->World->Prop} (hQ:¬ LetsOut Q):∀ (rest:List Oper) (a:Act) (w:World),(∀ o∈rest,qkE o.op=true)->wpList P ops Q rest a w->wpListIn (Fence.wide.inRound l) n P ops Q rest a w
 |[],_,_,_,h=>h
 |o::rest,a,w,ho,h=>by
  unfold wpList at h;unfold wpListIn;split at h
  ·rename_i hw
   rw[if_pos hw];rcases h with h|⟨_,h⟩
   ·exact qlA (ho o List.mem_cons_self) (fun a w h=>qfq hQ rest a w (fun o h=>ho o (zMo _ h)) h) h
   ·exact absurd h hQ
  ·rename_i hw
   rw[if_neg hw];exact ⟨fun _ _=>trivial,qfq hQ rest _ _ (fun o h=>ho o (zMo _ h)) h⟩
theorem qjt {l n id:Nat} {P:Program} {ops:List Oper} {Q:Exit->Act->World->Prop} {a:Act} {w:World} (hQ:¬ LetsOut Q) (ho:ops.all (fun o=>qkE o.op)=true) (h:wpList P ops.toArray Q ops a w) :
  (Code.region id ops.toArray false).wpIn (Fence.wide.inRound l) n P Q a w:=wpIn_region_lit (qfq hQ ops a w (by simpa using ho) h)
end Go.GL
/- A small logic over the walk's 'Code.wp': a range over a function whose rounds all go on. -/
namespace Go.GL
open Go.RowKit
theorem qhS {C:Ctx} {w:World} {L:Live} {b:Nat} {o o':Obj} {F:Heap} (hH:RelH C w L ((b,.obj o)::F)) (ho':qff o'=true) :
  Fr (keys ((b,LObj.obj o)::F)) w L (w.putObj b o') L ((b,.obj o')::F)/\RelH C (w.putObj b o') L ((b,.obj o')::F):=by
 have h1:RelH C w L ([(b,.obj o)]++F):=hH;have hlt:b<w.heap.size:=(hH.objs _ List.mem_cons_self).2.1
 have h2:Left C w L [(b,.obj o)] (w.putObj b o') undef (fun _ H'=>H'=[(b,.obj o')]):=
  qhV (w':=w.putObj b o') h1.left ho' rfl rfl rfl (by simp[World.putObj]) (fun c hc=>World.putObj_heap_other hc) (World.putObj_heap_same hlt) (v:=undef) (lv:=.atom undef) (fun _=>qar) rfl
 obtain ⟨lv,H',L',g1,g2,g3,rfl⟩:=h2
 have hL:L'=L:=by
  funext c;obtain ⟨_,_,hl,_⟩:=h1.left.objs _ List.mem_cons_self;obtain ⟨_,_,hl',_⟩:=g2.objs _ List.mem_cons_self
  by_cases he:c=b
  ·subst he;rw[hl,hl']
  ·rcases Nat.lt_or_ge c w.heap.size with hc|hc
   ·exact g1.lsame c hc (by simpa using he)
   ·rw[h1.wf c hc,g2.wf c (by simpa [World.putObj] using hc)]
 subst hL;have:=h1.frame g1 g2;exact ⟨this.2,this.1⟩
theorem qlX {C:Ctx} {w:World} {L:Live} {o:Obj} {F:Heap} (hH:RelH C w L F) (ho:qff o=true) :
  ∃ L',Fr (keys F) w L (w.alloc o) L' ((w.heap.size,.obj o)::F)/\RelH C (w.alloc o) L' ((w.heap.size,.obj o)::F):=by
 have h1:RelH C w L ([]++F):=hH
 have:=qe3 h1.left o 0 [(w.heap.size,.obj o)] (fun p hp=>by
  simp only[List.mem_singleton] at hp;subst hp
  exact ⟨rfl,by simp[Live.upd],qaT,qdP qaT ho⟩) (by simp)
 have:=h1.frame this.1 this.2;exact ⟨_,this.2,this.1⟩
def qds (C:Ctx) (l n:Nat) (c:Code) (Q:Post) (e:Env) (H:Heap):Prop:=
 ∀ a w L,RelE n a e w L->RelH C w L H->∀ m,c.wpIn (Fence.wide.inRound l) m C.P (lift C n w L (keys H) Q) a w
def QOn (k:Env->Heap->Prop):Post
 |.normal,e,H=>k e H
 |_,_,_=>False
section round
variable {C:Ctx} {l n:Nat} {e:Env} {H:Heap} {k:Env->Heap->Prop}
theorem qds.region {id:Nat} {ops:List Oper} (ho:ops.all (fun o=>qkE o.op)=true) (h:LOps C n ops.toArray (qaA k (QOn k)) ops e H):qds C l n (.region id ops.toArray false) (QOn k) e H:=fun a w L hE hH m=>by
 refine qjt ?_ ho (qbx ?_ _ _ _ (h a w L hE hH))
 ·rintro ⟨a',w',e',H',L',_,_,_,hq⟩;exact hq
 ·rintro ex a' w' hq;refine qiG ?_ hq;intro x e H h;cases x <;> exact h
theorem qds.seq {x y:Code} (h:qds C l n x (QOn fun e H=>qds C l n y (QOn k) e H) e H):qds C l n (.seq x y) (QOn k) e H:=fun a w L hE hH m=>by
 refine wpIn_seq (wpIn_mono (h a w L hE hH m) fun ex a' w' hq=>?_);obtain ⟨e',H',L',h1,h2,h3,h4⟩:=hq
 cases ex with
 |normal=>exact wpIn_mono (h4 a' w' L' h3 h2 m) fun _ _ _=>qdN h1
 |exit id=>exact h4.elim
 |goto id=>exact h4.elim
 |ret=>exact h4.elim
 |panic ch=>exact h4.elim
 |outgrown=>exact h4.elim
theorem qds.block {id:Nat} {c:Code} (h:qds C l n c (QOn k) e H):qds C l n (.block id c) (QOn k) e H:=fun a w L hE hH m=>by
 refine wpIn_block (wpIn_mono (h a w L hE hH m) fun ex a' w' hq=>?_);obtain ⟨e',H',L',h1,h2,h3,h4⟩:=hq
 cases ex with
 |normal=>exact ⟨e',H',L',h1,h2,h3,h4⟩
 |exit id=>exact h4.elim
 |goto id=>exact h4.elim
 |ret=>exact h4.elim
 |panic ch=>exact h4.elim
 |outgrown=>exact h4.elim
end round
theorem qhy {F:Fence} {m:Nat} {P:Program} {l:Nat} {args:Array Value} {W:World} {R R':Ending->World->Prop} (h:YieldAt F m P l args W R) (hr:∀ e w,R e w->R' e w):YieldAt F m P l args W R':=by
 obtain ⟨fn,tmps,assign,body,hy,hR⟩:=h;exact ⟨fn,tmps,assign,body,hy,hR.mono hr⟩
def qfi (C:Ctx) (l:Nat) (args:List LV) (H:Heap) (K:Heap->Prop):Prop:=
 ∀ (vs:List Value) w L,RepL w L args vs->RelH C w L H->∀ m,YieldAt Fence.wide m C.P l vs.toArray w fun e w'=>e=.returned (.bool true)/\qeP C w L H w' K
theorem qfi.frame {C:Ctx} {l:Nat} {args:List LV} {G H F:Heap} {K:Heap->Prop} (p:G.Perm (H++F)) (h:qfi C l args H fun H'=>K (H'++F)):qfi C l args G K:=fun vs w L h1 h2 m=>by
 have h3:=h2.perm p;refine qhy (h vs w L h1 h3.left m) ?_;rintro e w' ⟨he,hx⟩;obtain ⟨H',L',g1,g2,g3⟩:=qeP.frame h3 hx;exact ⟨he,H',L',g1.perm p.symm,g2,g3⟩
theorem qfi.mono {C:Ctx} {l:Nat} {args:List LV} {H:Heap} {K K':Heap->Prop} (h:qfi C l args H K) (hk:∀ H,K H->K' H):qfi C l args H K':=fun vs w L h1 h2 m=>qhy (h vs w L h1 h2 m) fun _ _ hx=>⟨hx.1,hx.2.mono hk⟩
def qsx (C:Ctx) (gf:FuncId) (caps:List LV) (Hc:Heap) (N:Nat) (xs:Nat->List LV):Prop:=
 ∀ (l:Nat) (J:Nat->Heap->Prop),(∀ k H,k<N->J k H->qfi C l (xs k) H (J (k+1)))->∀ H0,J 0 H0 ->
  LCalls C gf (.atom (.func (.yield l) #[] #[])::caps) (H0++Hc) (fun r H'=>(∃ v,r=.ret v)/\∃ H1,H'=H1++Hc/\J N H1)
def Env.round (j:Env):List (Nat×LV)->Env
 |[]=>j
 |(d,v)::r=>Env.round (j.upd d v) r
theorem RelE.rounds {n:Nat} {w:World} {L:Live}:∀ (ps:List Nat) (lvs:List LV) (vs:List Value) (tmps:Array Value) (j:Env),RelE n { tmps,defers:=[] } j w L->RepL w L lvs vs->ps.length=lvs.length->ps.all (fun p=>Nat.blt p n)=true ->
  RelE n { tmps:=(ps.zip vs).foldl (fun t p=>t.setIfInBounds p.1 p.2) tmps,defers:=[] } (Env.round j (ps.zip lvs)) w L
 |[],lvs,vs,tmps,j,h,_,_,_=>by simpa [Env.round] using h
 |p::ps,[],vs,tmps,j,h,_,hl,_=>by simp at hl
 |p::ps,lv::lvs,vs,tmps,j,h,hr,hl,hp=>by
  simp only[RepL] at hr;obtain ⟨y,ys,rfl,hy,hr⟩:=hr;simp only[List.all_cons,zBa] at hp;have:=RelE.put (dst:=some p) h (by simp only[qdg,dstB];exact hp.1) hy;simp only[List.zip_cons_cons,List.foldl_cons,Env.round];exact RelE.rounds ps lvs ys _ _ this hr (by simpa using hl) hp.2
def Act.flat (a:Act):Env:=⟨fun i=>.atom (a.tmps.getD i undef),[]⟩
theorem Act.flat_rel {n:Nat} {a:Act} {w:World} {L:Live} (hn:a.tmps.size=n):RelE n { tmps:=a.tmps,defers:=[] } (Act.flat a) w L:=⟨hn,rfl,fun _=>qar⟩
section range
variable {C:Ctx} {n:Nat} {e:Env} {H:Heap} {Q:Post}
theorem qae.rangeFunc {g:Operand} {ps:List Nat} {assign body:Code} {gf:FuncId} [TEnter C.P gf] {caps:Array Value} (hg:e.ev g=.atom (.func (.func gf) #[] caps)) (N:Nat) (xs:Nat->List LV) (H0 Hc:Heap) (hp:H.Perm (H0++Hc))
  (hiter:qsx C gf (caps.toList.map .atom) Hc N xs) (hps:∀ k,k<N->ps.length=(xs k).length) (hpn:ps.all (fun p=>Nat.blt p n)=true)
  (J:Nat->Heap->Prop) (h0:J 0 H0)
  (round:∀ k H,k<N->J k H->∀ j:Env,j.ds=[]->(∀ i v,e.s i=.atom v->j.s i=.atom v)->∀ (l D:Nat) (o oD:LObj),qds C l n assign (QOn fun e1 H1=>e1.ds=[]/\∃ H1',H1=(l,o)::(D,oD)::H1'/\(∀ o':LObj,qds C l n body (QOn fun _ H2=>∃ H2',HSub ((l,o')::(D,oD)::H2') H2/\J (k+1) H2') e1 ((l,o')::(D,oD)::H1'))) (Env.round j (ps.zip (xs k))) ((l,o)::(D,oD)::H))
  (done:∀ D H',J N H'->Q .normal ⟨e.s,{ target:=.collected D,args:=#[] }::e.ds⟩ ((D,.obj (.deferred (some [])))::(H'++Hc))) :
  qae C n (.rangeFunc g ps.toArray assign body) Q e H:=fun a w L hE hH=>by
 refine wpIn_wide (n:=1) |>.1 (wpIn_rangeFunc fun fn _=>?_)
 have hgv:a.eval g=.func (.func gf) #[] caps:=by
  have:=hE.ev g;rw[hg] at this;simpa only[Rep] using this
 obtain ⟨rec,hrec⟩:∃ rec:LoopState->Option Code->Loop,rec=fun st pe=>{ state:=st,pending:=pe,fn,tmps:=a.tmps,params:=ps.toArray,assign,body,defers:=w.heap.size }:=⟨_,rfl⟩;obtain ⟨L1,f1,r1⟩:=qlX (o:=.deferred (some [])) (hH.perm hp) rfl;obtain ⟨L2,f2,r2⟩:=qlX (o:=.loop (rec .ready none)) r1 rfl;have hsz:(w.alloc (.deferred (some []))).heap.size=w.heap.size+1:=World.size_alloc ..;rw[hsz] at f2 r2;have hrec0:rec .ready none={ state:=.ready,pending:=none,fn,tmps:=a.tmps,params:=ps.toArray,assign,body,defers:=w.heap.size }:=by rw[hrec]
 refine ⟨w.heap.size+1,[{ target:=.collected w.heap.size,args:=#[] }],(w.alloc (.deferred (some []))).alloc (.loop (rec .ready none)),{ target:=.fn (.func gf) caps,args:=#[.func (.yield (w.heap.size+1)) #[] #[]] },(w.alloc (.deferred (some []))).alloc (.loop (rec .ready none)),gf,
  #[.func (.yield (w.heap.size+1)) #[] #[]]++caps,(w.alloc (.deferred (some []))).alloc (.loop (rec .ready none)),?_,?_,fun _ _=>trivial,?_,fun _=>zNr _,callsIn_wide.2 ?_⟩
 ·rw[hrec0];exact run_enterLoop_outer _ _ _ _ _
 ·simp only[resolve,hgv];simp[go_sem]
 ·simp only[invoke];exact qfn _ _
 ·obtain ⟨l,hl⟩:∃ l,l=w.heap.size+1:=⟨_,rfl⟩;obtain ⟨D,hD⟩:∃ D,D=w.heap.size:=⟨_,rfl⟩;rw[<-hl,<-hD] at f2 r2 ⊢;rw[<-hD] at r1 f1;have hc:=hiter l (fun k H=>∃ H1,H=(l,.obj (.loop (rec .ready none)))::(D,.obj (.deferred (some [])))::H1/\J k H1) ?_ ((l,.obj (.loop (rec .ready none)))::(D,.obj (.deferred (some [])))::H0) ⟨H0,rfl,h0⟩
  ·have h1:=hc (.func (.yield l) #[] #[]::caps.toList) _ L2 (by simp only[RepL,Rep];exact ⟨_,_,rfl,rfl,qbh _⟩) r2
   have e1:(Value.func (.yield l) #[] #[]::caps.toList).toArray=#[.func (.yield l) #[] #[]]++caps:=by
    apply Array.ext'
    simp
   rw[e1] at h1;refine Calls.mono h1 ?_;rintro ex w' hx
   cases ex with
   |returned v=>
    obtain ⟨lv,H',L',g1,g2,g3,_,H1,rfl,H1',rfl,hJ⟩:=hx;have g2':RelH C w' L' ((l,.obj (.loop (rec .ready none)))::((D,.obj (.deferred (some [])))::(H1'++Hc))):=g2;obtain ⟨_,_,_,hlo,_⟩:=g2'.objs _ List.mem_cons_self;have hlo':w'.heap[l]? = some (.loop (rec .ready none)):=hlo;have hpe:(rec .ready none).pending=none:=by rw[hrec]
    have hend:=(run_endLoop (P:=C.P) hlo' (by rw[hrec];simp)).trans (congrArg (fun p=>Result.ok p _) hpe);have ht:=qhS (o':=.loop { rec .ready none with state:=.exhausted }) g2' rfl;refine ⟨none,_,hend,?_⟩;have hs:HSub ((D,LObj.obj (.deferred (some [])))::(H1'++Hc)) ((l,.obj (.loop { rec .ready none with state:=.exhausted }))::((D,.obj (.deferred (some [])))::(H1'++Hc))):=zhD zhr;refine ⟨⟨e.s,{ target:=.collected D,args:=#[] }::e.ds⟩,(D,.obj (.deferred (some [])))::(H1'++Hc),L',?_,ht.2.weak hs,⟨?_,?_,?_⟩,done D H1' hJ⟩
    ·exact Fr.perm hp.symm ((f1.trans (f2.trans (g1.trans ht.1))).weak hs)
    ·exact hE.size
    ·show _::a.defers=_;rw[hE.ds]
    ·exact fun i=>(hE.vals i).mono (f1.ext.trans (f2.ext.trans (g1.ext.trans ht.1.ext))) _ _
   |panicked ch=>
    obtain ⟨H',L',g1,g2,⟨v,hv⟩,_⟩:=hx
    cases hv
   |outgrown=>exact hx.elim
  ·rintro k H hk ⟨H1,rfl,hJ⟩ vs w1 Lw hvs hr m;obtain ⟨_,_,_,hlo,_⟩:=hr.objs _ List.mem_cons_self;have hlo':w1.heap[l]? = some (.loop (rec .ready none)):=hlo;have hlen:=hvs.length;have hpk:=hps k hk;have hy:=run_yield (P:=C.P) (args:=vs.toArray) hlo' (by rw[hrec];simp;omega);rw[hrec] at hy;refine ⟨fn,_,assign,body,hy,roundIn_of_wpIn trivial ?_⟩;have htm:RelE n { tmps:=a.tmps,defers:=[] } (Act.flat a) w1 Lw:=Act.flat_rel hE.size;have htm2:=RelE.rounds ps (xs k) vs a.tmps (Act.flat a) htm hvs hpk hpn
   have e2:(ps.toArray.zip vs.toArray).foldl (fun tmps (t,a)=>tmps.setIfInBounds t a) a.tmps=(ps.zip vs).foldl (fun t p=>t.setIfInBounds p.1 p.2) a.tmps:=by
    simp
   simp only[e2];refine wpIn_mono (round k H1 hk hJ (Act.flat a) rfl ?_ l D _ _ _ w1 Lw htm2 hr m) ?_
   ·intro i v hv;have:=hE.vals i;rw[hv] at this;simp only[Rep] at this;simp only[Act.flat,this]
   ·rintro ex a1 w2 ⟨e1,H2,L2',q1,q2,q3,q4⟩
    cases ex with
    |normal=>
     obtain ⟨hds,H2',rfl,hb⟩:=q4;obtain ⟨_,_,_,hlo2,_⟩:=q2.objs _ List.mem_cons_self;have hlo2':w2.heap[l]? = some (.loop (rec .ready none)):=hlo2;have ht:=qhS (o':=.loop { rec .ready none with state:=.busy }) q2 rfl;refine ⟨_,run_beginRound hlo2' (by rw[hrec]),?_⟩;refine wpIn_mono (hb (.obj (.loop { rec .ready none with state:=.busy })) a1 _ L2' (q3.mono ht.1.ext) ht.2 m) ?_;rintro ex a3 w3 ⟨e3,H3,L3,p1,p2,p3,p4⟩
     cases ex with
     |normal=>
      obtain ⟨H3',hs3,hJ3⟩:=p4;have p2':=p2.weak hs3;obtain ⟨_,_,_,hlo3,_⟩:=p2'.objs _ List.mem_cons_self;have hlo3':w3.heap[l]? = some (.loop { rec .ready none with state:=.busy }):=hlo3;have ht3:=qhS (o':=.loop (rec .ready none)) p2' rfl;have hend:=run_endRound (P:=C.P) none hlo3';have e3:({ { rec .ready none with state:=.busy } with state:=if (none:Option Code).isNone then .ready else .done,pending:=none }:Loop)=rec .ready none:=by rw[hrec];try rfl
      rw[e3] at hend;refine ⟨.bool true,_,hend,rfl,?_⟩
      exact ⟨_,L3,q1.trans (ht.1.trans ((p1.weak hs3).trans ht3.1)),ht3.2,H3',rfl,hJ3⟩
     |exit id=>exact p4.elim
     |goto id=>exact p4.elim
     |ret=>exact p4.elim
     |panic ch=>exact p4.elim
     |outgrown=>exact p4.elim
    |exit id=>exact q4.elim
    |goto id=>exact q4.elim
    |ret=>exact q4.elim
    |panic ch=>exact q4.elim
    |outgrown=>exact q4.elim
end range
/-! ### The iterator's own call of yield -/
def qfa (C:Ctx) (n:Nat) (ops:Array Oper) (Q:Post) (rest:List Oper) (e:Env) (H:Heap):Prop:=
 ∀ a w L,RelE n a e w L->RelH C w L H->wpListIn Fence.wide 1 C.P ops (lift C n w L (keys H) Q) rest a w
section W
variable {C:Ctx} {n:Nat} {ops:Array Oper} {Q:Post} {e:Env} {H:Heap}
theorem qfa.nil (h:Q .normal e H):qfa C n ops Q [] e H:=fun _ _ L hE hH=>⟨e,H,L,Fr.refl _ _ _,hH,hE,h⟩
theorem qbM {F:Fence} {m:Nat} {P:Program} {Q Q':Exit->Act->World->Prop} (h:∀ e a w,Q e a w->Q' e a w) (ho:LetsOut Q->LetsOut Q'):∀ (l:List Oper) (a:Act) (w:World),wpListIn F m P ops Q l a w->wpListIn F m P ops Q' l a w
 |[],_,_,k=>h _ _ _ k
 |o::l,a,w,k=>by
  unfold wpListIn at k ⊢;split at k
  ·rename_i hw
   rw[if_pos hw];refine ⟨k.1,?_⟩;have k2:=k.2;generalize (o.semAt F.round a.eval).run P w=r at k2 ⊢
   cases r with
   |ok x w'=>
    cases x with
    |value v=>exact qbM h ho l _ _ k2
    |skip=>exact qbM h ho l _ _ k2
    |defer d=>exact qbM h ho l _ _ k2
    |enter f args=>
     refine ⟨k2.1,k2.2.mono fun e w'' he=>?_⟩
     cases e with
     |returned v=>exact qbM h ho l _ _ he
     |panicked ch=>exact h _ _ _ he
     |outgrown=>exact ho he
    |row row args=>
     refine ⟨k2.1,fun c cs hr=>?_⟩;obtain ⟨v,w2,r2,s2⟩:=k2.2 c cs hr
     exact ⟨v,w2,qbM h ho l _ _ r2,s2⟩
    |round l' f tmps avs bd=>
     refine ⟨k2.1,k2.2.mono fun e w'' he=>?_⟩
     cases e with
     |returned v=>exact qbM h ho l _ _ he
     |panicked ch=>exact h _ _ _ he
     |outgrown=>exact ho he
    |_=>exact k2.elim
   |halt x w'=>cases x <;> first|exact h _ _ _ k2|exact k2.elim
  ·rename_i hw
   rw[if_neg hw];exact ⟨k.1,qbM h ho l _ _ k.2⟩
theorem qrq {w w1:World} {L L1:Live} {K:List Nat} {H1:Heap} (f:Fr K w L w1 L1 H1):LetsOut (lift C n w1 L1 (keys H1) Q)->LetsOut (lift C n w L K Q):=fun ⟨a,w',h⟩=>⟨a,w',qdN f h⟩
theorem qfa.pure {dst:Option Nat} {op:Op} {ty:TypeId} {pos:String} {aft:Array Edge} {rest:List Oper} {lv:LV}
  (h:Pure C ⟨dst,op,ty,pos,aft,none⟩ e H lv) (hd:qdg n dst) (k:qfa C n ops Q rest (e.put dst lv) H):qfa C n ops Q (⟨dst,op,ty,pos,aft,none⟩::rest) e H:=fun a w L hE hH=>by
 obtain ⟨v,hv,hr⟩:=h a.eval w L hE.ev hH;unfold wpListIn;rw[if_pos (by simp[Region.wanted])];refine ⟨fun _ _=>trivial,?_⟩;have hs:Oper.semAt (Fence.wide).round a.eval ⟨dst,op,ty,pos,aft,none⟩=execOp a.eval ⟨dst,op,ty,pos,aft,none⟩:=rfl;rw[hs,hr w ⟨fun _ _=>rfl,fun _ _ _=>rfl⟩];exact k _ w L (hE.put hd hv) hH
theorem qfa.yield {dst:Option Nat} {fo:Operand} {l:Nat} {args:List Operand} {ats:Array TypeId} {avs:List LV} {ty:TypeId} {pos:String} {aft:Array Edge} {rest:List Oper} {K:Heap->Prop} (hf:e.ev fo=.atom (.func (.yield l) #[] #[]))
  (has:args.map e.ev=avs) (hy:qfi C l avs H K) (hd:qdg n dst) (k:∀ H',K H'->qfa C n ops Q rest (e.put dst (bool true)) H'):qfa C n ops Q (⟨dst,.call { callee:=.value fo,args:=args.toArray,argTypes:=ats },ty,pos,aft,none⟩::rest) e H:=fun a w L hE hH=>by
 subst has;have hv:=hE.ev fo;rw[hf] at hv;simp only[Rep] at hv;obtain ⟨fn,tmps,assign,body,h1,h2⟩:=hy (args.map a.eval) w L (qii hE.ev _) hH 0;unfold wpListIn;rw[if_pos (by simp[Region.wanted])];refine ⟨fun _ _=>trivial,?_⟩;have h3:Oper.semAt (Fence.wide).round a.eval ⟨dst,.call { callee:=.value fo,args:=args.toArray,argTypes:=ats },ty,pos,aft,none⟩=(do let d <-Deferred.ofValue (a.eval fo) (args.toArray.map a.eval);invoke d.target d.args):=rfl
 have h4:(do let d <-Deferred.ofValue (.func (.yield l) #[] #[]) (args.toArray.map a.eval);invoke d.target d.args:Sem Next).run C.P w=.ok (.round l fn tmps assign body) w:=by
  simp only[Deferred.ofValue,Sem.run_bind,Sem.run_pure,Result.andThen_ok,invoke];rw[<-h1]
  simp
 rw[h3,hv,h4];refine ⟨fun _=>zNr _,h2.mono ?_⟩;rintro ex w' ⟨rfl,H',L',g1,g2,g3⟩;exact qbM (fun _ _ _=>qdN g1) (qrq g1) _ _ _ (k H' g3 _ w' L' ((hE.mono g1.ext).put hd qar) g2)
theorem qae.regionW {id:Nat} {l:List Oper} (h:qfa C n l.toArray Q l e H):qae C n (.region id l.toArray false) Q e H:=fun a w L hE hH=>wpIn_wide (n:=1) |>.1 (wpIn_region_lit (h a w L hE hH))
end W
def qdk (C:Ctx) (n:Nat) (rs:List ResultVar) (R:LRes->Heap->Prop):Post
 |.normal,e,H|.ret,e,H=>∃ D F,e.ds=[{ target:=.collected D,args:=#[] }]/\H.Perm ((D,.obj (.deferred (some [])))::F)/\∃ vs H',qbF C n e F rs vs/\HSub H' F/\R (.ret (qbv vs)) H'
 |.panic ch,e,H=>(e.ds=[]/\∃ H',HSub H' H/\R (.panic ch) H')∨∃ D F,e.ds=[{ target:=.collected D,args:=#[] }]/\H.Perm ((D,.obj (.deferred (some [])))::F)/\∃ H',HSub H' F/\R (.panic ch) H'
 |_,_,_=>False
theorem LCalls.introM {C:Ctx} {f:FuncId} {fn:Func} {c:Code} {n:Nat} {args:List LV} {H:Heap} {R:LRes->Heap->Prop} (hf:C.P.funcs[f]? = some fn) (hb:fn.body=some c) (hn:fn.ntmps=n) (h3:Nat.ble fn.results.size 3=true)
  (hl:Nat.ble args.length n=true) (h:qae C n c (qdk C n fn.results.toList R) (qfl args) H):LCalls C f args H R:=fun vs w L hv hH=>by
 subst hn;have hl':args.length<=fn.ntmps:=by simpa using hl
 have h3':fn.results.size<=3:=by simpa using h3
 have hlen:=hv.length;refine callsIn_wide.1 (callsIn_of_wp_marks (F:=Fence.wide) (n:=1) hf hb trivial (wpIn_wide.2 (Go.wp_mono (h _ w L ⟨?_,rfl,fun i=>?_⟩ hH) fun ex a' w' hq=>?_)))
 ·simp;omega
 ·exact zT0
 ·obtain ⟨e',H',L',g1,g2,g3,g4⟩:=hq
  have turn:∀ {D F},H'.Perm ((D,LObj.obj (.deferred (some [])))::F)->(Instr.takeDeferred D).run C.P w'=.ok [] (w'.putObj D (.deferred none))/\Fr (keys H) w L (w'.putObj D (.deferred none)) L' F/\RelH C (w'.putObj D (.deferred none)) L' F/\Ext w' L' (w'.putObj D (.deferred none)) L':=fun {D F} hp=>by
   have g2':=g2.perm hp;obtain ⟨_,_,_,hlo,_⟩:=g2'.objs _ List.mem_cons_self;have hlo':w'.heap[D]? = some (.deferred (some [])):=hlo;have ht:=qhS (o':=.deferred none) g2' rfl;have hs:HSub F ((D,LObj.obj (.deferred none))::F):=zhD zhr;have hkp:Fr (keys H) w L w' L' ((D,LObj.obj (.deferred (some [])))::F):=g1.weak ⟨[],by simpa using hp⟩;exact ⟨run_takeDeferred hlo',(hkp.trans ht.1).weak hs,ht.2.weak hs,ht.1.ext⟩
  have ret:RelE fn.ntmps a' e' w' L'->(∃ D F,e'.ds=[{ target:=.collected D,args:=#[] }]/\H'.Perm ((D,.obj (.deferred (some [])))::F)/\∃ vs H'',qbF C fn.ntmps e' F fn.results.toList vs/\HSub H'' F/\R (.ret (qbv vs)) H'') ->
    LeavesInM Fence.wide 1 C.P fn a'.tmps (qcH C w L H (fun v=>R (.ret v)) (fun ch=>R (.panic ch))) a'.defers .returning w':=fun hE hr=>by
   obtain ⟨D,F,h1,hp,vs',H'',h2,h4,h5⟩:=hr;rw[hE.ds,h1];obtain ⟨t1,t2,t3,t4⟩:=turn hp;refine ⟨by simp,.inl ⟨D,_,rfl,t1,?_⟩⟩;obtain ⟨v,r1,r2⟩:=qhf (hE.mono t4) t3 h2 h3';exact ⟨v,r1,qbv vs',H'',L',t2.weak h4,t3.weak h4,r2,h5⟩
  cases ex with
  |normal=>exact ret g3 g4
  |ret=>exact ret g3 g4
  |panic ch=>
   rcases g4 with ⟨h1,H'',h4,h5⟩|⟨D,F,h1,hp,H'',h4,h5⟩
   ·show LeavesInM _ _ _ _ _ _ a'.defers _ _;rw[show a'.defers=[] from (show a'.defers=e'.ds from g3).trans h1];exact ⟨H'',L',g1.weak h4,g2.weak h4,h5⟩
   ·show LeavesInM _ _ _ _ _ _ a'.defers _ _;rw[show a'.defers=[{ target:=.collected D,args:=#[] }] from (show a'.defers=e'.ds from g3).trans h1];obtain ⟨t1,t2,t3,t4⟩:=turn hp
    exact ⟨by simp,.inl ⟨D,_,rfl,t1,⟨H'',L',t2.weak h4,t3.weak h4,h5⟩⟩⟩
  |exit id=>exact g4.elim
  |goto id=>exact g4.elim
  |outgrown=>exact g4.elim
end Go.GL
namespace Go.Proofs.YthmhncflhnbedaaGreatDoor
open Go.GL Go.RowKit Go.Stele
attribute [local irreducible] LOps qae qag LCalls Go.GL.Pure qaA qaq qah LQ LAny qaF qap
def lvLV (k:Nat):LV:=.list ((qbq k).map str)
def qgu:List LV:=[lvLV 0,lvLV 1,lvLV 2,lvLV 3,lvLV 4,lvLV 5]
section
variable {B0:Nat} {w0:World}
theorem qmy:LCalls (KC B0 w0) 224 [] [] (Ret (.list qgu)):=by
 refine cI Tryz.func224 rfl (n:=8) rfl rfl rfl ?_;refine ga0 ?_;refine oS (sL (es:=[str [124,124]]) [_] rfl (zeC rfl rfl eN) rfl rfl rfl ?_) rfl;refine oS (sL (es:=[str [38,38]]) [_] rfl (zeC rfl rfl eN) rfl rfl rfl ?_) rfl;refine oS (sL (es:=[str [61,61],str [33,61],str [60],str [62],str [60,61],str [62,61]]) [_,_,_,_,_,_] rfl (zeC rfl rfl (zeC rfl rfl (zeC rfl rfl (zeC rfl rfl (zeC rfl rfl (zeC rfl rfl eN)))))) rfl rfl rfl ?_) rfl;refine oS (sL (es:=[str [94]]) [_] rfl (zeC rfl rfl eN) rfl rfl rfl ?_) rfl;refine oS (sL (es:=[str [43],str [45]]) [_,_] rfl (zeC rfl rfl (zeC rfl rfl eN)) rfl rfl rfl ?_) rfl;refine oS (sL (es:=[str [42],str [47],str [37]]) [_,_,_] rfl (zeC rfl rfl (zeC rfl rfl (zeC rfl rfl eN))) rfl rfl rfl ?_) rfl;refine oS (sL (es:=qgu) [_,_,_,_,_,_] rfl (zeC rfl rfl (zeC rfl rfl (zeC rfl rfl (zeC rfl rfl (zeC rfl rfl (zeC rfl rfl eN)))))) rfl rfl rfl ?_) rfl;refine gac ?_;exact qac rfl (rC (rT (v:=.list _) rfl zsr) rN) rfl
theorem qfW (sb:Nat) (ops:List LV) (once:Bool) (fn:FuncId) (first caps:Array Value):LCalls (KC B0 w0) 225 [ptr sb 0,.list ops,bool once,.atom (.func (.func fn) first caps)] []
  (fun r H=>∃ bo bs bp bn:Nat,r=.ret (.atom (.func (.func 246) #[] #[.pointer (some ⟨bo,0,none⟩),.pointer (some ⟨bs,0,none⟩),.pointer (some ⟨bp,0,none⟩),.pointer (some ⟨bn,0,none⟩)])) /\
   H=[(bo,.cells 224 [.atom (.func (.func fn) first caps)]),(bs,.cells 48 [ptr sb 0]),(bp,.cells 30 [.list ops]),(bn,.cells 4 [bool once])]):=by
 refine cI Tryz.func225 rfl (n:=10) rfl rfl rfl ?_;refine gag ?_;refine oS (sB rfl fun bs=>?_) rfl;refine oS (sB rfl fun bp=>?_) rfl;refine oS (sB rfl fun bn=>?_) rfl;refine oS (sB rfl fun bo=>?_) rfl;refine gab ?_;exact rR rfl (zra rfl) (zhP pH (zhP zp2 (zhP zp1 zhp))) ⟨bo,bs,bp,bn,rfl,rfl⟩
theorem qj6 (es:List LV):LCalls (KC B0 w0) 223 [.list es] [] (fun r H=>∃ b:Nat,r=.ret (.atom (.func (.func 245) #[] #[.pointer (some ⟨b,0,none⟩)]))/\H=[(b,.cells 174 [.list es])]):=by
 refine cI Tryz.func223 rfl (n:=4) rfl rfl rfl ?_;refine gag ?_;refine oS (sB rfl fun b=>?_) rfl;refine gab ?_;exact rR rfl (zra rfl) zhr ⟨b,rfl,rfl⟩
def qkq (ls:List (List (List UInt8))) (q:Nat):List LV:=[int .i64 ((ls.length:Int)-1-q),.list (((ls[ls.length-1-q]?).getD []).map str)]
theorem qpf (b:Nat) (ls:List (List (List UInt8))) (hl:ls.length<=100000):qsx (KC B0 w0) 245 [ptr b 0] [(b,.cells 174 [.list (ls.map fun l=>.list (l.map str))])] ls.length (qkq ls):=by
 intro l J hY H0 h0;have hml:(ls.map fun l=>LV.list (l.map str)).length=ls.length:=zLm _;refine cI Tryz.func245 rfl (n:=19) rfl rfl rfl ?_;refine qae.perm (H':=(b,.cells 174 [.list (ls.map fun l=>.list (l.map str))])::H0) (List.perm_append_singleton _ _) ?_;refine gab ?_
 refine oL (fun k lsl H=>∃ (q:Nat) (Hq:Heap),q<=ls.length/\k=ls.length-q/\lsl=[(0,.atom (.func (.yield l) #[] #[])),(1,ptr b 0),(3,int .i64 ((ls.length:Int)-1-q))]/\H=(b,.cells 174 [.list (ls.map fun l=>.list (l.map str))])::Hq/\J q Hq)
  ⟨_,_,_,⟨0,H0,Nat.zero_le _,rfl,rfl,rfl,h0⟩,⟨rfl,rfl,qaf (by simp),trivial⟩,zhR _⟩ ?_
 rintro k lsl H ⟨q,Hq,hq,rfl,rfl,rfl,hJ⟩ j hj;refine gab ?_;refine oC rfl (fun hc=>?_) (fun hc=>?_)
 ·have hlt:q<ls.length:=by have:=zt hc;omega
  have hix:((ls.length:Int)-1-q).toNat=ls.length-1-q:=by omega
  have hlt2:ls.length-1-q<ls.length:=by omega
  have hel:(ls.map fun l=>LV.list (l.map str))[((ls.length:Int)-1-q).toNat]? = some (.list (((ls[ls.length-1-q]?).getD []).map str)):=by
   rw[hix,List.getElem?_map,List.getElem?_eq_getElem hlt2];rfl
  refine gad ?_;refine qae.regionW ?_;refine gac ?_;refine qfa.pure (xR (cs:=[_]) rfl rfl zo hel rfl rfl) rfl ?_;refine gac ?_;refine qfa.yield (H:=(b,.cells 174 [.list (ls.map fun l=>.list (l.map str))])::Hq) (args:=[_,_]) rfl rfl (qfi.frame (H:=Hq) (F:=[(b,.cells 174 [.list (ls.map fun l=>.list (l.map str))])]) (List.perm_append_singleton _ _).symm (K:=fun H'=>∃ H1,H'=H1++[(b,.cells 174 [.list (ls.map fun l=>.list (l.map str))])]/\J (q+1) H1) (qfi.mono (hY q Hq hlt hJ) fun H' h=>⟨H',rfl,h⟩)) rfl ?_;rintro H' ⟨H1,rfl,hJ1⟩;refine gac ?_;refine qfa.nil ?_;refine qN ?_;refine cW (H':=(b,.cells 174 [.list (ls.map fun l=>.list (l.map str))])::H1) ⟨[],by rw[zLz];exact List.perm_append_singleton _ _⟩ ?_;refine oC rfl (fun hcc=>?_) (fun hcc=>?_)
  ·cases hcc
  ·refine gab ?_;exact ⟨_,_,_,by omega,⟨q+1,H1,hlt,rfl,rfl,rfl,hJ1⟩,⟨rfl,rfl,qaf zo,trivial⟩,zhR _,hj⟩
 ·have hge:q=ls.length:=by have:=zf hc;omega
  subst hge;refine gad ?_;exact rO hj rN ⟨[],by rw[zLz];exact (List.perm_append_singleton _ _).symm⟩ ⟨⟨_,rfl⟩,Hq,rfl,hJ⟩
end
end Go.Proofs.YthmhncflhnbedaaGreatDoor
namespace Go.Proofs.YthmhncflhnbedaaGreatDoor
open Go.GL Go.RowKit Go.Stele
attribute [local irreducible] LOps qae qag LCalls Go.GL.Pure qaA qaq qah LQ LAny qaF qap qds qfa qdk qsx qfi
def lvs:List (List (List UInt8)):=[qbq 0,qbq 1,qbq 2,qbq 3,qbq 4,qbq 5]
theorem qrE (q:Nat) (h:q<6):qkq lvs q=[int .i64 (((5-q:Nat):Int)),.list ((qbq (5-q)).map str)]:=by
 have:q=0∨q=1∨q=2∨q=3∨q=4∨q=5:=by omega
 rcases this with rfl|rfl|rfl|rfl|rfl|rfl <;> rfl
theorem qdk.mkRet {C:Ctx} {n:Nat} {e:Env} {H H':Heap} {R:LRes->Heap->Prop} {rs:List ResultVar} {vs:List LV} {D:Nat} (hd:e.ds=[{ target:=.collected D,args:=#[] }]) (F:Heap) (hp:H.Perm ((D,.obj (.deferred (some [])))::F)) (h:qbF C n e F rs vs) (hH:HSub H' F) (hR:R (.ret (qbv vs)) H') :
  qdk C n rs R .ret e H:=by
 unfold qdk;exact ⟨D,F,hd,hp,vs,H',h,hH,hR⟩
theorem qdk.mkPanic {C:Ctx} {n:Nat} {e:Env} {H H':Heap} {R:LRes->Heap->Prop} {rs:List ResultVar} {ch:List PanicEntry} {D:Nat} (hd:e.ds=[{ target:=.collected D,args:=#[] }]) (F:Heap) (hp:H.Perm ((D,.obj (.deferred (some [])))::F)) (hH:HSub H' F) (hR:R (.panic ch) H') :
  qdk C n rs R (.panic ch) e H:=by
 unfold qdk;exact .inr ⟨D,F,hd,hp,H',hH,hR⟩
section
variable {B0:Nat} {w0:World}
theorem qcF (sb:Nat) (T:List Tok) (f:Nat) (hC:CloC B0 w0 sb T f):qko B0 w0 sb T f:=by
 intro i op r hi ho hr;refine LCalls.introM Tryz.func193 rfl (n:=20) rfl rfl rfl ?_;refine gag ?_;refine oS (sB rfl fun b1=>?_) rfl;refine oS (sA fun b2=>?_) rfl;refine gab ?_;refine oS (sA fun b3=>?_) rfl;refine gab ?_;refine oS (sF [] rfl qmy ?_) rfl;refine oS (S.call0 [_] rfl (qj6 qgu) (fun v H' h=>?_) (fun ch H' h=>?_)) rfl
 ·obtain ⟨bB,h,rfl⟩:=h;cases h;refine gad ?_;have hexit:∀ (first caps:Array Value) (fn:FuncId) (Hclo F:Heap),Clo sb 0 fn first caps Hclo->TEnter Tryz.prog fn:=fun _ _ _ _ _ h=>h.enter
  refine qae.rangeFunc (g:=.tmp 9) (ps:=[10,11]) (caps:=#[.pointer (some ⟨bB,0,none⟩)]) (by rfl) lvs.length (qkq lvs)
   [(b3,.cells 224 [.atom (.func (.func 222) #[.pointer (some ⟨sb,0,none⟩)] #[])]),(b2,.cells 182 [str [],int .u32 0,str [],qaa]),(b1,.cells 48 [ptr sb 0]),srcH sb T i op] [(bB,.cells 174 [.list qgu])]
   (List.perm_append_singleton _ _).symm (qpf bB lvs zDd) (fun k hk=>by rw[qrE k hk];rfl) (by rfl)
   (fun q Hq=>∃ (fn:FuncId) (first caps:Array Value) (Hclo:Heap),Clo sb (6-q) fn first caps Hclo/\Hq=(b3,.cells 224 [.atom (.func (.func fn) first caps)])::(b2,.cells 182 [str [],int .u32 0,str [],qaa])::(b1,.cells 48 [ptr sb 0])::srcH sb T i op::Hclo)
   ⟨_,_,_,[],.un,rfl⟩ ?_ ?_
  ·rintro q Hq hq ⟨fn,first,caps,Hclo,hclo,rfl⟩ j hjd hja l D o oD;have hq6:q<6:=hq;have hj1:j.s 1=ptr b1 0:=hja 1 _ rfl;have hj3:j.s 3=ptr b3 0:=hja 3 _ rfl
   rw[qrE q hq6,<-Env.slots_self (e:=j) (l:=[(1,ptr b1 0),(3,ptr b3 0)]) (by
    intro p hp;simp only[zMi,List.not_mem_nil,or_false] at hp;rcases hp with rfl|rfl
    ·exact hj1
    ·exact hj3)]
   refine qds.seq ?_;refine qds.region rfl ?_;refine ga2 ?_;refine qds.region rfl ?_;refine gao ?_;refine ⟨hjd,_,rfl,fun o'=>?_⟩;refine qds.block ?_;refine qds.region rfl ?_;refine gac ?_;refine oS (S.call0 [_,_,_,_] rfl (qfW sb ((qbq (5-q)).map str) (decide (((5-q:Nat):Int)=2)) fn first caps) (fun v H' h=>?_) (fun ch H' h=>?_)) rfl
   ·obtain ⟨bo,bs,bp,bn,h,rfl⟩:=h;cases h;refine gac ?_
    refine ⟨(b3,.cells 224 [.atom (.func (.func 246) #[] #[.pointer (some ⟨bo,0,none⟩),.pointer (some ⟨bs,0,none⟩),.pointer (some ⟨bp,0,none⟩),.pointer (some ⟨bn,0,none⟩)])])::(b2,.cells 182 [str [],int .u32 0,str [],qaa])::(b1,.cells 48 [ptr sb 0])::srcH sb T i op ::
     (bo,.cells 224 [.atom (.func (.func fn) first caps)])::(bs,.cells 48 [ptr sb 0])::(bp,.cells 30 [.list ((qbq (5-q)).map str)])::(bn,.cells 4 [bool (decide (((5-q:Nat):Int)=2))])::Hclo,?_,_,_,_,_,?_,rfl⟩
    ·exact zhP zp5 (zhP zp5 (zhP pH (zhP zp4 (zhP zp4 (zhP zp4 zhr)))))
    ·have e1:6-(q+1)=5-q:=by omega
     have e2:6-q=5-q+1:=by omega
     rw[e1];rw[e2] at hclo;exact .bin hclo
   ·obtain ⟨_,_,_,_,h,_⟩:=h;cases h
  ·rintro D H' ⟨fn,first,caps,Hclo,hclo,rfl⟩;have hclo0:Clo sb 0 fn first caps Hclo:=hclo
   have hen:=hexit _ _ _ _ [] hclo0;refine gad ?_;refine cW (H':=(D,.obj (.deferred (some [])))::(b3,.cells 224 [.atom (.func (.func fn) first caps)])::(b2,.cells 182 [str [],int .u32 0,str [],qaa])::(b1,.cells 48 [ptr sb 0])::srcH sb T i op::Hclo) ⟨[(bB,.cells 174 [.list qgu])],List.Perm.refl _⟩ ?_;refine gab ?_;refine oS (S.callClo (F:=[(D,.obj (.deferred (some []))),(b3,.cells 224 [.atom (.func (.func fn) first caps)]),(b2,.cells 182 [str [],int .u32 0,str [],qaa]),(b1,.cells 48 [ptr sb 0])]) (Hc:=Hclo) rfl zp4 (hC _ _ _ _ _ _ _ r hclo0 hi ho hr) (fun v i1 op1 h1=>?_) (fun l er i1 op1 h1 e' he'=>?_)) rfl
   ·refine gac ?_;exact qdk.mkRet rfl _ zp2 (rC (rA rfl zm0 rfl zsr) rN) (zhP zp1 zhn) (by rw[h1];exact ⟨rfl,rfl⟩)
   ·refine gas ?_;refine qdk.mkPanic (he'.trans rfl) (srcH sb T i1 op1::(Hclo++[(b3,.cells 224 [.atom (.func (.func fn) first caps)]),(b2,.cells 182 [str [],int .u32 0,str [],qaa]),(b1,.cells 48 [ptr sb 0])])) ?_ zhp (by rw[h1];exact ⟨rfl,i1,op1,rfl⟩);exact (List.Perm.cons _ List.perm_middle).trans (List.Perm.swap _ _ _)
 ·obtain ⟨bB,h,_⟩:=h;cases h
theorem qj5 (hG:GW B0 w0) (sb:Nat) (T:List Tok) (hT:TOK T):∀ f:Nat,CloC B0 w0 sb T f/\qko B0 w0 sb T f:=by
 intro f
 induction f using Nat.strongRecOn with
 |_ f ih=>
  have hC:CloC B0 w0 sb T f:=by
   intro k fn first caps Hc i op r hclo hi ho hr
   cases hclo with
   |un=>
    obtain ⟨f,rfl⟩:∃ g,f=g+1:=by
     cases f with
     |zero=>rw[eLev] at hr;cases hr
     |succ g=>exact ⟨g,rfl⟩
    rw[eLev,if_pos rfl] at hr;refine LCalls.mono (qom hG sb T hT f (fun g hg=>(ih g zo).2) i op r hi ho hr) ?_;intro r' H h
    cases r with
    |ok v i' op'=>exact h
    |err l e=>exact h
   |bin h=>exact qro hG sb T hT f (fun g hg=>(ih g hg).1) _ _ _ _ _ _ _ _ _ h i op r hi ho hr
  exact ⟨hC,qcF sb T f hC⟩
end
end Go.Proofs.YthmhncflhnbedaaGreatDoor
namespace Go.Proofs.YthmhncflhnbedaaGreatDoor
open Go.GL Go.RowKit Go.Stele
attribute [local irreducible] LOps qae qag LCalls Go.GL.Pure qaA qaq qah LQ LAny qaF qap
def qsF (l:List Sm):LV:=.list (l.map encS)
section
variable {B0:Nat} {w0:World}
def qpW (B0:Nat) (w0:World) (sb:Nat) (T:List Tok) (f:Nat):Prop:=
 ∀ i op r,i<=T.length->op<=100->qcG T f i op=some r->LCalls (KC B0 w0) 194 [ptr sb 0] [srcH sb T i op] (qdy sb T qsF r)
def qoM (B0:Nat) (w0:World) (sb:Nat) (T:List Tok) (f:Nat):Prop:=
 ∀ i op r,i<=T.length->op<=100->qbV T f [] i op=some r->LCalls (KC B0 w0) 111 [ptr sb 0] [srcH sb T i op] (qdy sb T qsF r)
def qr2 (B0:Nat) (w0:World) (sb:Nat) (T:List Tok) (f:Nat):Prop:=
 ∀ i op r,i<=T.length->op<=100->qei T f i op=some r->LCalls (KC B0 w0) 155 [ptr sb 0] [srcH sb T i op] (qdy sb T encS r)
def qmT (B0:Nat) (w0:World) (sb:Nat) (T:List Tok) (f:Nat):Prop:=
 ∀ i op r,i<=T.length->op<=100->qcx T f i op=some r->LCalls (KC B0 w0) 195 [ptr sb 0] [srcH sb T i op] (qdy sb T encS r)
theorem qfy (sb:Nat) (T:List Tok) (hT:TOK T) (f:Nat) (hS:qoM B0 w0 sb T f):qpW B0 w0 sb T (f+1):=by
 intro i op r hi ho hr;have hl:=hT.len;rw[qcG] at hr;refine cI Tryz.func194 rfl (n:=11) rfl rfl rfl ?_;refine gaw ?_;refine oS (sP [_,_] rfl pH (qcm sb T i op [123] hl zo zo) (fun v i1 op1 h1=>?_) (fun l er i1 op1 h1 e9 he9=>?_)) rfl;rotate_left
 ·exact zT36
 rw[h1,qau] at hr;obtain ⟨rfl,rfl,ho1,hi1⟩:=qbu h1;refine gan ?_;obtain ⟨r1,hr1⟩:=qaU hr;refine oS (sP [_] rfl pH (hS _ _ r1 zo zo hr1) (fun l i2 op2 h2=>?_) (fun l er i2 op2 h2 e9 he9=>?_)) rfl;rotate_left
 ·rw[hr1,h2,qay] at hr;refine gah ?_;exact panP zb0 (by cases hr;rfl) zhp
 rw[hr1,h2,qau] at hr;obtain ⟨g1,_,g3,rfl⟩:=(qe1 T f).2.1 _ _ _ _ (hr1.trans (congrArg some h2));have g4:=g3 zo;refine gab ?_;refine oS (sP [_,_] rfl pH (qeL sb T i2 (op+1) [125] hl zo zo zo) (fun u i3 op3 h3=>?_) (fun l er i3 op3 h3 e9 he9=>?_)) rfl;rotate_left
 ·exact zT37
 rw[h3,qau] at hr;refine gab ?_;exact retP (v:=l) rfl (rC (rT (v:=.list _) rfl zsr) rN) (by cases hr;rfl) rfl zhr
theorem qex (sb:Nat) (T:List Tok) (hT:TOK T) (f:Nat) (hS:∀ g,g<f->qr2 B0 w0 sb T g):qoM B0 w0 sb T f:=by
 intro i op r hi ho hr;have hl:=hT.len;refine cI Tryz.func111 rfl (n:=14) rfl rfl rfl ?_;refine gaa ?_
 refine oL (fun k ls H=>∃ (v:LV) (l:List Sm) (i2:Nat) (Ha:Heap),k<=f/\ls=[(0,ptr sb 0),(3,v)]/\H=srcH sb T i2 op::Ha/\Acc 6 v (l.map encS) Ha []/\i2<=T.length/\l.length<=i2+1/\qbV T k l i2 op=some r)
  ⟨f,_,srcH sb T i op::[],⟨qaa,[],i,_,zNr _,rfl,rfl,Acc.nil,by omega,by simp,hr⟩,⟨rfl,rfl,trivial⟩,zhR _⟩ ?_
 rintro k ls H ⟨v,l,i2,Ha,hkf,rfl,rfl,hacc,hi2,hll,hI⟩ j hj
 obtain ⟨k,rfl⟩:∃ k',k=k'+1:=by
  cases k with
  |zero=>rw[qbV] at hI;cases hI
  |succ k=>exact ⟨k,rfl⟩
 rw[qbV] at hI;refine gaf ?_;refine zQ15 ?_;refine oS (sH [_,_] rfl pH (qc7 sb T i2 op [[125]] hl zo (by simp)) ?_) rfl;refine gad ?_;refine oC rfl (fun hc=>?_) (fun hc=>?_)
 ·have hc':qaE T i2 [[125]]=false:=by simpa using hc
  rw[if_neg (by rw[hc'];decide)] at hI;refine gak ?_;refine qih ?_;obtain ⟨r2,hr2⟩:=qaU hI;refine oS (sP [_] rfl pH (hS k zo _ _ r2 zo zo hr2) (fun e2 i4 op4 h4=>?_) (fun l er i4 op4 h4 e9 he9=>?_)) rfl;rotate_left
  ·rw[hr2,h4,qay] at hI;refine gah ?_;exact panP zb0 (by cases hI;rfl) zhp
  rw[hr2,h4,qau] at hI;obtain ⟨g1,g2,g3,rfl⟩:=(qe1 T k).2.2.1 _ _ _ (hr2.trans (congrArg some h4));have g5:=g3 zo;have g6:=g2 rfl;refine zQ15 ?_;refine oS (S.acc1 rfl hacc rfl (by simp;rfl) rfl (by simp;omega) fun v' H' hacc'=>?_) rfl;refine zQ62 ?_;refine gad ?_;exact ⟨k,_,_,by omega,⟨v',l++[e2],i4,H',by omega,rfl,rfl,by rw[zMa];exact hacc',by omega,by simp;omega,hI⟩,⟨rfl,rfl,trivial⟩,zhR _,hj⟩
 ·have hc':qaE T i2 [[125]]=true:=by simpa using hc
  rw[if_pos hc'] at hI;refine gaa ?_;refine zQ38 ?_;exact retP (v:=l) hj (rC (rT (v:=v) rfl hacc.sub) rN) (by cases hI;rfl) rfl zhp
end
end Go.Proofs.YthmhncflhnbedaaGreatDoor
namespace Go.Proofs.YthmhncflhnbedaaGreatDoor
open Go.GL Go.RowKit Go.Stele
attribute [local irreducible] LOps qae qag LCalls Go.GL.Pure qaA qaq qah LQ LAny qaF qap
section
variable {B0:Nat} {w0:World}
theorem qr4 (s:List UInt8) (l:List Ex):encS (.mk 6 [] [] [.mk qa8 0 s l] [] [])=.agg [int .i64 6,str [],.list [],.list [.agg [str qa8,int .u32 0,str s,.list (l.map encE)]],.list [],.list []]:=by
 rw[qbk,zMc,qbW];rfl
theorem qme (sb:Nat) (T:List Tok) (hT:TOK T) (f:Nat) (hE:∀ g,g<=f->qko B0 w0 sb T g):qmT B0 w0 sb T (f+1):=by
 intro i op r hi ho hr;have hl:=hT.len;obtain ⟨gL,_,_,_,gI,gA,_⟩:=qcQ T f;rw[qcx] at hr;refine cI Tryz.func195 rfl (n:=46) rfl rfl rfl ?_;refine gag ?_;refine oS (sA fun b2=>?_) rfl;refine gaa ?_;refine oS (sH [_,_] rfl zp1 (qcE sb T i op qhN hl zo) ?_) rfl;refine ga2 ?_;refine oC rfl (fun hc=>?_) (fun hc=>?_)
 ·have hlt:=qaG hc;rw[if_pos hc] at hr;simp only[hc,if_true];refine gaf ?_;obtain ⟨r1,hr1⟩:=qaU hr;refine oS (sP [_] rfl pH (hE f zo _ _ r1 zo zo hr1) (fun v i1 op1 h1=>?_) (fun l er i1 op1 h1 e9 he9=>?_)) rfl;rotate_left
  ·exact zT33
  rw[hr1,h1,qau] at hr;refine zQ15 ?_;refine gac ?_;exact retP (v:=.mk 5 [] [] [v] [] []) rfl (rC (rA (k:=6) rfl zm0 rfl (vA (bs:=[_,_,.list [],_,.list [],.list []]) ⟨vR _,vR _,vN,vR _,vN,vN,trivial⟩)) rN) (by cases hr;rfl) (by rw[qbk];rfl) (zhP zp1 zhn)
 ·rw[if_neg (by rw[hc];decide)] at hr;simp only[hc,Bool.false_eq_true,if_false];refine gaf ?_;refine oS (sH [_,_] rfl pH (qcE sb T i op qnd hl zo) ?_) rfl;refine ga2 ?_;refine oC rfl (fun hc2=>?_) (fun hc2=>?_)
  ·have hlt:=qaG hc2;rw[if_pos hc2] at hr;simp only[hc2,if_true];refine gab ?_;exact retP (v:=.mk 7 [] [] [] [] []) rfl (rC (rA (k:=6) rfl zm0 rfl (vA (bs:=[_,_,.list [],.list [],.list [],.list []]) ⟨vR _,vR _,vN,vN,vN,vN,trivial⟩)) rN) (by cases hr;rfl) (by rw[qbk];rfl) (zhP zp1 zhn)
  ·rw[if_neg (by rw[hc2];decide)] at hr;simp only[hc2,Bool.false_eq_true,if_false];refine gaa ?_;refine oS (sP [_,_] rfl pH (qd8 sb T i op 2 hl zo) (fun s i1 op1 h1=>?_) (fun l er i1 op1 h1 e9 he9=>?_)) rfl;rotate_left
   ·exact zT36
   rw[h1,qau] at hr;obtain ⟨rfl,rfl,t,ht,_,_⟩:=qdK h1;have:=qh9 ht;refine gab ?_;refine oS (sA fun b4=>?_) rfl;refine gab ?_;refine zQ15 ?_;refine oS (sH [_,_] rfl zp1 (qc7 sb T (i+1) op1 [[40]] hl zo (by simp)) ?_) rfl;refine ga2 ?_;refine oC rfl (fun hc3=>?_) (fun hc3=>?_)
   ·rw[if_pos hc3] at hr;refine gaf ?_;obtain ⟨r1,hr1⟩:=qaU hr;refine oS (sP [_] rfl pH (qlL sb T hT f (fun g hg=>hE g zo) (i+1) op1 r1 zo zo hr1) (fun l i2 op2 h2=>?_) (fun l er i2 op2 h2 e9 he9=>?_)) rfl;rotate_left
    ·rw[hr1,h2,qay] at hr;refine gah ?_;exact panP zb0 (by cases hr;rfl) zhp
    rw[hr1,h2,qau] at hr;refine qiR ?_;refine gac ?_;exact retP (v:=.mk 6 [] [] [.mk qa8 0 s l] [] []) rfl (rC (rA (k:=6) rfl zm0 rfl (vA (bs:=[_,_,.list [],_,.list [],.list []]) ⟨vR _,vR _,vN,vR _,vN,vN,trivial⟩)) rN) (by cases hr;rfl) (by rw[qr4];rfl) (zhP zp1 zhn)
   ·rw[if_neg (by rw[hc3];decide)] at hr;refine gaf ?_;refine zQ15 ?_;refine oS (sH [_,_] rfl pH (qc7 sb T (i+1) op1 [[91]] hl zo (by simp)) ?_) rfl;refine ga2 ?_;refine oC rfl (fun hc4=>?_) (fun hc4=>?_)
    ·rw[if_pos hc4] at hr;refine gaf ?_;obtain ⟨r1,hr1⟩:=qaU hr;refine oS (sP [_] rfl pH (qit sb T hT f (fun g hg=>hE g zo) (i+1) op1 r1 zo zo hr1) (fun x i2 op2 h2=>?_) (fun l er i2 op2 h2 e9 he9=>?_)) rfl;rotate_left
     ·rw[hr1,h2,qay] at hr;refine gah ?_;exact panP zb0 (by cases hr;rfl) zhp
     rw[hr1,h2,qau] at hr;obtain ⟨q1,q2,q3,rfl⟩:=gI _ _ _ (hr1.trans (congrArg some h2));have q4:=q3 zo;refine zQ15 ?_;refine gab ?_;refine oS (sP [_,_] rfl zp1 (qd4 sb T i2 op2 [61] hl zo) (fun u i3 op3 h3=>?_) (fun l er i3 op3 h3 e9 he9=>?_)) rfl;rotate_left
     ·exact zT37
     rw[h3,qau] at hr;have hg3:=qbb T [61] i2 op2;rw[h3] at hg3;obtain ⟨k1,k2,k3,rfl⟩:=hg3;have k4:=k3 q4;refine gan ?_;obtain ⟨r2,hr2⟩:=qaU hr;refine oS (sP [_] rfl pH (hE f zo _ _ r2 zo zo hr2) (fun v i4 op4 h4=>?_) (fun l er i4 op4 h4 e9 he9=>?_)) rfl;rotate_left
     ·rw[hr2,h4,qay] at hr;refine gah ?_;exact panP zb0 (by cases hr;rfl) zhp
     rw[hr2,h4,qau] at hr;refine zQ15 ?_;refine gab ?_;exact retP (v:=.mk 2 s [x] [v] [] []) rfl (rC (rA (k:=6) rfl zm0 rfl (vA (bs:=[_,_,_,_,.list [],.list []]) ⟨vR _,vR _,vR _,vR _,vN,vN,trivial⟩)) rN) (by cases hr;rfl) (by rw[qbk];rfl) (zhP zp2 zhn)
    ·rw[if_neg (by rw[hc4];decide)] at hr;refine gaa ?_;refine oS (sP [_,_] rfl pH (qd4 sb T (i+1) op1 [61] hl zo) (fun u i3 op3 h3=>?_) (fun l er i3 op3 h3 e9 he9=>?_)) rfl;rotate_left
     ·exact zT37
     rw[h3,qau] at hr;have hg3:=qbb T [61] (i+1) op1;rw[h3] at hg3;obtain ⟨k1,k2,k3,rfl⟩:=hg3;have k4:=k3 zo;refine gan ?_;obtain ⟨r2,hr2⟩:=qaU hr;refine oS (sP [_] rfl pH (hE f zo _ _ r2 zo zo hr2) (fun v i4 op4 h4=>?_) (fun l er i4 op4 h4 e9 he9=>?_)) rfl;rotate_left
     ·rw[hr2,h4,qay] at hr;refine gah ?_;exact panP zb0 (by cases hr;rfl) zhp
     rw[hr2,h4,qau] at hr;refine zQ15 ?_;refine gab ?_;exact retP (v:=.mk 1 s [] [v] [] []) rfl (rC (rA (k:=6) rfl zm0 rfl (vA (bs:=[_,_,.list [],_,.list [],.list []]) ⟨vR _,vR _,vN,vR _,vN,vN,trivial⟩)) rN) (by cases hr;rfl) (by rw[qbk];rfl) (zhP zp2 zhn)
theorem qgC (sb:Nat) (T:List Tok) (hT:TOK T) (f:Nat) (hE:∀ g,g<=f->qko B0 w0 sb T g) (hB:qpW B0 w0 sb T f) (hM:qmT B0 w0 sb T f):qr2 B0 w0 sb T (f+1):=by
 intro i op r hi ho hr;have hl:=hT.len;obtain ⟨gL,_,_,_,gI,gA,_⟩:=qcQ T f;obtain ⟨kB,kL,kS,kM⟩:=qe1 T f;rw[qei] at hr;refine cI Tryz.func155 rfl (n:=38) rfl rfl rfl ?_;refine gag ?_;refine oS (sA fun b2=>?_) rfl;refine gaa ?_;refine oS (sH [_,_] rfl zp1 (qcE sb T i op kwIf hl zo) ?_) rfl;refine ga2 ?_;refine oC rfl (fun hc=>?_) (fun hc=>?_)
 ·have hlt:=qaG hc;rw[if_pos hc] at hr;simp only[hc,if_true];refine gaf ?_;obtain ⟨r1,hr1⟩:=qaU hr;refine oS (sP [_] rfl pH (hE f zo _ _ r1 zo zo hr1) (fun v i1 op1 h1=>?_) (fun l er i1 op1 h1 e9 he9=>?_)) rfl;rotate_left
  ·exact zT33
  rw[hr1,h1,qau] at hr;obtain ⟨g1,g2,g3,rfl⟩:=gL 0 _ _ _ (hr1.trans (congrArg some h1));have g4:=g3 zo;refine zQ15 ?_;refine gac ?_;refine oS (sA fun b3=>?_) rfl;refine gab ?_;obtain ⟨r2,hr2⟩:=qaU hr;refine oS (sP [_] rfl zp1 (hB _ _ r2 zo zo hr2) (fun th i2 op2 h2=>?_) (fun l er i2 op2 h2 e9 he9=>?_)) rfl;rotate_left
  ·rw[hr2,h2,qay] at hr;refine gah ?_;exact panP zb0 (by cases hr;rfl) zhp
  rw[hr2,h2,qau] at hr;obtain ⟨q1,q2,q3,rfl⟩:=kB _ _ _ (hr2.trans (congrArg some h2));have q4:=q3 zo;refine gab ?_;refine oS (sH [_,_] rfl zp1 (qcE sb T i2 op2 qlk hl zo) ?_) rfl;refine gam ?_;refine oC rfl (fun hc2=>?_) (fun hc2=>?_)
  ·have hlt2:=qaG hc2;rw[if_pos hc2] at hr;simp only[hc2,if_true];refine gaf ?_;obtain ⟨r3,hr3⟩:=qaU hr;refine oS (sP [_] rfl pH (hB _ _ r3 zo zo hr3) (fun el i3 op3 h3=>?_) (fun l er i3 op3 h3 e9 he9=>?_)) rfl;rotate_left
   ·rw[hr3,h3,qay] at hr;refine gah ?_;exact panP zb0 (by cases hr;rfl) zhp
   rw[hr3,h3,qau] at hr;refine gab ?_;exact retP (v:=.mk 3 [] [] [v] th el) rfl (rC (rA (k:=6) rfl zm0 rfl (vA (bs:=[_,_,.list [],_,_,_]) ⟨vR _,vR _,vN,vR _,vR _,vR _,trivial⟩)) rN) (by cases hr;rfl) (by rw[qbk];rfl) (zhP zp2 zhn)
  ·rw[if_neg (by rw[hc2];decide)] at hr;simp only[hc2,Bool.false_eq_true,if_false];refine gab ?_;exact retP (v:=.mk 3 [] [] [v] th []) rfl (rC (rA (k:=6) rfl zm0 rfl (vA (bs:=[_,_,.list [],_,_,.list []]) ⟨vR _,vR _,vN,vR _,vR _,vN,trivial⟩)) rN) (by cases hr;rfl) (by rw[qbk];rfl) (zhP zp1 zhn)
 ·rw[if_neg (by rw[hc];decide)] at hr;simp only[hc,Bool.false_eq_true,if_false];refine gaf ?_;refine oS (sH [_,_] rfl pH (qcE sb T i op qka hl zo) ?_) rfl;refine ga2 ?_;refine oC rfl (fun hc2=>?_) (fun hc2=>?_)
  ·have hlt:=qaG hc2;rw[if_pos hc2] at hr;simp only[hc2,if_true];refine gaf ?_;obtain ⟨r1,hr1⟩:=qaU hr;refine oS (sP [_] rfl pH (hE f zo _ _ r1 zo zo hr1) (fun v i1 op1 h1=>?_) (fun l er i1 op1 h1 e9 he9=>?_)) rfl;rotate_left
   ·exact zT33
   rw[hr1,h1,qau] at hr;obtain ⟨g1,g2,g3,rfl⟩:=gL 0 _ _ _ (hr1.trans (congrArg some h1));have g4:=g3 zo;refine zQ15 ?_;refine gac ?_;refine oS (sA fun b3=>?_) rfl;refine gab ?_;obtain ⟨r2,hr2⟩:=qaU hr;refine oS (sP [_] rfl zp1 (hB _ _ r2 zo zo hr2) (fun th i2 op2 h2=>?_) (fun l er i2 op2 h2 e9 he9=>?_)) rfl;rotate_left
   ·rw[hr2,h2,qay] at hr;refine gah ?_;exact panP zb0 (by cases hr;rfl) zhp
   rw[hr2,h2,qau] at hr;refine gab ?_;exact retP (v:=.mk 4 [] [] [v] th []) rfl (rC (rA (k:=6) rfl zm0 rfl (vA (bs:=[_,_,.list [],_,_,.list []]) ⟨vR _,vR _,vN,vR _,vR _,vN,trivial⟩)) rN) (by cases hr;rfl) (by rw[qbk];rfl) (zhP zp2 zhn)
  ·rw[if_neg (by rw[hc2];decide)] at hr;simp only[hc2,Bool.false_eq_true,if_false];refine gaa ?_;obtain ⟨r1,hr1⟩:=qaU hr;refine oS (sP [_] rfl pH (hM _ _ r1 zo zo hr1) (fun v i1 op1 h1=>?_) (fun l er i1 op1 h1 e9 he9=>?_)) rfl;rotate_left
   ·exact zT33
   rw[hr1,h1,qau] at hr;obtain ⟨g1,g2,g3,rfl⟩:=kM _ _ _ (hr1.trans (congrArg some h1));have g4:=g3 zo;refine oS (sA fun b5=>?_) rfl;refine gab ?_;refine oS (sP [_,_] rfl zp1 (qd4 sb T i1 op1 [59] hl zo) (fun u i2 op2 h2=>?_) (fun l er i2 op2 h2 e9 he9=>?_)) rfl;rotate_left
   ·rw[h2,qay] at hr;refine gah ?_;exact panP zb0 (by cases hr;rfl) zhp
   rw[h2,qau] at hr;refine gab ?_;exact retP (v:=v) rfl (rC (rA rfl zm0 rfl zsr) rN) (by cases hr;rfl) rfl (zhP zp1 zhn)
theorem qsH (hG:GW B0 w0) (sb:Nat) (T:List Tok) (hT:TOK T):∀ f:Nat,qpW B0 w0 sb T f/\qoM B0 w0 sb T f/\qr2 B0 w0 sb T f/\qmT B0 w0 sb T f:=by
 intro f
 induction f using Nat.strongRecOn with
 |_ f ih=>
  have hE:=fun g=>(qj5 (B0:=B0) (w0:=w0) hG sb T hT g).2
  cases f with
  |zero=>
   refine ⟨?_,qex sb T hT 0 (fun g hg=>by omega),?_,?_⟩
   ·intro i op r _ _ hr;rw[qcG] at hr;cases hr
   ·intro i op r _ _ hr;rw[qei] at hr;cases hr
   ·intro i op r _ _ hr;rw[qcx] at hr;cases hr
  |succ f=>
   have h:=ih f zo;exact ⟨qfy sb T hT f h.2.1,qex sb T hT _ (fun g hg=>(ih g hg).2.2.1),qgC sb T hT f (fun g _=>hE g) h.1 h.2.2.2,qme sb T hT f (fun g _=>hE g)⟩
end
end Go.Proofs.YthmhncflhnbedaaGreatDoor
namespace Go.Proofs.YthmhncflhnbedaaGreatDoor
open Go.GL Go.RowKit Go.Stele
theorem qgv (T:List Tok):∀ (f:Nat) (acc:List (List UInt8)) (i op:Nat) (l:List (List UInt8)) (i' op':Nat),qaR T f acc i op=some (.ok l i' op')->l.length+i<=acc.length+i'
 |0,_,_,_,_,_,_,h=>by rw[qaR] at h;cases h
 |f+1,acc,i,op,l,i',op',h=>by
  rw[qaR] at h;split at h
  ·rcases qaN h with ⟨s,i1,op1,h1,h2⟩|⟨l,e,_,hh⟩
   ·injection h1 with h1;obtain ⟨rfl,rfl,_⟩:=qdK h1;have:=qgv T f _ _ _ _ _ _ h2;rw[zLa,List.length_singleton] at this;omega
   ·cases hh
  ·cases h;omega
theorem qer {T:List Tok} {f i op:Nat} {l:List (List UInt8)} {i' op':Nat} (h:qeV T f i op=some (.ok l i' op')):l.length+i<=i':=by
 unfold qeV at h;rcases qaN h with ⟨s,i1,op1,h1,h2⟩|⟨l,e,_,hh⟩
 ·injection h1 with h1;obtain ⟨rfl,rfl,_⟩:=qdK h1;have:=qgv T f _ _ _ _ _ _ h2;rw[List.length_singleton] at this;omega
 ·cases hh
theorem qkm (T:List Tok):∀ (f:Nat) (acc:List (List UInt8)) (i op:Nat) (l:List (List UInt8)) (i' op':Nat),qc0 T f acc i op=some (.ok l i' op')->l.length+i<=acc.length+i'
 |0,_,_,_,_,_,_,h=>by rw[qc0] at h;cases h
 |f+1,acc,i,op,l,i',op',h=>by
  rw[qc0] at h;split at h
  ·rcases qaN h with ⟨s,i1,op1,h1,h2⟩|⟨l,e,_,hh⟩
   ·have:=qer h1;rcases qaN h2 with ⟨u,i2,op2,h3,h4⟩|⟨l,e,_,hh⟩
    ·injection h3 with h3;have hg:=qbb T [59] i1 op1;rw[h3] at hg;have hv:=qkm T f _ _ _ _ _ _ h4;have:=hg.1;rw[zLa] at hv;omega
    ·cases hh
   ·cases hh
  ·cases h;omega
attribute [local irreducible] LOps qae qag LCalls Go.GL.Pure qaA qaq qah LQ LAny qaF qap
section
variable {B0:Nat} {w0:World}
theorem qjj (sb:Nat) (T:List Tok) (hT:TOK T) (f i op:Nat) (r:Res (List (List UInt8))) (hi:i<=T.length) (hr:qc0 T f [] i op=some r) :
  LCalls (KC B0 w0) 46 [ptr sb 0] [srcH sb T i op] (qdy sb T qnG r):=by
 have hl:=hT.len;refine cI Tryz.func46 rfl (n:=13) rfl rfl rfl ?_;refine gaa ?_
 refine oL (fun k ls H=>∃ (v:LV) (l:List (List UInt8)) (i2:Nat) (Ha:Heap),k<=f/\ls=[(0,ptr sb 0),(3,v)]/\H=srcH sb T i2 op::Ha/\Acc 1 v (l.map str) Ha []/\i2<=T.length/\l.length<=i2/\qc0 T k l i2 op=some r)
  ⟨f,_,srcH sb T i op::[],⟨qaa,[],i,_,zNr _,rfl,rfl,Acc.nil,by omega,by simp,hr⟩,⟨rfl,rfl,trivial⟩,zhR _⟩ ?_
 rintro k ls H ⟨v,l,i2,Ha,hkf,rfl,rfl,hacc,hi2,hll,hI⟩ j hj
 obtain ⟨k,rfl⟩:∃ k',k=k'+1:=by
  cases k with
  |zero=>rw[qc0] at hI;cases hI
  |succ k=>exact ⟨k,rfl⟩
 rw[qc0] at hI;refine gaf ?_;refine oS (sH [_,_] rfl pH (qcE sb T i2 op qhH hl zo) ?_) rfl;refine gam ?_;refine oC rfl (fun hc=>?_) (fun hc=>?_)
 ·have hlt:=qaG hc;rw[if_pos hc] at hI;simp only[hc,if_true];refine gak ?_;refine qih ?_;obtain ⟨r2,hr2⟩:=qaU hI;refine oS (sP [_] rfl pH (qia sb T hT k (i2+1) op r2 zo hr2) (fun ns i4 op4 h4=>?_) (fun l er i4 op4 h4 e9 he9=>?_)) rfl;rotate_left
  ·rw[hr2,h4,qay] at hI;refine gah ?_;exact panP zb0 (by cases hI;rfl) zhp
  rw[hr2,h4,qau] at hI;obtain ⟨g1,g2,g3,rfl⟩:=qcN T k _ _ _ (hr2.trans (congrArg some h4));have g5:=g3 zo;have g6:=qer (hr2.trans (congrArg some h4));refine oS (S.acc1 (ms:=ns.map str) rfl hacc rfl (qa6 ns) (qbt ns) (by simp;omega) fun v' H' hacc'=>?_) rfl;refine zQ62 ?_;refine gan ?_;refine oS (sP [_,_] rfl pH (qd4 sb T i4 op4 [59] hl zo) (fun u i5 op5 h5=>?_) (fun l er i5 op5 h5 e9 he9=>?_)) rfl;rotate_left
  ·rw[h5,qay] at hI;refine gah ?_;exact panP zb0 (by cases hI;rfl) zhp
  rw[h5,qau] at hI;have hg5:=qbb T [59] i4 op4;rw[h5] at hg5;obtain ⟨k1,k2,k3,rfl⟩:=hg5;have k4:=k3 g5;refine gad ?_;exact ⟨k,_,_,by omega,⟨v',l++ns,i5,H',by omega,rfl,rfl,by rw[zMa];exact hacc',by omega,by rw[zLa];omega,hI⟩,⟨rfl,rfl,trivial⟩,zhR _,hj⟩
 ·rw[if_neg (by rw[hc];decide)] at hI;simp only[hc,Bool.false_eq_true,if_false];refine gaa ?_;refine zQ38 ?_;exact retP (v:=l) hj (rC (rT (v:=v) rfl hacc.sub) rN) (by cases hI;rfl) rfl zhp
theorem qem (hG:GW B0 w0) (sb:Nat) (T:List Tok) (hT:TOK T) (i op:Nat) (r:Res Ar) (hi:i<=T.length) (ho:op<=100) (hr:qfR T i op=some r) :
  LCalls (KC B0 w0) 48 [ptr sb 0] [srcH sb T i op] (qdy sb T qkM r):=by
 have hl:=hT.len;unfold qfR at hr;refine cI Tryz.func48 rfl (n:=18) rfl rfl rfl ?_;refine gag ?_;refine oS (sA fun b2=>?_) rfl;refine gan ?_;refine oS (sP [_,_] rfl zp1 (qd8 sb T i op 2 hl zo) (fun s i1 op1 h1=>?_) (fun l er i1 op1 h1 e9 he9=>?_)) rfl;rotate_left
 ·exact zT36
 rw[h1,qau] at hr;obtain ⟨rfl,rfl,t,ht,_,_⟩:=qdK h1;have:=qh9 ht;refine gac ?_;refine oS (sA fun b3=>?_) rfl;refine gaa ?_;refine oS (sP [_,_] rfl zp1 (qcm sb T (i+1) op1 [91] hl zo zo) (fun v i2 op2 h2=>?_) (fun l er i2 op2 h2 e9 he9=>?_)) rfl;rotate_left
 ·rw[h2,qay] at hr;refine gah ?_;exact panP zb0 (by cases hr;rfl) zhp
 rw[h2,qau] at hr;obtain ⟨rfl,rfl,ho1,hi1⟩:=qbu h2;refine gan ?_;refine oS (sP [_] rfl pH (qhh hG sb T hT (i+1+1) (op1+1) zo) (fun m i3 op3 h3=>?_) (fun l er i3 op3 h3 e9 he9=>?_)) rfl;rotate_left
 ·exact zT37
 rw[h3,qau] at hr;have hg3:=qed T (i+1+1) (op1+1);rw[h3] at hg3;obtain ⟨k1,k2,k3,rfl⟩:=hg3;have k4:=k3 zo
 have hm:m<=4294967295:=by
  unfold qb5 at h3;unfold Res.bind at h3;split at h3
  ·rename_i s2 i6 op6 h6
   cases h3;obtain ⟨_,_,t6,ht6,hk6,rfl⟩:=qdK h6;obtain ⟨u,hu,hp⟩:=hT.num t6 (List.mem_of_getElem? ht6) hk6;rw[qkr,hp];simp only;omega
  ·cases h3
 have hw:IntKind.i64.wrap (m:Int)=(m:Int):=qc4 zo;refine gab ?_;refine oS (sP [_,_] rfl zp1 (qeL sb T i3 (op1+1) [93] hl zo zo zo) (fun u i4 op4 h4=>?_) (fun l er i4 op4 h4 e9 he9=>?_)) rfl;rotate_left
 ·rw[h4,qay] at hr;refine gah ?_;exact panP zb0 (by cases hr;rfl) zhp
 rw[h4,qau] at hr;obtain ⟨rfl,rfl,hi4⟩:=qeE h4;refine gan ?_;refine oS (sP [_,_] rfl pH (qd4 sb T (i3+1) op4 [59] hl zo) (fun u2 i5 op5 h5=>?_) (fun l er i5 op5 h5 e9 he9=>?_)) rfl;rotate_left
 ·rw[h5,qay] at hr;refine gah ?_;exact panP zb0 (by cases hr;rfl) zhp
 rw[h5,qau] at hr;refine gab ?_;exact retP (v:=⟨s,m⟩) rfl (rC (rA (k:=2) rfl zm0 rfl zsr) rN) (by cases hr;rfl) (by show LV.agg [str s,int .i64 (IntKind.i64.wrap m)]=qkM ⟨s,m⟩;rw[hw];rfl) (zhP zp1 zhn)
theorem qkW (hG:GW B0 w0) (sb:Nat) (T:List Tok) (hT:TOK T) (f i op:Nat) (r:Res FnD) (hi:i<=T.length) (ho:op<=100) (hr:qiz T f i op=some r) :
  LCalls (KC B0 w0) 49 [ptr sb 0] [srcH sb T i op] (qdy sb T qav r):=by
 have hl:=hT.len;unfold qiz at hr;refine cI Tryz.func49 rfl (n:=29) rfl rfl rfl ?_;refine gag ?_;refine oS (sA fun b2=>?_) rfl;refine gan ?_;refine oS (sP [_,_] rfl zp1 (qd8 sb T i op 2 hl zo) (fun s i1 op1 h1=>?_) (fun l er i1 op1 h1 e9 he9=>?_)) rfl;rotate_left
 ·exact zT36
 rw[h1,qau] at hr;obtain ⟨rfl,rfl,t,ht,_,_⟩:=qdK h1;have:=qh9 ht;refine gac ?_;refine oS (sA fun b3=>?_) rfl;refine gab ?_;refine oS (sP [_,_] rfl zp1 (qcm sb T (i+1) op1 [40] hl zo zo) (fun v i2 op2 h2=>?_) (fun l er i2 op2 h2 e9 he9=>?_)) rfl;rotate_left
 ·rw[h2,qay] at hr;refine gah ?_;exact panP zb0 (by cases hr;rfl) zhp
 rw[h2,qau] at hr;obtain ⟨rfl,rfl,ho1,hi1⟩:=qbu h2;refine gan ?_;refine zQ15 ?_;refine oS (sH [_,_] rfl pH (qc7 sb T (i+1+1) (op1+1) [[41]] hl zo (by simp)) ?_) rfl;refine gad ?_;obtain ⟨r3,hr3⟩:=qaU hr
 refine qae.mid (A:=List (List UInt8)×Nat) (fun _=>[(0,ptr sb 0),(2,ptr b2 0),(3,ptr b3 0)]) (fun a=>(b3,.cells 84 [str s,.list (a.1.map str),qaa,qaa])::srcH sb T a.2 (op1+1)::[(b2,.cells 84 [str [],qaa,qaa,qaa])])
  (fun a=>i+1+1<=a.2/\a.2<=T.length/\r3=.ok a.1 a.2 (op1+1)) ?_ ?_
 ·refine oC rfl (fun hc=>?_) (fun hc=>?_)
  ·have hc':qaE T (i+1+1) [[41]]=false:=by simpa using hc
   rw[if_neg (by rw[hc'];decide)] at hr3;refine gaf ?_;refine oS (sP [_] rfl pH (qia sb T hT f (i+1+1) (op1+1) r3 zo hr3) (fun ns i3 op3 h3=>?_) (fun l er i3 op3 h3 e9 he9=>?_)) rfl
   ·obtain ⟨g1,g2,g3,rfl⟩:=qcN T f _ _ _ (hr3.trans (congrArg some h3));have g5:=g3 zo;refine gac ?_;exact ⟨(ns,i3),⟨by omega,g5,h3⟩,⟨rfl,rfl,rfl,trivial⟩,rfl,rfl⟩
   ·rw[if_neg (by rw[hc'];decide),hr3,h3,qay] at hr;refine gas ?_;exact panP (he9.trans rfl) (by cases hr;rfl) zhp
  ·have hc':qaE T (i+1+1) [[41]]=true:=by simpa using hc
   rw[if_pos hc'] at hr3;cases hr3;refine qae.cellSub zp1 (cs':=[str s,.list [],qaa,qaa]) ⟨vR _,vN,vR _,vR _,trivial⟩ ?_;refine gar ?_;exact ⟨([],i+1+1),⟨zNr _,by omega,rfl⟩,⟨rfl,rfl,rfl,trivial⟩,rfl,rfl⟩
 ·rintro ⟨ps,i3⟩ ⟨hi3,hi3T,rfl⟩ j hj;rw[hr3,qau] at hr;refine gaf ?_;refine oS (sP [_,_] rfl zp1 (qeL sb T i3 (op1+1) [41] hl zo zo zo) (fun u i4 op4 h4=>?_) (fun l er i4 op4 h4 e9 he9=>?_)) rfl;rotate_left
  ·rw[h4,qay] at hr;refine gah ?_;exact panP zb0 (by cases hr;rfl) zhp
  rw[h4,qau] at hr;obtain ⟨rfl,rfl,hi4⟩:=qeE h4;refine gan ?_;refine oS (sP [_,_] rfl pH (qcm sb T (i3+1) op4 [123] hl zo zo) (fun u2 i5 op5 h5=>?_) (fun l er i5 op5 h5 e9 he9=>?_)) rfl;rotate_left
  ·rw[h5,qay] at hr;refine gah ?_;exact panP zb0 (by cases hr;rfl) zhp
  rw[h5,qau] at hr;obtain ⟨rfl,rfl,ho5,hi5⟩:=qbu h5;refine gan ?_;obtain ⟨r6,hr6⟩:=qaU hr;refine oS (sP [_] rfl pH (qjj sb T hT f (i3+1+1) (op4+1) r6 zo hr6) (fun vs i6 op6 h6=>?_) (fun l er i6 op6 h6 e9 he9=>?_)) rfl;rotate_left
  ·rw[hr6,h6,qay] at hr;refine gah ?_;exact panP zb0 (by cases hr;rfl) zhp
  rw[hr6,h6,qau] at hr;obtain ⟨g1,g2,g3,rfl⟩:=qco T f _ _ _ _ (hr6.trans (congrArg some h6));have g4:=g3 zo;refine gab ?_;obtain ⟨r7,hr7⟩:=qaU hr;refine oS (sP [_] rfl zp1 ((qsH hG sb T hT f).2.1 i6 (op4+1) r7 zo zo hr7) (fun ss i7 op7 h7=>?_) (fun l er i7 op7 h7 e9 he9=>?_)) rfl;rotate_left
  ·rw[hr7,h7,qay] at hr;refine gah ?_;exact panP zb0 (by cases hr;rfl) zhp
  rw[hr7,h7,qau] at hr;obtain ⟨q1,q2,q3,rfl⟩:=(qe1 T f).2.1 _ _ _ _ (hr7.trans (congrArg some h7));have q4:=q3 zo;refine gab ?_;refine oS (sP [_,_] rfl zp1 (qeL sb T i7 (op4+1) [125] hl zo zo zo) (fun u3 i8 op8 h8=>?_) (fun l er i8 op8 h8 e9 he9=>?_)) rfl;rotate_left
  ·rw[h8,qay] at hr;refine gah ?_;exact panP zb0 (by cases hr;rfl) zhp
  rw[h8,qau] at hr;refine gab ?_;exact retP (v:=⟨s,ps,vs,ss⟩) hj (rC (rA (k:=4) rfl zm0 rfl zsr) rN) (by cases hr;rfl) rfl (zhP zp1 zhn)
end
end Go.Proofs.YthmhncflhnbedaaGreatDoor
