/- Texts joined: ChkW7, ChkW8, ChkW9, ChkW10, ChkW11, InpNodes, InpY3, InpX3, GlMut, GlClear, GlIntKey, MchOk, MchA. -/
import Derived.Test.YtdakelgkjdaijaaGreatDoorBRowTS4
import Derived.Test.YtdakelgkjdaijaaGreatDoorBRowTS5
import Derived.Test.YtdakelgkjdaijaaGreatDoorBRowTS6
import Derived.Test.YtdakelgkjdaijaaGreatDoorBRowTS7
import Derived.Test.YtdakelgkjdaijaaGreatDoorBRowTS8
import Derived.Test.YtdakelgkjdaijaaGreatDoorBRowTS9
import Derived.Test.YtdakelgkjdaijaaGreatDoorBRowTS10
set_option linter.unusedVariables false
set_option linter.unusedSimpArgs false
set_option maxRecDepth 100000
set_option maxHeartbeats 4000000
namespace Go.Proofs.YtdakelgkjdaijaaGreatDoor.Chk
open Go.GL Go.RowKit Go.Stele
theorem qwR {name:List UInt8} {index value:List Ex} {thn els:List Sm}:qbX (.mk 1 name index value thn els)=((!decide (name=[])) && decide (((index.map encE).length:Int)=0) && decide (((value.map encE).length:Int)=1) && decide (((thn.map encS).length:Int)=0) && decide (((els.map encS).length:Int)=0)):=by
 rw[Bool.eq_iff_iff];simp only[qbX,zBa,zDe,Bool.not_eq_true',decide_eq_false_iff_not,zLm];constructor
 ·exact zT19
 ·exact zT24
theorem qwq {name:List UInt8} {index value:List Ex} {thn els:List Sm}:qbX (.mk 2 name index value thn els)=((!decide (name=[])) && decide (((index.map encE).length:Int)=1) && decide (((value.map encE).length:Int)=1) && decide (((thn.map encS).length:Int)=0) && decide (((els.map encS).length:Int)=0)):=by
 rw[Bool.eq_iff_iff];simp only[qbX,zBa,zDe,Bool.not_eq_true',decide_eq_false_iff_not,zLm];constructor
 ·exact zT19
 ·exact zT24
theorem qwL {name:List UInt8} {index value:List Ex} {thn els:List Sm}:qbX (.mk 3 name index value thn els)=((!!decide (name=[])) && decide (((index.map encE).length:Int)=0) && decide (((value.map encE).length:Int)=1)):=by
 rw[Bool.eq_iff_iff];simp only[qbX,zBa,zDe,Bool.not_eq_true',decide_eq_false_iff_not,zLm];constructor
 ·intro h;have h':_:=zt h;obtain ⟨a1,a2,a3⟩:=h';exact ⟨⟨by simpa using a1,by omega⟩,by omega⟩
 ·rintro ⟨⟨a1,a2⟩,a3⟩;exact decide_eq_true ⟨by simpa using a1,by omega,by omega⟩
theorem qwS {name:List UInt8} {index value:List Ex} {thn els:List Sm}:qbX (.mk 4 name index value thn els)=((!!decide (name=[])) && decide (((index.map encE).length:Int)=0) && decide (((value.map encE).length:Int)=1) && decide (((els.map encS).length:Int)=0)):=by
 rw[Bool.eq_iff_iff];simp only[qbX,zBa,zDe,Bool.not_eq_true',decide_eq_false_iff_not,zLm];constructor
 ·intro h;have h':_:=zt h;obtain ⟨a1,a2,a3,a4⟩:=h';exact ⟨⟨⟨by simpa using a1,by omega⟩,by omega⟩,by omega⟩
 ·rintro ⟨⟨⟨a1,a2⟩,a3⟩,a4⟩;exact decide_eq_true ⟨by simpa using a1,by omega,by omega,by omega⟩
theorem qws {name:List UInt8} {index value:List Ex} {thn els:List Sm}:qbX (.mk 5 name index value thn els)=((!!decide (name=[])) && decide (((index.map encE).length:Int)=0) && decide (((value.map encE).length:Int)=1) && decide (((thn.map encS).length:Int)=0) && decide (((els.map encS).length:Int)=0)):=by
 rw[Bool.eq_iff_iff];simp only[qbX,zBa,zDe,Bool.not_eq_true',decide_eq_false_iff_not,zLm];constructor
 ·exact zT19
 ·exact zT24
theorem qwt {name:List UInt8} {index value:List Ex} {thn els:List Sm}:qbX (.mk 6 name index value thn els)=((!!decide (name=[])) && decide (((index.map encE).length:Int)=0) && decide (((value.map encE).length:Int)=1) && decide (((thn.map encS).length:Int)=0) && decide (((els.map encS).length:Int)=0) && decide (exOp (value.headD default)=[99,97,108,108])):=by
 rw[Bool.eq_iff_iff];simp only[qbX,zBa,zDe,Bool.not_eq_true',decide_eq_false_iff_not,zLm];constructor
 ·intro h;have h':_:=zt h;obtain ⟨a1,a2,a3,a4,a5,a6⟩:=h';exact ⟨⟨⟨⟨⟨by simpa using a1,by omega⟩,by omega⟩,by omega⟩,by omega⟩,a6⟩
 ·rintro ⟨⟨⟨⟨⟨a1,a2⟩,a3⟩,a4⟩,a5⟩,a6⟩;exact decide_eq_true ⟨by simpa using a1,by omega,by omega,by omega,by omega,a6⟩
theorem qwQ {name:List UInt8} {index value:List Ex} {thn els:List Sm}:qbX (.mk 7 name index value thn els)=((!!decide (name=[])) && decide (((index.map encE).length:Int)=0) && decide (((value.map encE).length:Int)=0) && decide (((thn.map encS).length:Int)=0) && decide (((els.map encS).length:Int)=0)):=by
 rw[Bool.eq_iff_iff];simp only[qbX,zBa,zDe,Bool.not_eq_true',decide_eq_false_iff_not,zLm];constructor
 ·exact zT19
 ·exact zT24
attribute [local irreducible] LOps qae qad LCalls Go.GL.Pure qax qaj qac LQ LAny qaE qal LS
section
variable {B0:Nat} {w0:World}
theorem qnD (s:Sm):LCalls (KC B0 w0) 237 [encS s] [] (Ret (bool (qbX s))):=by
 obtain ⟨kind,name,index,value,thn,els⟩:=s;rw[qcb];refine cI Tryz.func237 rfl (n:=159) rfl rfl rfl ?_;refine gah ?_;refine oS (sB rfl fun b1=>?_) rfl;refine gab ?_;refine qae.quiet zk ?_;refine gac ?_
 by_cases hk1:kind=1
 ·subst hk1;refine oC rfl (fun _=>?_) (fun hc=>by cases hc);rw[qwR];refine gag ?_;refine oB 28 rfl (fun q1=>?_) (fun q1=>?_);rotate_left
  ·exact zT14
  refine gab ?_;refine oB 32 rfl (fun q2=>?_) (fun q2=>?_);rotate_left
  ·exact zT11
  refine gab ?_;refine oB 36 rfl (fun q3=>?_) (fun q3=>?_);rotate_left
  ·exact zT17
  refine gab ?_;refine oB 40 rfl (fun q4=>?_) (fun q4=>?_);rotate_left
  ·exact zT23
  refine zQ3 ?_;simp only[q1,q2,q3,q4,Bool.true_and];rfl
 refine oC rfl (fun hc=>absurd (zt hc) hk1) (fun _=>?_);refine gai ?_
 by_cases hk2:kind=2
 ·subst hk2;refine oC rfl (fun _=>?_) (fun hc=>by cases hc);rw[qwq];refine gag ?_;refine oB 47 rfl (fun q1=>?_) (fun q1=>?_);rotate_left
  ·exact zT14
  refine gab ?_;refine oB 51 rfl (fun q2=>?_) (fun q2=>?_);rotate_left
  ·exact zT11
  refine gab ?_;refine oB 55 rfl (fun q3=>?_) (fun q3=>?_);rotate_left
  ·exact zT17
  refine gab ?_;refine oB 59 rfl (fun q4=>?_) (fun q4=>?_);rotate_left
  ·exact zT23
  refine zQ3 ?_;simp only[q1,q2,q3,q4,Bool.true_and];rfl
 refine oC rfl (fun hc=>absurd (zt hc) hk2) (fun _=>?_);refine gai ?_
 by_cases hk3:kind=3
 ·subst hk3;refine oC rfl (fun _=>?_) (fun hc=>by cases hc);rw[qwL];refine gac ?_;refine oB 67 rfl (fun q1=>?_) (fun q1=>?_);rotate_left
  ·exact zT14
  refine gab ?_;refine oB 71 rfl (fun q2=>?_) (fun q2=>?_);rotate_left
  ·exact zT11
  refine zQ3 ?_;simp only[q1,q2,Bool.true_and];rfl
 refine oC rfl (fun hc=>absurd (zt hc) hk3) (fun _=>?_);refine gai ?_
 by_cases hk4:kind=4
 ·subst hk4;refine oC rfl (fun _=>?_) (fun hc=>by cases hc);rw[qwS];refine gac ?_;refine oB 79 rfl (fun q1=>?_) (fun q1=>?_);rotate_left
  ·exact zT14
  refine gab ?_;refine oB 83 rfl (fun q2=>?_) (fun q2=>?_);rotate_left
  ·exact zT11
  refine gab ?_;refine oB 87 rfl (fun q3=>?_) (fun q3=>?_);rotate_left
  ·exact zT17
  refine zQ3 ?_;simp only[q1,q2,q3,Bool.true_and];rfl
 refine oC rfl (fun hc=>absurd (zt hc) hk4) (fun _=>?_);refine gai ?_
 by_cases hk5:kind=5
 ·subst hk5;refine oC rfl (fun _=>?_) (fun hc=>by cases hc);rw[qws];refine gac ?_;refine oB 95 rfl (fun q1=>?_) (fun q1=>?_);rotate_left
  ·exact zT14
  refine gab ?_;refine oB 99 rfl (fun q2=>?_) (fun q2=>?_);rotate_left
  ·exact zT11
  refine gab ?_;refine oB 103 rfl (fun q3=>?_) (fun q3=>?_);rotate_left
  ·exact zT17
  refine gab ?_;refine oB 107 rfl (fun q4=>?_) (fun q4=>?_);rotate_left
  ·exact zT23
  refine zQ3 ?_;simp only[q1,q2,q3,q4,Bool.true_and];rfl
 refine oC rfl (fun hc=>absurd (zt hc) hk5) (fun _=>?_);refine gai ?_
 by_cases hk6:kind=6
 ·subst hk6;refine oC rfl (fun _=>?_) (fun hc=>by cases hc);rw[qwt];refine gac ?_;refine oB 115 rfl (fun q1=>?_) (fun q1=>?_);rotate_left
  ·exact zT14
  refine gab ?_;refine oB 119 rfl (fun q2=>?_) (fun q2=>?_);rotate_left
  ·exact zT11
  refine gab ?_;refine oB 123 rfl (fun q3=>?_) (fun q3=>?_);rotate_left
  ·exact zT17
  refine gab ?_;refine oB 127 rfl (fun q4=>?_) (fun q4=>?_);rotate_left
  ·exact zT23
  refine gab ?_;refine oB 131 rfl (fun q5=>?_) (fun q5=>?_);rotate_left
  ·refine zQ3 ?_;simp only[q1,q2,q3,q4,q5,Bool.false_and,Bool.and_false,Bool.true_and];rfl
  refine gab ?_
  obtain ⟨x0,rfl⟩:∃ x,value=[x]:=by
   have h1:((value.map encE).length:Int)=1:=zt q3;rw[zLm] at h1
   cases value with
   |nil=>simp at h1
   |cons x l=>
    cases l with
    |nil=>exact ⟨x,rfl⟩
    |cons y l=>simp at h1;omega
  first|refine LOps.want rfl rfl ?_|skip
  refine oP (xR (el':=encE x0) (cs:=[_,_,_,_]) rfl rfl zo rfl rfl rfl) rfl ?_;refine gad ?_;refine rR rfl (zra rfl) zhn ⟨?_,rfl⟩;simp only[q1,q2,q3,q4,q5,Bool.true_and];rfl
 refine oC rfl (fun hc=>absurd (zt hc) hk6) (fun _=>?_);refine gai ?_
 by_cases hk7:kind=7
 ·subst hk7;refine oC rfl (fun _=>?_) (fun hc=>by cases hc);rw[qwQ];refine gac ?_;refine oB 143 rfl (fun q1=>?_) (fun q1=>?_);rotate_left
  ·exact zT14
  refine gab ?_;refine oB 147 rfl (fun q2=>?_) (fun q2=>?_);rotate_left
  ·exact zT11
  refine gab ?_;refine oB 151 rfl (fun q3=>?_) (fun q3=>?_);rotate_left
  ·exact zT17
  refine gab ?_;refine oB 155 rfl (fun q4=>?_) (fun q4=>?_);rotate_left
  ·exact zT23
  refine zQ3 ?_;simp only[q1,q2,q3,q4,Bool.true_and];rfl
 refine oC rfl (fun hc=>absurd (zt hc) hk7) (fun _=>?_);refine gaa ?_;refine rR rfl (zra rfl) zhn ⟨?_,rfl⟩
 have hf:qbX (.mk kind name index value thn els)=false:=by
  simp only[qbX];rw[if_neg hk1,if_neg hk2,if_neg hk3,if_neg hk4,if_neg hk5,if_neg hk6,if_neg hk7]
 rw[hf];rfl
end
end Go.Proofs.YtdakelgkjdaijaaGreatDoor.Chk
namespace Go.Proofs.YtdakelgkjdaijaaGreatDoor.Chk
open Go.GL Go.RowKit Go.Stele
theorem qjl {kind:Int} {name:List UInt8} {index value:List Ex} {thn els:List Sm} (h:qbX (.mk kind name index value thn els)=true) (h2:¬ kind=2):index=[]:=by
 have h1:index.length=0:=by
  simp only[qbX] at h
  repeat' (split at h)
  all_goals first
   |(simp only[zDe] at h;omega)
   |cases h
   |contradiction
 exact List.length_eq_zero_iff.1 h1
theorem qfH {kind:Int} {name:List UInt8} {index value:List Ex} {thn els:List Sm} (h:qbX (.mk kind name index value thn els)=true) (h3:¬ kind=3) (h4:¬ kind=4):thn=[]/\els=[]:=by
 have h1:thn.length=0/\els.length=0:=by
  simp only[qbX] at h
  repeat' (split at h)
  all_goals first
   |(simp only[zDe] at h;constructor <;> omega)
   |cases h
   |contradiction
 exact ⟨List.length_eq_zero_iff.1 h1.1,List.length_eq_zero_iff.1 h1.2⟩
theorem qpZ {name:List UInt8} {index value:List Ex} {thn els:List Sm} (h:qbX (.mk 7 name index value thn els)=true):value=[]:=by
 have h1:value.length=0:=by
  simp only[qbX] at h
  repeat' (split at h)
  all_goals first
   |(simp only[zDe] at h;omega)
   |cases h
   |contradiction
 exact List.length_eq_zero_iff.1 h1
attribute [local irreducible] LOps qae qad LCalls Go.GL.Pure qax qaj qac LQ LAny qaE qal LS
section
variable {B0:Nat} {w0:World}
def qwr (B0:Nat) (w0:World) (k:KB) (c:CEnv) (n:Nat):Prop:=∀ (x:Sm) (d:Nat),ndS x<=n->d<=200000000->LCalls (KC B0 w0) 210 [ptr k.cb 0,encS x] (ckH k d) (qhz (errS c x) (iv (ql0 c x)) (ckH k (max d (depS c x))))
def qwO (B0:Nat) (w0:World) (k:KB) (c:CEnv) (n:Nat):Prop:=∀ (l:List Sm) (d:Nat),ndSs l<=n->d<=200000000->LCalls (KC B0 w0) 178 [ptr k.cb 0,.list (l.map encS)] (ckH k d) (qhz (qcr c l) (iv (qcq c l)) (ckH k (max d (qcW c l))))
theorem qex {k:KB} {c:CEnv} {B D:Nat} (hB:KnB B D c.funcs) (hD8:D<=100000000) {n:Nat} (hn6:n<=2000000) (ih:qwr B0 w0 k c n):qwO B0 w0 k c n:=by
 intro l d hnd hd;have hal:=qeM l;generalize hN:qcq c l=N;generalize hDD:max d (qcW c l)=DD;refine cI Tryz.func178 rfl (n:=21) rfl rfl rfl ?_;refine gaa ?_
 refine oL (fun kk ls H'=>∃ (pre l1:List Sm) (m d1:Nat),l=pre++l1/\kk=l1.length/\ls=[(0,ptr k.cb 0),(5,iv m),(8,.list (l.map encS)),(9,int .i64 ((l.map encS).length:Int)),(10,iv pre.length)]/\H'=ckH k d1/\d1<=200000000/\qcr c l1=qcr c l/\max m (qcq c l1)=N/\max d1 (qcW c l1)=DD)
  ⟨l.length,_,_,⟨[],l,0,d,rfl,rfl,rfl,rfl,hd,rfl,by omega,hDD⟩,⟨rfl,rfl,rfl,rfl,rfl,trivial⟩,zhR _⟩ ?_
 rintro kk ls H' ⟨pre,l1,m,d1,hLe,rfl,rfl,rfl,hd1,hE,hM,hD1⟩ j hj
 have hb2:pre.length<=2000000:=by
  have:=congrArg List.length hLe;rw[zLa] at this;omega
 refine gaj ?_;refine oC rfl (fun hc=>?_) (fun hc=>?_)
 ·have hlen:=zt hc;rw[zLm,hLe,zLa] at hlen
  obtain ⟨a,l2,rfl⟩:∃ a l2,l1=a::l2:=by
   cases l1 with
   |nil=>simp at hlen
   |cons a l2=>exact ⟨a,l2,rfl⟩
  have ham:ndS a<=n:=by
   have h1:∀ (p:List Sm) (x:Sm) (r:List Sm),ndS x<=ndSs (p++x::r):=fun p=>by
    induction p with
    |nil=>intro x r;show ndS x<=ndSs (x::r);rw[ndSs];omega
    |cons y p ih2=>intro x r;show ndS x<=ndSs (y::(p++x::r));rw[ndSs];have:=ih2 x r;omega
   have:=h1 pre a l2;rw[<-hLe] at this;omega
  rw[qcr] at hE;rw[qcq] at hM;rw[qcW] at hD1;have hda:=qr8 B D c hB a;refine gam ?_;refine oP (xR (el':=encS a) (cs:=[_,_,_,_,_,_]) rfl rfl zo (by rw[hLe];exact get_mid encS pre a l2) rfl rfl) rfl ?_;refine gad ?_;refine oS (sA fun b7=>?_) rfl;refine gac ?_;refine oS (sK [_,_] rfl (Inp.swap1) (ih a d1 ham hd1) (fun h0=>?_) (fun nm h0 e' he'=>?_)) rfl
  ·rw[h0] at hE;refine oP (Pure.max2e m (ql0 c a) rfl rfl rfl rfl) rfl ?_;refine gaa ?_;exact ⟨l2.length,_,_,Nat.lt_succ_self _,⟨pre++[a],l2,max m (ql0 c a),max d1 (depS c a),by rw[hLe];simp,rfl,rfl,rfl,by omega,hE,by omega,by omega⟩,⟨rfl,rfl,rfl,rfl,qak (by simp),trivial⟩,qaF,hj⟩
  ·refine gae ?_;exact panK (he'.trans hj) (by rw[<-hE];unfold orE;rw[if_pos h0]) h0
 ·have hlen:=zf hc;rw[zLm,hLe,zLa] at hlen
  obtain rfl:l1=[]:=by
   cases l1 with
   |nil=>rfl
   |cons a l2=>simp at hlen;omega
  rw[qcq] at hM;rw[qcW] at hD1;have e1:m=N:=by omega
  have e2:d1=DD:=by omega
  subst e1 e2;refine gaa ?_;exact retK hj (zra rfl) (hE.symm.trans rfl) rfl zhr
theorem qg0 {k:KB} {c:CEnv} (hk:KBok k c) {B D:Nat} (hB:KnB B D c.funcs) (hB8:B<=50000000) (hD8:D<=100000000):∀ n:Nat,n<=2000000->qwr B0 w0 k c n
 |0,_=>fun x d h _=>by have:=qnp x;omega
 |n+1,hn6=>by
  have ihs:=qex (B0:=B0) (w0:=w0) hB hD8 (n:=n) zo (qg0 hk hB hB8 hD8 n zo);have hX:qv1 B0 w0 k c n:=qd3 hk hB zo hD8 n zo;intro x d hnd hd;obtain ⟨kind,name,index,value,thn,els⟩:=x;rw[ndS] at hnd;generalize hI:errS c (Sm.mk kind name index value thn els)=E;rw[errS] at hI;generalize hN:ql0 c (Sm.mk kind name index value thn els)=N;rw[ql0] at hN;generalize hDD:max d (depS c (Sm.mk kind name index value thn els))=DD;rw[depS] at hDD;have hfs:=qnD (B0:=B0) (w0:=w0) (Sm.mk kind name index value thn els);rw[qcb] at hfs ⊢;refine cI Tryz.func210 rfl (n:=65) rfl rfl rfl ?_;refine gah ?_;refine oS (sB rfl fun b3=>?_) rfl;refine gab ?_;refine cM (A:=Unit) (fun _=>[(0,ptr k.cb 0),(3,ptr b3 0)]) (fun _=>(b3,.cells 134 [int .i64 kind,str name,.list (index.map encE),.list (value.map encE),.list (thn.map encS),.list (els.map encS)])::ckH k d) (fun _=>qbX (Sm.mk kind name index value thn els)=true) ?_ (fun _ hform j hj=>?_)
  ·refine cD (m:=7) rfl [(b3,.cells 134 [int .i64 kind,str name,.list (index.map encE),.list (value.map encE),.list (thn.map encS),.list (els.map encS)]),(k.cb,.cells 142 [.atom (.map (some k.gm)),.atom (.map (some k.vm)),.atom (.map (some k.am)),.atom (.map (some k.fm)),str k.name,.atom (.map (some k.om)),int .i64 (d:Int)])] ?_;refine aT 0 rfl rfl (pG (cs':=[_,_,_,_,_,_]) rfl zm0 rfl rfl) ?_;refine zQ39 ?_;refine aT 3 rfl rfl (pN rfl) ?_;refine aT 4 rfl rfl (pF rfl) ?_;refine aT 5 rfl rfl (pL (c:=.atom _) rfl zm1 rfl) ?_;refine aL ?_ (zhP pH zhp);refine lO 1 (lS (H1:=[]) rfl (.inl rfl) rfl zpr (zhP pH zhp) (sF [_] rfl hfs ?_))
   cases hf:qbX (Sm.mk kind name index value thn els) with
   |true=>
    refine lO 6 (lS (H1:=[]) rfl (.inl rfl) rfl zpr (zhP pH zhp) (qad.callK [_,_,_] rfl (qaz true k.name 3 zDd) (fun _=>?_) (fun nm h=>absurd rfl h)));refine lD zk ?_;refine qN ?_
    exact ⟨(),rfl,⟨rfl,rfl,trivial⟩,zhR _,rfl⟩
   |false=>
    rw[hf,if_pos rfl] at hI;refine lO 6 (lS (H1:=[]) rfl (.inl rfl) rfl zpr (zhP pH zhp) (qad.callK [_,_,_] rfl (qaz false k.name 3 zDd) (fun h=>absurd h zDd) (fun nm _ e' he'=>?_)));refine gak ?_;exact panK (he'.trans rfl) (by rw[<-hI];rfl) zDd
  rw[hform,if_neg zDd] at hI;refine gaa ?_
  by_cases h7:kind=7
  ·subst h7;obtain rfl:=qpZ hform;obtain rfl:=qjl hform zDd;obtain ⟨rfl,rfl⟩:=qfH hform zDd zDd;refine oC rfl (fun _=>?_) (fun hc=>by cases hc);refine gar ?_
   have e2:d=DD:=by
    rw[<-hDD];simp only[qde,qcW];omega
   subst e2;exact retK hj (zra rfl) (by rw[<-hI];rfl) (by rw[<-hN];rfl) (zhD zhr)
  refine oC rfl (fun hc=>absurd (zt hc) h7) (fun _=>?_);obtain ⟨x0,rfl⟩:=Inp.form_value hform h7;rw[if_neg h7] at hN
  have hnx:ndE x0<=n:=by
   rw[ndEs,ndEs] at hnd;omega
  have hdx:=qnr B D c hB x0;have hnx0:=qf2 B D c hB x0
  have hEv:∀ E2,orE (qb6 c [x0]) E2=orE (errE c x0) E2:=fun E2=>by
   rw[qb6,qb6];unfold orE
   by_cases h:errE c x0≠0
   ·rw[if_pos h,if_pos h]
   ·rw[if_neg h,if_neg zDd,if_neg h]
  rw[hEv] at hI;rw[show ([x0]:List Ex).headD default=x0 from rfl] at hN
  have hDx:qde c [x0]=depE c x0:=by
   rw[qde,qde];omega
  rw[hDx] at hDD;refine gaa ?_;refine oP (xR (el':=encE x0) (cs:=[_,_,_,_]) rfl rfl zo rfl rfl rfl) rfl ?_;refine gad ?_;refine oS (sK [_,_] rfl (Inp.swap1) (hX x0 d hnx hd) (fun h0=>?_) (fun nm h0 e' he'=>?_)) rfl;rotate_left
  ·refine gak ?_;exact panK (he'.trans hj) (by rw[<-hI];unfold orE;rw[if_pos h0]) h0
  rw[h0,show ∀ E2,orE 0 E2=E2 from fun E2=>rfl] at hI;generalize hd1:max d (depE c x0)=d1;refine LOps.perm (Inp.swap1 (H:=ckH k d1)).symm ?_;refine gaa ?_
  by_cases hk1:kind=1
  ·subst hk1;obtain rfl:=qjl hform zDd;obtain ⟨rfl,rfl⟩:=qfH hform zDd zDd
   have hI4:qcA c name=E:=by
    rw[<-hI];simp only[qb6,qcr];unfold orE
    by_cases ha:qcA c name=0 <;> simp[ha]
   refine oC rfl (fun _=>?_) (fun hc=>by cases hc);refine gaa ?_;refine oS (sK [_,_] rfl (Inp.swap1) (qbK hk d1 name) (fun h1=>?_) (fun nm h1 e' he'=>?_)) rfl
   ·rw[hI4] at h1;refine gaa ?_;refine oP (Pure.max2e 2 (qdr c x0) rfl rfl rfl rfl) rfl ?_;refine gaf ?_
    have e2:d1=DD:=by
     rw[<-hDD,<-hd1];simp only[qde,qcW];omega
    subst e2;refine retK hj (zra rfl) h1 ?_ qaF;rw[<-hN];simp only[qcq];exact qak (by simp)
   ·refine gae ?_;exact panK (he'.trans hj) hI4.symm h1
  refine oC rfl (fun hc=>absurd (zt hc) hk1) (fun _=>?_);rw[if_neg hk1] at hI;refine gai ?_
  by_cases hk2:kind=2
  ·subst hk2;obtain ⟨i0,rfl⟩:=Inp.form_index hform;obtain ⟨rfl,rfl⟩:=qfH hform zDd zDd
   have hni:ndE i0<=n:=by
    rw[ndEs,ndEs,ndEs,ndEs] at hnd;omega
   have hdi:=qnr B D c hB i0;have hni0:=qf2 B D c hB i0
   have hI4:orE (errE c i0) (qfF c name)=E:=by
    rw[<-hI];simp only[qb6,qcr];unfold orE
    by_cases ha:errE c i0=0 <;> by_cases hb:qfF c name=0 <;> simp[ha,hb]
   refine oC rfl (fun _=>?_) (fun hc=>by cases hc);refine gaa ?_;refine oP (xR (el':=encE i0) (cs:=[_,_,_,_]) rfl rfl zo rfl rfl rfl) rfl ?_;refine gad ?_;refine oS (sK [_,_] rfl (Inp.swap1) (hX i0 d1 hni zo) (fun h1=>?_) (fun nm h1 e' he'=>?_)) rfl;rotate_left
   ·refine gae ?_;exact panK (he'.trans hj) (by rw[<-hI4];unfold orE;rw[if_pos h1]) h1
   rw[h1] at hI4;refine LOps.perm (Inp.swap1 (H:=ckH k (max d1 (depE c i0)))).symm ?_;refine gaa ?_;refine oS (sK [_,_] rfl (Inp.swap1) (qer hk (max d1 (depE c i0)) name) (fun h2=>?_) (fun nm h2 e' he'=>?_)) rfl
   ·refine gaa ?_;refine oP (Pure.max2e (qdr c x0) (2+qdr c i0) rfl rfl rfl zo) rfl ?_;refine gab ?_
    have e2:max d1 (depE c i0)=DD:=by
     rw[<-hDD,<-hd1];simp only[qde,qcW];omega
    rw[<-e2];exact retK hj (zra rfl) (hI4.symm.trans h2) (by rw[<-hN];rfl) qaF
   ·refine gae ?_;exact panK (he'.trans hj) hI4.symm h2
  refine oC rfl (fun hc=>absurd (zt hc) hk2) (fun _=>?_);obtain rfl:=qjl hform hk2;rw[if_neg hk2] at hI hN;refine gai ?_
  by_cases hk5:kind=5
  ·subst hk5;obtain ⟨rfl,rfl⟩:=qfH hform zDd zDd;refine oC rfl (fun _=>?_) (fun hc=>by cases hc);refine gaa ?_
   have e2:d1=DD:=by
    rw[<-hDD,<-hd1];simp only[qde,qcW];omega
   subst e2;exact retK hj (zra rfl) (by rw[<-hI];rfl) (by rw[<-hN];rfl) (zhD zhr)
  refine oC rfl (fun hc=>absurd (zt hc) hk5) (fun _=>?_);rw[if_neg hk5] at hN
  have hI5:orE (qcr c thn) (qcr c els)=E:=by
   rw[<-hI];simp only[qb6];rfl
  refine gai ?_
  by_cases hk3:kind=3
  ·refine oC rfl (fun _=>?_) (fun hc=>absurd hk3 (zf hc));refine gaq ?_;refine oC rfl (fun _=>?_) (fun hc=>absurd hk3 (zf hc));refine zQ16 ?_;refine aL ?_ zhp;refine lO 4 (lS (H1:=ckH k d1) rfl (.inl rfl) rfl Inp.swap1 zhr (qad.callK [_,_] rfl (ihs thn d1 (by rw[ndEs,ndEs,ndEs] at hnd;omega) zo) (fun h1=>?_) (fun nm h1 e' he'=>?_)));rotate_left
   ·refine gae ?_;exact panK (he'.trans hj) (by rw[<-hI5];unfold orE;rw[if_pos h1]) h1
   rw[h1] at hI5;have hdt:=qeB B D c hB thn;refine lO 8 (lS (H1:=ckH k (max d1 (qcW c thn))) rfl (.inl rfl) rfl zpr zhr (qad.callK [_,_] rfl (ihs els (max d1 (qcW c thn)) (by rw[ndEs,ndEs,ndEs] at hnd;omega) zo) (fun h2=>?_) (fun nm h2 e' he'=>?_)));rotate_left
   ·refine gae ?_;exact panK (he'.trans hj) hI5.symm h2
   refine zQ26 ?_
   have e2:max (max d1 (qcW c thn)) (qcW c els)=DD:=by
    rw[<-hDD,<-hd1];simp only[qde];omega
   rw[<-e2];exact retK hj (zra rfl) (hI5.symm.trans h2) (by rw[<-hN];rfl) qaF
  refine oC rfl (fun hc=>absurd (zt hc) hk3) (fun _=>?_);refine gai ?_
  by_cases hk4:kind=4
  ·refine oC rfl (fun _=>?_) (fun hc=>absurd hk4 (zf hc));refine zQ16 ?_;refine aL ?_ zhp;refine lO 4 (lS (H1:=ckH k d1) rfl (.inl rfl) rfl Inp.swap1 zhr (qad.callK [_,_] rfl (ihs thn d1 (by rw[ndEs,ndEs,ndEs] at hnd;omega) zo) (fun h1=>?_) (fun nm h1 e' he'=>?_)));rotate_left
   ·refine gae ?_;exact panK (he'.trans hj) (by rw[<-hI5];unfold orE;rw[if_pos h1]) h1
   rw[h1] at hI5;have hdt:=qeB B D c hB thn;refine lO 8 (lS (H1:=ckH k (max d1 (qcW c thn))) rfl (.inl rfl) rfl zpr zhr (qad.callK [_,_] rfl (ihs els (max d1 (qcW c thn)) (by rw[ndEs,ndEs,ndEs] at hnd;omega) zo) (fun h2=>?_) (fun nm h2 e' he'=>?_)));rotate_left
   ·refine gae ?_;exact panK (he'.trans hj) hI5.symm h2
   refine zQ26 ?_
   have e2:max (max d1 (qcW c thn)) (qcW c els)=DD:=by
    rw[<-hDD,<-hd1];simp only[qde];omega
   rw[<-e2];exact retK hj (zra rfl) (hI5.symm.trans h2) (by rw[<-hN];rfl) qaF
  refine oC rfl (fun hc=>absurd (zt hc) hk4) (fun _=>?_);obtain ⟨rfl,rfl⟩:=qfH hform hk3 hk4;refine gaa ?_;refine oP (Pure.max2e 2 (qdr c x0) rfl rfl rfl rfl) rfl ?_;refine gaf ?_
  have e2:d1=DD:=by
   rw[<-hDD,<-hd1];simp only[qde,qcW];omega
  subst e2;refine retK hj (zra rfl) (by rw[<-hI5];rfl) ?_ (zhD zhr);rw[<-hN];simp only[qcq];exact qak (by simp)
end
end Go.Proofs.YtdakelgkjdaijaaGreatDoor.Chk
namespace Go.Proofs.YtdakelgkjdaijaaGreatDoor.Chk
open Go.GL Go.RowKit Go.Stele
theorem qp3 {X A L:Heap} (h:HSub X L):HSub X (A++L):=
 let ⟨G,hG⟩:=h
 ⟨A++G,(List.Perm.append_left A hG).trans (by
  rw[<-zAs,<-zAs]
  exact zPc.append_right G)⟩
def pgH (k:KB) (o:Value) (d:Nat):Heap:=[(k.cb,.cells 142 [.atom (.map (some k.gm)),.atom (.map (some k.vm)),.atom (.map (some k.am)),.atom (.map (some k.fm)),str k.name,.atom o,int .i64 (d:Int)]),(k.gm,.map (kvs k.G) k.g1),(k.vm,.map (kvs k.V) k.g2),(k.am,.map (kvs k.A) k.g3),(k.fm,.map (kvs k.F) k.g4)]
def qjZ (err:Int) (P:Heap->Prop) (r:LRes) (H:Heap):Prop:=(err=0/\r=.ret (.tuple [])/\P H)∨(err≠0/\(∃ nm,r=.panic (vio nm err))/\H=[])
section
variable {C:Ctx} {n:Nat} {e:Env} {H:Heap} {dst:Option Nat} {ty:TypeId} {pos:String} {aft:Array Edge} {g:Option (Nat×Bool)} {K:LV->Heap->Prop} {X:List PanicEntry->Heap->Prop}
theorem S.callE {err:Int} {P:Heap->Prop} {H1 F:Heap} {f:FuncId} [TEnter C.P f] (args:List Operand) {ats:Array TypeId} {av:List LV} (has:args.map e.ev=av) (hp:H.Perm (H1++F))
  (hc:LCalls C f av H1 (qjZ err P)) (hk:∀ H',err=0->P H'->K (.tuple []) (H'++F)) (hx:∀ nm,err≠0->X (vio nm err) F):qad C ⟨dst,.call { callee:=.value (.func f),args:=args.toArray,argTypes:=ats },ty,pos,aft,g⟩ e H K X:=by
 refine S.callH args has hp hc ?_ ?_
 ·rintro v H2 (⟨h1,h2,h3⟩|⟨_,⟨nm,h2⟩,_⟩)
  ·cases h2;exact hk _ h1 h3
  ·cases h2
 ·rintro ch H2 (⟨_,h2,_⟩|⟨h1,⟨nm,h2⟩,rfl⟩)
  ·cases h2
  ·cases h2;exact hx nm h1
theorem qvx {err:Int} {P:Heap->Prop} {H':Heap} {rs:List ResultVar} {vs:List LV} (hd:e.ds=[]) (h:qbA C n e H rs vs) (he:err=0) (hv:qbq vs=.tuple []) (hH:HSub H' H) (hP:P H'):qac C n rs (qjZ err P) .normal e H:=
 rO hd h hH (.inl ⟨he,by rw[hv],hP⟩)
theorem panE {err er:Int} {P:Heap->Prop} {rs:List ResultVar} {nm:List UInt8} (hd:e.ds=[]) (he:err=er) (h0:er≠0):qac C n rs (qjZ err P) (.panic (vio nm er)) e H:=
 qac.panic hd zhn (.inr ⟨by rw[he];exact h0,⟨nm,by rw[he]⟩,rfl⟩)
end
def newE (known:List Nm) (s:Nm):Int:=if isNm s=false then 7 else if s∈known then 8 else 0
theorem qd4 (known:List Nm) (s:Nm) (l:List Nm):qb1 known (s::l)=orE (newE known s) (qb1 (s::known) l):=by
 rw[qb1];unfold newE;split
 ·rfl
 split
 ·rfl
 ·rfl
theorem qhD:∀ (l k k':List Nm),(∀ s,s∈k ↔ s∈k')->qb1 k l=qb1 k' l
 |[],_,_,_=>rfl
 |s::l,k,k',h=>by
  have h2:newE k s=newE k' s:=by
   unfold newE;simp only[h s]
  rw[qd4,qd4,h2,qhD l (s::k) (s::k') (fun x=>by simp[h x])]
attribute [local irreducible] LOps qae qad LCalls Go.GL.Pure qax qaj qac LQ LAny qaE qal LS
section
variable {B0:Nat} {w0:World}
theorem qgq {k:KB} {o:Value} {d:Nat} {known:List Nm} (hG:qdE k.G known) (s:Nm):LCalls (KC B0 w0) 121 [ptr k.cb 0,str s] (pgH k o d)
  (qjZ (newE known s) (fun H=>∃ g1,H=pgH { k with G:=GL.kvPut k.G s (bool true),g1:=g1 } o d)):=by
 generalize hI:newE known s=E;unfold newE at hI;refine cI Tryz.func121 rfl (n:=22) rfl rfl rfl ?_;refine gag ?_;refine oS (sF [_] rfl (qeX s) ?_) rfl;refine gab ?_
 cases hn:isNm s with
 |false=>
  rw[if_pos hn] at hI;refine oS (sK (H1:=[]) (F:=pgH k o d) [_,_,_] rfl zpr (qaz false s 7 zDd) (fun h=>absurd h zDd) (fun nm _ e' he'=>?_)) rfl;refine gak ?_
  exact panE (he'.trans rfl) hI.symm zDd
 |true=>
  rw[if_neg (by rw[hn];decide)] at hI;refine oS (sK (H1:=[]) (F:=pgH k o d) [_,_,_] rfl zpr (qaz true s 7 zDd) (fun _=>?_) (fun nm h=>absurd rfl h)) rfl;refine gaa ?_;refine oP (Pure.setHas rfl rfl zm1 hG) rfl ?_;refine oB 13 rfl (fun h1=>?_) (fun h1=>?_)
  ·rw[if_pos (zt h1)] at hI;refine gad ?_;refine oS (sK (H1:=[]) (F:=pgH k o d) [_,_,_] rfl zpr (qaz false s 8 zDd) (fun h=>absurd h zDd) (fun nm _ e' he'=>?_)) rfl;refine gak ?_;exact panE (he'.trans rfl) hI.symm zDd
  ·rw[if_neg (zf h1)] at hI;refine gad ?_;refine oS (sK (H1:=[]) (F:=pgH k o d) [_,_,_] rfl zpr (qaz true s 8 zDd) (fun _=>?_) (fun nm h=>absurd rfl h)) rfl;refine gaa ?_;refine oS (S.kvSet (k:=s) (lv:=bool true) rfl rfl rfl zp1 fun g1=>?_) rfl;refine gaf ?_;exact qvx rfl rN hI.symm rfl ⟨[],by rw[zLz];exact List.Perm.swap _ _ _⟩ ⟨g1,rfl⟩
theorem qkM {vars arrays later:List Nm} {known:List FSum} {k:KB} {o:Value} {d:Nat} (f:FnD) (hG:qdE k.G (vars++arrays++later)) (hV:qdE k.V vars) (hA:qdE k.A arrays) (hF:∀ n,GL.kvGet k.F n=(known.find? fun g=>decide (g.name=n)).map qjg) (hnew:f.name ∉ known.map (·.name))
  {B D:Nat} (hB:KnB B D known) (hB8:B<=50000000) (hD8:D<=100000000) (hnd:ndF f<=2000000) :
  LCalls (KC B0 w0) 123 [ptr k.cb 0,qaQ f] (pgH k o d)
  (qjZ (errF vars arrays later known f) (fun H=>∃ nm o' d' F' g4,(∀ n,GL.kvGet F' n=((known++[sumF vars arrays later known f]).find? fun g=>decide (g.name=n)).map qjg)/\H=pgH { k with name:=nm,F:=F',g4:=g4 } o' d')):=by
 have hsm:=qod hnd;have hp6:f.params.length<=2000000:=hsm.params;have hl6:f.locals.length<=2000000:=hsm.locals
 have hbn:ndSs f.body<=2000000:=by
  unfold ndF at hnd;omega
 generalize hI:errF vars arrays later known f=E;unfold errF at hI;refine cI Tryz.func123 rfl (n:=82) rfl rfl rfl ?_;refine gah ?_;refine oS (sB rfl fun b3=>?_) rfl;refine gaa ?_;refine oS (S.kvNew fun om=>?_) rfl;refine gac ?_;refine oS (sL (es:=[qd7 f.params,qd7 f.locals]) [_,_] rfl (eC rfl rfl (eC rfl rfl eN)) rfl rfl rfl ?_) rfl
 refine oS (S.callH (H1:=[]) (F:=_) [_] rfl zpr (qjD [f.params,f.locals] (by simp) (by
  intro l hl;rcases zMi.1 hl with rfl|hl
  ·exact hp6
  ·rw[List.mem_singleton.1 hl]
   exact hl6)) ?_ (by rintro ch H' ⟨v,h,_⟩;cases h)) rfl
 rintro v2 Ha2 ⟨_,h,hacc2⟩;cases h;have hfl:[f.params,f.locals].flatten=f.params++f.locals:=by simp
 rw[hfl] at hacc2;refine LOps.sub 24 rfl hacc2.sub ?_;refine LOps.weak (H':=(b3,.cells 79 [str f.name,.list (f.params.map str),.list (f.locals.map str),.list (f.body.map encS)])::ckH { k with name:=f.name,om:=om,O:=[],g5:=0 } 1) ?_ ?_
 ·refine qp3 ?_
  repeat first
   |exact HSub.nil _
   |refine zhP zb1 ?_
 refine gab ?_
 refine oL (fun kk ls H'=>∃ (pre l1:List Nm) (OO:KV) (gg:Nat),f.params++f.locals=pre++l1/\kk=l1.length/\ls=[(0,ptr k.cb 0),(3,ptr b3 0),(24,.list ((f.params++f.locals).map str)),(25,int .i64 (((f.params++f.locals).map str).length:Int)),(26,iv pre.length)] /\
   H'=(b3,.cells 79 [str f.name,.list (f.params.map str),.list (f.locals.map str),.list (f.body.map encS)])::ckH { k with name:=f.name,om:=om,O:=OO,g5:=gg } 1/\qdE OO pre/\orE (qb1 (pre.reverse++(vars++arrays++later)) l1) (qcr (envF vars arrays later known f) f.body)=E)
  ⟨_,_,_,⟨[],f.params++f.locals,[],0,rfl,rfl,rfl,rfl,qdE.nil,hI⟩,⟨rfl,rfl,rfl,rfl,rfl,trivial⟩,zhR _⟩ ?_
 rintro kk ls H' ⟨pre,l1,OO,gg,hLe,rfl,rfl,rfl,hO,hE⟩ j hj
 have hb2:pre.length<=4000000:=by
  have:=congrArg List.length hLe;rw[zLa,zLa] at this;omega
 refine gaj ?_;refine oC rfl (fun hc=>?_) (fun hc=>?_)
 ·have hlen:=zt hc;rw[zLm,hLe,zLa] at hlen
  obtain ⟨s,l2,rfl⟩:∃ a l2,l1=a::l2:=by
   cases l1 with
   |nil=>simp at hlen
   |cons a l2=>exact ⟨a,l2,rfl⟩
  rw[qd4] at hE;generalize hEn:newE (pre.reverse++(vars++arrays++later)) s=En at hE;unfold newE at hEn;refine gam ?_;refine oP (xR (el':=str s) (cs:=[str s]) rfl rfl zo (by rw[hLe];exact get_mid str pre s l2) rfl rfl) rfl ?_;refine gat ?_;refine oS (sF [_] rfl (qeX s) ?_) rfl;refine gab ?_
  cases hn:isNm s with
  |false=>
   rw[if_pos hn] at hEn;refine oS (sK (H1:=[]) (F:=_) [_,_,_] rfl zpr (qaz false s 7 zDd) (fun h=>absurd h zDd) (fun nm _ e' he'=>?_)) rfl;refine gae ?_
   exact panE (he'.trans hj) (by rw[<-hE,<-hEn];rfl) zDd
  |true=>
   rw[if_neg (by rw[hn];decide)] at hEn;refine oS (sK (H1:=[]) (F:=_) [_,_,_] rfl zpr (qaz true s 7 zDd) (fun _=>?_) (fun nm h=>absurd rfl h)) rfl;refine gac ?_;refine oP (Pure.setHas rfl rfl zm2 hG) rfl ?_;refine oB 39 rfl (fun h1=>?_) (fun h1=>?_)
   ·have hin:s∈pre.reverse++(vars++arrays++later):=List.mem_append_right _ (zt h1);rw[if_pos hin] at hEn;refine gad ?_;refine oS (sK (H1:=[]) (F:=_) [_,_,_] rfl zpr (qaz false s 8 zDd) (fun h=>absurd h zDd) (fun nm _ e' he'=>?_)) rfl;refine gae ?_;exact panE (he'.trans hj) (by rw[<-hE,<-hEn];rfl) zDd
   refine gad ?_;refine oP (Pure.setHas rfl rfl zm6 hO) rfl ?_;refine oB 47 rfl (fun h2=>?_) (fun h2=>?_)
   ·have hin:s∈pre.reverse++(vars++arrays++later):=List.mem_append_left _ (List.mem_reverse.2 (zt h2));rw[if_pos hin] at hEn;refine gad ?_;refine oS (sK (H1:=[]) (F:=_) [_,_,_] rfl zpr (qaz false s 8 zDd) (fun h=>absurd h zDd) (fun nm _ e' he'=>?_)) rfl;refine gae ?_;exact panE (he'.trans hj) (by rw[<-hE,<-hEn];rfl) zDd
   rw[if_neg (fun h=>(List.mem_append.1 h).elim (fun h=>zf h2 (List.mem_reverse.1 h)) (zf h1))] at hEn;subst hEn;refine gad ?_;refine oS (sK (H1:=[]) (F:=_) [_,_,_] rfl zpr (qaz true s 8 zDd) (fun _=>?_) (fun nm h=>absurd rfl h)) rfl;refine gac ?_;refine oS (S.kvSet (k:=s) (lv:=bool true) rfl rfl rfl zp6 fun gg2=>?_) rfl;refine gan ?_
   exact ⟨l2.length,_,_,Nat.lt_succ_self _,⟨pre++[s],l2,GL.kvPut OO s (bool true),gg2,by rw[hLe];simp,rfl,rfl,rfl,hO.add s,by
    rw[<-hE];rw[qhD l2 ((pre++[s]).reverse++(vars++arrays++later)) (s::(pre.reverse++(vars++arrays++later))) (fun x=>by simp)]
    rfl⟩,⟨rfl,rfl,rfl,rfl,qak (by simp),trivial⟩,by
    repeat first
     |exact HSub.nil _
     |refine zhP zb1 ?_,hj⟩
 have hlen:=zf hc;rw[zLm,hLe,zLa] at hlen
 obtain rfl:l1=[]:=by
  cases l1 with
  |nil=>rfl
  |cons a l2=>simp at hlen;omega
 rw[zLz] at hLe;rw[<-hLe] at hO;have hE2:qcr (envF vars arrays later known f) f.body=E:=by rw[<-hE];rfl
 have hkb:KBok { k with name:=f.name,om:=om,O:=OO,g5:=gg } (envF vars arrays later known f):=⟨hG,hV,hA,hO,hF⟩;have hss:=qex (B0:=B0) (w0:=w0) (k:={ k with name:=f.name,om:=om,O:=OO,g5:=gg }) (c:=envF vars arrays later known f) hB hD8 (n:=2000000) (zNr _) (qg0 hkb hB hB8 hD8 2000000 (zNr _)) f.body 1 hbn zDd;have hnb:=qfA B D (envF vars arrays later known f) hB f.body;have hdb:=qeB B D (envF vars arrays later known f) hB f.body;refine gaa ?_;refine oS (sK [_,_] rfl (Inp.swap1) hss (fun h0=>?_) (fun nm h0 e' he'=>?_)) rfl;rotate_left
 ·refine gak ?_;exact panE (he'.trans hj) hE2.symm h0
 refine LOps.perm (Inp.swap1 (H:=ckH _ _)).symm ?_;refine gaf ?_;have hpl:(f.params.map str).length<=2000000:=by rw[zLm];exact hp6
 refine qae.tail 20 zk ?_;refine gav ?_;refine lP (Pure.max3e 2 (f.params.length+1) (qcq (envF vars arrays later known f) f.body) rfl rfl rfl rfl (by rw[zLm];omega) rfl) rfl ?_;refine gad ?_;refine oS (S.kvSet (k:=f.name) (lv:=.agg [int .i64 ((f.params.map str).length:Int),int .i64 (max (max 2 (f.params.length+1)) (qcq (envF vars arrays later known f) f.body):Nat),int .i64 (max 1 (qcW (envF vars arrays later known f) f.body):Nat)]) rfl rfl rfl zp5 fun g4=>?_) rfl;refine gaf ?_;refine qvx hj rN (hE2.symm.trans h0) rfl (H':=pgH { k with name:=f.name,F:=GL.kvPut k.F f.name (.agg [int .i64 ((f.params.map str).length:Int),int .i64 (max (max 2 (f.params.length+1)) (qcq (envF vars arrays later known f) f.body):Nat),int .i64 (max 1 (qcW (envF vars arrays later known f) f.body):Nat)]),g4:=g4 } (.map (some om)) (max 1 (qcW (envF vars arrays later known f) f.body))) ?hs ⟨f.name,_,_,_,g4,fun n=>?kv,rfl⟩
 case hs=>
  repeat first
   |exact HSub.nil _
   |refine zhP zb1 ?_
 case kv=>
  rw[GL.kvGet_put,hF n,List.find?_append]
  by_cases h1:f.name=n
  ·rw[if_pos h1]
   have h2:(known.find? fun g=>decide (g.name=n))=none:=by
    rw[List.find?_eq_none];intro g hg;simp only[zDe];intro h3;exact hnew (by rw[h1,<-h3];exact List.mem_map_of_mem hg)
   rw[h2,Option.none_or]
   have h4:([sumF vars arrays later known f].find? fun g=>decide (g.name=n))=some (sumF vars arrays later known f):=by
    rw[List.find?_cons_of_pos];exact decide_eq_true h1
   rw[h4];show some _=some (qjg _);unfold qjg sumF;rw[<-zLm (f:=str)]
  ·rw[if_neg h1]
   have h4:([sumF vars arrays later known f].find? fun g=>decide (g.name=n))=none:=by
    rw[List.find?_eq_none];intro g hg;rw[List.mem_singleton.1 hg];simp only[zDe];exact h1
   rw[h4,Option.or_none]
end
end Go.Proofs.YtdakelgkjdaijaaGreatDoor.Chk
namespace Go.Proofs.YtdakelgkjdaijaaGreatDoor.Chk
open Go.GL Go.RowKit Go.Stele
def encArG (a:Nm×Int):LV:=.agg [str a.1,int .i64 a.2]
def encPrG (vars:List Nm) (arrays:List (Nm×Int)) (fs:List FnD):LV:=.agg [.list (vars.map str),.list (arrays.map encArG),.list (fs.map qaQ)]
theorem qeF:∀ (l known:List Nm),qb1 known l=0->l.Nodup/\(∀ s∈l,s ∉ known)/\∀ s∈l,isNm s=true
 |[],known,_=>⟨List.nodup_nil,fun s h=>(List.not_mem_nil h).elim,fun s h=>(List.not_mem_nil h).elim⟩
 |s::l,known,h=>by
  rw[qb1] at h;split at h
  ·cases h
  rename_i h1
  split at h
  ·cases h
  rename_i h2
  obtain ⟨h3,h4,h5⟩:=qeF l _ h;refine ⟨List.nodup_cons.2 ⟨fun hm=>h4 s hm zMs,h3⟩,?_,?_⟩
  ·intro x hx;rcases zMi.1 hx with rfl|hx
   ·exact h2
   ·exact fun hk=>h4 x hx (zMo _ hk)
  ·intro x hx;rcases zMi.1 hx with rfl|hx
   ·simpa using h1
   ·exact h5 x hx
theorem qj8 {s:Nm} (h:isNm s=true):s.length<=1000:=by
 unfold isNm at h;simp only[zBa,zDe] at h;omega
theorem qkt {a b:Int} (h:a≠0):orE a b=a:=by
 unfold orE;exact if_pos h
theorem qgj:∀ a b:List FnD,ndFs (a++b)=ndFs a+ndFs b
 |[],b=>by rw[List.nil_append,ndFs,Nat.zero_add]
 |x::a,b=>by rw[List.cons_append,ndFs,ndFs,qgj a b];omega
theorem qka {vars arrays later:List Nm}:∀ (l:List FnD) (known:List FSum),qf5 vars arrays later known l=0->∀ f∈l,∃ k,errF vars arrays later k f=0
 |[],_,_,f,h=>(List.not_mem_nil h).elim
 |g::l,known,h,f,hf=>by
  rw[qf5,qap] at h;rcases zMi.1 hf with rfl|hf
  ·exact ⟨known,h.1⟩
  ·exact qka l _ h.2 f hf
theorem qpX {vars arrays later:List Nm} {k:List FSum} {f:FnD} (h:errF vars arrays later k f=0):∀ x∈f.params++f.locals,x.length<=1000:=by
 unfold errF at h;rw[qap] at h;intro x hx;exact qj8 ((qeF _ _ h.1).2.2 x hx)
theorem qrQ {l:List FSum} {m:FSum} (hn:(l.map (·.name)).Nodup) (hm:l.getLast? = some m):(l.find? fun g=>decide (g.name=m.name))=some m:=by
 obtain ⟨ys,rfl⟩:=List.getLast?_eq_some_iff.1 hm;rw[List.find?_append]
 have h1:(ys.find? fun g=>decide (g.name=m.name))=none:=by
  rw[List.find?_eq_none];intro g hg;simp only[zDe];intro h2;rw[zMa] at hn;exact (List.nodup_append.1 hn).2.2 _ (List.mem_map_of_mem hg) _ (List.mem_map_of_mem (List.mem_singleton_self m)) h2
 rw[h1,Option.none_or,List.find?_cons_of_pos];exact decide_eq_true rfl
theorem qiK {vars arrays later:List Nm}:∀ (l:List FnD) (known:List FSum),(qmf vars arrays later known l).map (·.name)=known.map (·.name)++l.map (·.name)
 |[],known=>by rw[qmf];simp
 |f::l,known=>by
  rw[qmf,qiK l];simp[sumF]
theorem qhn {pre l:List Nm} {s:Nm} {FR:Int} (h:qb1 pre (s::l)=FR) (h0:newE pre s=0):qb1 (pre++[s]) l=FR:=by
 rw[<-h,qd4,h0,qhD l (pre++[s]) (s::pre) (fun x=>by simp[or_comm])];rfl
theorem qiQ {pre l:List Nm} {s:Nm} {FR RA E:Int} (hI:orE FR RA=E) (h:qb1 pre (s::l)=FR) (h0:newE pre s≠0):E=newE pre s:=by
 rw[<-hI,<-h,qd4,qkt (a:=orE _ _) (by rw[qkt h0];exact h0),qkt h0]
attribute [local irreducible] LOps qae qad LCalls Go.GL.Pure qax qaj qac LQ LAny qaE qal LS
section
variable {B0:Nat} {w0:World}
theorem qdk {k:KB} {o:Value} {d:Nat} (vars:List Nm) (arrays:List (Nm×Int)) (fs:List FnD) (hk1:k.G=[]) (hk2:k.V=[]) (hk3:k.A=[]) (hk4:k.F=[]) (hv6:vars.length<=2000000) (ha6:arrays.length<=2000000) (har:∀ a∈arrays,-9223372036854775808<=a.2/\a.2<9223372036854775808) (hnd:ndFs fs<=2000000) :
  LCalls (KC B0 w0) 65 [ptr k.cb 0,encPrG vars arrays fs] (pgH k o d) (qjZ (qc2 vars arrays fs) (fun H=>H=[])):=by
 have hf6:fs.length<=2000000:=zNt (qgR fs) hnd;generalize hI:qc2 vars arrays fs=E;unfold qc2 at hI;generalize hFR:qb1 [] (vars++arrays.map (·.1)++fs.map (·.name))=FR at hI;generalize hSZ:qg9 0 (arrays.map (·.2))=SZ at hI;generalize hFS:qf5 vars (arrays.map (·.1)) (fs.map (·.name)) [] fs=FS at hI;generalize hSS:qmf vars (arrays.map (·.1)) (fs.map (·.name)) [] fs=SS at hI;generalize hMN:qti vars fs SS=MN at hI;generalize hRA:orE SZ (orE FS MN)=RA at hI;refine cI Tryz.func65 rfl (n:=147) rfl rfl rfl ?_;refine gah ?_;refine oS (sB rfl fun b3=>?_) rfl;refine gaa ?_
 refine oL (fun kk ls H'=>∃ (pre l1:List Nm) (G1 V1:KV) (g1 g2:Nat),vars=pre++l1/\kk=l1.length/\ls=[(0,ptr k.cb 0),(3,ptr b3 0),(18,.list (vars.map str)),(19,int .i64 ((vars.map str).length:Int)),(20,iv pre.length)] /\
   H'=(b3,.cells 28 [.list (vars.map str),.list (arrays.map encArG),.list (fs.map qaQ)])::pgH { k with G:=G1,g1:=g1,V:=V1,g2:=g2 } o d/\qdE G1 pre/\qdE V1 pre/\qb1 pre (l1++arrays.map (·.1)++fs.map (·.name))=FR)
  ⟨_,_,_,⟨[],vars,k.G,k.V,k.g1,k.g2,rfl,rfl,rfl,rfl,by rw[hk1];exact qdE.nil,by rw[hk2];exact qdE.nil,hFR⟩,⟨rfl,rfl,rfl,rfl,rfl,trivial⟩,zhR _⟩ ?_
 rintro kk ls H' ⟨pre,l1,G1,V1,g1,g2,hLe,rfl,rfl,rfl,hG1,hV1,hE⟩ j hj
 have hb2:pre.length<=2000000:=by
  have:=congrArg List.length hLe;rw[zLa] at this;omega
 refine gaj ?_;refine oC rfl (fun hc=>?_) (fun hc=>?_)
 ·have hlen:=zt hc;rw[zLm,hLe,zLa] at hlen
  obtain ⟨s,l2,rfl⟩:∃ a l2,l1=a::l2:=by
   cases l1 with
   |nil=>simp at hlen
   |cons a l2=>exact ⟨a,l2,rfl⟩
  rw[List.cons_append,List.cons_append] at hE;refine gam ?_;refine oP (xR (el':=str s) (cs:=[str s]) rfl rfl zo (by rw[hLe];exact get_mid str pre s l2) rfl rfl) rfl ?_;refine gat ?_;refine oS (S.callE (F:=[_]) [_,_] rfl (Inp.swap1) (qgq (k:={ k with G:=G1,g1:=g1,V:=V1,g2:=g2 }) (o:=o) (d:=d) hG1 s) (fun H2 h0 hP=>?_) (fun nm h0 e' he'=>?_)) rfl;rotate_left
  ·refine gae ?_;exact panE (he'.trans hj) (qiQ hI hE h0) h0
  obtain ⟨g1',rfl⟩:=hP;refine LOps.perm (Inp.swap1 (H:=pgH _ _ _)).symm ?_;refine gac ?_;refine oS (S.kvSet (k:=s) (lv:=bool true) rfl rfl rfl zp3 fun g2'=>?_) rfl;refine gan ?_;refine ⟨l2.length,_,_,Nat.lt_succ_self _,⟨pre++[s],l2,GL.kvPut G1 s (bool true),GL.kvPut V1 s (bool true),g1',g2',by rw[hLe];simp,rfl,rfl,rfl,hG1.add s,hV1.add s,qhn hE h0⟩,⟨rfl,rfl,rfl,rfl,qak (by simp),trivial⟩,?_,hj⟩
  repeat first
   |exact HSub.nil _
   |refine zhP zb1 ?_
 have hlen:=zf hc;rw[zLm,hLe,zLa] at hlen
 obtain rfl:l1=[]:=by
  cases l1 with
  |nil=>rfl
  |cons a l2=>simp at hlen;omega
 rw[zLz] at hLe;subst hLe;rw[List.nil_append] at hE;clear hlen hc hb2;refine gaa ?_
 refine oL (fun kk ls H'=>∃ (pre l1:List (Nm×Int)) (G1 A1:KV) (g1 g3:Nat),arrays=pre++l1/\kk=l1.length/\ls=[(0,ptr k.cb 0),(3,ptr b3 0),(34,.list (arrays.map encArG)),(35,int .i64 ((arrays.map encArG).length:Int)),(36,iv pre.length)] /\
   H'=(b3,.cells 28 [.list (vars.map str),.list (arrays.map encArG),.list (fs.map qaQ)])::pgH { k with G:=G1,g1:=g1,V:=V1,g2:=g2,A:=A1,g3:=g3 } o d/\qdE G1 (vars++pre.map (·.1))/\qdE A1 (pre.map (·.1))/\qb1 (vars++pre.map (·.1)) (l1.map (·.1)++fs.map (·.name))=FR)
  ⟨_,_,_,⟨[],arrays,G1,k.A,g1,k.g3,rfl,rfl,rfl,rfl,by simpa using hG1,by rw[hk3];exact qdE.nil,by simpa using hE⟩,⟨rfl,rfl,rfl,rfl,rfl,trivial⟩,zhR _⟩ ?_
 clear hG1 hE G1 g1;rintro kk ls H' ⟨pre,l1,G1,A1,g1,g3,hLe,rfl,rfl,rfl,hG1,hA1,hE⟩ j hj2
 have hb2:pre.length<=2000000:=by
  have:=congrArg List.length hLe;rw[zLa] at this;omega
 refine gaj ?_;refine oC rfl (fun hc=>?_) (fun hc=>?_)
 ·have hlen:=zt hc;rw[zLm,hLe,zLa] at hlen
  obtain ⟨s,l2,rfl⟩:∃ a l2,l1=a::l2:=by
   cases l1 with
   |nil=>simp at hlen
   |cons a l2=>exact ⟨a,l2,rfl⟩
  rw[zMc,List.cons_append] at hE;refine gam ?_;refine oP (xR (el':=encArG s) (cs:=[str s.1,int .i64 s.2]) rfl rfl zo (by rw[hLe];exact get_mid encArG pre s l2) rfl rfl) rfl ?_;refine gad ?_;refine oS (sA fun b7=>?_) rfl;refine gac ?_;refine oS (S.callE (F:=[_,_]) [_,_] rfl (zPc (l₁:=[_,_])) (qgq (k:={ k with G:=G1,g1:=g1,V:=V1,g2:=g2,A:=A1,g3:=g3 }) (o:=o) (d:=d) hG1 s.1) (fun H2 h0 hP=>?_) (fun nm h0 e' he'=>?_)) rfl;rotate_left
  ·refine gae ?_;exact panE (he'.trans (hj2.trans hj)) (qiQ hI hE h0) h0
  obtain ⟨g1',rfl⟩:=hP
  refine LOps.weak (H':=[(b7,.cells 76 [str s.1,int .i64 s.2]),(k.cb,.cells 142 [.atom (.map (some k.gm)),.atom (.map (some k.vm)),.atom (.map (some k.am)),.atom (.map (some k.fm)),str k.name,.atom o,int .i64 (d:Int)]),(b3,.cells 28 [.list (vars.map str),.list (arrays.map encArG),.list (fs.map qaQ)]),
   (k.gm,.map (kvs (GL.kvPut G1 s.1 (bool true))) g1'),(k.vm,.map (kvs V1) g2),(k.am,.map (kvs A1) g3),(k.fm,.map (kvs k.F) k.g4)]) ?_ ?_
  ·repeat first
    |exact HSub.nil _
    |refine zhP zb1 ?_
  refine gaf ?_;refine cD (m:=7) rfl [(b7,.cells 76 [str s.1,int .i64 s.2]),(k.cb,.cells 142 [.atom (.map (some k.gm)),.atom (.map (some k.vm)),.atom (.map (some k.am)),.atom (.map (some k.fm)),str k.name,.atom o,int .i64 (d:Int)])] ?_;refine zQ29 ?_;refine aL ?_ (zhP pH zhp);refine lO 6 (lS (H1:=[(k.am,.map (kvs A1) g3)]) rfl (.inl rfl) rfl (show Pick _ _ _ from pT zp4) (zhP pH zhp) (S.kvSet (k:=s.1) (lv:=bool true) rfl rfl rfl pH fun g3'=>?_));refine lD zk ?_;refine gan ?_;refine ⟨l2.length,_,_,Nat.lt_succ_self _,⟨pre++[s],l2,GL.kvPut G1 s.1 (bool true),GL.kvPut A1 s.1 (bool true),g1',g3',by rw[hLe];simp,rfl,rfl,rfl,by simpa using hG1.add s.1,by simpa using hA1.add s.1,by simpa using qhn hE h0⟩,⟨rfl,rfl,rfl,rfl,qak (by simp),trivial⟩,?_,hj2⟩
  repeat first
   |exact HSub.nil _
   |refine zhP zb1 ?_
 have hlen:=zf hc;rw[zLm,hLe,zLa] at hlen
 obtain rfl:l1=[]:=by
  cases l1 with
  |nil=>rfl
  |cons a l2=>simp at hlen;omega
 rw[zLz] at hLe;subst hLe;rw[List.map_nil,List.nil_append] at hE;clear hlen hc hb2;refine gaa ?_
 refine oL (fun kk ls H'=>∃ (pre l1:List FnD) (G1:KV) (g1:Nat),fs=pre++l1/\kk=l1.length/\ls=[(0,ptr k.cb 0),(3,ptr b3 0),(52,.list (fs.map qaQ)),(53,int .i64 ((fs.map qaQ).length:Int)),(54,iv pre.length)] /\
   H'=(b3,.cells 28 [.list (vars.map str),.list (arrays.map encArG),.list (fs.map qaQ)])::pgH { k with G:=G1,g1:=g1,V:=V1,g2:=g2,A:=A1,g3:=g3 } o d/\qdE G1 (vars++arrays.map (·.1)++pre.map (·.name))/\qb1 (vars++arrays.map (·.1)++pre.map (·.name)) (l1.map (·.name))=FR)
  ⟨_,_,_,⟨[],fs,G1,g1,rfl,rfl,rfl,rfl,by simpa using hG1,by simpa using hE⟩,⟨rfl,rfl,rfl,rfl,rfl,trivial⟩,zhR _⟩ ?_
 clear hG1 hE G1 g1;rintro kk ls H' ⟨pre,l1,G1,g1,hLe,rfl,rfl,rfl,hG1,hE⟩ j hj3
 have hb2:pre.length<=2000000:=by
  have:=congrArg List.length hLe;rw[zLa] at this;omega
 refine gaj ?_;refine oC rfl (fun hc=>?_) (fun hc=>?_)
 ·have hlen:=zt hc;rw[zLm,hLe,zLa] at hlen
  obtain ⟨s,l2,rfl⟩:∃ a l2,l1=a::l2:=by
   cases l1 with
   |nil=>simp at hlen
   |cons a l2=>exact ⟨a,l2,rfl⟩
  rw[zMc] at hE;refine gam ?_;refine oP (xR (el':=qaQ s) (cs:=[_,_,_,_]) rfl rfl zo (by rw[hLe];exact get_mid qaQ pre s l2) rfl rfl) rfl ?_;refine gad ?_;refine oS (sA fun b7=>?_) rfl;refine gac ?_;refine oS (S.callE (F:=[_,_]) [_,_] rfl (zPc (l₁:=[_,_])) (qgq (k:={ k with G:=G1,g1:=g1,V:=V1,g2:=g2,A:=A1,g3:=g3 }) (o:=o) (d:=d) hG1 s.name) (fun H2 h0 hP=>?_) (fun nm h0 e' he'=>?_)) rfl;rotate_left
  ·refine gae ?_;exact panE (he'.trans (hj3.trans (hj2.trans hj))) (qiQ hI hE h0) h0
  obtain ⟨g1',rfl⟩:=hP;refine LOps.perm (zPc (l₂:=[_,_])) ?_;refine gan ?_;refine ⟨l2.length,_,_,Nat.lt_succ_self _,⟨pre++[s],l2,GL.kvPut G1 s.name (bool true),g1',by rw[hLe];simp,rfl,rfl,rfl,by simpa using hG1.add s.name,by simpa using qhn hE h0⟩,⟨rfl,rfl,rfl,rfl,qak (by simp),trivial⟩,zhD zhr,hj3⟩
 have hlen:=zf hc;rw[zLm,hLe,zLa] at hlen
 obtain rfl:l1=[]:=by
  cases l1 with
  |nil=>rfl
  |cons a l2=>simp at hlen;omega
 rw[zLz] at hLe;subst hLe;have hFR0:FR=0:=hE.symm;clear hlen hc hb2 hE;rw[hFR0] at hI;have hnod:=(qeF _ _ (hFR.trans hFR0)).1;have hnmok:=(qeF _ _ (hFR.trans hFR0)).2.2;have hI1:RA=E:=by rw[<-hI];rfl
 rw[<-hRA] at hI1;clear hI hRA hFR;have hPr:0<=(0:Int)/\(0:Int)<=150000:=⟨by decide,by decide⟩;refine gaa ?_
 refine oL (fun kk ls H'=>∃ (pre l1:List (Nm×Int)) (T:Int),arrays=pre++l1/\kk=l1.length/\ls=[(0,ptr k.cb 0),(3,ptr b3 0),(10,int .i64 T),(64,.list (arrays.map encArG)),(65,int .i64 ((arrays.map encArG).length:Int)),(66,iv pre.length)] /\
   H'=(b3,.cells 28 [.list (vars.map str),.list (arrays.map encArG),.list (fs.map qaQ)])::pgH { k with G:=G1,g1:=g1,V:=V1,g2:=g2,A:=A1,g3:=g3 } o d/\(0<=T/\T<=150000)/\qg9 T (l1.map (·.2))=SZ)
  ⟨_,_,_,⟨[],arrays,0,rfl,rfl,rfl,rfl,hPr,hSZ⟩,⟨rfl,rfl,rfl,rfl,rfl,rfl,trivial⟩,zhR _⟩ ?_
 clear hSZ;rintro kk ls H' ⟨pre,l1,T,hLe,rfl,rfl,rfl,⟨hT1,hT2⟩,hE⟩ j hj4
 have hb2:pre.length<=2000000:=by
  have:=congrArg List.length hLe;rw[zLa] at this;omega
 refine gaj ?_;refine oC rfl (fun hc=>?_) (fun hc=>?_)
 ·have hlen:=zt hc;rw[zLm,hLe,zLa] at hlen
  obtain ⟨s,l2,rfl⟩:∃ a l2,l1=a::l2:=by
   cases l1 with
   |nil=>simp at hlen
   |cons a l2=>exact ⟨a,l2,rfl⟩
  obtain ⟨hs1,hs2⟩:=har s (by rw[hLe];exact List.mem_append_right _ zMs);rw[zMc,qg9] at hE;refine gam ?_;refine oP (xR (el':=encArG s) (cs:=[str s.1,int .i64 s.2]) rfl rfl zo (by rw[hLe];exact get_mid encArG pre s l2) rfl rfl) rfl ?_;refine gad ?_;refine oS (sA fun b7=>?_) rfl;refine gac ?_;refine oB 72 rfl (fun h1=>?_) (fun h1=>?_);rotate_left
  ·have h2:s.2<=0:=by have:=zf h1;omega
   rw[if_pos h2] at hE;refine oS (sK (H1:=[]) (F:=_) [_,_,_] rfl zpr (qaz false s.1 2 zDd) (fun h=>absurd h zDd) (fun nm _ e' he'=>?_)) rfl;refine gae ?_;exact panE (he'.trans (hj4.trans (hj3.trans (hj2.trans hj)))) (by rw[<-hI1,<-hE];rfl) zDd
  have h2:¬ s.2<=0:=by have:=zt h1;omega
  rw[if_neg h2] at hE;refine oS (sK (H1:=[]) (F:=_) [_,_,_] rfl zpr (qaz true s.1 2 zDd) (fun _=>?_) (fun nm h=>absurd rfl h)) rfl;refine gac ?_;refine oB 80 rfl (fun h3=>?_) (fun h3=>?_);rotate_left
  ·have h4:150000-T<s.2:=by have:=zf h3;omega
   rw[if_pos h4] at hE;refine oS (sK (H1:=[]) (F:=_) [_,_,_] rfl zpr (qaz false s.1 6 zDd) (fun h=>absurd h zDd) (fun nm _ e' he'=>?_)) rfl;refine gae ?_;exact panE (he'.trans (hj4.trans (hj3.trans (hj2.trans hj)))) (by rw[<-hI1,<-hE];rfl) zDd
  have h4:¬ 150000-T<s.2:=by have:=zt h3;omega
  rw[if_neg h4] at hE;refine oS (sK (H1:=[]) (F:=_) [_,_,_] rfl zpr (qaz true s.1 6 zDd) (fun _=>?_) (fun nm h=>absurd rfl h)) rfl;refine gaa ?_;exact ⟨l2.length,_,_,Nat.lt_succ_self _,⟨pre++[s],l2,T+s.2,by rw[hLe];simp,rfl,rfl,rfl,⟨by omega,by omega⟩,hE⟩,⟨rfl,rfl,rfl,rfl,rfl,qak (by simp),trivial⟩,zhD zhr,hj4⟩
 have hlen:=zf hc;rw[zLm,hLe,zLa] at hlen
 obtain rfl:l1=[]:=by
  cases l1 with
  |nil=>rfl
  |cons a l2=>simp at hlen;omega
 have hSZ0:SZ=0:=by rw[<-hE];rfl
 rw[hSZ0] at hI1;have hI2:orE FS MN=E:=by rw[<-hI1];rfl
 clear hI1 hlen hc hb2 hLe hE;have hnf:(fs.map (·.name)).Nodup:=(List.nodup_append.1 hnod).2.1;have hds:j.ds=[]:=hj4.trans (hj3.trans (hj2.trans hj));clear hj hj2 hj3 hj4;refine gaa ?_
 refine oL (fun kk ls H'=>∃ (pre l1:List FnD) (known:List FSum) (F1:KV) (g4:Nat) (nm:Nm) (o1:Value) (d1:Nat),fs=pre++l1/\kk=l1.length/\ls=[(0,ptr k.cb 0),(3,ptr b3 0),(90,.list (fs.map qaQ)),(91,int .i64 ((fs.map qaQ).length:Int)),(92,iv pre.length)] /\
   H'=(b3,.cells 28 [.list (vars.map str),.list (arrays.map encArG),.list (fs.map qaQ)])::pgH { k with name:=nm,G:=G1,g1:=g1,V:=V1,g2:=g2,A:=A1,g3:=g3,F:=F1,g4:=g4 } o1 d1/\(∀ n,GL.kvGet F1 n=(known.find? fun g=>decide (g.name=n)).map qjg)/\known.map (·.name)=pre.map (·.name) /\
   qf5 vars (arrays.map (·.1)) (fs.map (·.name)) known l1=FS/\qmf vars (arrays.map (·.1)) (fs.map (·.name)) known l1=SS/\KnB (8 * ndFs pre) pre.length known)
  ⟨_,_,_,⟨[],fs,[],k.F,k.g4,k.name,o,d,rfl,rfl,rfl,rfl,fun n=>by rw[hk4];rfl,rfl,hFS,hSS,fun x hx=>(List.not_mem_nil hx).elim⟩,⟨rfl,rfl,rfl,rfl,rfl,trivial⟩,zhR _⟩ ?_
 rintro kk ls H' ⟨pre,l1,known,F1,g4,nm,o1,d1,hLe,rfl,rfl,rfl,hF,hkn,hE,hS,hB⟩ j2 hj2
 have hb2:pre.length<=2000000:=by
  have:=congrArg List.length hLe;rw[zLa] at this;omega
 refine gaj ?_;refine oC rfl (fun hc=>?_) (fun hc=>?_)
 ·have hlen:=zt hc;rw[zLm,hLe,zLa] at hlen
  obtain ⟨s,l2,rfl⟩:∃ a l2,l1=a::l2:=by
   cases l1 with
   |nil=>simp at hlen
   |cons a l2=>exact ⟨a,l2,rfl⟩
  have hsz:ndFs pre+ndF s<=2000000:=by
   have:=hnd;rw[hLe,qgj,ndFs] at this;omega
  have hnew:s.name ∉ known.map (·.name):=by
   rw[hkn];have:=hnf;rw[hLe,zMa,zMc] at this;intro hm;exact (List.nodup_append.1 this).2.2 _ hm _ zMs rfl
  rw[qf5] at hE;rw[qmf] at hS;refine gam ?_;refine oP (xR (el':=qaQ s) (cs:=[_,_,_,_]) rfl rfl zo (by rw[hLe];exact get_mid qaQ pre s l2) rfl rfl) rfl ?_;refine gad ?_;refine oS (sA fun b7=>?_) rfl;refine gac ?_;refine oS (S.callE (F:=[_,_]) [_,_] rfl (zPc (l₁:=[_,_])) (qkM (vars:=vars) (arrays:=arrays.map (·.1)) (later:=fs.map (·.name)) (known:=known) (k:={ k with name:=nm,G:=G1,g1:=g1,V:=V1,g2:=g2,A:=A1,g3:=g3,F:=F1,g4:=g4 }) (o:=o1) (d:=d1) s hG1 hV1 hA1 hF hnew hB zo zo zo) (fun H2 h0 hP=>?_) (fun nm h0 e' he'=>?_)) rfl;rotate_left
  ·refine gae ?_;exact panE (he'.trans (hj2.trans hds)) (by rw[<-hI2,<-hE,qkt (a:=orE _ _) (by rw[qkt h0];exact h0),qkt h0]) h0
  obtain ⟨nm',o',d',F',g4',hF',rfl⟩:=hP;refine LOps.perm (zPc (l₂:=[_,_])) ?_;refine gan ?_;refine ⟨l2.length,_,_,Nat.lt_succ_self _,⟨pre++[s],l2,known++[sumF vars (arrays.map (·.1)) (fs.map (·.name)) known s],F',g4',nm',o',d',by rw[hLe];simp,rfl,rfl,rfl,hF',?_,by rw[<-hE,h0];rfl,hS,?_⟩,⟨rfl,rfl,rfl,rfl,qak (by simp),trivial⟩,zhD zhr,hj2⟩
  ·rw[zMa,zMa,hkn];rfl
  ·have h1:=qva (vars:=vars) (arrays:=arrays.map (·.1)) (later:=fs.map (·.name)) (f:=s) hB;have h2:ndFs (pre++[s])=ndFs pre+ndF s:=by rw[qgj,ndFs,ndFs];rfl
   intro g hg;rw[h2,zLa,List.length_singleton];rcases List.mem_append.1 hg with hg|hg
   ·obtain ⟨a1,a2,a3⟩:=hB g hg;exact ⟨by omega,by omega,by omega⟩
   ·obtain rfl:=List.mem_singleton.1 hg;obtain ⟨a1,a2,a3⟩:=h1;exact ⟨by omega,by omega,by omega⟩
 have hlen:=zf hc;rw[zLm,hLe,zLa] at hlen
 obtain rfl:l1=[]:=by
  cases l1 with
  |nil=>rfl
  |cons a l2=>simp at hlen;omega
 have hFS0:FS=0:=by rw[<-hE];rfl
 have hknS:known=SS:=by rw[<-hS];rfl
 rw[hFS0] at hI2;have hI3:MN=E:=by rw[<-hI2];rfl
 clear hlen hc hb2 hLe hE;subst hknS;have hall:=qka fs [] (hFS.trans hFS0)
 have hnn:∀ f∈fs,f.name.length<=1000/\∀ x∈f.params++f.locals,x.length<=1000:=fun f hf=>by
  obtain ⟨kk,hk⟩:=hall f hf;exact ⟨qj8 (hnmok f.name (List.mem_append_right _ (List.mem_map_of_mem hf))),qpX hk⟩
 have hsm:∀ f∈fs,SmF f:=fun f hf=>qod (zNt (qha hf) hnd);have hds2:=hj2.trans hds;unfold qti at hMN;refine gac ?_
 cases hfl:fs.getLast? with
 |none=>
  have hf0:fs=[]:=List.getLast?_eq_none_iff.1 hfl;rw[hfl] at hMN;refine oB 105 rfl (fun h=>absurd (zt h) (by rw[hf0];decide)) (fun _=>?_);refine gab ?_;refine oS (sK (H1:=[]) (F:=_) [_,_,_] rfl zpr (qaz false [109,97,105,110] 9 zDd) (fun h=>absurd h zDd) (fun nm _ e' he'=>?_)) rfl;refine gak ?_
  exact panE (he'.trans hds2) (hI3.symm.trans hMN.symm) zDd
 |some f=>
  obtain ⟨ys,hys⟩:=List.getLast?_eq_some_iff.1 hfl;have hln:(fs.map qaQ).length=ys.length+1:=by rw[zLm,hys,zLa];rfl
  have hl6:(fs.map qaQ).length<=2000000:=by rw[zLm];exact hf6
  have hn0:(0:Int)<=((fs.map qaQ).length:Int)-1:=by omega
  have hget:(fs.map qaQ)[(((fs.map qaQ).length:Int)-1).toNat]? = some (qaQ f):=by
   rw[show (((fs.map qaQ).length:Int)-1).toNat=ys.length by omega,hys,zMa];rw[List.getElem?_append_right (by rw[zLm];exact zNr _),zLm,Nat.sub_self];rfl
  have hnms:known.map (·.name)=fs.map (·.name):=by
   rw[<-hSS,qiK];rfl
  obtain ⟨m,hm⟩:∃ m,known.getLast? = some m:=by
   cases hx:known.getLast? with
   |some m=>exact ⟨m,rfl⟩
   |none=>
    rw[List.getLast?_eq_none_iff.1 hx,hys] at hnms;simp at hnms
  have hmf:m.name=f.name:=by
   have h1:=congrArg List.getLast? hnms;rw[List.getLast?_map,List.getLast?_map,hm,hfl] at h1;exact Option.some.inj h1
  have hfind:=qrQ (by rw[hnms];exact hnf) hm;rw[hfl,hm] at hMN
  replace hMN:(if f.name=[109,97,105,110]/\f.params=[] then (if (qan vars fs).length<=8000/\m.need<=200/\m.depth<=60 then 0 else 6) else 9)=MN:=hMN
  rw[hI3] at hMN;refine oB 105 rfl (fun _=>?_) (fun h=>absurd (show ((fs.map qaQ).length:Int) > 0 by omega) (zf h));refine gad ?_
  first|refine LOps.want rfl rfl ?_|skip
  refine zQ45 ?_;refine oB 115 rfl (fun h1=>?_) (fun h1=>?_);rotate_left
  ·rw[if_neg (fun h=>zf h1 h.1)] at hMN;refine gab ?_;refine oS (sK (H1:=[]) (F:=_) [_,_,_] rfl zpr (qaz false [109,97,105,110] 9 zDd) (fun h=>absurd h zDd) (fun nm _ e' he'=>?_)) rfl;refine gak ?_;exact panE (he'.trans hds2) hMN.symm zDd
  have hmain:f.name=[109,97,105,110]:=zt h1;refine gad ?_
  first|refine LOps.want rfl rfl ?_|skip
  refine zQ45 ?_;refine oB 125 rfl (fun h2=>?_) (fun h2=>?_);rotate_left
  ·rw[if_neg (fun h=>zf h2 (by rw[h.2];rfl))] at hMN;refine oS (sK (H1:=[]) (F:=_) [_,_,_] rfl zpr (qaz false [109,97,105,110] 9 zDd) (fun h=>absurd h zDd) (fun nm _ e' he'=>?_)) rfl;refine gak ?_;exact panE (he'.trans hds2) hMN.symm zDd
  have hpar:f.params=[]:=by
   have h3:=zt h2;rw[zLm] at h3;exact List.length_eq_zero_iff.1 zo
  rw[if_pos ⟨hmain,hpar⟩] at hMN;refine oS (sK (H1:=[]) (F:=_) [_,_,_] rfl zpr (qaz true [109,97,105,110] 9 zDd) (fun _=>?_) (fun nm h=>absurd rfl h)) rfl
  have hgF:GL.kvGet F1 [109,97,105,110]=some (qjg m):=by
   rw[hF,<-hmain,<-hmf,hfind];rfl
  refine gac ?_;refine oP (Pure.kvHit rfl rfl zm5 hgF) rfl ?_;refine oS (sA fun b16=>?_) rfl;refine gal ?_;refine oS (sF [_] rfl (scalars_specG (.list (arrays.map encArG)) hv6 hf6 hsm hnn) ?_) rfl;refine gad ?_;refine oB 136 rfl (fun h3=>?_) (fun h3=>?_);rotate_left
  ·have hbad:¬ ((qan vars fs).length<=8000/\m.need<=200/\m.depth<=60):=fun h=>zf h3 (by rw[zLm];have:=h.1;omega);rw[if_neg hbad] at hMN;refine gab ?_;refine oS (sK (H1:=[]) (F:=_) [_,_,_] rfl zpr (qaz false [109,97,105,110] 6 zDd) (fun h=>absurd h zDd) (fun nm _ e' he'=>?_)) rfl;exact panE (he'.trans hds2) hMN.symm zDd
  have h3':(qan vars fs).length<=8000:=by
   have:=zt h3;rw[zLm] at this;omega
  refine gav ?_;refine oB 141 rfl (fun h4=>?_) (fun h4=>?_);rotate_left
  ·have hbad:¬ ((qan vars fs).length<=8000/\m.need<=200/\m.depth<=60):=fun h=>zf h4 (by have:=h.2.1;omega);rw[if_neg hbad] at hMN;refine gab ?_;refine oS (sK (H1:=[]) (F:=_) [_,_,_] rfl zpr (qaz false [109,97,105,110] 6 zDd) (fun h=>absurd h zDd) (fun nm _ e' he'=>?_)) rfl;exact panE (he'.trans hds2) hMN.symm zDd
  have h4':m.need<=200:=by
   have:=zt h4;omega
  refine gav ?_;refine oB 145 rfl (fun h5=>?_) (fun h5=>?_);rotate_left
  ·have hbad:¬ ((qan vars fs).length<=8000/\m.need<=200/\m.depth<=60):=fun h=>zf h5 (by have:=h.2.2;omega);rw[if_neg hbad] at hMN;refine oS (sK (H1:=[]) (F:=_) [_,_,_] rfl zpr (qaz false [109,97,105,110] 6 zDd) (fun h=>absurd h zDd) (fun nm _ e' he'=>?_)) rfl;exact panE (he'.trans hds2) hMN.symm zDd
  have h5':m.depth<=60:=by
   have:=zt h5;omega
  rw[if_pos ⟨h3',h4',h5'⟩] at hMN;refine oS (sK (H1:=[]) (F:=_) [_,_,_] rfl zpr (qaz true [109,97,105,110] 6 zDd) (fun _=>?_) (fun nm h=>absurd rfl h)) rfl;refine gaf ?_;exact qvx hds2 rN hMN.symm rfl zhn rfl
end
end Go.Proofs.YtdakelgkjdaijaaGreatDoor.Chk
namespace Go.Proofs.YtdakelgkjdaijaaGreatDoor.Chk
open Go.GL Go.RowKit Go.Stele
section
variable {C:Ctx} {e:Env} {H:Heap} {dst:Option Nat} {ty:TypeId} {pos:String} {aft:Array Edge} {g:Option (Nat×Bool)} {x:Operand}
theorem Pure.assertNil {t xT:TypeId} [ht:TConcrete C.P t] {zs:List Value} (hz:∀ w,(zeroValue t).run C.P w=.ok (.agg zs.toArray) w) (hx:e.ev x=.atom .nilIface):Go.GL.Pure C ⟨dst,.typeAssert x xT t true,ty,pos,aft,g⟩ e H (.tuple [.agg (zs.map .atom),bool false]):=
 .of_any fun ρ w L h=>⟨.tuple #[.agg zs.toArray,.bool false],by
  simp only[Rep];exact ⟨[.agg zs.toArray,.bool false],rfl,by simp only[RepL,Rep];exact ⟨_,_,rfl,⟨zs,rfl,qaT zs⟩,_,_,rfl,rfl,rfl⟩⟩,fun w'=>by
  obtain ⟨d,hd,hm⟩:=ht.out;have h3:execOp ρ ⟨dst,.typeAssert x xT t true,ty,pos,aft,g⟩=(do Pure.pure (.value (<-Instr.typeAssert (ρ x) xT t true))):=rfl;rw[h3,qag h hx];simp only[Instr.typeAssert,Sem.run_bind,qaa hd,Result.andThen_ok]
  cases d <;> simp_all [Sem.run_bind]⟩
end
theorem qtM (w:World):(zeroValue 137).run Tryz.prog w=.ok (.agg [.string ⟨#[]⟩,.int .i64 0].toArray) w:=
 (Go.zero_of_info (P:=Tryz.prog) (n:=2) zk).1 w
attribute [local irreducible] LOps qae qad LCalls Go.GL.Pure qax qaj qac LQ LAny qaE qal LS qbk qaG qdx qa1
section
variable {B0:Nat} {w0:World}
theorem qs7 (b2 b3:Nat) (c d:LV):qa1 (KC B0 w0) 64 [ptr b2 0,ptr b3 0] .returning [(b2,.cells 9 [c]),(b3,.cells 29 [d])]
  (fun u H=>u=.returning/\H=[(b2,.cells 9 [c]),(b3,.cells 29 [d])]):=by
 refine qa1.intro Tryz.func64 rfl (n:=19) rfl rfl rfl ?_;refine zQ18 ?_;refine gag ?_;refine oP (Pure.assertNil qtM rfl) rfl ?_;refine gad ?_;refine oS (sA fun b5=>?_) rfl;refine gac ?_;refine oC rfl (fun hc=>?_) (fun hc=>?_)
 ·cases hc
 refine gac ?_;refine oC rfl (fun hc=>?_) (fun hc=>?_)
 ·cases hc
 ·refine gaq ?_;exact ⟨rfl,_,zhD zhr,rfl,rfl⟩
theorem qta (b2 b3:Nat) (c d:LV) (nm:List UInt8) (er:Int):qa1 (KC B0 w0) 64 [ptr b2 0,ptr b3 0] (.panicking (vio nm er)) [(b2,.cells 9 [c]),(b3,.cells 29 [d])]
  (fun u H=>settle u=.returning/\H=[(b2,.cells 9 [str nm]),(b3,.cells 29 [int .i64 er])]):=by
 refine qa1.intro Tryz.func64 rfl (n:=19) rfl rfl rfl ?_;refine zQ18 ?_;refine gag ?_;refine oP (Pure.assertOk (vs:=[.string ⟨nm.toArray⟩,.int .i64 er]) rfl) rfl ?_;refine gad ?_;refine oS (sA fun b5=>?_) rfl;refine gac ?_;refine oC rfl (fun hc=>?_) (fun hc=>?_)
 ·skip
  refine cD (m:=6) rfl [(b5,.cells 137 [str nm,int .i64 er])] ?_;refine aT 0 rfl rfl (pF rfl) ?_;refine aT 1 rfl rfl (pL (c:=.atom _) rfl zm0 rfl) ?_;refine aT 2 rfl rfl (pF rfl) ?_;refine aT 3 rfl rfl (pL (c:=.atom _) rfl zm0 rfl) ?_;refine aL ?_ zhp;refine lO 4 (lS (H1:=[(b2,.cells 9 [c])]) (F:=[(b5,.cells 137 [str nm,int .i64 er]),(b3,.cells 29 [d])]) rfl (.inl rfl) rfl zp1 zhp (sS (cs':=[_]) rfl pH rfl rfl rfl rfl rfl ?_));refine lO 5 (lS (H1:=[(b3,.cells 29 [d])]) (F:=[(b2,.cells 9 [str nm]),(b5,.cells 137 [str nm,int .i64 er])]) rfl (.inl rfl) rfl zp2 (zhP zp1 zhn) (sS (cs':=[_]) rfl pH rfl rfl rfl rfl rfl ?_));refine lD zk ?_;exact ⟨rfl,_,zhP zp1 zhp,rfl,rfl⟩
 ·cases hc
theorem check_spec (vars:List Nm) (arrays:List (Nm×Int)) (fs:List FnD) (hv6:vars.length<=2000000) (ha6:arrays.length<=2000000) (har:∀ a∈arrays,-9223372036854775808<=a.2/\a.2<9223372036854775808) (hnd:ndFs fs<=2000000) :
  LCalls (KC B0 w0) 28 [encPrG vars arrays fs] [] (fun r H=>H=[]/\∃ nm,r=.ret (.tuple [str nm,int .i64 (qc2 vars arrays fs)])):=by
 generalize hE:qc2 vars arrays fs=E;refine LCalls.introD Tryz.func28 rfl (n:=15) rfl rfl rfl ?_;refine zQ35 ?_;refine gah ?_;refine oS (sB rfl fun b1=>?_) rfl;refine oS (sA fun b2=>?_) rfl;refine oS (sA fun b3=>?_) rfl;refine gaf ?_;refine zQ24 ?_;refine zQ35 ?_;refine gah ?_;refine oS (S.kvNew fun gm=>?_) rfl;refine oS (S.kvNew fun vm=>?_) rfl;refine oS (S.kvNew fun am=>?_) rfl;refine oS (S.kvNew fun fm=>?_) rfl;refine gad ?_;refine oS (sB rfl fun cb=>?_) rfl;refine LOps.weak (H':=pgH ⟨cb,gm,vm,am,fm,0,[],[],[],[],[],0,0,0,0,0,[]⟩ (.map none) 0++[(b3,.cells 29 [int .i64 0]),(b2,.cells 9 [str []]),(b1,.cells 28 [.list (vars.map str),.list (arrays.map encArG),.list (fs.map qaQ)])]) ?_ ?_
 ·repeat first
   |exact HSub.nil _
   |refine zhP zb1 ?_
 refine gaf ?_;refine qaG.seq (qaG.region ?_);refine gad ?_;refine qbk.step (S.callE (F:=[_,_,_]) [_,_] rfl zpr (qdk (k:=⟨cb,gm,vm,am,fm,0,[],[],[],[],[],0,0,0,0,0,[]⟩) (o:=.map none) (d:=0) vars arrays fs rfl rfl rfl rfl hv6 ha6 har hnd) (fun H2 h0 hP=>?_) (fun nm h0=>?_)) rfl
 ·subst hP;rw[hE] at h0;subst h0;refine qbk.nil ?_;refine qN ?_;refine qaG.seq (qaG.region ?_);refine qbk.step (sS (cs':=[_]) rfl zp1 rfl rfl rfl rfl rfl ?_) rfl;refine qbk.step (sS (cs':=[_]) rfl zp1 rfl rfl rfl rfl rfl ?_) rfl;refine qbk.nil ?_;refine qN ?_;refine qaG.ret ?_
  exact qbB.ret1 (vs:=[str [],int .i64 0]) (H1:=[(b2,.cells 9 [str []]),(b3,.cells 29 [int .i64 0])]) (F:=[_]) (H2:=[(b2,.cells 9 [str []]),(b3,.cells 29 [int .i64 0])]) rfl (List.Perm.swap _ _ _) (qs7 b2 b3 _ _)
   (rC (qcJ.cellOne rfl zm0 rfl zsr) (rC (qcJ.cellOne rfl zm1 rfl zsr) rN)) zhn ⟨rfl,[],rfl⟩
 ·rw[hE] at h0 ⊢;refine qax.panic ?_
  exact qbB.panic1 (vs:=[str nm,int .i64 E]) (H1:=[(b2,.cells 9 [str []]),(b3,.cells 29 [int .i64 0])]) (F:=[_]) (H2:=[(b2,.cells 9 [str nm]),(b3,.cells 29 [int .i64 E])]) rfl (List.Perm.swap _ _ _) (qta b2 b3 _ _ nm E)
   (rC (qcJ.cellOne rfl zm0 rfl zsr) (rC (qcJ.cellOne rfl zm1 rfl zsr) rN)) zhn ⟨rfl,nm,rfl⟩
end
end Go.Proofs.YtdakelgkjdaijaaGreatDoor.Chk
namespace Go.Stele
mutual
theorem qkU:∀ {e:Ex} {k:Nat} {ts:List KT} {d:Nat},PE e k ts d->ndE e<=ts.length/\numE e
 |_,_,_,_,.num h=>⟨by rw[ndE,ndEs];exact zNr _,by rw[numE];exact ⟨h,trivial⟩⟩
 |_,_,_,_,.var h=>⟨by rw[ndE,ndEs];exact zNr _,by rw[numE];exact ⟨by unfold Lt;omega,trivial⟩⟩
 |_,_,_,_,.elem h ha=>by
  obtain ⟨h1,h2⟩:=qkU ha;refine ⟨?_,?_⟩
  ·rw[ndE,ndEs,ndEs];simp only[zLa,zLc,zLn];omega
  ·rw[numE,qbg,qbg]
   exact ⟨by unfold Lt;omega,h2,trivial⟩
 |_,_,_,_,.call h hl=>by
  obtain ⟨h1,h2⟩:=qn0 hl;refine ⟨?_,?_⟩
  ·rw[ndE];simp only[zLa,zLc,zLn];omega
  ·rw[numE]
   exact ⟨by unfold Lt;omega,h2⟩
 |_,_,_,_,.neg ha=>by
  obtain ⟨h1,h2⟩:=qkU ha;refine ⟨?_,?_⟩
  ·rw[ndE,ndEs,ndEs];simp only[zLa,zLc,zLn];omega
  ·rw[numE,qbg,qbg]
   exact ⟨by unfold Lt;omega,h2,trivial⟩
 |_,_,_,_,.not ha=>by
  obtain ⟨h1,h2⟩:=qkU ha;refine ⟨?_,?_⟩
  ·rw[ndE,ndEs,ndEs];simp only[zLa,zLc,zLn];omega
  ·rw[numE,qbg,qbg]
   exact ⟨by unfold Lt;omega,h2,trivial⟩
 |_,_,_,_,.bin hs ho hk ha hb=>by
  obtain ⟨h1,h2⟩:=qkU ha;obtain ⟨h3,h4⟩:=qkU hb;refine ⟨?_,?_⟩
  ·rw[ndE,ndEs,ndEs,ndEs];simp only[zLa,zLc,zLn];omega
  ·rw[numE,qbg,qbg,qbg]
   exact ⟨by unfold Lt;omega,h2,h4,trivial⟩
 |_,_,_,_,.par hs ho hk ha hb=>by
  obtain ⟨h1,h2⟩:=qkU ha;obtain ⟨h3,h4⟩:=qkU hb;refine ⟨?_,?_⟩
  ·rw[ndE,ndEs,ndEs,ndEs];simp only[zLa,zLc,zLn];omega
  ·rw[numE,qbg,qbg,qbg];exact ⟨by unfold Lt;omega,h2,h4,trivial⟩
theorem qn0:∀ {l:List Ex} {ts:List KT} {d:Nat},PEs l ts d->ndEs l<=ts.length/\qbg l
 |_,_,_,.nil=>⟨by rw[ndEs];exact Nat.zero_le _,by rw[qbg];trivial⟩
 |_,_,_,.one ha=>by
  obtain ⟨h1,h2⟩:=qkU ha;rw[ndEs,ndEs,qbg,qbg]
  exact ⟨by omega,h2,trivial⟩
 |_,_,_,.more ha hl=>by
  obtain ⟨h1,h2⟩:=qkU ha;obtain ⟨h3,h4⟩:=qn0 hl;refine ⟨?_,?_⟩
  ·rw[ndEs];simp only[zLa,zLc];omega
  ·rw[qbg];exact ⟨h2,h4⟩
end
theorem qiE {e:Ex} {ts:List KT} {d:Nat} (h:PE e 0 ts d):ndEs [e]<=ts.length/\qbg [e]:=qn0 (.one h)
mutual
theorem PS_nd:∀ {s:Sm} {ts:List KT} {d:Nat},PS s ts d->ndS s<=ts.length/\numS s
 |_,_,_,.assign h he=>by
  obtain ⟨h1,h2⟩:=qiE he;refine ⟨?_,?_⟩
  ·rw[ndS,ndEs,ndSs];simp only[zLa,zLc,zLn];omega
  ·rw[numS,qb7]
   exact ⟨by rw[qbg];trivial,h2,trivial,trivial⟩
 |_,_,_,.store h hx he=>by
  obtain ⟨h1,h2⟩:=qiE he;obtain ⟨h3,h4⟩:=qiE hx;refine ⟨?_,?_⟩
  ·rw[ndS,ndSs];simp only[zLa,zLc,zLn];omega
  ·rw[numS,qb7]
   exact ⟨h4,h2,trivial,trivial⟩
 |_,_,_,.call h hl=>by
  obtain ⟨h1,h2⟩:=qn0 hl;refine ⟨?_,?_⟩
  ·rw[ndS,ndSs,ndEs,ndEs,ndEs,ndE];simp only[zLa,zLc,zLn];omega
  ·rw[numS,qb7,qbg,qbg,qbg,numE]
   exact ⟨trivial,⟨⟨by unfold Lt;omega,h2⟩,trivial⟩,trivial,trivial⟩
 |_,_,_,.ret he=>by
  obtain ⟨h1,h2⟩:=qiE he;refine ⟨?_,?_⟩
  ·rw[ndS,ndSs];simp only[zLa,zLc,zLn];have:ndEs []=0:=by rw[ndEs]
   omega
  ·rw[numS,qb7]
   exact ⟨by rw[qbg];trivial,h2,trivial,trivial⟩
 |_,_,_,.halt=>by
  refine ⟨?_,?_⟩
  ·rw[ndS,ndSs,ndEs];simp only[zLc,zLn];omega
  ·rw[numS,qb7,qbg]
   exact ⟨trivial,trivial,trivial,trivial⟩
 |_,_,_,.ifElse he h1 h2 hne=>by
  obtain ⟨a1,a2⟩:=qiE he;obtain ⟨b1,b2⟩:=qkl h1;obtain ⟨c1,c2⟩:=qkl h2;refine ⟨?_,?_⟩
  ·rw[ndS];simp only[zLa,zLc,zLn];have:ndEs []=0:=by rw[ndEs]
   omega
  ·rw[numS]
   exact ⟨by rw[qbg];trivial,a2,b2,c2⟩
 |_,_,_,.ifThen he h1=>by
  obtain ⟨a1,a2⟩:=qiE he;obtain ⟨b1,b2⟩:=qkl h1;refine ⟨?_,?_⟩
  ·rw[ndS];simp only[zLa,zLc,zLn];have:ndEs []=0:=by rw[ndEs]
   have:ndSs []=0:=by rw[ndSs]
   omega
  ·rw[numS]
   exact ⟨by rw[qbg];trivial,a2,b2,by rw[qb7];trivial⟩
 |_,_,_,.while he h1=>by
  obtain ⟨a1,a2⟩:=qiE he;obtain ⟨b1,b2⟩:=qkl h1;refine ⟨?_,?_⟩
  ·rw[ndS];simp only[zLa,zLc,zLn];have:ndEs []=0:=by rw[ndEs]
   have:ndSs []=0:=by rw[ndSs]
   omega
  ·rw[numS];exact ⟨by rw[qbg];trivial,a2,b2,by rw[qb7];trivial⟩
theorem qkl:∀ {l:List Sm} {ts:List KT} {d:Nat},PSs l ts d->ndSs l<=ts.length/\qb7 l
 |_,_,_,.nil=>⟨by rw[ndSs];exact Nat.zero_le _,by rw[qb7];trivial⟩
 |_,_,_,.cons h hl=>by
  obtain ⟨h1,h2⟩:=PS_nd h;obtain ⟨h3,h4⟩:=qkl hl;refine ⟨?_,?_⟩
  ·rw[ndSs];simp only[zLa];omega
  ·rw[qb7];exact ⟨h2,h4⟩
end
theorem qud:∀ (fs:List FnD) (ts:List KT),PFs fs ts->ndFs fs<=ts.length/\∀ f∈fs,qb7 f.body
 |[],ts,h=>⟨by rw[ndFs];exact Nat.zero_le _,fun f hf=>(List.not_mem_nil hf).elim⟩
 |f::fs,ts,h=>by
  cases h with
  |cons h hd hl=>
   obtain ⟨h1,h2⟩:=qud fs _ hl
   cases h with
   |mk hn hp hlo hb=>
    rename_i nm ps ls b ts' d'
    obtain ⟨h3,h4⟩:=qkl hb;have h5:=qqF ps;have h6:=qsL ls;refine ⟨?_,?_⟩
    ·rw[ndFs];unfold ndF;simp only[zLa,zLc,zLn];omega
    ·intro f hf;rcases zMi.1 hf with rfl|hf
     ·exact h4
     ·exact h2 f hf
theorem qtN (l:List Ar):l.length<=((l.map arK).flatten).length:=by
 induction l with
 |nil=>exact Nat.zero_le _
 |cons a l ih=>
  rw[zMc,List.flatten_cons,zLa];unfold arK;simp only[zLc,zLn];unfold arK at ih;omega
structure SzP (p:Pr) (n:Nat):Prop where
 vars:p.vars.length<=n
 arrays:p.arrays.length<=n
 size:∀ a∈p.arrays,a.size<4294967296
 funcs:ndFs p.funcs<=n
 nums:∀ f∈p.funcs,qb7 f.body
theorem PP_nd {p:Pr} {ts:List KT} (h:PP p ts):SzP p ts.length:=by
 cases h with
 |mk hv ha hf=>
  rename_i v a f ts
  obtain ⟨h1,h2⟩:=qud f ts hf;have h3:=qsL v;have h4:=qtN a;refine ⟨?_,?_,fun x hx=>(ha x hx).2,?_,h2⟩ <;> · simp only[zLa];omega
theorem SzP.mono {p:Pr} {n m:Nat} (h:SzP p n) (hm:n<=m):SzP p m:=
 ⟨zNt h.vars hm,zNt h.arrays hm,h.size,zNt h.funcs hm,h.nums⟩
theorem qtd {s:List UInt8} {T:List Tok} {p:Pr} {i op:Nat} (hT:qkE s 1=.ok T) (hs:qbH T (10 * T.length+20) ⟨[],[],[]⟩ 0 0=some (.ok p i op)):SzP p s.length:=by
 obtain ⟨ts,h3,h4⟩:=qmX (qf4 _ _ _ _ hT) hs;exact (PP_nd h3).mono (zNt h4 (qhJ _ _ _ _ hT).1)
theorem SzP.small {p:Pr} {n:Nat} (h:SzP p n) (hn:n<=2000000):SmP p:=by
 have h1:=qgR p.funcs;have h2:=h.funcs;exact ⟨show p.vars.length<=2000000 from zNt h.vars hn,show p.arrays.length<=2000000 from zNt h.arrays hn,show p.funcs.length<=2000000 by omega,fun f hf=>qod (zNt (qha hf) (zNt h2 hn))⟩
end Go.Stele
namespace Go.Proofs.YtdakelgkjdaijaaGreatDoor.Inp
open Go.GL Go.RowKit Go.Stele
theorem parse_both {s:List UInt8} (hs:s.length<=60000):∃ l,qaW s=((qdY s).1,l,(qdY s).2)/\SzP (qdY s).1 s.length:=by
 have h0:SzP ⟨[],[],[]⟩ s.length:=⟨Nat.zero_le _,Nat.zero_le _,fun a ha=>(List.not_mem_nil ha).elim,Nat.zero_le _,fun a ha=>(List.not_mem_nil ha).elim⟩
 have hL:qbR s=qkE s 1:=by
  unfold qbR;rw[if_neg zo];rfl
 unfold qaW qdY;rw[hL]
 cases hT:qkE s 1 with
 |error x=>
  obtain ⟨l,e⟩:=x
  exact ⟨l,rfl,h0⟩
 |ok T=>
  simp only;obtain ⟨r,hr⟩:=qdN T (10 * T.length+20) noPr 0 0 (Nat.zero_le _) zo;have hr':qbH T (10 * T.length+20) ⟨[],[],[]⟩ 0 0=some r:=hr;rw[hr,hr']
  cases r with
  |err l e=>exact ⟨l,rfl,h0⟩
  |ok p i op=>exact ⟨0,rfl,qtd hT hr'⟩
theorem encPr_eq (p:Pr):qeL p=Chk.encPrG p.vars (p.arrays.map fun a=>(a.name,(a.size:Int))) p.funcs:=by
 unfold qeL Chk.encPrG;rw[List.map_map];rfl
attribute [local irreducible] LOps qae qad LCalls Go.GL.Pure qax qaj qac LQ LAny qaE qal LS
section
variable {B0:Nat} {w0:World}
theorem qlS {p:Pr} {n:Nat} (h:SzP p n) (hn:n<=2000000):LCalls (KC B0 w0) 28 [qeL p] [] (fun r H=>H=[]/\∃ nm,r=.ret (.tuple [str nm,int .i64 (qbI p)])):=by
 rw[encPr_eq]
 exact Chk.check_spec _ _ _ (zNt h.vars hn) (by rw[zLm];exact zNt h.arrays hn) (fun a ha=>by
  obtain ⟨x,hx,rfl⟩:=List.mem_map.1 ha;have:=h.size x hx;constructor
  ·show (-9223372036854775808:Int)<=(x.size:Int);omega
  ·show (x.size:Int)<9223372036854775808
   omega) (zNt h.funcs hn)
end
end Go.Proofs.YtdakelgkjdaijaaGreatDoor.Inp
namespace Go.Proofs.YtdakelgkjdaijaaGreatDoor.Inp
open Go.GL Go.RowKit Go.Stele
attribute [local irreducible] LOps qae qad LCalls Go.GL.Pure qax qaj qac LQ LAny qaE qal LS
section
variable {B0:Nat} {w0:World}
theorem source_spec (hG:GW B0 w0) (s:List UInt8) (hs:s.length<=60000) {inp:List Nat} (hin:∀ v∈inp,Lt v) (steps:Int) :
  LCalls (KC B0 w0) 11 [str s,.list (inp.map u32),int .i64 steps] [] (Ret (encO (qhf s inp steps))):=by
 obtain ⟨l,hP,hsz⟩:=parse_both hs;have hps:=qpw hG s zo;rw[hP] at hps;unfold qhf;generalize hp:(qdY s).1=p at hps hsz ⊢;generalize he:(qdY s).2=er at hps ⊢;have hs6:s.length<=2000000:=by omega
 have hchk:=qlS (B0:=B0) (w0:=w0) hsz hs6;refine cI Tryz.func11 rfl (n:=35) rfl rfl rfl ?_;refine gah ?_;refine oS (sA fun b6=>?_) rfl;refine gap ?_;refine oS (sF [_] rfl hps ?_) rfl;unfold qfU;refine gad ?_;refine oS (sA fun b7=>?_) rfl;refine gaa ?_
 by_cases hc0:er=0
 rotate_left
 ·rw[if_pos hc0];refine oC rfl (fun hc=>?_) (fun hc=>?_)
  ·refine gac ?_;exact qaf rfl (rC (rA rfl zm0 rfl zsr) rN) rfl
  ·have h2:(!decide (er=0))=false:=hc;simp at h2;exact absurd h2 hc0
 refine oC rfl (fun hc=>?_) (fun _=>?_)
 ·have h2:(!decide (er=0))=true:=hc;simp[hc0] at h2
 rw[if_neg (by simpa using hc0)];refine gal ?_;refine oS (S.callH (H1:=[]) (F:=[_,_]) [_] rfl zpr hchk ?_ (by rintro ch H' ⟨_,nm,h⟩;cases h)) rfl;rintro lv H' ⟨rfl,nm,h⟩;cases h;refine gaa ?_
 by_cases hc1:qbI p=0
 rotate_left
 ·rw[if_pos hc1];refine oC rfl (fun hc=>?_) (fun hc=>?_)
  ·refine gac ?_;exact qaf rfl (rC (rA rfl zm0 rfl zsr) rN) rfl
  ·have h2:(!decide (qbI p=0))=false:=hc;simp at h2;exact absurd h2 hc1
 refine oC rfl (fun hc=>?_) (fun _=>?_)
 ·have h2:(!decide (qbI p=0))=true:=hc;simp[hc1] at h2
 rw[if_neg (by simpa using hc1)];have hq:runQ p inp steps=ql8 p inp steps:=by unfold runQ;rw[if_pos hc1]
 have hrun:=qec (B0:=B0) (w0:=w0) (hsz.small hs6) hsz.nums hchk hin steps;rw[hq] at hrun;refine gal ?_;refine oS (sF [_,_,_] rfl hrun ?_) rfl;refine gad ?_;exact qaf rfl (rC (rA rfl zm0 rfl zsr) rN) rfl
end
end Go.Proofs.YtdakelgkjdaijaaGreatDoor.Inp
namespace Go.GL
open Go.RowKit
inductive MRow (el:TypeId) (s:Nat):Value->List LV->Heap->Prop
 |nil:MRow el s (.slice none 0 0) [] []
 |row {b cap:Nat} {es spare:List LV} (hs:∀ v∈es,v.cells.length=s) (hc:es.length<=cap) (hl:es.length * s+spare.length=cap * s) :
   MRow el s (.slice (some ⟨b,0,none⟩) es.length cap) es [(b,.cells el (es.flatMap LV.cells++spare))]
section
variable {C:Ctx} {e:Env} {H:Heap} {x y:Operand} {dst:Option Nat} {ty:TypeId} {pos:String} {aft:Array Edge} {g:Option (Nat×Bool)} {K:LV->Heap->Prop} {X:List PanicEntry->Heap->Prop}
theorem qm4 {w:World} {L:Live} (hH:RelH C w L []) {el s cap:Nat} {es:List LV} {xs rest:List Value} (hr:RepL w L (es.flatMap LV.cells) xs) (hs:∀ v∈es,v.cells.length=s) (hc:es.length<=cap) (hl:es.length * s+rest.length=cap * s)
  (hk:∀ v' H',MRow el s v' es H'->K (.atom v') H') :
  Left C w L [] (World.push w (.cells (xs++rest).toArray el)) (.slice (some ⟨w.heap.size,0,none⟩) es.length cap) K:=by
 have hx:=qeg hH.wf (.cells (xs++rest).toArray el) 0
 have:=qem hH (.cells (xs++rest).toArray el) 0 [(w.heap.size,.cells el (es.flatMap LV.cells++rest.map .atom))] (fun p hp=>by
  simp only[List.mem_singleton] at hp;subst hp
  exact ⟨rfl,by simp[Live.upd],xs++rest,qaI,RepL.append (hr.mono hx _ _) (qaT rest)⟩) (by simp)
 exact ⟨.atom _,_,_,this.1,this.2,qah,hk _ _ (MRow.row hs hc (by simpa using hl))⟩
theorem qad.appM {sT xT el s bytes:Nat} [ht:TSlice C.P sT el s] [hr:TRow C.P el s bytes] {e2 s2:Nat} [hx2:TSlice C.P xT e2 s2] {v:Value} {es ms:List LV}
  (hx:e.ev x=.atom v) (ha:MRow el s v es H) (hy:GL.elems (e.ev y)=some ms) (hms:∀ v∈ms,v.cells.length=s) (hok:(ms.flatMap LV.cells).all qc0=true) (hroom:(es.length+ms.length) * bytes<=140737488355328)
  (hk:∀ v' H',MRow el s v' (es++ms) H'->K (.atom v') H'):qad C ⟨dst,.call { callee:=.builtin .append,args:=#[x,y],argTypes:=#[sT,xT] },ty,pos,aft,g⟩ e H K X:=by
 have h0:∀ (cs:Array Bool) (args:Array Value),builtin .append #[sT,xT] ty cs args=(do Pure.pure (.value (<-Builtin.append_ #[sT,xT] ty args))):=fun _ _=>rfl
 cases ha with
 |nil=>
  by_cases hne:ms=[]
  ·subst hne;exact qad.appendNilNil rfl ⟨e2,hx2.und⟩ hx hy (hk _ _ MRow.nil)
  ·intro ρ w L h hH;have hpos:0<ms.length:=List.length_pos_iff.2 hne;obtain ⟨ay,cy,new,hyv,hyc,hyr,hyl,hyf⟩:=qcy (s:=s) (h y) hy hms;rw[hyv] at hyf;have hlen:∀ w':World,(Builtin.lenOf (.slice ay ms.length cy)).run C.P w'=.ok ms.length w':=fun w'=>by simp[Builtin.lenOf]
   obtain ⟨cap',rest,r1,r2,r3⟩:=qbi (ty:=ty) (P:=C.P) (w:=w) (sT:=sT) (xT:=xT) (a:=none) (len:=0) (cap:=0) (n:=ms.length) (xv:=.slice ay ms.length cy) (old:=[]) (new:=new) (.inr ⟨_,hx2.und⟩) hlen (fun w' hw=>hyf C.P w' hw)
    (fun w' _=>by simp[Builtin.firstCells]) (by simpa using hroom) zo
   rw[qaC,h0];simp only[List.map_toArray,zMc,List.map_nil,Sem.run_bind,qag h hx,hyv,r3,Result.andThen_ok,Sem.run_pure,List.nil_append,Nat.zero_add]
   obtain ⟨lv,H',L',g1,g2,g3,g4⟩:=qm4 (K:=K) (el:=el) (es:=ms) (cap:=cap') (xs:=new) (rest:=rest) hH.drew (hyr.mono (qej w L) _ _) hms zo (by
    rw[r2,<-Nat.add_mul];congr 1;omega) (fun v' H' h'=>hk v' H' h')
   exact ⟨lv,H',L',g1.of_drew,g2,g3,g4⟩
 |row hs hc hl=>
  rename_i b cap spare
  intro ρ w L h hH;obtain ⟨hb0,hbs,hlb,zs,hz1,hz2⟩:=hH.objs _ (List.mem_singleton.2 rfl);simp only at hb0 hbs hlb hz1;obtain ⟨ay,cy,new,hyv,hyc,hyr,hyl,hyf⟩:=qcy (s:=s) (h y) hy hms;rw[hyv] at hyf;have hlen:∀ w':World,(Builtin.lenOf (.slice ay ms.length cy)).run C.P w'=.ok ms.length w':=fun w'=>by simp[Builtin.lenOf]
  have hfl:(es.flatMap LV.cells).length=es.length * s:=qc3 hs;have hzl:zs.length=es.length * s+spare.length:=by rw[hz2.length,zLa,hfl]
  have hzt:RepL w L (es.flatMap LV.cells) (zs.take (es.length * s)):=by
   have:=hz2.take (es.length * s)
   rwa [List.take_left' hfl] at this
  rw[qaC,h0];simp only[List.map_toArray,zMc,List.map_nil,Sem.run_bind,qag h hx,hyv]
  by_cases hcc:es.length+ms.length<=cap
  ·have hrun:=qdK (ty:=ty) (P:=C.P) (w:=w) (sT:=sT) (xT:=xT) (s:=s) (a:=some ⟨b,0,none⟩) (len:=es.length) (cap:=cap) (n:=ms.length) (xv:=.slice ay ms.length cy) (new:=new) (.inr ⟨_,hx2.und⟩) hlen (fun w' hw=>hyf C.P w' hw) hcc;have hmul:(es.length+ms.length) * s<=cap * s:=Nat.mul_le_mul_right _ hcc;rw[Nat.add_mul] at hmul;obtain ⟨w',r1,r2,r3,r4,r5,r6,r7⟩:=qbZ (P:=C.P) (b:=b) (off:=0+es.length * s) (t:=el) (fr:=(0,0)) new 0 w zs hz1 zo (fun j _ _=>by simp) (qir hyr hok);rw[hrun];simp only[add_mk,r1,Result.andThen_ok,Sem.run_pure];have he:0+es.length * s+0=es.length * s:=by omega
   rw[he] at r7;have hnl:new.length=ms.length * s:=hyl
   have hdr:RepL w L (spare.drop (ms.length * s)) (zs.drop (es.length * s+new.length)):=by
    have:=hz2.drop (es.length * s+new.length)
    rwa [List.drop_append,List.drop_eq_nil_of_le zo,List.nil_append,hfl,show es.length * s+new.length-es.length * s=ms.length * s by omega] at this
   refine qev (v:=.slice (some ⟨b,0,none⟩) (es.length+ms.length) cap) (lv:=.atom (.slice (some ⟨b,0,none⟩) (es.length+ms.length) cap)) (K:=K) (cs':=es.flatMap LV.cells++ms.flatMap LV.cells++spare.drop (ms.length * s)) hH r2 r3 r4 r5 r6 r7 ?_ (RepL.append (RepL.append hzt hyr) hdr) qah ?_
   ·simp only[zLa,List.length_take,List.length_drop,hfl];omega
   ·have hb:MRow el s (.slice (some ⟨b,0,none⟩) (es++ms).length cap) (es++ms) [(b,.cells el ((es++ms).flatMap LV.cells++spare.drop (ms.length * s)))]:=MRow.row (fun v hv=>by
      rcases List.mem_append.1 hv with hv|hv
      ·exact hs v hv
      ·exact hms v hv) (by rw[zLa];exact hcc) (by
      rw[zLa,List.length_drop,Nat.add_mul]
      omega)
    rw[zLa,List.flatMap_append] at hb;exact hk _ _ hb
  ·have hold:∀ w':World,w'.heap=w.heap->(Builtin.firstCells s es.length (.slice (some ⟨b,0,none⟩) es.length cap)).run C.P w'=.ok (zs.take (es.length * s)).toArray w':=fun w' hw=>by
    have:=qbl (P:=C.P) (w:=w') (b:=b) (off:=0) (es.length * s) 0 #[] (zs.take (es.length * s)) (by rw[List.length_take];omega) (fun j x' hj=>by
     have hj':zs[j]? = some x':=by
      rw[List.getElem?_take] at hj;split at hj
      ·exact hj
      ·cases hj
     simp[World.cell?,hw,hz1,hj'])
    simp only[Builtin.firstCells,loadCells,this]
    simp
   obtain ⟨cap',rest,r1,r2,r3⟩:=qbi (ty:=ty) (P:=C.P) (w:=w) (sT:=sT) (xT:=xT) (a:=some ⟨b,0,none⟩) (len:=es.length) (cap:=cap) (n:=ms.length) (xv:=.slice ay ms.length cy) (old:=zs.take (es.length * s)) (new:=new) (.inr ⟨_,hx2.und⟩) hlen (fun w' hw=>hyf C.P w' hw) hold hroom zo;rw[r3];simp only[Result.andThen_ok,Sem.run_pure];have hH0:RelH C w L []:=hH.sub (List.nil_sublist _)
   obtain ⟨lv,H',L',g1,g2,g3,g4⟩:=qm4 (K:=K) (el:=el) (s:=s) (es:=es++ms) (cap:=cap') (xs:=zs.take (es.length * s)++new) (rest:=rest) hH0.drew (by
     rw[List.flatMap_append];exact (RepL.append hzt hyr).mono (qej w L) _ _) (fun v hv=>by
     rcases List.mem_append.1 hv with hv|hv
     ·exact hs v hv
     ·exact hms v hv) (by rw[zLa];omega) (by
     rw[r2,zLa,<-Nat.add_mul];congr 1;omega) (fun v' H' h'=>hk v' H' h')
   rw[zLa] at g3;exact ⟨lv,H',L',g1.of_drew.wide (by simp),g2,g3,g4⟩
theorem S.appM {sT xT el s bytes:Nat} [ht:TSlice C.P sT el s] [hr:TRow C.P el s bytes] {e2 s2:Nat} [hx2:TSlice C.P xT e2 s2] {v:Value} {es ms:List LV} {HM F:Heap}
  (hx:e.ev x=.atom v) (hp:H.Perm (HM++F)) (ha:MRow el s v es HM) (hy:GL.elems (e.ev y)=some ms) (hms:∀ v∈ms,v.cells.length=s) (hok:(ms.flatMap LV.cells).all qc0=true) (hroom:(es.length+ms.length) * bytes<=140737488355328)
  (hk:∀ v' H',MRow el s v' (es++ms) H'->K (.atom v') (F++H')):qad C ⟨dst,.call { callee:=.builtin .append,args:=#[x,y],argTypes:=#[sT,xT] },ty,pos,aft,g⟩ e H K X:=by
 refine qad.conseq (K:=fun lv H'=>∃ v' H2,lv=.atom v'/\H'=H2++F/\MRow el s v' (es++ms) H2) (qad.frame hp (qad.appM hx ha hy hms hok hroom fun v' H' h=>⟨v',H',rfl,rfl,h⟩)) ?_;rintro lv H' ⟨v',H2,rfl,rfl,h⟩;exact ⟨_,F++H2,vR _,⟨[],by simpa using zPc⟩,hk _ _ h⟩
theorem Pure.mlen {t el el2 s s2:Nat} [TSlice C.P t el2 s2] {v:Value} {es:List LV} {Hv:Heap} (hx:e.ev x=.atom v) (ha:MRow el s v es Hv):Pure C ⟨dst,.call { callee:=.builtin .len,args:=#[x],argTypes:=#[t] },ty,pos,aft,g⟩ e H (int .i64 es.length):=by
 cases ha with
 |nil=>exact Pure.rowLen (m:=0) hx
 |row=>exact Pure.rowLen hx
end
/-! ### Cells of such a row -/
theorem qtV (P:List LV):∀ (Q:List LV) (f:Nat) (vs:List LV),setL (P++Q) (P.length+f) vs=P++setL Q f vs:=by
 induction P with
 |nil=>intro Q f vs;simp
 |cons p P ih=>
  intro Q f vs;have:(p::P).length+f=(P.length+f)+1:=by simp only[zLc];omega
  rw[this];show setL (p::(P++Q)) (P.length+f+1) vs=_;rw[setL,ih]
  try rfl
section
variable {C:Ctx} {e:Env} {H:Heap} {x y:Operand} {dst:Option Nat} {ty:TypeId} {pos:String} {aft:Array Edge} {g:Option (Nat×Bool)} {K:LV->Heap->Prop} {X:List PanicEntry->Heap->Prop}
theorem MRow.addr {el s:Nat} {v:Value} {es:List LV} {HM:Heap} (h:MRow el s v es HM) (hne:es≠[]):∃ b cap spare,v=.slice (some ⟨b,0,none⟩) es.length cap/\HM=[(b,.cells el (es.flatMap LV.cells++spare))]/\es.length<=cap/\es.length * s+spare.length=cap * s:=by
 cases h with
 |nil=>exact absurd rfl hne
 |row hs hc hl=>exact ⟨_,_,_,rfl,rfl,hc,hl⟩
end
/-! ### Settling -/
section settle
variable {C:Ctx} {n:Nat} {Q:Post} {e:Env} {H F:Heap}
end settle
end Go.GL
namespace Go.GL
open Go.RowKit
section
variable {C:Ctx} {e:Env} {H:Heap} {x y:Operand} {dst:Option Nat} {ty:TypeId} {pos:String} {aft:Array Edge} {g:Option (Nat×Bool)} {K:LV->Heap->Prop} {X:List PanicEntry->Heap->Prop}
theorem Pure.indexRowE {t el s:Nat} [ht:TSlice C.P t el s] {b off m cap o:Nat} {n:Int} {k:IntKind} (hx:e.ev x=.atom (.slice (some ⟨b,off,none⟩) m cap)) (hy:e.ev y=int k n) (h0:0<=n) (hn:n<m) (ho:off+n.toNat * s=o) :
  Pure C ⟨dst,.indexAddr t x y,ty,pos,aft,g⟩ e H (ptr b o):=ho▸Pure.indexRow hx hy h0 hn
theorem Pure.lsliceE {t el s:Nat} {lo hi:Option Operand} {es ms:List LV} {i j:Int} [ht:TSlice C.P t el s] (hx:elems (e.ev x)=some es)
  (hlo:qeV e lo 0 i) (hhi:qeV e hi es.length j) (h0:0<=i) (h1:i<=j) (h2:j<=es.length) (hs:∀ v∈es,v.cells.length=s) (he:(es.take j.toNat).drop i.toNat=ms) :
  Pure C ⟨dst,.slice t x lo hi none,ty,pos,aft,g⟩ e H (.list ms):=he▸Pure.lslice hx hlo hhi h0 h1 h2 hs
end
theorem MRow.of_cells {el b m cap:Nat} {es spare:List LV} (hs:∀ v∈es,v.cells.length=1) (hf:es.flatMap LV.cells=es) (hm:es.length=m) (hc:m<=cap) (hl:m+spare.length=cap) :
  MRow el 1 (.slice (some ⟨b,0,none⟩) m cap) es [(b,.cells el (es++spare))]:=by
 subst hm;have:=MRow.row (el:=el) (s:=1) (b:=b) (cap:=cap) (es:=es) (spare:=spare) hs hc zo
 rwa [hf] at this
section
variable {C:Ctx} {n:Nat} {Q:Post} {e:Env} {H F:Heap}
end
end Go.GL
namespace Go.GL
open Go.RowKit
section
variable {C:Ctx} {e:Env} {H:Heap} {dst:Option Nat} {ty:TypeId} {pos:String} {aft:Array Edge} {g:Option (Nat×Bool)} {K:LV->Heap->Prop} {X:List PanicEntry->Heap->Prop} {x y:Operand}
theorem qfa {P:Program} {kt:TypeId} {kd k:IntKind} {n:Int} (hkt:P.underlying kt=some (.int kd)) (b:Bool) (w:World):(Instr.checkKey b 10000 kt (.int k n)).run P w=.ok () w:=by
 have hck:Instr.checkKey b 10000 kt (.int k n)=Instr.checkKey b (9999+1) kt (.int k n):=rfl;rw[hck,Instr.checkKey];simp only[Sem.run_bind,qaa hkt,Result.andThen_ok,Sem.run_pure]
theorem S.insertK {t kt el:TypeId} {kd k:IntKind} (ht:C.P.underlying t=some (.map kt el)) (hkt:C.P.underlying kt=some (.int kd)) {b clock:Nat} {es es':Array MapEntry} {F:Heap} {m z:Operand} {n:Int} {v:Value} (hm:e.ev m=.atom (.map (some b))) (hx:e.ev x=int k n) (hz:e.ev z=.atom v)
  (hp:Pick (b,.obj (.map es clock)) H F) (hnew:Instr.findNow (.int kd) (.int k n) es.toList 0=some none) (he:es.push { key:=.int k n,val:=v,born:=clock }=es') (hk:K (.atom undef) ((b,.obj (.map es' (clock+1)))::F)):qad C ⟨dst,.insert t m x z,ty,pos,aft,g⟩ e H K X:=by
 subst he;refine qad.at1 hp fun ρ w L h hH=>?_;obtain ⟨hb0,hbs,hl,hx1,hx2⟩:=hH.objs _ (List.mem_singleton.2 rfl);simp only at hb0 hbs hl hx1 hx2;have h3:execOp ρ ⟨dst,.insert t m x z,ty,pos,aft,g⟩=(do Instr.mapUpdate t (ρ m) (ρ x) (ρ z);Pure.pure .skip):=rfl
 have hf:(Instr.findKey kt (.int k n) es.toList).run C.P w=.ok none w:=by
  simp only[Instr.findKey,Sem.run_bind,qaa hkt,Result.andThen_ok,hnew,Sem.run_pure]
 have hc:=qfa (P:=C.P) (n:=n) (k:=k) hkt false w;have hg:(getObj b).run C.P w=.ok (.map es clock) w:=by simp only[getObj,Sem.run,hx1]
 rw[h3,qag h hm,qag h hx,qag h hz];simp only[Instr.mapUpdate,Sem.run_bind,qaa ht,Result.andThen_ok,hg,hc,hf];have hs:(setObj b (.map (es.push { key:=.int k n,val:=v,born:=clock }) (clock+1))).run C.P w=.ok () (setW w b (.map (es.push { key:=.int k n,val:=v,born:=clock }) (clock+1))):=qez hx1 rfl;rw[hs];exact qgI (w':=setW w b (.map (es.push { key:=.int k n,val:=v,born:=clock }) (clock+1))) hH rfl rfl rfl rfl (by simp[setW]) (fun c hc=>qdR hc) (qeu hbs) (fun _=>qah) hk
end
end Go.GL
namespace Go.Stele
structure MsOk (s:MS):Prop where
 mem:∀ i,s.mem i<4294967296
 pc:s.pc<4294967296
 data:∀ v∈s.data,v<4294967296
 calls:∀ v∈s.calls,v<4294967296
 inp:∀ v∈s.inp,v<4294967296
 few:s.data.length<=256
 deep:s.calls.length<=64
theorem MsOk.push {s s':MS} {v:Nat} (h:MsOk s) (hv:v<4294967296) (hs:qes v s=.run s'):MsOk s':=by
 unfold qes at hs;split at hs
 ·rename_i hl
  injection hs with hs;subst hs;exact ⟨h.mem,h.pc,fun x hx=>(zMi.1 hx).elim (fun e=>e▸hv) (h.data x),h.calls,h.inp,by simp only[zLc];omega,h.deep⟩
 ·cases hs
theorem MsOk.pop {s:MS} {a:Nat} {r:List Nat} (h:MsOk s) (hd:s.data=a::r):a<4294967296/\MsOk { s with data:=r }:=by
 have h1:=h.data;have h2:=h.few;rw[hd] at h1 h2;exact ⟨h1 a zMs,h.mem,h.pc,fun x hx=>h1 x (zMo _ hx),h.calls,h.inp,by simp only[zLc] at h2;show r.length<=256;omega,h.deep⟩
theorem qwZ {a b:Nat} (ha:a<4294967296) (hb:b<4294967296):a ^^^ b<4294967296:=Nat.xor_lt_two_pow (n:=32) ha hb
theorem qwy {c a b v:Nat} (ha:a<4294967296) (hb:b<4294967296) (h:binM c a b=some v):v<4294967296:=by
 unfold binM at h;split at h
 ·injection h with h;rw[<-h];exact Nat.mod_lt _ zDd
 split at h
 ·injection h with h;rw[<-h];exact Nat.mod_lt _ zDd
 split at h
 ·injection h with h;rw[<-h];exact Nat.mod_lt _ zDd
 split at h
 ·split at h
  ·cases h
  ·injection h with h;rw[<-h];exact Nat.lt_of_le_of_lt (Nat.div_le_self _ _) ha
 split at h
 ·split at h
  ·cases h
  ·rename_i hb0
   injection h with h;rw[<-h];exact Nat.lt_trans (Nat.mod_lt _ (by omega)) hb
 split at h
 ·injection h with h;rw[<-h];exact qwZ ha hb
 ·injection h with h;rw[<-h];split <;> decide
theorem qwp {c:Nat} {s s':MS} (h:MsOk s) (hc:c<4294967296) (hs:exeM c s=.run s'):MsOk s':=by
 unfold exeM at hs;split at hs
 ·rename_i hd
  unfold qdh at hd;rw[zBa,zDe,zDe] at hd;unfold qnQ at hs;split at hs
  ·split at hs
   ·rename_i d r hdr
    injection hs with hs;subst hs;obtain ⟨_,h2⟩:=h.pop hdr;exact ⟨h2.mem,h2.pc,fun x hx=>(zMi.1 hx).elim (fun e=>by rw[e];exact Nat.mod_lt _ zDd) (h2.data x),h2.calls,h2.inp,by have:=h.few;rw[hdr] at this;exact this,h2.deep⟩
   ·cases hs
  ·exact h.push (by omega) hs
 split at hs
 ·injection hs with hs;subst hs;exact h
 split at hs
 ·unfold ldM at hs;split at hs
  ·rename_i a r hd
   split at hs
   ·exact (h.pop hd).2.push (h.mem a) hs
   ·cases hs
  ·cases hs
 split at hs
 ·unfold stoM at hs;split at hs
  ·rename_i a v r hd
   split at hs
   ·injection hs with hs;subst hs;obtain ⟨h1,h2⟩:=h.pop hd;obtain ⟨h3,h4⟩:=h2.pop (a:=v) (r:=r) rfl;refine ⟨fun i=>?_,h4.pc,h4.data,h4.calls,h4.inp,h4.few,h4.deep⟩;simp only;split
    ·exact h3
    ·exact h.mem i
   ·cases hs
  ·cases hs
 split at hs
 ·unfold jmpM at hs;split at hs
  ·rename_i t v r hd
   injection hs with hs;subst hs;obtain ⟨h1,h2⟩:=h.pop hd;obtain ⟨h3,h4⟩:=h2.pop (a:=v) (r:=r) rfl;refine ⟨h4.mem,?_,h4.data,h4.calls,h4.inp,h4.few,h4.deep⟩;simp only;split
   ·exact h1
   ·exact h.pc
  ·cases hs
 split at hs
 ·unfold qnA at hs;split at hs
  ·rename_i t r hd
   split at hs
   ·rename_i hl
    injection hs with hs;subst hs;obtain ⟨h1,h2⟩:=h.pop hd;exact ⟨h2.mem,h1,h2.data,fun x hx=>(zMi.1 hx).elim (fun e=>e▸h.pc) (h.calls x),h2.inp,h2.few,by simp only[zLc];omega⟩
   ·cases hs
  ·cases hs
 split at hs
 ·unfold bakM at hs;split at hs
  ·rename_i t r hd
   injection hs with hs;subst hs;have h1:=h.calls;have h2:=h.deep;rw[hd] at h1 h2;exact ⟨h.mem,h1 t zMs,h.data,fun x hx=>h1 x (zMo _ hx),h.inp,h.few,by simp only[zLc] at h2;show r.length<=64;omega⟩
  ·cases hs
 split at hs
 ·unfold rdM at hs;split at hs
  ·rename_i v r hi
   have h1:=h.inp;rw[hi] at h1;have h2:MsOk { s with inp:=r }:=⟨h.mem,h.pc,h.data,h.calls,fun x hx=>h1 x (zMo _ hx),h.few,h.deep⟩;exact h2.push (h1 v zMs) hs
  ·exact h.push zDd hs
 split at hs
 ·unfold wrM at hs;split at hs
  ·rename_i v r hd
   injection hs with hs;subst hs;obtain ⟨h1,h2⟩:=h.pop hd;exact ⟨h2.mem,h2.pc,h2.data,h2.calls,h2.inp,h2.few,h2.deep⟩
  ·cases hs
 split at hs
 ·cases hs
 split at hs
 ·unfold opM at hs;split at hs
  ·rename_i b a r hd
   obtain ⟨h1,h2⟩:=h.pop hd;obtain ⟨h3,h4⟩:=h2.pop (a:=a) (r:=r) rfl;split at hs
   ·rename_i v hv
    exact h4.push (qwy h3 h1 hv) hs
   ·cases hs
  ·cases hs
 ·cases hs
theorem quF (code:Wd) (og i:Nat):qgS code og i<4294967296:=by
 unfold qgS;split
 ·split
  ·rename_i c _
   have:=c.toNat_lt;omega
  ·decide
 ·decide
end Go.Stele
namespace Go.Proofs.YtdakelgkjdaijaaGreatDoor.Mch
open Go.GL Go.RowKit Go.Stele
open Inp (u32)
def us (l:List Nat):List LV:=l.map u32
theorem qfl (l:List Nat):(us l).length=l.length:=zLm _
theorem qrM (l:List Nat):∀ v∈us l,v.cells.length=1:=fun v hv=>by
 obtain ⟨a,_,rfl⟩:=List.mem_map.1 hv;rfl
theorem qi5:∀ l:List Nat,(us l).flatMap LV.cells=us l
 |[]=>rfl
 |a::l=>by
  show (u32 a::us l).flatMap LV.cells=u32 a::us l;rw[List.flatMap_cons,qi5 l];rfl
theorem qgw (l m:List Nat):us (l++m)=us l++us m:=zMa
theorem qnH {el b m cap:Nat} {l:List Nat} {spare:List LV} (hm:l.length=m) (hc:m<=cap) (hl:m+spare.length=cap):MRow el 1 (.slice (some ⟨b,0,none⟩) m cap) (us l) [(b,.cells el (us l++spare))]:=
 MRow.of_cells (qrM l) (qi5 l) (by rw[qfl];exact hm) hc hl
theorem qln {el s:Nat} {v:Value} {es:List LV} {H:Heap} (h:MRow el s v es H):(LV.atom v).cells? = some [LV.atom v]/\([LV.atom v].all qc0)=true:=by
 cases h <;> exact ⟨rfl,rfl⟩
theorem qqd {el:Nat} {v:Value} {l:List Nat} {H:Heap} (h:MRow el 1 v (us l) H) (hne:l≠[]):∃ b cap spare,v=.slice (some ⟨b,0,none⟩) l.length cap/\H=[(b,.cells el (us l++spare))]/\l.length<=cap/\l.length+spare.length=cap:=by
 obtain ⟨b,cap,spare,h1,h2,h3,h4⟩:=h.addr (by intro e;exact hne (List.map_eq_nil_iff.1 e));rw[qfl] at h1 h3 h4;rw[qi5] at h2;exact ⟨b,cap,spare,h1,h2,h3,by omega⟩
structure MF where
 mb:Nat
 vm:Value
 pc:Nat
 vc:Value
 inp:List Nat
 vo:LV
 digit:Bool
 st:Nat
 stop:Bool
 bm:Nat
def MF.cells (f:MF) (vd:Value):List LV:=[.atom f.vm,u32 f.pc,.atom vd,.atom f.vc,.list (us f.inp),f.vo,bool f.digit,int .i64 (f.st:Nat),bool f.stop,.atom (.map (some f.bm))]
def DH (f:MF) (data:List Nat) (H:Heap):Prop:=∃ vd HD,MRow 56 1 vd (us data.reverse) HD/\H=(f.mb,.cells 164 (f.cells vd))::HD
def qgt:List PanicEntry:=[{ v:=.iface 217 (.agg #[]),recovered:=false }]
def qnt (f:MF) (data:List Nat):LRes->Heap->Prop:=fun r H=>match data with
 |[]=>r=.panic qgt/\DH f [] H
 |v::d=>r=.ret (u32 v)/\DH f d H
def qig (f:MF) (data:List Nat) (v:Nat):LRes->Heap->Prop:=fun r H=>if data.length<256 then r=.ret (.tuple [])/\DH f (v::data) H else r=.panic qgt/\DH f data H
def qif (f:MF) (data:List Nat):LRes->Heap->Prop:=fun r H=>match data with
 |[]=>r=.panic qgt/\DH f [] H
 |v::d=>if v<262144 then r=.ret (u32 v)/\DH f d H else r=.panic qgt/\DH f d H
attribute [local irreducible] LOps qae qad LCalls Go.GL.Pure qax qaj qac LQ LAny qaE qal LS
section
variable {B0:Nat} {w0:World}
theorem check_spec (b:Bool):LCalls (KC B0 w0) 155 [bool b] [] (fun r H'=>H'=[]/\r=if b=true then .ret (.tuple []) else .panic qgt):=by
 refine cI Tryz.func155 rfl (n:=6) rfl rfl rfl ?_;refine gac ?_;refine oC rfl (fun hc=>?_) (fun hc=>?_)
 ·have hb:b=false:=by simpa using hc
  subst hb;refine gac ?_;refine oS (qad.panic rfl fun e' he'=>?_) rfl;exact qac.panic (he'.trans rfl) zhr ⟨rfl,rfl⟩
 ·have hb:b=true:=by simpa using hc
  subst hb;refine gaq ?_;exact rO rfl rN zhr ⟨rfl,rfl⟩
end
section
variable {B0:Nat} {w0:World} {e:Env} {H:Heap} {dst:Option Nat} {ty:TypeId} {pos:String} {aft:Array Edge} {g:Option (Nat×Bool)} {K:LV->Heap->Prop} {X:List PanicEntry->Heap->Prop}
theorem S.check {b:Bool} {o:Operand} {ats:Array TypeId} (hx:e.ev o=bool b) (hk:b=true->K (.tuple []) H) (hn:b=false->X qgt H):qad (KC B0 w0) ⟨dst,.call { callee:=.value (.func 155),args:=#[o],argTypes:=ats },ty,pos,aft,g⟩ e H K X:=by
 refine S.callH (H1:=[]) (F:=H) [o] (by simp only[zMc,List.map_nil,hx]) zpr (check_spec b) ?_ ?_
 ·rintro v H' ⟨rfl,h⟩
  cases b with
  |true=>cases h;exact hk rfl
  |false=>cases h
 ·rintro ch H' ⟨rfl,h⟩
  cases b with
  |true=>cases h
  |false=>cases h;exact hn rfl
end
section
variable {B0:Nat} {w0:World} {f:MF} {data:List Nat} {H:Heap}
theorem qq0 (h:DH f data H) (hf:data.length<=256) (v:Nat):LCalls (KC B0 w0) 195 [ptr f.mb 0,u32 v] H (qig f data v):=by
 obtain ⟨vd,HD,hm,rfl⟩:=h;have hl:(us data.reverse).length=data.length:=by rw[qfl,List.length_reverse]
 unfold qig;refine cI Tryz.func195 rfl (n:=21) rfl rfl rfl ?_;refine gaa ?_;refine oP (Pure.mlen rfl hm) rfl ?_;refine gab ?_;refine oS (S.check rfl (fun hb=>?_) (fun hb e' he'=>?_)) rfl
 ·have hlt:data.length<256:=by have:=zt hb;omega
  simp only[if_pos hlt];refine gaa ?_;refine zQ2 ?_;refine oS (S.appM (HM:=HD) (F:=[_]) rfl (List.perm_append_singleton _ _).symm hm rfl (by simp;rfl) rfl (by simp;omega) fun v' H' hm'=>?_) rfl;refine gab ?_;refine oS (sS (n:=1) (vs:=[LV.atom v']) (cs':=[_,_,_,_,_,_,_,_,_,_]) rfl pH (qln hm').1 rfl rfl (qln hm').2 rfl ?_) rfl;refine gaf ?_
  exact rO rfl rN zhr ⟨rfl,v',H',by
   rw[List.reverse_cons,qgw]
   exact hm',rfl⟩
 ·have hlt:¬ data.length<256:=by have:=zf hb;omega
  simp only[if_neg hlt];refine gak ?_;exact qac.panic (he'.trans rfl) zhr ⟨rfl,vd,HD,hm,rfl⟩
theorem qoo (h:DH f data H) (hf:data.length<=256):LCalls (KC B0 w0) 197 [ptr f.mb 0] H (qnt f data):=by
 obtain ⟨vd,HD,hm,rfl⟩:=h;have hl:(us data.reverse).length=data.length:=by rw[qfl,List.length_reverse]
 unfold qnt;refine cI Tryz.func197 rfl (n:=32) rfl rfl rfl ?_;refine gaa ?_;refine oP (Pure.mlen rfl hm) rfl ?_;refine gal ?_
 cases data with
 |nil=>
  refine oS (S.check rfl (fun hb=>?_) (fun hb e' he'=>?_)) rfl
  ·cases hb
  ·refine gak ?_
   exact qac.panic (he'.trans rfl) zhr ⟨rfl,vd,HD,hm,rfl⟩
 |cons a r=>
  refine oS (S.check rfl (fun hb=>?_) (fun hb=>?_)) rfl;rotate_left
  ·have:=zf hb;rw[hl,zLc] at this;omega
  obtain ⟨b,cap,spare,rfl,rfl,hc,hcap⟩:=qqd hm (by rw[List.reverse_cons];simp);rw[List.reverse_cons,qgw,zAs] at *;rw[zLa,List.length_reverse,List.length_singleton] at hc hcap;have hsz:(us r.reverse).length=r.length:=by rw[qfl,List.length_reverse]
  have hel:(r.reverse++[a]).length=r.length+1:=by simp
  rw[zLc] at hl hf;refine gac ?_;refine oP (Pure.indexRowE (o:=r.length) rfl rfl zo zo zo) rfl ?_;refine oP (pL (c:=u32 a) rfl zm1 (by rw[List.getElem?_append_right zo,hsz,Nat.sub_self];rfl)) rfl ?_;refine gac ?_;refine oP (Pure.rowSlice (n:=r.length) rfl (by exact qak zo) zo) rfl ?_;refine gac ?_;exact rR rfl (zra rfl) zhr ⟨rfl,_,_,qnH (l:=r.reverse) (spare:=us [a]++spare) (by rw[List.length_reverse]) zo (by rw[zLa,qfl];simp only[List.length_singleton];omega),rfl⟩
theorem qfG (h:DH f data H) (hf:data.length<=256):LCalls (KC B0 w0) 196 [ptr f.mb 0] H (qif f data):=by
 have hp:=qoo (B0:=B0) (w0:=w0) h hf;unfold qnt at hp;unfold qif;refine cI Tryz.func196 rfl (n:=10) rfl rfl rfl ?_;refine gao ?_
 cases data with
 |nil=>
  refine oS (S.callH (H1:=H) (F:=[]) [_] rfl (by rw[zLz]) hp ?_ ?_) rfl
  ·rintro v H' ⟨h1,_⟩;cases h1
  ·rintro ch H' ⟨h1,h2⟩ e' he';cases h1;refine gak ?_
   exact qac.panic (he'.trans rfl) zhr ⟨rfl,by rw[zLz];exact h2⟩
 |cons a r=>
  refine oS (S.callH (H1:=H) (F:=[]) [_] rfl (by rw[zLz]) hp ?_ ?_) rfl;rotate_left
  ·rintro ch H' ⟨h1,_⟩;cases h1
  ·rintro v H' ⟨h1,h2⟩;cases h1;rw[zLz];refine gaa ?_;refine oS (S.check rfl (fun hb=>?_) (fun hb e' he'=>?_)) rfl
   ·have hlt:a<262144:=by have:(a:Int)<262144:=zt hb;omega
    simp only[if_pos hlt];refine gaa ?_;exact rR rfl (zra rfl) zhr ⟨rfl,h2⟩
   ·have hlt:¬ a<262144:=by have:¬ (a:Int)<262144:=zf hb;omega
    simp only[if_neg hlt];refine gak ?_;exact qac.panic (he'.trans rfl) zhr ⟨rfl,h2⟩
end
end Go.Proofs.YtdakelgkjdaijaaGreatDoor.Mch
