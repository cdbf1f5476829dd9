/- Texts joined: RC5, RC6, RC7, RC8, RC9, A23B. -/
import Derived.Test.YthmhncflhnbedaaGreatDoorBRowCB4
import Derived.Test.YthmhncflhnbedaaGreatDoorBRowCB10
import Derived.Test.YthmhncflhnbedaaGreatDoorBRowCB11
set_option linter.unusedVariables false
set_option linter.unusedSimpArgs false
set_option maxRecDepth 100000
set_option maxHeartbeats 4000000
namespace Go.Proofs.YthmhncflhnbedaaGreatDoor.RC
open Go.GL Go.RowKit Go.Stele
theorem qc1:∀ {l:List Sm} {f:Sm},f∈l->ndS f<=ndSs l
 |g::l,f,h=>by
  rw[ndSs];rcases zMi.1 h with rfl|h
  ·omega
  ·have:=qc1 h;omega
theorem qfD:∀ a b:List Ex,ndEs (a++b)=ndEs a+ndEs b
 |[],b=>by rw[ndEs,List.nil_append];omega
 |x::a,b=>by rw[List.cons_append,ndEs,ndEs,qfD a b];omega
theorem qek (a b c:Int):orE (orE a b) c=orE a (orE b c):=by
 unfold orE
 by_cases h:a=0
 ·subst h;rfl
 ·rw[if_pos h,if_pos h,if_pos h]
theorem orE_ne {a b:Int} (h:a≠0):orE a b=a:=by unfold orE;rw[if_pos h]
theorem qhP (l:List Ex):∀ v∈l.map encE,v.cells.length=4:=fun v hv=>by
 obtain ⟨x,_,rfl⟩:=List.mem_map.1 hv;rfl
theorem qj4 (l:List Ex):((l.map encE).flatMap LV.cells).all qd6=true:=by
 induction l with
 |nil=>rfl
 |cons a l ih=>
  simp only[zMc,List.flatMap_cons,List.all_append,ih,Bool.and_true];rfl
@[reducible] def smH (b:Nat) (kind:Int) (name:Nm) (index value:List Ex) (thn els:List Sm):Nat×LObj:=(b,.cells 179 [int .i64 kind,str name,.list (index.map encE),.list (value.map encE),.list (thn.map encS),.list (els.map encS)])
attribute [local irreducible] LOps qae qag LCalls Go.GL.Pure qaA qaq qah LQ LAny qaF qap LS
section
variable {B0:Nat} {w0:World}
def BodyH (B0:Nat) (w0:World) (own:Nm) (c:CEnv) (fs:List FnD) (n:Nat):Prop:=∀ l:List Sm,ndSs l<n->LCalls (KC B0 w0) 77 [.agg [str own,.list (c.own.map str),.list (c.vars.map str),.list (c.arrays.map str),.list (fs.map qav),.list (c.later.map str)],.list (l.map encS)] [] (qf9 (qa7 c l))
theorem qlc {own:Nm} {c:CEnv} {fs:List FnD} (h:ScOk c fs):∀ n:Nat,n<=100000000->BodyH B0 w0 own c fs n
 |0,_=>fun l h=>by omega
 |n+1,hn6=>by
  have ih:=qlc (own:=own) h n zo;have hex:qql B0 w0 own c fs n:=qcF h n zo;intro l hnd;have hal:=qcn l;have hex':∀ x:Ex,ndE x<=n->LCalls (KC B0 w0) 138 [.agg [str own,.list (c.own.map str),.list (c.vars.map str),.list (c.arrays.map str),.list (fs.map qav),.list (c.later.map str)],encE x] [] (qf9 (errE c x)):=hex;generalize hI:qa7 c l=E;refine cI Tryz.func77 rfl (n:=78) rfl rfl rfl ?_;refine gag ?_;refine oS (sB rfl fun b2=>?_) rfl;refine oS (sA fun b4=>?_) rfl;refine gaa ?_
  refine oL (fun kk ls H'=>∃ (pre l1:List Sm),l=pre++l1/\kk=l1.length/\ls=[(2,ptr b2 0),(4,ptr b4 0),(11,.list (l.map encS)),(12,int .i64 ((l.map encS).length:Int)),(13,int .i64 (pre.length:Int))] /\
    H'=[pbH b4 [] 0,scH b2 own c fs]/\qa7 c l1=E)
   ⟨l.length,_,_,⟨[],l,rfl,rfl,rfl,rfl,hI⟩,⟨rfl,rfl,rfl,rfl,rfl,trivial⟩,zhR _⟩ ?_
  rintro kk ls H' ⟨pre,l1,hL,rfl,rfl,rfl,hI2⟩ j hj;have hb:=qbR hL (show l.length<=100000000 by omega);refine gai ?_;refine oC rfl (fun hc=>?_) (fun hc=>?_);rotate_left
  ·obtain rfl:=qaS hL hc;refine gab ?_;exact retB (nm:=[]) hj (rC (rA rfl zm0 rfl zsr) rN) (by rw[<-hI2,qa7];rfl)
  obtain ⟨a,l2,rfl⟩:=more hL hc;have ham:ndS a<=ndSs l:=qc1 (by rw[hL];exact List.mem_append_right _ zMs);obtain ⟨kind,name,index,value,thn,els⟩:=a;have hfm:=qpt (B0:=B0) (w0:=w0) (.mk kind name index value thn els);rw[qbk] at hfm;rw[qa7,errS] at hI2;rw[ndS] at ham;refine zQ49 ?_;refine oS (sA fun b6=>?_) rfl;refine gab ?_;refine oS (sF [_] rfl hfm ?_) rfl;refine gad ?_
  by_cases hf:qbz (.mk kind name index value thn els)=false
  ·rw[if_pos hf] at hI2;refine oC rfl (fun _=>?_) (fun hd=>?_);rotate_left
   ·have h2:(!qbz (.mk kind name index value thn els))=false:=hd;rw[hf] at h2;cases h2
   refine gab ?_;exact retB (nm:=own) hj (rC (rA rfl zm0 rfl zsr) rN) (by rw[<-hI2];rfl)
  rw[if_neg hf] at hI2;refine oC rfl (fun hd=>?_) (fun _=>?_)
  ·have h2:(!qbz (.mk kind name index value thn els))=true:=hd;rw[Bool.not_eq_true'] at h2;exact absurd h2 hf
  have hvi:(value++index).length<=100000000:=by
   have g1:=qbT value;have g2:=qbT index;rw[zLa];omega
  rw[zLa] at hvi
  have hI3:orE (qaZ c (value++index)) (orE (if kind=1 then qbj c name else if kind=2 then qdr c name else 0) (orE (qa7 c thn) (orE (qa7 c els) (qa7 c l2))))=E:=by
   rw[qk3,<-hI2];simp only[qek]
  clear hI2;refine gad ?_;refine cD (m:=9) rfl [smH b6 kind name index value thn els] ?_;refine zQ71 ?_;refine aT 8 rfl rfl (pM (lv:=.atom _) rfl) ?_;refine aL ?_ zhp;refine lO 0 (lS (H1:=[]) rfl (.inl rfl) rfl zpr zhp (S.litA (es:=[]) [] rfl eN rfl rfl rfl fun b7=>?_));refine lO 3 (lS (H1:=[(b7,.row 0)]) rfl (.inl rfl) rfl zpr zhp (S.acc (F:=[]) rfl Acc.row rfl (qhP _) (qj4 _) (by simp;omega) fun v1 H1 h1=>?_));refine lO 6 (lS (H1:=H1) rfl (.inl rfl) rfl zpr zhp (S.acc (F:=[]) rfl h1 rfl (qhP _) (qj4 _) (by simp;omega) fun v2 H2 h2=>?_));have e2:([]++value.map encE++index.map encE:List LV)=(value++index).map encE:=by simp
  rw[e2] at h2;refine lO 7 (lH rfl rfl (Pure.llen (h2.elems)) ?_);refine lD zk ?_;refine gad ?_;refine qae.sub (d:=29) rfl h2.sub ?_;refine cW (H':=[smH b6 kind name index value thn els,pbH b4 [] 0,scH b2 own c fs]) ⟨H2,zPc⟩ ?_;have hll:((value++index).map encE).length=value.length+index.length:=by simp
  refine oL (fun kk ls H'=>∃ (pre2 l3:List Ex),value++index=pre2++l3/\kk=l3.length/\ls=[(2,ptr b2 0),(4,ptr b4 0),(6,ptr b6 0),(11,.list (l.map encS)),(12,int .i64 ((l.map encS).length:Int)),(13,int .i64 (pre.length:Int)),(29,.list ((value++index).map encE)),(30,int .i64 (((value++index).map encE).length:Int)),(31,int .i64 (pre2.length:Int))] /\
    H'=[smH b6 kind name index value thn els,pbH b4 [] 0,scH b2 own c fs]/\orE (qaZ c l3) (orE (if kind=1 then qbj c name else if kind=2 then qdr c name else 0) (orE (qa7 c thn) (orE (qa7 c els) (qa7 c l2))))=E)
   ⟨_,_,_,⟨[],value++index,rfl,rfl,rfl,rfl,hI3⟩,⟨rfl,rfl,rfl,rfl,rfl,rfl,rfl,rfl,rfl,trivial⟩,zhR _⟩ ?_
  rintro kk ls H' ⟨pre2,l3,hL2,rfl,rfl,rfl,hI4⟩ j2 hj2;have hb2:=qbR hL2 (show (value++index).length<=100000000 by rw[zLa];omega);refine gai ?_;refine oC rfl (fun hc2=>?_) (fun hc2=>?_)
  ·obtain ⟨a,l4,rfl⟩:=more hL2 hc2;have ham2:ndE a<=ndEs (value++index):=qdo (by rw[hL2];exact List.mem_append_right _ zMs);rw[qfD] at ham2;rw[qaZ,qek] at hI4;refine gak ?_;refine oP (xR (el':=encE a) (cs:=[_,_,_,_]) rfl rfl zo (by rw[hL2];exact get_mid encE pre2 a l4) rfl rfl) rfl ?_;refine gav ?_;refine oS (sA fun b8=>?_) rfl;refine gab ?_;refine oS (S.pb [_,_] rfl (hex' a zo) fun nm=>?_) rfl;refine oS (sA fun b9=>?_) rfl;refine gab ?_
   by_cases h1:errE c a=0
   ·rw[h1] at hI4 ⊢;refine oC rfl (fun hd=>by cases hd) (fun _=>?_);refine gaa ?_;exact ⟨l4.length,_,_,Nat.lt_succ_self _,⟨pre2++[a],l4,snoc hL2,rfl,rfl,rfl,hI4⟩,⟨rfl,rfl,rfl,rfl,rfl,rfl,rfl,rfl,qaf (by simp),trivial⟩,zhD (zhD zhr),hj2⟩
   ·refine oC rfl (fun _=>?_) (fun hd=>?_);rotate_left
    ·have h2:(!decide (errE c a=0))=false:=hd;simp at h2;exact absurd h2 h1
    rw[orE_ne h1] at hI4;refine gab ?_;exact retB (nm:=nm) (hj2.trans hj) (rC (rA (k:=2) rfl zm0 rfl zsr) rN) (by rw[<-hI4];rfl)
  obtain rfl:=qaS hL2 hc2;have hI5:orE (if kind=1 then qbj c name else if kind=2 then qdr c name else 0) (orE (qa7 c thn) (orE (qa7 c els) (qa7 c l2)))=E:=hI4;refine gab ?_;refine oS (sA fun b10=>?_) rfl;refine gab ?_;refine qae.mid (A:=Nm) (fun _=>[(2,ptr b2 0),(4,ptr b4 0),(6,ptr b6 0),(10,ptr b10 0),(11,.list (l.map encS)),(12,int .i64 ((l.map encS).length:Int)),(13,int .i64 (pre.length:Int))]) (fun nm=>[pbH b10 nm (if kind=1 then qbj c name else 0),smH b6 kind name index value thn els,pbH b4 [] 0,scH b2 own c fs]) (fun _=>True) ?_ ?_
  ·by_cases k1:kind=1
   ·refine oC rfl (fun _=>?_) (fun hd=>absurd k1 (zf hd));refine gab ?_;refine oS (S.pb [_,_] rfl (qb7 (own:=own) h name) fun nm=>?_) rfl;refine gad ?_;exact ⟨nm,trivial,⟨rfl,rfl,rfl,rfl,rfl,rfl,rfl,trivial⟩,by rw[if_pos k1],rfl⟩
   ·refine oC rfl (fun hd=>absurd (zt hd) k1) (fun _=>?_);refine gar ?_;exact ⟨[],trivial,⟨rfl,rfl,rfl,rfl,rfl,rfl,rfl,trivial⟩,by rw[if_neg k1],rfl⟩
  rintro nm1 _ j3 hj3;refine gab ?_;refine qae.mid (A:=Nm) (fun _=>[(2,ptr b2 0),(4,ptr b4 0),(6,ptr b6 0),(10,ptr b10 0),(11,.list (l.map encS)),(12,int .i64 ((l.map encS).length:Int)),(13,int .i64 (pre.length:Int))]) (fun nm=>[pbH b10 nm (if kind=1 then qbj c name else if kind=2 then qdr c name else 0),smH b6 kind name index value thn els,pbH b4 [] 0,scH b2 own c fs]) (fun _=>True) ?_ ?_
  ·by_cases k2:kind=2
   ·refine oC rfl (fun _=>?_) (fun hd=>absurd k2 (zf hd));refine gab ?_;refine oS (S.pb [_,_] rfl (qhn (own:=own) h name) fun nm=>?_) rfl;refine gad ?_;exact ⟨nm,trivial,⟨rfl,rfl,rfl,rfl,rfl,rfl,rfl,trivial⟩,by rw[if_neg zo,if_pos k2],rfl⟩
   ·refine oC rfl (fun hd=>absurd (zt hd) k2) (fun _=>?_);refine gar ?_;exact ⟨nm1,trivial,⟨rfl,rfl,rfl,rfl,rfl,rfl,rfl,trivial⟩,by rw[if_neg k2],rfl⟩
  rintro nm2 _ j4 hj4;generalize (if kind=1 then qbj c name else if kind=2 then qdr c name else 0)=e1 at hI5 ⊢;refine gaa ?_;refine qae.mid (A:=Nm) (fun _=>[(2,ptr b2 0),(4,ptr b4 0),(6,ptr b6 0),(10,ptr b10 0),(11,.list (l.map encS)),(12,int .i64 ((l.map encS).length:Int)),(13,int .i64 (pre.length:Int))]) (fun nm=>[pbH b10 nm (orE e1 (qa7 c thn)),smH b6 kind name index value thn els,pbH b4 [] 0,scH b2 own c fs]) (fun _=>True) ?_ ?_
  ·by_cases k3:e1=0
   ·refine oC rfl (fun _=>?_) (fun hd=>absurd k3 (zf hd));refine gab ?_;refine oS (S.pb [_,_] rfl (ih thn zo) fun nm=>?_) rfl;refine gad ?_;exact ⟨nm,trivial,⟨rfl,rfl,rfl,rfl,rfl,rfl,rfl,trivial⟩,by rw[k3];rfl,rfl⟩
   ·refine oC rfl (fun hd=>absurd (zt hd) k3) (fun _=>?_);refine gar ?_;exact ⟨nm2,trivial,⟨rfl,rfl,rfl,rfl,rfl,rfl,rfl,trivial⟩,by rw[orE_ne k3],rfl⟩
  rintro nm3 _ j5 hj5;rw[<-qek] at hI5;generalize orE e1 (qa7 c thn)=e2 at hI5 ⊢;refine gaa ?_;refine qae.mid (A:=Nm) (fun _=>[(2,ptr b2 0),(4,ptr b4 0),(6,ptr b6 0),(10,ptr b10 0),(11,.list (l.map encS)),(12,int .i64 ((l.map encS).length:Int)),(13,int .i64 (pre.length:Int))]) (fun nm=>[pbH b10 nm (orE e2 (qa7 c els)),smH b6 kind name index value thn els,pbH b4 [] 0,scH b2 own c fs]) (fun _=>True) ?_ ?_
  ·by_cases k3:e2=0
   ·refine oC rfl (fun _=>?_) (fun hd=>absurd k3 (zf hd));refine gab ?_;refine oS (S.pb [_,_] rfl (ih els zo) fun nm=>?_) rfl;refine gad ?_;exact ⟨nm,trivial,⟨rfl,rfl,rfl,rfl,rfl,rfl,rfl,trivial⟩,by rw[k3];rfl,rfl⟩
   ·refine oC rfl (fun hd=>absurd (zt hd) k3) (fun _=>?_);refine gar ?_;exact ⟨nm3,trivial,⟨rfl,rfl,rfl,rfl,rfl,rfl,rfl,trivial⟩,by rw[orE_ne k3],rfl⟩
  rintro nm4 _ j6 hj6;rw[<-qek] at hI5;generalize orE e2 (qa7 c els)=e3 at hI5 ⊢;have hjj:=((hj6.trans hj5).trans (hj4.trans hj3)).trans hj2;refine gab ?_
  by_cases k3:e3=0
  ·subst k3;refine oC rfl (fun hd=>by cases hd) (fun _=>?_);refine gaa ?_;exact ⟨l2.length,_,_,Nat.lt_succ_self _,⟨pre++[_],l2,snoc hL,rfl,rfl,rfl,hI5⟩,⟨rfl,rfl,rfl,rfl,qaf (by simp),trivial⟩,zhD (zhD zhr),hjj.trans hj⟩
  ·refine oC rfl (fun _=>?_) (fun hd=>?_);rotate_left
   ·have h2:(!decide (e3=0))=false:=hd;simp at h2;exact absurd h2 k3
   rw[orE_ne k3] at hI5;refine gab ?_;exact retB (nm:=nm4) (hjj.trans hj) (rC (rA (k:=2) rfl zm0 rfl zsr) rN) (by rw[hI5];rfl)
end
end Go.Proofs.YthmhncflhnbedaaGreatDoor.RC
namespace Go.Proofs.YthmhncflhnbedaaGreatDoor.RC
open Go.GL Go.RowKit Go.Stele
@[reducible] def iv (n:Nat):LV:=int .i64 (n:Int)
def qkS:List Nat->Nat
 |[]=>0
 |a::l=>l.foldl max a
theorem qqh (l:List Nat):∀ v∈l.map iv,v.cells.length=1:=fun v hv=>by
 obtain ⟨x,_,rfl⟩:=List.mem_map.1 hv;rfl
theorem qsk (l:List Nat):((l.map iv).flatMap LV.cells).all qd6=true:=by
 induction l with
 |nil=>rfl
 |cons a l ih=>
  simp only[zMc,List.flatMap_cons,List.all_append,ih,Bool.and_true];rfl
theorem qdt (l:List Nat):qdc 1 (l.map iv):=fun v hv=>by
 obtain ⟨x,_,rfl⟩:=List.mem_map.1 hv;exact ⟨rfl,rfl⟩
theorem qoE {a b:Nat} (h:a=b):iv a=iv b:=by rw[h]
theorem qf8 (c:CEnv) (x:Ex):∀ l:List Ex,qaK c (l++[x])=qaK c l++[qa9 c x]
 |[]=>rfl
 |y::l=>by
  show qaK c (y::(l++[x]))=_;rw[qaK,qf8 c x l,qaK];rfl
attribute [local irreducible] LOps qae qag LCalls Go.GL.Pure qaA qaq qah LQ LAny qaF qap LS
section
variable {B0:Nat} {w0:World}
theorem qbD (a:Nat) (r:List Nat) (hl:r.length<=1000):LCalls (KC B0 w0) 141 [.list ((a::r).map iv)] [] (Ret (iv (qkS (a::r)))):=by
 generalize hA:a::r=A;have hAl:A.length<=1001:=by rw[<-hA,zLc];omega
 refine cI Tryz.func141 rfl (n:=21) rfl rfl rfl ?_;refine gaa ?_;refine oP (xR (el':=iv a) (cs:=[_]) rfl rfl zo (by rw[<-hA];rfl) rfl rfl) rfl ?_;refine gab ?_
 refine oL (fun k ls H'=>∃ pre l1,A=pre++l1/\k=l1.length/\ls=[(3,iv (pre.foldl max a)),(9,.list (A.map iv)),(10,int .i64 ((A.map iv).length:Int)),(11,int .i64 (pre.length:Int))]/\H'=[])
  ⟨_,_,_,⟨[],A,rfl,rfl,rfl,rfl⟩,⟨rfl,rfl,rfl,rfl,trivial⟩,zhR _⟩ ?_
 rintro k ls H' ⟨pre,l1,hL,rfl,rfl,rfl⟩ j hj;have hb:=qbR hL hAl;refine gai ?_;refine oC rfl (fun hc=>?_) (fun hc=>?_)
 ·obtain ⟨x,l2,rfl⟩:=more hL hc;refine gak ?_;refine oP (xR (el':=iv x) (cs:=[_]) rfl rfl zo (by rw[hL];exact get_mid iv pre x l2) rfl rfl) rfl ?_;refine gab ?_;refine oC rfl (fun hd=>?_) (fun hd=>?_)
  ·have h1:=zt hd;refine gaa ?_;exact ⟨l2.length,_,_,Nat.lt_succ_self _,⟨pre++[x],l2,snoc hL,rfl,rfl,rfl⟩,⟨qoE (by rw[List.foldl_append];show x=max (pre.foldl max a) x;omega),rfl,rfl,qaf (by simp),trivial⟩,zhR _,hj⟩
  ·have h1:=zf hd;refine gaa ?_;exact ⟨l2.length,_,_,Nat.lt_succ_self _,⟨pre++[x],l2,snoc hL,rfl,rfl,rfl⟩,⟨qoE (by rw[List.foldl_append];show pre.foldl max a=max (pre.foldl max a) x;omega),rfl,rfl,qaf (by simp),trivial⟩,zhR _,hj⟩
 ·obtain rfl:=qaS hL hc;rw[zLz] at hL;refine gaa ?_;exact qac hj (zra rfl) (qoE (by rw[<-hL,<-hA];show (r.foldl max (max a a))=_;rw[Nat.max_self];rfl))
def qsV (B0:Nat) (w0:World) (c:CEnv) (fs:List FnD) (n:Nat):Prop:=∀ x:Ex,errE c x=0->ndE x<n->LCalls (KC B0 w0) 181 [encE x,.list (fs.map qav),.list ((c.funcs.map (·.need)).map iv)] [] (Ret (iv (qa9 c x)))
theorem qlv {c:CEnv} {fs:List FnD} (hfl:fs.length<=100000000) (hfn:c.funcs.map (·.name)=fs.map (·.name)) (hd:Dist c.funcs) {B D:Nat} (hB:KnB B D c.funcs) (hB8:B<=100000000):∀ n:Nat,n<=100000000->qsV B0 w0 c fs n
 |0,_=>fun x _ h=>by omega
 |n+1,hn6=>by
  have ih:=qlv hfl hfn hd hB hB8 n zo;intro x herr hnd;obtain ⟨op,num,name,args⟩:=x;rw[ndE] at hnd;have hal:=qbT args;rw[errE] at herr;have hop:qba op = -1∨qba op=(args.length:Int):=Decidable.byContradiction fun h=>by rw[if_neg h] at herr;cases herr
  rw[if_pos hop] at herr;obtain ⟨hea,hue⟩:=qad.1 herr;have hea0:=hea;generalize hR:iv (qa9 c (.mk op num name args))=R;rw[qa9] at hR;rw[qbW];refine cI Tryz.func181 rfl (n:=156) rfl rfl rfl ?_;refine gag ?_;refine oS (sB rfl fun b3=>?_) rfl;refine ga0 ?_;refine oS (S.litA (es:=[]) [] rfl eN rfl rfl rfl fun b7=>?_) rfl;refine gab ?_
  refine oL (fun kk ls H'=>∃ (pre l1:List Ex) (v:LV) (Ha:Heap),args=pre++l1/\kk=l1.length/\ls=[(1,.list (fs.map qav)),(2,.list ((c.funcs.map (·.need)).map iv)),(3,ptr b3 0),(7,v),(16,.list (args.map encE)),(17,int .i64 ((args.map encE).length:Int)),(18,int .i64 (pre.length:Int))] /\
    H'=exH b3 op num name args::Ha/\GL.Acc 1 v ((qaK c pre).map iv) Ha []/\qaZ c l1=0)
   ⟨_,_,_,⟨[],args,.app b7 0 1 [],[(b7,.row 0)],rfl,rfl,rfl,rfl,Acc.row,hea⟩,⟨rfl,rfl,rfl,rfl,rfl,rfl,rfl,trivial⟩,⟨[],by simpa using List.Perm.swap _ _ _⟩⟩ ?_
  rintro kk ls H' ⟨pre,l1,v,Ha,hL,rfl,rfl,rfl,hacc,hI2⟩ j hj;have hb:=qbR hL (show args.length<=100000000 by omega);refine gai ?_;refine oC rfl (fun hc=>?_) (fun hc=>?_)
  ·obtain ⟨a,l2,rfl⟩:=more hL hc;have ham:ndE a<=ndEs args:=qdo (by rw[hL];exact List.mem_append_right _ zMs);rw[qaZ] at hI2;obtain ⟨h1,h2⟩:=qad.1 hI2;refine zQ87 ?_;refine oS (sA fun b9=>?_) rfl;refine gab ?_;refine zQ60 ?_;refine gac ?_;refine oS (sF [_,_,_] rfl (ih a h1 zo) ?_) rfl;refine oS (sL (es:=[qa9 c a].map iv) [_] rfl (zeC rfl rfl eN) rfl rfl rfl ?_) rfl;have hnl:(qaK c pre).length=pre.length:=qcp c pre;refine oS (sG (A:=[_,_]) (H1:=Ha) (zPc (l₁:=[_,_])) rfl hacc rfl (qqh _) (qsk _) (by rw[zLm,zLm,List.length_singleton];omega) fun v2 H2 hacc2=>?_) rfl;refine oP (pA (lv:=v2) rfl) rfl ?_;refine gat ?_;exact ⟨l2.length,_,_,Nat.lt_succ_self _,⟨pre++[a],l2,v2,H2,snoc hL,rfl,rfl,rfl,by rw[qf8,zMa];exact hacc2,h2⟩,⟨rfl,rfl,rfl,rfl,rfl,rfl,qaf (by simp),trivial⟩,zhD zhr,hj⟩
  obtain rfl:=qaS hL hc;rw[zLz] at hL;subst hL;clear hI2;refine gad ?_;refine qae.sub (d:=7) rfl hacc.sub ?_;refine cW (H':=[exH b3 op num name args]) ⟨Ha,List.Perm.refl _⟩ ?_
  have hnE:∀ x∈args,qa9 c x<=500000000:=fun x hx=>by
   have h1:=qef B D c hB x;have h2:=qdo hx;omega
  have two:∀ {k:Int},qba op=k->0<=k->args.length=k.toNat:=fun {k} h h0=>by
   rcases hop with h1|h1 <;> omega
  refine gaa ?_
  by_cases h1:op=[110,117,109]
  ·subst h1;refine oC rfl (fun _=>?_) (fun hc=>by cases hc);refine gar ?_;refine oC rfl (fun _=>?_) (fun hc=>by cases hc);refine gaz ?_;exact qac hj (zra rfl) hR
  refine oC rfl (fun hc=>absurd (zt hc) h1) (fun _=>?_);refine gaj ?_
  by_cases h2:op=[118,97,114]
  ·subst h2;refine oC rfl (fun _=>?_) (fun hc=>by cases hc);refine gaz ?_;exact qac hj (zra rfl) hR
  refine oC rfl (fun hc=>absurd (zt hc) h2) (fun _=>?_);refine gaj ?_
  by_cases h3:op=[101,108,101,109]
  ·subst h3;obtain ⟨x,rfl⟩:=List.length_eq_one_iff.1 (two rfl zDd);have hx:=hnE x zMs;refine oC rfl (fun _=>?_) (fun hc=>by cases hc);refine gar ?_;refine oC rfl (fun _=>?_) (fun hc=>by cases hc);refine zQ80 ?_;exact qac hj (zra rfl) (by rw[<-hR];exact qaf (by simp[opN,nNum,nVar,qdH,nNeg,qaK]))
  refine oC rfl (fun hc=>absurd (zt hc) h3) (fun _=>?_);refine gaj ?_
  by_cases h4:op=[110,101,103]
  ·subst h4;obtain ⟨x,rfl⟩:=List.length_eq_one_iff.1 (two rfl zDd);have hx:=hnE x zMs;refine oC rfl (fun _=>?_) (fun hc=>by cases hc);refine zQ80 ?_;exact qac hj (zra rfl) (by rw[<-hR];exact qaf (by simp[opN,nNum,nVar,qdH,nNeg,qaK]))
  refine oC rfl (fun hc=>absurd (zt hc) h4) (fun _=>?_);refine gaj ?_
  by_cases h5:op=[110,111,116]
  ·subst h5;obtain ⟨x,rfl⟩:=List.length_eq_one_iff.1 (two rfl zDd);refine oC rfl (fun _=>?_) (fun hc=>by cases hc);refine zQ80 ?_;refine oS (sL (es:=[2,qa9 c x].map iv) [_,_] rfl (qdt _) rfl rfl rfl ?_) rfl;refine oS (sF [_] rfl (qbD 2 [qa9 c x] (by simp)) ?_) rfl;refine gae ?_;exact qac hj (zra rfl) (by rw[<-hR];rfl)
  refine oC rfl (fun hc=>absurd (zt hc) h5) (fun _=>?_);refine gaj ?_
  have hbin:op≠[99,97,108,108]->args.length=2:=fun h6=>by
   unfold qba at hop;rw[if_neg (fun h=>h.elim h1 h2),if_neg (fun h=>h.elim h3 (fun h=>h.elim h4 h5)),if_neg (show ¬ op=qa8 from h6)] at hop;split at hop <;> rcases hop with h|h <;> omega
  have pair:op≠[99,97,108,108]->∃ x y,args=[x,y]:=fun h6=>by
   have:=hbin h6
   match args,this with
   |[x,y],_=>exact ⟨x,y,rfl⟩
  by_cases h6:op=[62]
  ·subst h6;obtain ⟨x,y,rfl⟩:=pair zDd;have hx:=hnE x zMs;have hy:=hnE y (zMo _ zMs);refine oC rfl (fun _=>?_) (fun hc=>by cases hc);refine gar ?_;refine oC rfl (fun _=>?_) (fun hc=>by cases hc);refine zQ91 ?_;exact qac hj (zra rfl) (by rw[<-hR];rfl)
  refine oC rfl (fun hc=>absurd (zt hc) h6) (fun _=>?_);refine gaj ?_
  by_cases h7:op=[60,61]
  ·subst h7;obtain ⟨x,y,rfl⟩:=pair zDd;have hx:=hnE x zMs;have hy:=hnE y (zMo _ zMs);refine oC rfl (fun _=>?_) (fun hc=>by cases hc);refine zQ91 ?_;exact qac hj (zra rfl) (by rw[<-hR];rfl)
  refine oC rfl (fun hc=>absurd (zt hc) h7) (fun _=>?_);refine gaj ?_
  by_cases h8:op=[33,61]
  ·subst h8;obtain ⟨x,y,rfl⟩:=pair zDd;have hx:=hnE x zMs;have hy:=hnE y (zMo _ zMs);refine oC rfl (fun _=>?_) (fun hc=>by cases hc);refine ga1 ?_;refine qae.tail 8 zk ?_;refine zQ27 ?_;refine oS (sL (es:=[3,1+qa9 c x,2+qa9 c y].map iv) [_,_,_] rfl (qdt _) rfl rfl rfl ?_) rfl;refine oS (sF [_] rfl (qbD 3 [1+qa9 c x,2+qa9 c y] (by simp)) ?_) rfl;refine gae ?_;exact qac hj (zra rfl) (by rw[<-hR];rfl)
  refine oC rfl (fun hc=>absurd (zt hc) h8) (fun _=>?_);refine gaj ?_
  by_cases h9:op=[38,38]
  ·subst h9;obtain ⟨x,y,rfl⟩:=pair zDd;have hx:=hnE x zMs;have hy:=hnE y (zMo _ zMs);refine oC rfl (fun _=>?_) (fun hc=>by cases hc);refine ga1 ?_;refine qae.tail 8 zk ?_;refine zQ27 ?_;refine oS (sL (es:=[1+qa9 c x,2+qa9 c y].map iv) [_,_] rfl (qdt _) rfl rfl rfl ?_) rfl;refine oS (sF [_] rfl (qbD (1+qa9 c x) [2+qa9 c y] (by simp)) ?_) rfl;refine gae ?_;exact qac hj (zra rfl) (by rw[<-hR];rfl)
  refine oC rfl (fun hc=>absurd (zt hc) h9) (fun _=>?_);refine gaj ?_
  by_cases h10:op=[124,124]
  ·subst h10;obtain ⟨x,y,rfl⟩:=pair zDd;have hx:=hnE x zMs;have hy:=hnE y (zMo _ zMs);refine oC rfl (fun _=>?_) (fun hc=>by cases hc);refine ga1 ?_;refine qae.tail 8 zk ?_;refine zQ27 ?_;refine oS (sL (es:=[2+qa9 c x,3+qa9 c y].map iv) [_,_] rfl (qdt _) rfl rfl rfl ?_) rfl;refine oS (sF [_] rfl (qbD (2+qa9 c x) [3+qa9 c y] (by simp)) ?_) rfl;refine gae ?_;exact qac hj (zra rfl) (by rw[<-hR];rfl)
  refine oC rfl (fun hc=>absurd (zt hc) h10) (fun _=>?_);refine gaj ?_
  by_cases h11:op=[99,97,108,108]
  rotate_left
  ·obtain ⟨x,y,rfl⟩:=pair h11;have hx:=hnE x zMs;have hy:=hnE y (zMo _ zMs)
   have hR2:iv (qkS [2,qa9 c x,1+qa9 c y])=R:=by
    rw[<-hR];unfold opN;rw[if_neg (fun h=>h.elim h1 h2),if_neg (fun h=>h.elim h3 h4),if_neg (show ¬ op=qa8 from h11),if_neg (show ¬ op=nNot from h5),if_neg (fun h=>h.elim h6 h7),if_neg h8,if_neg h9,if_neg h10];rfl
   refine oC rfl (fun hc=>absurd (zt hc) h11) (fun _=>?_);refine gad ?_;refine qae.tail 7 zk ?_;refine zQ27 ?_;refine oS (sL (es:=[2,qa9 c x,1+qa9 c y].map iv) [_,_,_] rfl (qdt _) rfl rfl rfl ?_) rfl;refine oS (sF [_] rfl (qbD 2 [qa9 c x,1+qa9 c y] (by simp)) ?_) rfl;refine gae ?_;exact qac hj (zra rfl) hR2
  subst h11;have hcl:callE c name args.length=0:=hue
  have hcall:iv (qjc c name (qaK c args))=R:=by
   rw[<-hR,qjF hd (by rw[qcp];exact hcl)];rfl
  unfold qjc at hcall;refine oC rfl (fun _=>?_) (fun hc=>by cases hc);refine gaa ?_
  by_cases h12:name=[105,110]
  ·subst h12;refine oC rfl (fun _=>?_) (fun hc=>by cases hc);refine gaz ?_;exact qac hj (zra rfl) hcall
  rw[if_neg h12] at hcall;refine oC rfl (fun hc=>absurd (zt hc) h12) (fun _=>?_);refine gaa ?_
  by_cases h13:name=[111,117,116]
  ·subst h13
   obtain ⟨x,rfl⟩:=List.length_eq_one_iff.1 (show args.length=1 by
    unfold callE at hcl;rw[if_neg zDd,if_pos rfl] at hcl
    exact Decidable.byContradiction fun h=>by rw[if_neg h] at hcl;cases hcl)
   refine oC rfl (fun _=>?_) (fun hc=>by cases hc);refine zQ80 ?_;exact qac hj (zra rfl) hcall
  rw[if_neg h13] at hcall;refine oC rfl (fun hc=>absurd (zt hc) h13) (fun _=>?_)
  have hns:∀ q∈qaK c args,q<=500000000:=fun q hq=>by
   have:∀ l:List Ex,(∀ x∈l,qa9 c x<=500000000)->∀ q∈qaK c l,q<=500000000:=fun l=>by
    induction l with
    |nil=>intro _ q hq;rw[qaK] at hq;cases hq
    |cons y l ih=>
     intro h q hq;rw[qaK] at hq;rcases zMi.1 hq with rfl|hq
     ·exact h y zMs
     ·exact ih (fun x hx=>h x (zMo _ hx)) q hq
   exact this args hnE q hq
  have hnl:(qaK c args).length=args.length:=qcp c args;have hnsl:(qaK c args).length<=100000000:=by omega
  generalize qaK c args=ns at hcall hns hnl hnsl ⊢;have hmn:((ns.map iv).length:Int)<=100000000:=by rw[zLm];omega
  refine gaa ?_
  refine oL (fun kk ls H'=>∃ (pre l1:List Nat) (m:Nat),ns=pre++l1/\kk=l1.length/\ls=[(1,.list (fs.map qav)),(2,.list ((c.funcs.map (·.need)).map iv)),(3,ptr b3 0),(7,.list (ns.map iv)),(10,iv m),(112,int .i64 ((ns.map iv).length:Int)),(113,int .i64 (pre.length:Int))] /\
    H'=[exH b3 [99,97,108,108] num name args]/\qfg 0 ns (ns.length+1)=qfg pre.length l1 m)
   ⟨_,_,_,⟨[],ns,ns.length+1,rfl,rfl,rfl,rfl,rfl⟩,⟨rfl,rfl,rfl,rfl,qaf (by simp),rfl,rfl,trivial⟩,zhR _⟩ ?_
  rintro kk ls H' ⟨pre,l1,m,hL,rfl,rfl,rfl,hI2⟩ j2 hj2;have hb:=qbR hL hnsl;refine gai ?_;refine oC rfl (fun hc=>?_) (fun hc=>?_)
  ·obtain ⟨a,l2,rfl⟩:=more hL hc;have ha:=hns a (by rw[hL];exact List.mem_append_right _ zMs);rw[qfg] at hI2;refine gaa ?_;refine oP (xR (el':=iv a) (cs:=[_]) rfl rfl zo (by rw[hL];exact get_mid iv pre a l2) rfl rfl) rfl ?_;refine gac ?_;refine oS (sL (es:=[m,pre.length+a].map iv) [_,_] rfl (qdt _) rfl rfl rfl ?_) rfl;refine oS (sF [_] rfl (qbD m [pre.length+a] (by simp)) ?_) rfl;refine gaa ?_;exact ⟨l2.length,_,_,Nat.lt_succ_self _,⟨pre++[a],l2,max m (pre.length+a),snoc hL,rfl,rfl,rfl,by rw[hI2,zLa];rfl⟩,⟨rfl,rfl,rfl,rfl,rfl,rfl,qaf (by simp),trivial⟩,zhR _,hj2⟩
  obtain rfl:=qaS hL hc;have hI3:qfg 0 ns (ns.length+1)=m:=hI2;rw[hI3] at hcall;refine gaa ?_
  refine oL (fun kk ls H'=>∃ (pre l1:List FnD) (cp cl:List FSum) (m:Nat),fs=pre++l1/\c.funcs=cp++cl/\cp.length=pre.length/\kk=l1.length/\ls=[(1,.list (fs.map qav)),(2,.list ((c.funcs.map (·.need)).map iv)),(3,ptr b3 0),(10,iv m),(126,.list (fs.map qav)),(127,int .i64 ((fs.map qav).length:Int)),(128,int .i64 (pre.length:Int))] /\
    H'=[exH b3 [99,97,108,108] num name args]/\cl.map (·.name)=l1.map (·.name)/\R=iv (qeX (·.need) name cl m))
   ⟨_,_,_,⟨[],fs,[],c.funcs,m,rfl,rfl,rfl,rfl,rfl,rfl,hfn,hcall.symm⟩,⟨rfl,rfl,rfl,rfl,rfl,rfl,rfl,trivial⟩,zhR _⟩ ?_
  rintro kk ls H' ⟨pre,l1,cp,cl,m,hL,hC,hcp,rfl,rfl,rfl,hcl,hI4⟩ j3 hj3;have hb:=qbR hL hfl;refine gai ?_;refine oC rfl (fun hc=>?_) (fun hc=>?_)
  ·obtain ⟨a,l2,rfl⟩:=more hL hc
   obtain ⟨s,cl,rfl⟩:∃ s l,cl=s::l:=by
    cases cl with
    |nil=>simp at hcl
    |cons s l=>exact ⟨s,l,rfl⟩
   rw[zMc,zMc] at hcl;injection hcl with hs hcl
   have hget:((c.funcs.map (·.need)).map iv)[((pre.length:Nat):Int).toNat]? = some (iv s.need):=by
    rw[hC,List.map_map,<-hcp];exact get_mid _ cp s cl
   refine gaa ?_;refine oP (xR (el':=qav a) (cs:=[_,_,_,_]) rfl rfl zo (by rw[hL];exact get_mid qav pre a l2) rfl rfl) rfl ?_;refine gav ?_;refine oS (sA fun b13=>?_) rfl;refine gab ?_
   by_cases h14:a.name=name
   ·refine oC rfl (fun _=>?_) (fun hd=>absurd h14 (zf hd));refine gaa ?_;refine oP (xR (el':=iv s.need) (cs:=[_]) rfl rfl zo hget rfl rfl) rfl ?_;refine gac ?_;refine oS (sL (es:=[m,s.need].map iv) [_,_] rfl (qdt _) rfl rfl rfl ?_) rfl;refine oS (sF [_] rfl (qbD m [s.need] (by simp)) ?_) rfl;refine gaa ?_;exact ⟨l2.length,_,_,Nat.lt_succ_self _,⟨pre++[a],l2,cp++[s],cl,max m s.need,snoc hL,snoc hC,by simp[hcp],rfl,rfl,rfl,hcl,by rw[hI4];unfold qeX;rw[List.foldl_cons,if_pos (hs.trans h14)]⟩,⟨rfl,rfl,rfl,rfl,rfl,rfl,qaf (by simp),trivial⟩,zhD zhr,hj3⟩
   ·refine oC rfl (fun hd=>absurd (zt hd) h14) (fun _=>?_);refine gaa ?_;exact ⟨l2.length,_,_,Nat.lt_succ_self _,⟨pre++[a],l2,cp++[s],cl,m,snoc hL,snoc hC,by simp[hcp],rfl,rfl,rfl,hcl,by rw[hI4];unfold qeX;rw[List.foldl_cons,if_neg (fun h=>h14 (hs.symm.trans h))]⟩,⟨rfl,rfl,rfl,rfl,rfl,rfl,qaf (by simp),trivial⟩,zhD zhr,hj3⟩
  obtain rfl:=qaS hL hc
  have hcl0:cl=[]:=by
   cases cl with
   |nil=>rfl
   |cons s l=>simp at hcl
  subst hcl0;refine gaa ?_;exact qac ((hj3.trans hj2).trans hj) (zra rfl) hI4.symm
end
end Go.Proofs.YthmhncflhnbedaaGreatDoor.RC
namespace Go.Proofs.YthmhncflhnbedaaGreatDoor.RC
open Go.GL Go.RowKit Go.Stele
theorem qgZ (c:CEnv) (pre:List Ex) (a:Ex):qen (qaK c (pre++[a]))=qa9 c a:=by
 rw[qf8];unfold qen;rw[List.getLast?_append];rfl
theorem qra {c:CEnv} {M:Nat} {l:List Ex} (h:∀ x∈l,qa9 c x<=M):qen (qaK c l)<=M:=by
 rcases List.eq_nil_or_concat l with rfl|⟨pre,a,rfl⟩
 ·rw[qaK];exact Nat.zero_le _
 ·rw[List.concat_eq_append,qgZ];exact h a (by simp)
theorem qqO {c:CEnv} (hd:Dist c.funcs) {kind:Int} {name:Nm} {index value:List Ex} {thn els:List Sm} (h:errS c (.mk kind name index value thn els)=0) :
  qiw c (.mk kind name index value thn els)=if kind=1∨kind=6 then max 2 (qen (qaK c value)) else if kind=2 then max (qen (qaK c value)) (2+qen (qaK c index))
   else if kind=3∨kind=4 then max (max (max 2 (qen (qaK c value))) (qaW c thn)) (qaW c els) else if kind=5 then qen (qaK c value) else 0:=by
 rw[<-qo5 hd _ h];rw[errS] at h;split at h
 ·cases h
 obtain ⟨h1,h⟩:=qad.1 h;obtain ⟨h2,h⟩:=qad.1 h;obtain ⟨_,h⟩:=qad.1 h;obtain ⟨h3,h4⟩:=qad.1 h;rw[refS,qhO hd value h1,qhO hd index h2,qfE hd thn h3,qfE hd els h4]
attribute [local irreducible] LOps qae qag LCalls Go.GL.Pure qaA qaq qah LQ LAny qaF qap LS
section
variable {B0:Nat} {w0:World}
def qs9 (B0:Nat) (w0:World) (c:CEnv) (fs:List FnD) (n:Nat):Prop:=∀ l:List Sm,qa7 c l=0->ndSs l<n->LCalls (KC B0 w0) 142 [.list (l.map encS),.list (fs.map qav),.list ((c.funcs.map (·.need)).map iv)] [] (Ret (iv (qaW c l)))
theorem qjD {c:CEnv} {fs:List FnD} (hfl:fs.length<=100000000) (hfn:c.funcs.map (·.name)=fs.map (·.name)) (hd:Dist c.funcs) {B D:Nat} (hB:KnB B D c.funcs) (hB8:B<=100000000):∀ n:Nat,n<=100000000->qs9 B0 w0 c fs n
 |0,_=>fun x _ h=>by omega
 |n+1,hn6=>by
  have ih:=qjD hfl hfn hd hB hB8 n zo;have hN:qsV B0 w0 c fs n:=qlv hfl hfn hd hB hB8 n zo;intro l herr hnd;have hal:=qcn l;generalize hR:qaW c l=R;refine cI Tryz.func142 rfl (n:=88) rfl rfl rfl ?_;refine gaa ?_
  refine oL (fun kk ls H'=>∃ (pre l1:List Sm) (m:Nat),l=pre++l1/\kk=l1.length/\ls=[(1,.list (fs.map qav)),(2,.list ((c.funcs.map (·.need)).map iv)),(7,iv m),(16,.list (l.map encS)),(17,int .i64 ((l.map encS).length:Int)),(18,int .i64 (pre.length:Int))] /\
    H'=[]/\qa7 c l1=0/\R=max m (qaW c l1))
   ⟨_,_,_,⟨[],l,0,rfl,rfl,rfl,rfl,herr,by rw[hR,Nat.zero_max]⟩,⟨rfl,rfl,rfl,rfl,rfl,rfl,trivial⟩,zhR _⟩ ?_
  rintro kk ls H' ⟨pre,l1,m,hL,rfl,rfl,rfl,hI2,hI3⟩ j hj;have hb:=qbR hL (show l.length<=100000000 by omega);refine gai ?_;refine oC rfl (fun hc=>?_) (fun hc=>?_);rotate_left
  ·obtain rfl:=qaS hL hc;refine gaa ?_;exact qac hj (zra rfl) (qoE (by rw[hI3,qaW,Nat.max_zero]))
  obtain ⟨a,l2,rfl⟩:=more hL hc;have ham:ndS a<=ndSs l:=qc1 (by rw[hL];exact List.mem_append_right _ zMs);obtain ⟨kind,name,index,value,thn,els⟩:=a;rw[qa7] at hI2;obtain ⟨he1,he2⟩:=qad.1 hI2;have hby:=qqO hd he1;rw[errS] at he1;rw[ndS] at ham
  have hform:qbz (.mk kind name index value thn els)=true:=by
   cases hf:qbz (.mk kind name index value thn els) with
   |true=>rfl
   |false=>rw[if_pos hf] at he1;cases he1
  rw[if_neg (by rw[hform];decide)] at he1;obtain ⟨hev,he1⟩:=qad.1 he1;obtain ⟨hei,he1⟩:=qad.1 he1;obtain ⟨_,he1⟩:=qad.1 he1;obtain ⟨het,hee⟩:=qad.1 he1;rw[qaW] at hI3
  have hle:∀ l:List Ex,ndEs l<=ndSs (pre++Sm.mk kind name index value thn els::l2)->qen (qaK c l)<=500000000:=fun l4 h4=>qra fun x hx=>by
   have h1:=qef B D c hB x;have h2:=qdo hx;rw[<-hL] at h4;omega
  have hV:=hle value (by rw[<-hL];omega);have hX:=hle index (by rw[<-hL];omega);refine zQ49 ?_;refine oS (sA fun b9=>?_) rfl;refine gab ?_
  refine oL (fun kk ls H'=>∃ (p2 l3:List Ex),value=p2++l3/\kk=l3.length/\ls=[(1,.list (fs.map qav)),(2,.list ((c.funcs.map (·.need)).map iv)),(7,iv m),(9,ptr b9 0),(10,iv (qen (qaK c p2))),(11,iv 0),(16,.list (l.map encS)),(17,int .i64 ((l.map encS).length:Int)),(18,int .i64 (pre.length:Int)),(23,.list (value.map encE)),(24,int .i64 ((value.map encE).length:Int)),(25,int .i64 (p2.length:Int))] /\
    H'=[smH b9 kind name index value thn els]/\qaZ c l3=0)
   ⟨_,_,_,⟨[],value,rfl,rfl,rfl,rfl,hev⟩,⟨rfl,rfl,rfl,rfl,rfl,rfl,rfl,rfl,rfl,rfl,rfl,rfl,trivial⟩,zhR _⟩ ?_
  rintro kk ls H' ⟨p2,l3,hL2,rfl,rfl,rfl,hI4⟩ j2 hj2;have hval:=qbT value;have hb2:=qbR hL2 (show value.length<=100000000 by omega);refine gai ?_;refine oC rfl (fun hc2=>?_) (fun hc2=>?_)
  ·obtain ⟨a,l4,rfl⟩:=more hL2 hc2;have ham2:ndE a<=ndEs value:=qdo (by rw[hL2];exact List.mem_append_right _ zMs);rw[qaZ] at hI4;obtain ⟨h1,h2⟩:=qad.1 hI4;refine gak ?_;refine oP (xR (el':=encE a) (cs:=[_,_,_,_]) rfl rfl zo (by rw[hL2];exact get_mid encE p2 a l4) rfl rfl) rfl ?_;refine gav ?_;refine oS (sA fun b13=>?_) rfl;refine gab ?_;refine oS (sF [_,_,_] rfl (hN a h1 zo) ?_) rfl;refine gaa ?_;exact ⟨l4.length,_,_,Nat.lt_succ_self _,⟨p2++[a],l4,snoc hL2,rfl,rfl,rfl,h2⟩,⟨rfl,rfl,rfl,rfl,qoE (qgZ c p2 a).symm,rfl,rfl,rfl,rfl,rfl,rfl,qaf (by simp),trivial⟩,zhD zhr,hj2⟩
  obtain rfl:=qaS hL2 hc2;rw[zLz] at hL2;subst hL2;refine gaa ?_
  refine oL (fun kk ls H'=>∃ (p3 l3:List Ex),index=p3++l3/\kk=l3.length/\ls=[(1,.list (fs.map qav)),(2,.list ((c.funcs.map (·.need)).map iv)),(7,iv m),(9,ptr b9 0),(10,iv (qen (qaK c value))),(11,iv (qen (qaK c p3))),(16,.list (l.map encS)),(17,int .i64 ((l.map encS).length:Int)),(18,int .i64 (pre.length:Int)),(35,.list (index.map encE)),(36,int .i64 ((index.map encE).length:Int)),(37,int .i64 (p3.length:Int))] /\
    H'=[smH b9 kind name index value thn els]/\qaZ c l3=0)
   ⟨_,_,_,⟨[],index,rfl,rfl,rfl,rfl,hei⟩,⟨rfl,rfl,rfl,rfl,rfl,rfl,rfl,rfl,rfl,rfl,rfl,rfl,trivial⟩,zhR _⟩ ?_
  rintro kk ls H' ⟨p3,l3,hL3,rfl,rfl,rfl,hI5⟩ j3 hj3;have hixl:=qbT index;have hb3:=qbR hL3 (show index.length<=100000000 by omega);refine gai ?_;refine oC rfl (fun hc2=>?_) (fun hc2=>?_)
  ·obtain ⟨a,l4,rfl⟩:=more hL3 hc2;have ham2:ndE a<=ndEs index:=qdo (by rw[hL3];exact List.mem_append_right _ zMs);rw[qaZ] at hI5;obtain ⟨h1,h2⟩:=qad.1 hI5;refine gak ?_;refine oP (xR (el':=encE a) (cs:=[_,_,_,_]) rfl rfl zo (by rw[hL3];exact get_mid encE p3 a l4) rfl rfl) rfl ?_;refine gav ?_;refine oS (sA fun b13=>?_) rfl;refine gab ?_;refine oS (sF [_,_,_] rfl (hN a h1 zo) ?_) rfl;refine gaa ?_;exact ⟨l4.length,_,_,Nat.lt_succ_self _,⟨p3++[a],l4,snoc hL3,rfl,rfl,rfl,h2⟩,⟨rfl,rfl,rfl,rfl,rfl,qoE (qgZ c p3 a).symm,rfl,rfl,rfl,rfl,rfl,qaf (by simp),trivial⟩,zhD zhr,hj3⟩
  obtain rfl:=qaS hL3 hc2;rw[zLz] at hL3;subst hL3;rw[hby] at hI3;generalize qen (qaK c value)=nv at hI3 hV ⊢;generalize qen (qaK c index)=ni at hI3 hX ⊢;have hjj:=hj3.trans (hj2.trans hj)
  have fin:∀ {m2:Nat},R=max m2 (qaW c l2)->∀ {e:Env} {H:Heap},e.s 1=.list (fs.map qav)->e.s 2=.list ((c.funcs.map (·.need)).map iv)->e.s 7=iv m2->e.s 16=.list (l.map encS)->e.s 17=int .i64 ((l.map encS).length:Int)->e.s 18=int .i64 ((pre.length:Int)+1)->e.ds=(qfl [.list (l.map encS),.list (fs.map qav),.list ((c.funcs.map (·.need)).map iv)]).ds ->
    qew (fun kk ls H'=>∃ (pre l1:List Sm) (m:Nat),l=pre++l1/\kk=l1.length/\ls=[(1,.list (fs.map qav)),(2,.list ((c.funcs.map (·.need)).map iv)),(7,iv m),(16,.list (l.map encS)),(17,int .i64 ((l.map encS).length:Int)),(18,int .i64 (pre.length:Int))]/\H'=[]/\qa7 c l1=0/\R=max m (qaW c l1)) (Sm.mk kind name index value thn els::l2).length [] e H:=
   fun {m2} hm {e H} e1 e2 e7 e16 e17 e18 hd2=>⟨l2.length,_,_,Nat.lt_succ_self _,⟨pre++[Sm.mk kind name index value thn els],l2,m2,snoc hL,rfl,rfl,rfl,he2,hm⟩,⟨e1,e2,e7,e16,e17,e18.trans (qaf (by simp)),trivial⟩,HSub.nil _,hd2⟩
  refine gaa ?_
  by_cases k1:kind=1
  ·subst k1;rw[if_pos (.inl rfl)] at hI3;refine oC rfl (fun _=>?_) (fun hd=>by cases hd);refine gar ?_;refine oC rfl (fun _=>?_) (fun hd=>by cases hd);refine gaf ?_;refine oS (sL (es:=[m,2,nv].map iv) [_,_,_] rfl (qdt _) rfl rfl rfl ?_) rfl;refine oS (sF [_] rfl (qbD m [2,nv] (by simp)) ?_) rfl;refine gaa ?_;exact fin (m2:=qkS [m,2,nv]) (by rw[hI3];show _=max (max (max m 2) nv) _;omega) rfl rfl rfl rfl rfl rfl hjj
  refine oC rfl (fun hd=>absurd (zt hd) k1) (fun _=>?_);refine gay ?_
  by_cases k6:kind=6
  ·subst k6;rw[if_pos (.inr rfl)] at hI3;refine oC rfl (fun _=>?_) (fun hd=>by cases hd);refine gaf ?_;refine oS (sL (es:=[m,2,nv].map iv) [_,_,_] rfl (qdt _) rfl rfl rfl ?_) rfl;refine oS (sF [_] rfl (qbD m [2,nv] (by simp)) ?_) rfl;refine gaa ?_;exact fin (m2:=qkS [m,2,nv]) (by rw[hI3];show _=max (max (max m 2) nv) _;omega) rfl rfl rfl rfl rfl rfl hjj
  rw[if_neg (fun h=>h.elim k1 k6)] at hI3;refine oC rfl (fun hd=>absurd (zt hd) k6) (fun _=>?_);refine gay ?_
  by_cases k2:kind=2
  ·subst k2;rw[if_pos rfl] at hI3;refine oC rfl (fun _=>?_) (fun hd=>by cases hd);refine gat ?_;refine oS (sL (es:=[m,nv,2+ni].map iv) [_,_,_] rfl (qdt _) rfl rfl rfl ?_) rfl;refine oS (sF [_] rfl (qbD m [nv,2+ni] (by simp)) ?_) rfl;refine gaa ?_;exact fin (m2:=qkS [m,nv,2+ni]) (by rw[hI3];show _=max (max (max m nv) (2+ni)) _;omega) rfl rfl rfl rfl rfl rfl hjj
  rw[if_neg k2] at hI3;refine oC rfl (fun hd=>absurd (zt hd) k2) (fun _=>?_);refine gay ?_
  by_cases k3:kind=3
  ·rw[if_pos (.inl k3)] at hI3;refine oC rfl (fun _=>?_) (fun hd=>absurd k3 (zf hd));refine gar ?_;refine oC rfl (fun _=>?_) (fun hd=>absurd k3 (zf hd));refine zQ79 ?_;refine gat ?_;exact fin (m2:=qkS [m,2,nv,qaW c thn,qaW c els]) (by rw[hI3];show _=max (max (max (max (max m 2) nv) (qaW c thn)) (qaW c els)) _;omega) rfl rfl rfl rfl rfl rfl hjj
  refine oC rfl (fun hd=>absurd (zt hd) k3) (fun _=>?_);refine gay ?_
  by_cases k4:kind=4
  ·rw[if_pos (.inr k4)] at hI3;refine oC rfl (fun _=>?_) (fun hd=>absurd k4 (zf hd));refine zQ79 ?_;refine gat ?_;exact fin (m2:=qkS [m,2,nv,qaW c thn,qaW c els]) (by rw[hI3];show _=max (max (max (max (max m 2) nv) (qaW c thn)) (qaW c els)) _;omega) rfl rfl rfl rfl rfl rfl hjj
  rw[if_neg (fun h=>h.elim k3 k4)] at hI3;refine oC rfl (fun hd=>absurd (zt hd) k4) (fun _=>?_);refine gay ?_
  by_cases k5:kind=5
  ·rw[if_pos k5] at hI3;refine oC rfl (fun _=>?_) (fun hd=>absurd k5 (zf hd));refine gaf ?_;refine oS (sL (es:=[m,nv].map iv) [_,_] rfl (qdt _) rfl rfl rfl ?_) rfl;refine oS (sF [_] rfl (qbD m [nv] (by simp)) ?_) rfl;refine gaa ?_;exact fin (m2:=qkS [m,nv]) (by rw[hI3];show _=max (max m nv) _;omega) rfl rfl rfl rfl rfl rfl hjj
  rw[if_neg k5] at hI3;refine oC rfl (fun hd=>absurd (zt hd) k5) (fun _=>?_);refine gaa ?_;exact fin (m2:=m) (by rw[hI3];omega) rfl rfl rfl rfl rfl rfl hjj
end
end Go.Proofs.YthmhncflhnbedaaGreatDoor.RC
namespace Go.Proofs.YthmhncflhnbedaaGreatDoor.RC
open Go.GL Go.RowKit Go.Stele
mutual
theorem qgY:∀ x:Ex,(qeU x).length<=ndE x
 |.mk op num name args=>by
  rw[qeU,ndE,zLa];have:=qdi args;split <;> simp <;> omega
theorem qdi:∀ l:List Ex,(qbE l).length<=ndEs l
 |[]=>by rw[qbE,ndEs];exact zNr _
 |x::l=>by
  rw[qbE,ndEs,zLa];have h1:=qgY x;have h2:=qdi l;omega
end
mutual
theorem qoA:∀ x:Sm,(qhm x).length<=ndS x
 |.mk kind name index value thn els=>by
  rw[qhm,ndS,zLa,zLa];have h1:=qdi (value++index);rw[qfD] at h1;have h2:=qcK thn;have h3:=qcK els;omega
theorem qcK:∀ l:List Sm,(qbc l).length<=ndSs l
 |[]=>by rw[qbc,ndSs];exact zNr _
 |x::l=>by
  rw[qbc,ndSs,zLa];have h1:=qoA x;have h2:=qcK l;omega
end
theorem qfc (a:Ex):∀ l:List Ex,qbE (l++[a])=qbE l++qeU a
 |[]=>by
  show qbE [a]=qbE []++qeU a
  simp[qbE]
 |x::l=>by
  show qbE (x::(l++[a]))=_;rw[qbE,qfc a l,qbE,zAs]
theorem qhB (a:Sm):∀ l:List Sm,qbc (l++[a])=qbc l++qhm a
 |[]=>by
  show qbc [a]=qbc []++qhm a
  simp[qbc]
 |x::l=>by
  show qbc (x::(l++[a]))=_;rw[qbc,qhB a l,qbc,zAs]
theorem qpI {l pre:List Sm} {a:Sm} {l2:List Sm} (h:l=pre++a::l2):ndSs pre+ndS a<=ndSs l:=by
 have key:∀ p q:List Sm,ndSs (p++q)=ndSs p+ndSs q:=fun p q=>by
  induction p with
  |nil=>rw[List.nil_append,ndSs];omega
  |cons x p ih=>rw[List.cons_append,ndSs,ndSs,ih];omega
 rw[h,key,ndSs];omega
theorem qkU {l pre:List Ex} {a:Ex} {l2:List Ex} (h:l=pre++a::l2):ndEs pre+ndE a<=ndEs l:=by
 rw[h,qfD,ndEs];omega
attribute [local irreducible] LOps qae qag LCalls Go.GL.Pure qaA qaq qah LQ LAny qaF qap LS
section
variable {B0:Nat} {w0:World}
def qrG (B0:Nat) (w0:World) (n:Nat):Prop:=∀ x:Ex,ndE x<n->LCalls (KC B0 w0) 182 [encE x] [] (Ret (.list ((qeU x).map str)))
theorem qjV:∀ n:Nat,n<=100000000->qrG B0 w0 n
 |0,_=>fun x h=>by omega
 |n+1,hn6=>by
  have ih:=qjV n zo;intro x hnd;obtain ⟨op,num,name,args⟩:=x;rw[ndE] at hnd;have hal:=qbT args;generalize hR:qeU (.mk op num name args)=R;rw[qeU] at hR;rw[qbW];refine cI Tryz.func182 rfl (n:=28) rfl rfl rfl ?_;refine gag ?_;refine oS (sB rfl fun b1=>?_) rfl;refine ga0 ?_;refine oS (S.litA (es:=[]) [] rfl eN rfl rfl rfl fun b3=>?_) rfl;refine gab ?_;refine cM (A:=LV×Heap) (fun a=>[(1,ptr b1 0),(3,a.1)]) (fun a=>exH b1 op num name args::a.2) (fun a=>GL.Acc 1 a.1 ((if op=qa8 then [name] else []).map str) a.2 []) ?_ ?_
  ·by_cases h1:op=[99,97,108,108]
   ·refine oC rfl (fun _=>?_) (fun hd=>absurd h1 (zf hd));refine gab ?_;refine oS (sL (es:=[name].map str) [_] rfl (zeC rfl rfl eN) rfl rfl rfl ?_) rfl;refine oS (sG (A:=[_]) (H1:=[(b3,.row 0)]) zpr rfl Acc.row rfl (qa6 _) (qbt _) (by simp) fun v2 H2 h2=>?_) rfl;refine oP (pA (lv:=v2) rfl) rfl ?_;refine gam ?_;exact ⟨(v2,H2),by rw[if_pos (show op=qa8 from h1)];exact h2,⟨rfl,rfl,trivial⟩,zhR _,rfl⟩
   ·refine oC rfl (fun hd=>absurd (zt hd) h1) (fun _=>?_);refine gar ?_;exact ⟨(.app b3 0 1 [],[(b3,.row 0)]),by rw[if_neg (show ¬ op=qa8 from h1)];exact Acc.row,⟨rfl,rfl,trivial⟩,⟨[],by simpa using List.Perm.swap _ _ _⟩,rfl⟩
  rintro ⟨v0,H0⟩ hacc0 j hj;simp only at hacc0;have hC0:(if op=qa8 then [name] else []:List Nm).length<=1:=by split <;> simp
  generalize (if op=qa8 then [name] else []:List Nm)=C0 at hacc0 hR hC0;refine gaa ?_
  refine oL (fun kk ls H'=>∃ (pre l1:List Ex) (v:LV) (Ha:Heap),args=pre++l1/\kk=l1.length/\ls=[(1,ptr b1 0),(3,v),(16,.list (args.map encE)),(17,int .i64 ((args.map encE).length:Int)),(18,int .i64 (pre.length:Int))] /\
    H'=exH b1 op num name args::Ha/\GL.Acc 1 v ((C0++qbE pre).map str) Ha [])
   ⟨_,_,_,⟨[],args,v0,H0,rfl,rfl,rfl,rfl,by rw[qbE,zLz];exact hacc0⟩,⟨rfl,rfl,rfl,rfl,rfl,trivial⟩,zhR _⟩ ?_
  rintro kk ls H' ⟨pre,l1,v,Ha,hL,rfl,rfl,rfl,hacc⟩ j2 hj2;have hb:=qbR hL (show args.length<=100000000 by omega);refine gai ?_;refine oC rfl (fun hc=>?_) (fun hc=>?_)
  ·obtain ⟨a,l2,rfl⟩:=more hL hc;have ham:=qkU hL;have g1:=qdi pre;have g2:=qgY a;refine zQ87 ?_;refine oS (sA fun b5=>?_) rfl;refine gab ?_;refine zQ60 ?_;refine gac ?_;refine oS (sF [_] rfl (ih a zo) ?_) rfl;refine oS (sG (A:=[_,_]) (H1:=Ha) (zPc (l₁:=[_,_])) rfl hacc rfl (qa6 _) (qbt _) (by simp;omega) fun v2 H2 hacc2=>?_) rfl;refine oP (pA (lv:=v2) rfl) rfl ?_;refine gat ?_;exact ⟨l2.length,_,_,Nat.lt_succ_self _,⟨pre++[a],l2,v2,H2,snoc hL,rfl,rfl,rfl,by rw[qfc,<-zAs,zMa (l₂:=qeU a)];exact hacc2⟩,⟨rfl,rfl,rfl,rfl,qaf (by simp),trivial⟩,zhD zhr,hj2⟩
  obtain rfl:=qaS hL hc;rw[zLz] at hL;subst hL;rw[hR] at hacc;refine gad ?_;refine qae.sub (d:=3) rfl hacc.sub ?_;refine gab ?_;exact qac (hj2.trans hj) (rC (rT (v:=.list _) rfl zsr) rN) rfl
def qq0 (B0:Nat) (w0:World) (n:Nat):Prop:=∀ l:List Sm,ndSs l<n->LCalls (KC B0 w0) 143 [.list (l.map encS)] [] (Ret (.list ((qbc l).map str)))
theorem qhk:∀ n:Nat,n<=100000000->qq0 B0 w0 n
 |0,_=>fun x h=>by omega
 |n+1,hn6=>by
  have ih:=qhk n zo;have hC:qrG B0 w0 n:=qjV n zo;intro l hnd;have hal:=qcn l;refine cI Tryz.func143 rfl (n:=44) rfl rfl rfl ?_;refine ga0 ?_;refine oS (S.litA (es:=[]) [] rfl eN rfl rfl rfl fun b3=>?_) rfl;refine gab ?_
  refine oL (fun kk ls H'=>∃ (pre l1:List Sm) (v:LV) (Ha:Heap),l=pre++l1/\kk=l1.length/\ls=[(3,v),(9,.list (l.map encS)),(10,int .i64 ((l.map encS).length:Int)),(11,int .i64 (pre.length:Int))] /\
    H'=Ha/\GL.Acc 1 v ((qbc pre).map str) Ha [])
   ⟨_,_,_,⟨[],l,.app b3 0 1 [],[(b3,.row 0)],rfl,rfl,rfl,rfl,Acc.row⟩,⟨rfl,rfl,rfl,rfl,trivial⟩,zhR _⟩ ?_
  rintro kk ls HA ⟨pre,l1,v,_,hL,rfl,rfl,rfl,hacc⟩ j hj;have hb:=qbR hL (show l.length<=100000000 by omega);refine gai ?_;refine oC rfl (fun hc=>?_) (fun hc=>?_);rotate_left
  ·obtain rfl:=qaS hL hc;rw[zLz] at hL;subst hL;refine gad ?_;refine qae.sub (d:=3) rfl hacc.sub ?_;refine gab ?_;exact qac hj (rC (rT (v:=.list _) rfl zsr) rN) rfl
  obtain ⟨a,l2,rfl⟩:=more hL hc;have ham:=qpI hL;have g1:=qcK pre;obtain ⟨kind,name,index,value,thn,els⟩:=a;rw[ndS] at ham;have g2:=qbT value;have g3:=qbT index;refine zQ49 ?_;refine oS (sA fun b5=>?_) rfl;refine gac ?_;refine cD (m:=9) rfl [smH b5 kind name index value thn els] ?_;refine zQ71 ?_;refine aT 8 rfl rfl (pM (lv:=.atom _) rfl) ?_;refine aL ?_ zhp;refine lO 0 (lS (H1:=[]) rfl (.inl rfl) rfl zpr zhp (S.litA (es:=[]) [] rfl eN rfl rfl rfl fun b7=>?_));refine lO 3 (lS (H1:=[(b7,.row 0)]) rfl (.inl rfl) rfl zpr zhp (S.acc (F:=[]) rfl Acc.row rfl (qhP _) (qj4 _) (by simp;omega) fun v1 H1 h1=>?_));refine lO 6 (lS (H1:=H1) rfl (.inl rfl) rfl zpr zhp (S.acc (F:=[]) rfl h1 rfl (qhP _) (qj4 _) (by simp;omega) fun v2 H2 h2=>?_));have e2:([]++value.map encE++index.map encE:List LV)=(value++index).map encE:=by simp
  rw[e2] at h2;refine lO 7 (lH rfl rfl (Pure.llen (h2.elems)) ?_);refine lD zk ?_;refine gad ?_;refine qae.sub (d:=21) rfl h2.sub ?_;refine cW (H':=smH b5 kind name index value thn els::HA) ⟨H2,zPc⟩ ?_
  refine oL (fun kk ls H'=>∃ (pre2 l3:List Ex) (v:LV) (Ha:Heap),value++index=pre2++l3/\kk=l3.length/\ls=[(3,v),(5,ptr b5 0),(9,.list (l.map encS)),(10,int .i64 ((l.map encS).length:Int)),(11,int .i64 (pre.length:Int)),(21,.list ((value++index).map encE)),(22,int .i64 (((value++index).map encE).length:Int)),(23,int .i64 (pre2.length:Int))] /\
    H'=smH b5 kind name index value thn els::Ha/\GL.Acc 1 v ((qbc pre++qbE pre2).map str) Ha [])
   ⟨_,_,_,⟨[],value++index,v,HA,rfl,rfl,rfl,rfl,by rw[qbE,zLz];exact hacc⟩,⟨rfl,rfl,rfl,rfl,rfl,rfl,rfl,rfl,trivial⟩,zhR _⟩ ?_
  rintro kk ls H' ⟨pre2,l3,v3,Hb,hL2,rfl,rfl,rfl,hacc3⟩ j2 hj2;have hb2:=qbR hL2 (show (value++index).length<=100000000 by rw[zLa];omega);refine gai ?_;refine oC rfl (fun hc2=>?_) (fun hc2=>?_)
  ·obtain ⟨a,l4,rfl⟩:=more hL2 hc2;have ham2:=qkU hL2;rw[qfD] at ham2;have g4:=qdi pre2;have g5:=qgY a;refine gak ?_;refine oP (xR (el':=encE a) (cs:=[_,_,_,_]) rfl rfl zo (by rw[hL2];exact get_mid encE pre2 a l4) rfl rfl) rfl ?_;refine gav ?_;refine oS (sA fun b7=>?_) rfl;refine gab ?_;refine oP (pM (lv:=v3) rfl) rfl ?_;refine gac ?_;refine oS (sF [_] rfl (hC a zo) ?_) rfl;refine oS (sG (A:=[_,_]) (H1:=Hb) (zPc (l₁:=[_,_])) rfl hacc3 rfl (qa6 _) (qbt _) (by simp;omega) fun v4 H4 hacc4=>?_) rfl;refine oP (pA (lv:=v4) rfl) rfl ?_;refine gat ?_;exact ⟨l4.length,_,_,Nat.lt_succ_self _,⟨pre2++[a],l4,v4,H4,snoc hL2,rfl,rfl,rfl,by rw[qfc,<-zAs,zMa (l₂:=qeU a)];exact hacc4⟩,⟨rfl,rfl,rfl,rfl,rfl,rfl,rfl,qaf (by simp),trivial⟩,zhD zhr,hj2⟩
  obtain rfl:=qaS hL2 hc2;rw[zLz] at hL2;subst hL2;have g6:=qdi (value++index);rw[qfD] at g6;have g7:=qcK thn;have g8:=qcK els;have hjj:=hj2.trans hj;refine gaa ?_;refine oP (pM (lv:=v3) rfl) rfl ?_;refine gad ?_;refine oS (sF [_] rfl (ih thn zo) ?_) rfl;refine oS (sG (A:=[_]) (H1:=Hb) (zPc (l₁:=[_])) rfl hacc3 rfl (qa6 _) (qbt _) (by simp;omega) fun v4 H4 hacc4=>?_) rfl;refine oP (pA (lv:=v4) rfl) rfl ?_;refine gai ?_;refine oP (pM (lv:=v4) rfl) rfl ?_;refine gad ?_;refine oS (sF [_] rfl (ih els zo) ?_) rfl;refine oS (sG (A:=[_]) (H1:=H4) (zPc (l₁:=[_])) rfl hacc4 rfl (qa6 _) (qbt _) (by simp;omega) fun v5 H5 hacc5=>?_) rfl;refine oP (pA (lv:=v5) rfl) rfl ?_;refine gat ?_
  exact ⟨l2.length,_,_,Nat.lt_succ_self _,⟨pre++[Sm.mk kind name index value thn els],l2,v5,H5,snoc hL,rfl,rfl,rfl,by
   rw[qhB,qhm];have e:(qbc pre++(qbE (value++index)++qbc thn++qbc els)).map str=(qbc pre++qbE (value++index)).map str++(qbc thn).map str++(qbc els).map str:=by simp
   rw[e]
   exact hacc5⟩,⟨rfl,rfl,rfl,qaf (by simp),trivial⟩,zhD zhr,hjj⟩
end
end Go.Proofs.YthmhncflhnbedaaGreatDoor.RC
namespace Go.Proofs.YthmhncflhnbedaaGreatDoor.RC
open Go.GL Go.RowKit Go.Stele
@[reducible] def fnH (b:Nat) (f:FnD):Nat×LObj:=(b,.cells 84 [str f.name,.list (f.params.map str),.list (f.locals.map str),.list (f.body.map encS)])
theorem qiX (l:List FnD):∀ v∈l.map qav,v.cells.length=4:=fun v hv=>by
 obtain ⟨x,_,rfl⟩:=List.mem_map.1 hv;rfl
section
variable {C:Ctx} {e:Env} {H:Heap} {dst:Option Nat} {ty:TypeId} {pos:String} {aft:Array Edge} {gd:Option (Nat×Bool)}
theorem Pure.sliceTo {t el s:Nat} [ht:TSlice C.P t el s] {A:Type} {g:A->LV} {pre l1:List A} {x hi:Operand} (hx:GL.elems (e.ev x)=some ((pre++l1).map g)) (hh:e.ev hi=int .i64 (pre.length:Int)) (hs:∀ v∈(pre++l1).map g,v.cells.length=s):GL.Pure C ⟨dst,.slice t x none (some hi) none,ty,pos,aft,gd⟩ e H (.list (pre.map g)):=by
 have h:=GL.Pure.lslice (C:=C) (e:=e) (H:=H) (dst:=dst) (ty:=ty) (pos:=pos) (aft:=aft) (g:=gd) (t:=t) (lo:=none) (hi:=some hi) (i:=0) (j:=(pre.length:Int)) hx rfl ⟨_,hh⟩ zDd zo (by simp;omega) hs;have e1:(((pre++l1).map g).take ((pre.length:Int)).toNat).drop (0:Int).toNat=pre.map g:=by simp
 rw[e1] at h;exact h
end
theorem qdf (vars arrays later:List Nm):∀ (fs:List FnD) (known:List FSum),(qdx vars arrays later known fs).map (·.name)=known.map (·.name)++fs.map (·.name)
 |[],known=>by rw[qdx];simp
 |f::l,known=>by rw[qdx,qdf];simp[sumF]
attribute [local irreducible] LOps qae qag LCalls Go.GL.Pure qaA qaq qah LQ LAny qaF qap LS
section
variable {B0:Nat} {w0:World}
theorem rscalars_spec {vars:List Nm} {fs:List FnD} (AL:LV) (hv6:vars.length<=2000000) (hf6:fs.length<=2000000) (hsm:∀ f∈fs,SmF f) (hn:∀ f∈fs,f.name.length<=1000/\∀ x∈f.params++f.locals,x.length<=1000):LCalls (KC B0 w0) 79 [.agg [.list (vars.map str),AL,.list (fs.map qav)]] [] (Ret (.list ((qat vars fs).map str))):=by
 have hown:∀ f∈fs,(Chk.ownS f).length<=4000000:=fun f hf=>by
  have h1:f.params.length<=2000000:=(hsm f hf).params;have h2:f.locals.length<=2000000:=(hsm f hf).locals;unfold Chk.ownS;rw[zLm,zLa];omega
 have hsum:∀ l:List FnD,(∀ f∈l,f∈fs)->((l.map Chk.ownS).flatten).length<=l.length * 4000000:=fun l hl=>by
  have:=Chk.sum_le (l.map Chk.ownS) 4000000 (fun x hx=>by
   obtain ⟨f,hf,rfl⟩:=List.mem_map.1 hx
   exact hown f (hl f hf))
  rwa [zLm] at this
 refine cI Tryz.func79 rfl (n:=55) rfl rfl rfl ?_;refine gag ?_;refine oS (sB rfl fun b1=>?_) rfl;refine ga0 ?_;refine oS (S.litA (es:=[]) [] rfl eN rfl rfl rfl fun b3=>?_) rfl;refine gac ?_;refine oS (sG (A:=[_]) (H1:=[(b3,.row 0)]) zpr rfl Acc.row rfl (qa6 _) (qbt _) (by simp;omega) fun v Ha hacc=>?_) rfl;refine oP (pA (lv:=v) rfl) rfl ?_;refine gaa ?_
 refine oL (fun k ls H'=>∃ pre l1 v1 Ha1,fs=pre++l1/\k=l1.length/\ls=[(3,v1),(15,.list (fs.map qav)),(16,int .i64 ((fs.map qav).length:Int)),(17,int .i64 (pre.length:Int))]/\H'=Ha1/\GL.Acc 1 v1 ((vars++(pre.map Chk.ownS).flatten).map str) Ha1 [])
  ⟨fs.length,_,_,⟨[],fs,v,Ha,rfl,rfl,rfl,rfl,by simpa using hacc⟩,⟨rfl,rfl,rfl,rfl,trivial⟩,zhD zhr⟩ ?_
 rintro k ls Ha1 ⟨pre,l1,v1,_,hL,rfl,rfl,rfl,hacc1⟩ j hj;have hb:=qbR hL hf6
 have hb1:((pre.map Chk.ownS).flatten).length<=8000000000000:=by
  have:=hsum pre (fun f hf=>by rw[hL];exact List.mem_append_left _ hf);omega
 refine gai ?_;refine oC rfl (fun hc=>?_) (fun hc=>?_);rotate_left
 ·obtain rfl:=qaS hL hc;rw[zLz] at hL;rw[<-hL] at hacc1;refine gad ?_;refine qae.sub (d:=3) rfl hacc1.sub ?_;refine gab ?_;exact qac hj (rC (rT (v:=.list _) rfl zsr) rN) rfl
 obtain ⟨f,l2,rfl⟩:=more hL hc;have hfm:f∈fs:=by rw[hL];exact List.mem_append_right _ zMs
 obtain ⟨hn1,hn2⟩:=hn f hfm;have hp6:f.params.length<=2000000:=(hsm f hfm).params;have hl6:f.locals.length<=2000000:=(hsm f hfm).locals;refine gak ?_;refine oP (xR (el':=qav f) (cs:=[_,_,_,_]) rfl rfl zo (by rw[hL];exact get_mid qav pre f l2) rfl rfl) rfl ?_;refine gav ?_;refine oS (sA fun b5=>?_) rfl;refine gab ?_
 refine oL (fun k ls H'=>∃ pre2 l3 v3 Ha3,f.params=pre2++l3/\k=l3.length/\ls=[(3,v3),(5,ptr b5 0),(15,.list (fs.map qav)),(16,int .i64 ((fs.map qav).length:Int)),(17,int .i64 (pre.length:Int)),(22,.list (f.params.map str)),(23,int .i64 ((f.params.map str).length:Int)),(24,int .i64 (pre2.length:Int))] /\
   H'=fnH b5 f::Ha3/\GL.Acc 1 v3 ((vars++(pre.map Chk.ownS).flatten++pre2.map fun x=>f.name++[46]++x).map str) Ha3 [])
  ⟨_,_,_,⟨[],f.params,v1,Ha1,rfl,rfl,rfl,rfl,by simpa using hacc1⟩,⟨rfl,rfl,rfl,rfl,rfl,rfl,rfl,rfl,trivial⟩,zhR _⟩ ?_
 rintro k ls H' ⟨pre2,l3,v3,Ha3,hL2,rfl,rfl,rfl,hacc3⟩ j2 hj2;have hb3:=qbR hL2 hp6;refine gai ?_;refine oC rfl (fun hd=>?_) (fun hd=>?_)
 ·obtain ⟨x,l4,rfl⟩:=more hL2 hd;have hx:x.length<=1000:=hn2 x (by rw[hL2];simp);refine gak ?_;refine oP (xR (el':=str x) (cs:=[_]) rfl rfl zo (by rw[hL2];exact get_mid str pre2 x l4) rfl rfl) rfl ?_;refine gab ?_;refine oP (pM (lv:=v3) rfl) rfl ?_;refine gac ?_;refine oS (sL (es:=[f.name++[46]++x].map str) [_] rfl (zeC rfl rfl eN) rfl rfl rfl ?_) rfl;refine oS (sG (A:=[_]) (H1:=Ha3) (zPc (l₁:=[_])) rfl hacc3 rfl (qa6 _) (qbt _) (by rw[zLm,zLa,zLa,zLm,zLm,List.length_singleton];omega) fun v' H' hacc'=>?_) rfl;refine zQ62 ?_;refine gat ?_
  exact ⟨l4.length,_,_,Nat.lt_succ_self _,⟨pre2++[x],l4,v',H',snoc hL2,rfl,rfl,rfl,by
   have e:((vars++(pre.map Chk.ownS).flatten++(pre2++[x]).map fun x=>f.name++[46]++x).map str)=((vars++(pre.map Chk.ownS).flatten++pre2.map fun x=>f.name++[46]++x).map str)++[f.name++[46]++x].map str:=by simp
   rw[e]
   exact hacc'⟩,⟨rfl,rfl,rfl,rfl,rfl,rfl,rfl,qaf (by simp),trivial⟩,zhR _,hj2⟩
 obtain rfl:=qaS hL2 hd;rw[zLz] at hL2;rw[<-hL2] at hacc3;refine gaa ?_
 refine oL (fun k ls H'=>∃ pre3 l3 v4 Ha4,f.locals=pre3++l3/\k=l3.length/\ls=[(3,v4),(5,ptr b5 0),(15,.list (fs.map qav)),(16,int .i64 ((fs.map qav).length:Int)),(17,int .i64 (pre.length:Int)),(38,.list (f.locals.map str)),(39,int .i64 ((f.locals.map str).length:Int)),(40,int .i64 (pre3.length:Int))] /\
   H'=fnH b5 f::Ha4/\GL.Acc 1 v4 ((vars++(pre.map Chk.ownS).flatten++(f.params++pre3).map fun x=>f.name++[46]++x).map str) Ha4 [])
  ⟨_,_,_,⟨[],f.locals,v3,Ha3,rfl,rfl,rfl,rfl,by simpa using hacc3⟩,⟨rfl,rfl,rfl,rfl,rfl,rfl,rfl,rfl,trivial⟩,zhR _⟩ ?_
 rintro k ls H' ⟨pre3,l3,v4,Ha4,hL3,rfl,rfl,rfl,hacc4⟩ j3 hj3;have hb4:=qbR hL3 hl6;refine gai ?_;refine oC rfl (fun hd=>?_) (fun hd=>?_)
 ·obtain ⟨x,l4,rfl⟩:=more hL3 hd;have hx:x.length<=1000:=hn2 x (by rw[hL3];simp);refine gak ?_;refine oP (xR (el':=str x) (cs:=[_]) rfl rfl zo (by rw[hL3];exact get_mid str pre3 x l4) rfl rfl) rfl ?_;refine gab ?_;refine oP (pM (lv:=v4) rfl) rfl ?_;refine gac ?_;refine oS (sL (es:=[f.name++[46]++x].map str) [_] rfl (zeC rfl rfl eN) rfl rfl rfl ?_) rfl;refine oS (sG (A:=[_]) (H1:=Ha4) (zPc (l₁:=[_])) rfl hacc4 rfl (qa6 _) (qbt _) (by rw[zLm,zLa,zLa,zLm,zLa,zLm,List.length_singleton];omega) fun v' H' hacc'=>?_) rfl;refine zQ62 ?_;refine gat ?_
  exact ⟨l4.length,_,_,Nat.lt_succ_self _,⟨pre3++[x],l4,v',H',snoc hL3,rfl,rfl,rfl,by
   have e:((vars++(pre.map Chk.ownS).flatten++(f.params++(pre3++[x])).map fun x=>f.name++[46]++x).map str)=((vars++(pre.map Chk.ownS).flatten++(f.params++pre3).map fun x=>f.name++[46]++x).map str)++[f.name++[46]++x].map str:=by simp
   rw[e]
   exact hacc'⟩,⟨rfl,rfl,rfl,rfl,rfl,rfl,rfl,qaf (by simp),trivial⟩,zhR _,hj3⟩
 obtain rfl:=qaS hL3 hd;rw[zLz] at hL3;rw[<-hL3] at hacc4;refine gaa ?_
 exact ⟨l2.length,_,_,Nat.lt_succ_self _,⟨pre++[f],l2,v4,Ha4,snoc hL,rfl,rfl,rfl,by
  have e:((vars++((pre++[f]).map Chk.ownS).flatten).map str)=(vars++(pre.map Chk.ownS).flatten++(f.params++f.locals).map fun x=>f.name++[46]++x).map str:=by
   simp[Chk.ownS]
  rw[e]
  exact hacc4⟩,⟨rfl,rfl,rfl,qaf (by simp),trivial⟩,zhD zhr,hj3.trans (hj2.trans hj)⟩
@[reducible] def prH (b:Nat) (vars:List Nm) (AL:LV) (fs:List FnD):Nat×LObj:=(b,.cells 34 [.list (vars.map str),AL,.list (fs.map qav)])
theorem qnP {x y:Nat×LObj} {A B:Heap}:List.Perm (x::y::(A++B)) (A++(x::y::B)):=by
 have h:List.Perm (([x,y]++A)++B) ((A++[x,y])++B):=zPc.append_right B;rw[zAs A] at h;exact h
theorem qlq {vars arrays:List Nm} {fs:List FnD} (AL:LV) (hnd:ndFs fs<=2000000) (hd:Dist (fs.map fun f=>(⟨f.name,0,0,0⟩:FSum))) (herr:qcf vars arrays (fs.map (·.name)) [] fs=0) :
  LCalls (KC B0 w0) 78 [.agg [.list (vars.map str),AL,.list (fs.map qav)]] [] (Ret (.tuple [.list (((qdx vars arrays (fs.map (·.name)) [] fs).map (·.need)).map iv),.list (((qdx vars arrays (fs.map (·.name)) [] fs).map (·.depth)).map iv)])):=by
 have hfl:=qdF fs;generalize hlat:fs.map (·.name)=later at herr ⊢;generalize hS:qdx vars arrays later [] fs=ZS;refine cI Tryz.func78 rfl (n:=80) rfl rfl rfl ?_;refine gag ?_;refine oS (sB rfl fun b1=>?_) rfl;refine ga0 ?_;refine oS (S.litA (es:=[]) [] rfl eN rfl rfl rfl fun b4=>?_) rfl;refine oS (S.litA (es:=[]) [] rfl eN rfl rfl rfl fun b5=>?_) rfl;refine gab ?_
 refine oL (fun k ls H'=>∃ (pre l1:List FnD) (known:List FSum) (v4 v5:LV) (H4 H5:Heap),fs=pre++l1/\k=l1.length/\ls=[(1,ptr b1 0),(4,v4),(5,v5),(15,.list (fs.map qav)),(16,int .i64 ((fs.map qav).length:Int)),(17,int .i64 (pre.length:Int))] /\
   H'=prH b1 vars AL fs::(H4++H5)/\GL.Acc 1 v4 ((known.map (·.need)).map iv) H4 []/\GL.Acc 1 v5 ((known.map (·.depth)).map iv) H5 []/\known.map (·.name)=pre.map (·.name)/\qcf vars arrays later known l1=0/\qdx vars arrays later known l1=ZS/\KnB (8 * ndFs pre) pre.length known)
  ⟨_,_,_,⟨[],fs,[],.app b4 0 1 [],.app b5 0 1 [],[(b4,.row 0)],[(b5,.row 0)],rfl,rfl,rfl,rfl,Acc.row,Acc.row,rfl,herr,hS,fun k hk=>(List.not_mem_nil hk).elim⟩,⟨rfl,rfl,rfl,rfl,rfl,rfl,trivial⟩,⟨[],by simpa using (zPc (l₁:=[_,_]) (l₂:=[_])).trans (List.Perm.cons _ (List.Perm.swap _ _ _))⟩⟩ ?_
 rintro k ls HH ⟨pre,l1,known,v4,v5,H4,H5,hL,rfl,rfl,rfl,hacc4,hacc5,hkn,hI,hSS,hB⟩ j hj;have hb:=qbR hL (show fs.length<=2000000 by omega)
 have hkl:known.length=pre.length:=by
  have:=congrArg List.length hkn;simpa using this
 refine gai ?_;refine oC rfl (fun hc=>?_) (fun hc=>?_);rotate_left
 ·obtain rfl:=qaS hL hc;have hSe:known=ZS:=hSS;rw[<-hSe];refine gad ?_;refine qae.sub (d:=4) rfl hacc4.sub ?_;refine qae.sub (d:=5) rfl hacc5.sub ?_;refine gab ?_;exact qac hj (rC (rT (v:=.list _) rfl zsr) (rC (rT (v:=.list _) rfl zsr) rN)) rfl
 obtain ⟨f,l2,rfl⟩:=more hL hc;rw[qcf] at hI;obtain ⟨hI1,hI2⟩:=qad.1 hI;rw[qdx] at hSS
 have hndf:ndFs pre+ndF f<=ndFs fs:=by
  have key:∀ p q:List FnD,ndFs (p++q)=ndFs p+ndFs q:=fun p q=>by
   induction p with
   |nil=>rw[List.nil_append,ndFs];omega
   |cons x p ih=>rw[List.cons_append,ndFs,ndFs,ih];omega
  rw[hL,key,ndFs];omega
 have hndb:ndSs f.body+f.params.length<2000001:=by unfold ndF at hndf;omega
 have hp8:(f.params.map str).length<=2000000:=by rw[zLm];omega
 have hdk:Dist known:=by
  unfold Dist at hd ⊢;have e:(fs.map fun f=>(⟨f.name,0,0,0⟩:FSum)).map (·.name)=known.map (·.name)++(f::l2).map (·.name):=by rw[List.map_map,hL,zMa,hkn];rfl
  rw[e] at hd;exact ⟨(List.nodup_append.1 hd.1).1,fun h=>hd.2.1 (List.mem_append_left _ h),fun h=>hd.2.2 (List.mem_append_left _ h)⟩
 have herb:qa7 (envF vars arrays later known f) f.body=0:=(qad.1 hI1).2;have hneeds:=qjD (B0:=B0) (w0:=w0) (c:=envF vars arrays later known f) (fs:=pre) zo hkn hdk hB zo 2000001 zo f.body herb zo;have hcall:=qhk (B0:=B0) (w0:=w0) 2000001 zo f.body zo;have hcl:=qcK f.body;have hsum:=qpu (vars:=vars) (arrays:=arrays) (later:=later) (f:=f) hB;have hS1:(sumF vars arrays later known f).need=qkS [2,f.params.length+1,qaW (envF vars arrays later known f) f.body]:=rfl
 have hS2:(sumF vars arrays later known f).depth=qiu (envF vars arrays later known f) (qbc f.body) 1:=by
  rw[qlF hdk];rfl
 have hneeds':LCalls (KC B0 w0) 142 [.list (f.body.map encS),.list (pre.map qav),v4] [] (Ret (iv (qaW (envF vars arrays later known f) f.body))):=LCalls.argsSub (bs:=[.list (f.body.map encS),.list (pre.map qav),.list ((known.map (·.need)).map iv)]) ⟨vR _,vR _,hacc4.sub,trivial⟩ hneeds;refine gaa ?_;refine oP (xR (el':=qav f) (cs:=[_,_,_,_]) rfl rfl zo (by rw[hL];exact get_mid qav pre f l2) rfl rfl) rfl ?_;refine gav ?_;refine oS (sA fun b7=>?_) rfl;refine gac ?_;refine cD (m:=18) rfl [fnH b7 f,prH b1 vars AL fs] ?_;refine LAny.take (i:=0) (zhP pH zhp) rfl zk zk zk rfl (pM (lv:=v4) rfl) ?_;refine aT 1 rfl rfl (pF rfl) ?_;refine aT 2 rfl rfl (pL (c:=.list _) rfl zm0 rfl) ?_;refine aT 3 rfl rfl (Pure.llen rfl) ?_;refine aT 4 rfl rfl (Pure.add rfl rfl zo) ?_;refine aT 5 rfl rfl (pF rfl) ?_;refine aT 6 rfl rfl (pL (c:=.list _) rfl zm0 rfl) ?_;refine aT 7 rfl rfl (pF rfl) ?_;refine aT 8 rfl rfl (pL (c:=.list _) rfl zm1 rfl) ?_;refine aT 9 rfl rfl (pM (lv:=.atom _) rfl) ?_;refine LAny.take (i:=10) (zhP pH zhp) rfl zk zk zk rfl (Pure.sliceTo (g:=qav) (pre:=pre) (l1:=f::l2) (by rw[<-hL];rfl) rfl (qiX _)) ?_;refine LAny.take (i:=11) (zhP pH zhp) rfl zk zk zk rfl (pM (lv:=v4) rfl) ?_;refine aL ?_ (zhP pH zhp);refine lO 12 (lS (H1:=[]) rfl (.inl rfl) rfl zpr (zhP pH zhp) (sF [_,_,_] rfl hneeds' ?_));refine lO 13 (lS (H1:=[]) rfl (.inl rfl) rfl zpr (zhP pH zhp) (sL (es:=[2,f.params.length+1,qaW (envF vars arrays later known f) f.body].map iv) [_,_,_] (by show [int .i64 2,int .i64 (((f.params.map str).length:Int)+1),iv _]=_;simp[iv]) (qdt _) rfl rfl rfl ?_));refine lO 14 (lS (H1:=[]) rfl (.inl rfl) rfl zpr (zhP pH zhp) (sF [_] rfl (qbD 2 [f.params.length+1,qaW (envF vars arrays later known f) f.body] (by simp)) ?_));rw[<-hS1];refine lO 15 (lS (H1:=[]) rfl (.inl rfl) rfl zpr (zhP pH zhp) (sL (es:=[(sumF vars arrays later known f).need].map iv) [_] rfl (qdt _) rfl rfl rfl ?_));refine lO 16 (lS (H1:=H4) rfl (.inl rfl) rfl qnP (zhP pH zhp) (S.acc (F:=[]) rfl hacc4 rfl (qqh _) (qsk _) (by rw[zLm,zLm,zLm,List.length_singleton];omega) fun v6 H6 hacc6=>?_));refine lO 17 (lH rfl rfl (pA (lv:=v6) rfl) ?_);refine lD zk ?_;refine gam ?_;refine qae.perm (H':=fnH b7 f::prH b1 vars AL fs::(H5++H6)) (zPc (l₂:=_::_::H5)) ?_;refine gaa ?_;refine oS (sF [_] rfl hcall ?_) rfl;refine gad ?_;have hnm6:(qbc f.body).length<=2000001:=by omega
 generalize hNM:qbc f.body=names at hS2 hnm6 ⊢
 refine oL (fun k ls H'=>∃ (pn nl:List Nm) (d:Nat),names=pn++nl/\k=nl.length/\ls=[(1,ptr b1 0),(4,v6),(5,v5),(6,int .i64 (pre.length:Int)),(7,ptr b7 0),(8,iv d),(15,.list (fs.map qav)),(16,int .i64 ((fs.map qav).length:Int)),(17,int .i64 (pre.length:Int)),(41,.list (names.map str)),(42,int .i64 ((names.map str).length:Int)),(43,int .i64 (pn.length:Int))] /\
   H'=fnH b7 f::prH b1 vars AL fs::(H5++H6)/\(sumF vars arrays later known f).depth=qiu (envF vars arrays later known f) nl d)
  ⟨_,_,_,⟨[],names,1,rfl,rfl,rfl,rfl,hS2⟩,⟨rfl,rfl,rfl,rfl,rfl,rfl,rfl,rfl,rfl,rfl,rfl,rfl,trivial⟩,zhR _⟩ ?_
 rintro k ls H' ⟨pn,nl,d,hLn,rfl,rfl,rfl,hov⟩ j2 hj2;have hb2:=qbR hLn hnm6;refine gai ?_;refine oC rfl (fun hc2=>?_) (fun hc2=>?_);rotate_left
 ·obtain rfl:=qaS hLn hc2;have hdd:(sumF vars arrays later known f).depth=d:=hov;rw[<-hdd];refine gaa ?_;refine oP (pM (lv:=v5) rfl) rfl ?_;refine gax ?_;refine oS (sL (es:=[(sumF vars arrays later known f).depth].map iv) [_] rfl (qdt _) rfl rfl rfl ?_) rfl;refine oS (sG (A:=fnH b7 f::prH b1 vars AL fs::H6) (H1:=H5) qnP rfl hacc5 rfl (qqh _) (qsk _) (by rw[zLm,zLm,zLm,List.length_singleton];omega) fun v9 H9 hacc9=>?_) rfl;refine oP (pA (lv:=v9) rfl) rfl ?_;refine gat ?_
  exact ⟨l2.length,_,_,Nat.lt_succ_self _,⟨pre++[f],l2,known++[sumF vars arrays later known f],v6,v9,H6,H9,snoc hL,rfl,rfl,rfl,by rw[zMa,zMa];exact hacc6,by rw[zMa,zMa];exact hacc9,by rw[zMa,zMa,hkn];rfl,hI2,hSS,fun q hq=>by
   have key:∀ p:List FnD,ndFs (p++[f])=ndFs p+ndF f:=fun p=>by
    induction p with
    |nil=>rw[List.nil_append,ndFs,ndFs,ndFs];omega
    |cons x p ih=>rw[List.cons_append,ndFs,ndFs,ih];omega
   rw[key,zLa,List.length_singleton];rcases List.mem_append.1 hq with h1|h1
   ·have:=hB q h1;omega
   ·rw[List.mem_singleton.1 h1]
    omega⟩,⟨rfl,rfl,rfl,rfl,rfl,qaf (by simp),trivial⟩,zhD ⟨[],by simp⟩,hj2.trans hj⟩
 obtain ⟨name,n2,rfl⟩:=more hLn hc2;refine gak ?_;refine oP (xR (el':=str name) (cs:=[_]) rfl rfl zo (by rw[hLn];exact get_mid str pn name n2) rfl rfl) rfl ?_;refine gab ?_;refine oP (Pure.sliceTo (g:=qav) (pre:=pre) (l1:=f::l2) (by rw[<-hL];rfl) rfl (qiX _)) rfl ?_;refine gad ?_
 refine oL (fun k ls H'=>∃ (pp pl:List FnD) (kp kl:List FSum) (d2:Nat),pre=pp++pl/\known=kp++kl/\kp.length=pp.length/\k=pl.length/\ls=[(1,ptr b1 0),(4,v6),(5,v5),(6,int .i64 (pre.length:Int)),(7,ptr b7 0),(8,iv d2),(10,str name),(15,.list (fs.map qav)),(16,int .i64 ((fs.map qav).length:Int)),(17,int .i64 (pre.length:Int)),(41,.list (names.map str)),(42,int .i64 ((names.map str).length:Int)),(43,int .i64 (pn.length:Int)),(51,int .i64 ((pre.map qav).length:Int)),(52,int .i64 (pp.length:Int))] /\
   H'=fnH b7 f::prH b1 vars AL fs::(H5++H6)/\kl.map (·.name)=pl.map (·.name)/\qeX (fun f=>1+f.depth) name known d=qeX (fun f=>1+f.depth) name kl d2)
  ⟨_,_,_,⟨[],pre,[],known,d,rfl,rfl,rfl,rfl,rfl,rfl,hkn,rfl⟩,⟨rfl,rfl,rfl,rfl,rfl,rfl,rfl,rfl,rfl,rfl,rfl,rfl,rfl,rfl,rfl,trivial⟩,zhR _⟩ ?_
 rintro k ls H' ⟨pp,pl,kp,kl,d2,hLp,hLk,hkp,rfl,rfl,rfl,hkn2,hov2⟩ j3 hj3;have hb3:=qbR hLp hb;refine gai ?_;refine oC rfl (fun hc3=>?_) (fun hc3=>?_);rotate_left
 ·obtain rfl:=qaS hLp hc3
  have hkl0:kl=[]:=by
   cases kl with
   |nil=>rfl
   |cons s l=>simp at hkn2
  subst hkl0;refine gaa ?_
  exact ⟨n2.length,_,_,Nat.lt_succ_self _,⟨pn++[name],n2,d2,snoc hLn,rfl,rfl,rfl,by
   rw[hov];show List.foldl _ (qeX (fun f=>1+f.depth) name known d) n2=_;rw[hov2]
   rfl⟩,⟨rfl,rfl,rfl,rfl,rfl,rfl,rfl,rfl,rfl,rfl,rfl,qaf (by simp),trivial⟩,zhR _,hj3.trans hj2⟩
 obtain ⟨q,pl2,rfl⟩:=more hLp hc3
 obtain ⟨s,kl,rfl⟩:∃ s l,kl=s::l:=by
  cases kl with
  |nil=>simp at hkn2
  |cons s l=>exact ⟨s,l,rfl⟩
 rw[zMc,zMc] at hkn2;injection hkn2 with hs hkn2
 have hget:(fs.map qav)[((pp.length:Nat):Int).toNat]? = some (qav q):=by
  rw[hL,hLp,zAs];exact get_mid qav pp q _
 have hget2:((known.map (·.depth)).map iv)[((pp.length:Nat):Int).toNat]? = some (iv s.depth):=by
  rw[hLk,List.map_map,<-hkp];exact get_mid _ kp s kl
 have hsd:s.depth<=2000000:=by
  have:=(hB s (by rw[hLk];simp)).2.2;omega
 refine gab ?_;refine oP (xR (el':=qav q) (cs:=[_,_,_,_]) rfl rfl zo hget rfl rfl) rfl ?_;refine gac ?_
 by_cases h14:q.name=name
 ·refine oC rfl (fun _=>?_) (fun hd=>absurd h14 (zf hd));refine gaf ?_;refine oP (pM (lv:=v5) rfl) rfl ?_;refine gax ?_;refine oP (xR (el':=iv s.depth) (cs:=[_]) hacc5.elems rfl zo hget2 rfl rfl) rfl ?_;refine gac ?_;refine oS (sL (es:=[d2,1+s.depth].map iv) [_,_] rfl (qdt _) rfl rfl rfl ?_) rfl;refine oS (sF [_] rfl (qbD d2 [1+s.depth] (by simp)) ?_) rfl;refine gaa ?_;exact ⟨pl2.length,_,_,Nat.lt_succ_self _,⟨pp++[q],pl2,kp++[s],kl,max d2 (1+s.depth),snoc hLp,snoc hLk,by simp[hkp],rfl,rfl,rfl,hkn2,by rw[hov2];unfold qeX;rw[List.foldl_cons,if_pos (hs.trans h14)]⟩,⟨rfl,rfl,rfl,rfl,rfl,rfl,rfl,rfl,rfl,rfl,rfl,rfl,rfl,rfl,qaf (by simp),trivial⟩,zhR _,hj3⟩
 ·refine oC rfl (fun hd=>absurd (zt hd) h14) (fun _=>?_);refine gaa ?_;exact ⟨pl2.length,_,_,Nat.lt_succ_self _,⟨pp++[q],pl2,kp++[s],kl,d2,snoc hLp,snoc hLk,by simp[hkp],rfl,rfl,rfl,hkn2,by rw[hov2];unfold qeX;rw[List.foldl_cons,if_neg (fun h=>h14 (hs.symm.trans h))]⟩,⟨rfl,rfl,rfl,rfl,rfl,rfl,rfl,rfl,rfl,rfl,rfl,rfl,rfl,rfl,qaf (by simp),trivial⟩,zhR _,hj3⟩
end
end Go.Proofs.YthmhncflhnbedaaGreatDoor.RC
namespace Go.Proofs.YthmhncflhnbedaaGreatDoor.R23
open Go.GL Go.RowKit Go.Stele
open Go.Lib (decDigits itoa join)
open Cmp (qdd qcM)
def cLV (vars:List Nm) (arrays:List (Nm×Int)) (fs:List FnD) (sc:Nat) (ars:List (Nm×Int)) (own:Nm):LV:=.agg [.list (vars.map str),.list (arrays.map Chk.encArG),.list (fs.map qav),int .i64 (sc:Nat),.list (ars.map qdd),str own]
def arrR (name:Nm):List (Nm×Int)->Int->Int
 |[],a=>a
 |(x,n)::r,a=>arrR name r (if x=name then n else a)
theorem qnL (name:Nm) (P:Int->Prop):∀ (l:List (Nm×Int)) (a:Int),P a->(∀ p∈l,P p.2)->P (arrR name l a)
 |[],a,h,_=>h
 |(x,n)::r,a,h,hp=>by
  rw[arrR];refine qnL name P r _ ?_ fun p hp'=>hp p (zMo _ hp');split
  ·exact hp _ zMs
  ·exact h
def hitR (nv:Nat) (own name:Nm) (i:Nat) (x:Nm):Bool:=(decide (x=name) && decide (i<nv)) || decide (x=own++[46]++name)
def scR (nv:Nat) (own name:Nm) (sc:Nat):Nat->List Nm->Nat->Nat
 |_,[],a=>a
 |i,x::r,a=>scR nv own name sc (i+1) r (if hitR nv own name i x=true then sc+3+i else a)
theorem ql5 (nv:Nat) (own name:Nm) (sc:Nat):∀ (l m:List Nm) (i a:Nat),scR nv own name sc i (l++m) a=scR nv own name sc (i+l.length) m (scR nv own name sc i l a)
 |[],m,i,a=>rfl
 |x::r,m,i,a=>by
  rw[List.cons_append,scR,ql5 nv own name sc r m,scR,zLc,Nat.add_right_comm,Nat.add_assoc]
theorem qm5 (nv:Nat) (own name:Nm) (sc:Nat):∀ (l:List Nm) (i a:Nat),(∀ k (h:k<l.length),hitR nv own name (i+k) l[k]=false)->scR nv own name sc i l a=a
 |[],i,a,_=>rfl
 |x::r,i,a,h=>by
  have h0:=h 0 (by simp);rw[Nat.add_zero,List.getElem_cons_zero] at h0;rw[scR,h0,if_neg zDd];refine qm5 nv own name sc r (i+1) a fun k hk=>?_;have:=h (k+1) (by simpa using hk);rw[List.getElem_cons_succ] at this;rw[Nat.add_right_comm,Nat.add_assoc];exact this
theorem qrt (nv:Nat) (own name:Nm) (sc:Nat):∀ (l:List Nm) (i a M:Nat),a<=M->sc+3+i+l.length<=M->scR nv own name sc i l a<=M
 |[],i,a,M,h,_=>h
 |x::r,i,a,M,h,h2=>by
  rw[zLc] at h2;rw[scR];refine qrt nv own name sc r (i+1) _ M ?_ zo;split <;> omega
theorem qpL {vars locs:List Nm} {own name:Nm} (sc:Nat) (hn:(vars++locs).Nodup) (hv:own++[46]++name ∉ vars) (hl:name ∉ locs) :
  ((scR vars.length own name sc 0 (vars++locs) 0:Nat):Int)=qec (vars++locs) sc (keyC (vars++locs) own name):=by
 have one:∀ (k:Nm) (p q:List Nm),vars++locs=p++k::q->(∀ x∈q,x≠k)/\(∀ x∈p,x≠k)/\(vars++locs).idxOf k=p.length:=fun k p q e=>by
  rw[e,List.nodup_append,List.nodup_cons] at hn;refine ⟨fun x hx h=>hn.2.1.1 (h▸hx),fun x hx h=>hn.2.2 x hx k zMs h,?_⟩;rw[e,List.idxOf_append,if_neg (fun h=>hn.2.2 k h k zMs rfl),List.idxOf_cons_self,Nat.zero_add]
 unfold keyC qec
 by_cases hk:own++[46]++name∈vars++locs
 ·rw[if_pos hk,if_pos hk];obtain ⟨p,q,e⟩:=List.append_of_mem hk;obtain ⟨h1,h2,h3⟩:=one _ p q e;rw[h3]
  have hpl:vars.length<=p.length:=by
   refine Nat.le_of_not_lt fun hlt=>hv ?_;have:=congrArg (fun l=>l[p.length]?) e;simp only[List.getElem?_append_left hlt,List.getElem?_append_right (zNr _),Nat.sub_self,List.getElem?_cons_zero] at this;exact List.mem_of_getElem? this
  rw[e,ql5,scR,qm5]
  ·have:hitR vars.length own name (0+p.length) (own++[46]++name)=true:=by
    unfold hitR;rw[decide_eq_true (rfl:own++[46]++name=own++[46]++name),Bool.or_true]
   rw[if_pos this];omega
  ·intro k hk;unfold hitR;rw[decide_eq_false (p:=_<vars.length) zo,Bool.and_false,Bool.false_or];exact decide_eq_false (h1 _ (List.getElem_mem hk))
 ·rw[if_neg hk];have no:∀ x∈vars++locs,x≠own++[46]++name:=fun x hx h=>hk (h▸hx)
  by_cases hm:name∈vars++locs
  ·rw[if_pos hm];have hmv:name∈vars:=(List.mem_append.1 hm).resolve_right hl;obtain ⟨p,q,e⟩:=List.append_of_mem hmv;have e2:vars++locs=p++name::(q++locs):=by rw[e,zAs,List.cons_append]
   obtain ⟨h1,h2,h3⟩:=one _ p (q++locs) e2;rw[h3];have hpl:p.length<vars.length:=by rw[e,zLa,zLc];omega
   generalize vars.length=nv at hpl;rw[e2,ql5,scR,qm5]
   ·have:hitR nv own name (0+p.length) name=true:=by
     unfold hitR;rw[decide_eq_true (rfl:name=name),decide_eq_true zo];rfl
    rw[if_pos this];omega
   ·intro k hk;unfold hitR;rw[decide_eq_false (h1 _ (List.getElem_mem hk)),Bool.false_and,Bool.false_or];exact decide_eq_false (no _ (by rw[e2];exact List.mem_append_right _ (zMo _ (List.getElem_mem hk))))
  ·rw[if_neg hm,qm5]
   ·rfl
   ·intro k hk;unfold hitR;rw[decide_eq_false fun h:(vars++locs)[k]=name=>hm (h▸List.getElem_mem hk),Bool.false_and,Bool.false_or];exact decide_eq_false (no _ (List.getElem_mem hk))
attribute [local irreducible] LOps qae qag LCalls Go.GL.Pure qaA qaq qah LQ LAny qaF qap LS
section
variable {B0:Nat} {w0:World}
theorem qln (vars:List Nm) (arrays:List (Nm×Int)) (fs:List FnD) (sc:Nat) (ars:List (Nm×Int)) (own name:Nm) (hl:ars.length<=2000000000) (hp:∀ p∈ars,0<=p.2/\p.2<=1000000) :
  LCalls (KC B0 w0) 184 [cLV vars arrays fs sc ars own,str name] [] (Ret (str (decDigits (arrR name ars 0).toNat))):=by
 have hla:(ars.map qdd).length=ars.length:=zLm _;have hR:=qnL name (fun n=>0<=n/\n<=1000000) ars 0 zDd hp;have hnum:=qcS (B0:=B0) (w0:=w0) (arrR name ars 0).toNat zo;rw[Int.toNat_of_nonneg hR.1] at hnum;unfold cLV;refine cI Tryz.func184 rfl (n:=30) rfl rfl rfl ?_;refine gag ?_;refine oS (sB rfl fun b2=>?_) rfl;refine gaa ?_
 refine oL (fun kk ls H'=>∃ (i:Nat) (a:Int),i<=ars.length/\kk=ars.length-i/\ls=[(1,str name),(2,ptr b2 0),(5,int .i64 a),(6,int .i64 (i:Nat))]/\H'=[(b2,.cells 158 [.list (vars.map str),.list (arrays.map Chk.encArG),.list (fs.map qav),int .i64 (sc:Nat),.list (ars.map qdd),str own])]/\arrR name ars 0=arrR name (ars.drop i) a)
  ⟨_,_,_,⟨0,0,Nat.zero_le _,rfl,rfl,rfl,rfl⟩,⟨rfl,rfl,rfl,rfl,trivial⟩,zhR _⟩ ?_
 rintro kk ls H' ⟨i,a,hi,rfl,rfl,rfl,hI⟩ j hj;refine gaa ?_;refine oC rfl (fun hc=>?_) (fun hc=>?_);rotate_left
 ·have hi':i=ars.length:=by have:=zf hc;omega
  subst hi';rw[List.drop_length] at hI;have hI:arrR name ars 0=a:=hI;rw[hI] at hnum ⊢;refine gaa ?_;refine oS (sF [_] rfl hnum ?_) rfl;refine gae ?_;exact qac hj (zra rfl) rfl
 have hlt:i<ars.length:=by have:=zt hc;omega
 have hmi:=qa0 qdd ars i hlt;rw[List.drop_eq_getElem_cons hlt] at hI;generalize ars[i]=p at hmi hI;obtain ⟨x,n⟩:=p;rw[arrR] at hI;refine gaa ?_;refine oP (xR (el':=qdd (x,n)) (cs:=[_,_]) rfl rfl zo hmi rfl rfl) rfl ?_;refine gac ?_;refine oC rfl (fun h=>?_) (fun h=>?_)
 ·have h':x=name:=zt h;rw[if_pos h'] at hI;refine gaa ?_;refine oP (xR (el':=qdd (x,n)) (cs:=[_,_]) rfl rfl zo hmi rfl rfl) rfl ?_;refine gab ?_;exact ⟨_,_,_,by omega,⟨i+1,n,by omega,rfl,rfl,rfl,hI⟩,⟨rfl,rfl,rfl,qaf zo,trivial⟩,zhR _,hj⟩
 ·have h':¬ x=name:=zf h;rw[if_neg h'] at hI;refine gaa ?_;exact ⟨_,_,_,by omega,⟨i+1,a,by omega,rfl,rfl,rfl,hI⟩,⟨rfl,rfl,rfl,qaf zo,trivial⟩,zhR _,hj⟩
theorem qkB (vars:List Nm) (arrays:List (Nm×Int)) (fs:List FnD) (sc:Nat) (ars:List (Nm×Int)) (own name:Nm) (hv6:vars.length<=2000000) (hf6:fs.length<=2000000) (hsm:∀ f∈fs,SmF f) (hn:∀ f∈fs,f.name.length<=1000/\∀ x∈f.params++f.locals,x.length<=1000) (hsl:(qat vars fs).length<=1000000) (hsc:sc<=1000000) (hown:own.length<=1000000) (hnm:name.length<=1000000) :
  LCalls (KC B0 w0) 83 [cLV vars arrays fs sc ars own,str name] [] (Ret (str (decDigits (scR vars.length own name sc 0 (qat vars fs) 0)))):=by
 have hS:=RC.rscalars_spec (B0:=B0) (w0:=w0) (vars:=vars) (fs:=fs) (.list (arrays.map Chk.encArG)) hv6 hf6 hsm hn;generalize qat vars fs=l at hsl hS ⊢;have hla:(l.map str).length=l.length:=zLm _;have hvl:(vars.map str).length=vars.length:=zLm _;have hle:=qrt vars.length own name sc l 0 0 2000003 zo zo;have hnum:=qcS (B0:=B0) (w0:=w0) (scR vars.length own name sc 0 l 0) zo;unfold cLV;refine cI Tryz.func83 rfl (n:=50) rfl rfl rfl ?_;refine gag ?_;refine oS (sB rfl fun b2=>?_) rfl;refine gab ?_;refine oS (sF [_] rfl hS ?_) rfl;refine gab ?_
 refine oL (fun kk ls H'=>∃ (i a:Nat),i<=l.length/\kk=l.length-i/\ls=[(1,str name),(2,ptr b2 0),(5,.list (l.map str)),(6,int .i64 (a:Nat)),(7,int .i64 (i:Nat))]/\H'=[(b2,.cells 158 [.list (vars.map str),.list (arrays.map Chk.encArG),.list (fs.map qav),int .i64 (sc:Nat),.list (ars.map qdd),str own])]/\scR vars.length own name sc 0 l 0=scR vars.length own name sc i (l.drop i) a)
  ⟨_,_,_,⟨0,0,Nat.zero_le _,rfl,rfl,rfl,rfl⟩,⟨rfl,rfl,rfl,rfl,rfl,trivial⟩,zhR _⟩ ?_
 rintro kk ls H' ⟨i,a,hi,rfl,rfl,rfl,hI⟩ j hj;refine gaa ?_;refine oC rfl (fun hc=>?_) (fun hc=>?_);rotate_left
 ·have hi':i=l.length:=by have:=zf hc;omega
  subst hi';rw[List.drop_length] at hI;have hI:scR vars.length own name sc 0 l 0=a:=hI;rw[hI] at hnum ⊢;refine gaa ?_;refine oS (sF [_] rfl hnum ?_) rfl;refine gae ?_;exact qac hj (zra rfl) rfl
 have hlt:i<l.length:=by have:=zt hc;omega
 have hmi:=qa0 str l i hlt;rw[List.drop_eq_getElem_cons hlt] at hI;generalize l[i]=x at hmi hI;rw[scR] at hI;have hH:hitR vars.length own name i x=((decide (x=name) && decide (i<vars.length)) || decide (x=own++[46]++name)):=rfl;refine gad ?_;refine cC [(1,str name),(2,ptr b2 0),(5,.list (l.map str)),(6,int .i64 (a:Nat)),(7,int .i64 (i:Nat)),(42,bool (hitR vars.length own name i x))] ?_ (fun j2 hj2=>?_)
 ·refine zQ85 ?_;refine qsa ?_;refine LQ.bcase 23 rfl (fun h1=>?_) (fun h1=>?_)
  ·have h1':x=name:=zt h1;refine gao ?_;refine LQ.bcase 31 rfl (fun h2=>?_) (fun h2=>?_)
   ·have h2':i<vars.length:=by have:=zt h2;omega
    refine gao ?_;exact ⟨⟨rfl,rfl,rfl,rfl,rfl,qai (by rw[hH,decide_eq_true h1',decide_eq_true h2'];rfl),trivial⟩,rfl,rfl⟩
   ·have h2':¬ i<vars.length:=by have:=zf h2;omega
    refine qsa ?_;exact ⟨⟨rfl,rfl,rfl,rfl,rfl,qai (by rw[hH,decide_eq_false h2',Bool.and_false,Bool.false_or]),trivial⟩,rfl,rfl⟩
  ·have h1':¬ x=name:=zf h1;refine qsa ?_;exact ⟨⟨rfl,rfl,rfl,rfl,rfl,qai (by rw[hH,decide_eq_false h1',Bool.false_and,Bool.false_or]),trivial⟩,rfl,rfl⟩
 refine oC rfl (fun h=>?_) (fun h=>?_)
 ·have h':hitR vars.length own name i x=true:=h;rw[if_pos h'] at hI;refine gaa ?_;exact ⟨_,_,_,by omega,⟨i+1,_,by omega,rfl,rfl,rfl,hI⟩,⟨rfl,rfl,rfl,qaf zo,qaf zo,trivial⟩,zhR _,hj2.trans hj⟩
 ·have h':hitR vars.length own name i x=false:=h;rw[h',if_neg zDd] at hI;refine gaa ?_;exact ⟨_,_,_,by omega,⟨i+1,a,by omega,rfl,rfl,rfl,hI⟩,⟨rfl,rfl,rfl,rfl,qaf zo,trivial⟩,zhR _,hj2.trans hj⟩
end
end Go.Proofs.YthmhncflhnbedaaGreatDoor.R23
