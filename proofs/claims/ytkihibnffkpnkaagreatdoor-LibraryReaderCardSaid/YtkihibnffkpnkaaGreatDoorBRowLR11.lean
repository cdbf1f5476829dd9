import Derived.Lib.SplitLaws
import Derived.Shelf.Strings.SlTrimAscii
import Derived.Test.YtkihibnffkpnkaaGreatDoorBRowLR10
set_option linter.unusedVariables false
set_option linter.unusedSimpArgs false
set_option maxRecDepth 100000
set_option maxHeartbeats 4000000
open Go.GL (zk)
open List (map_map all_reverse take_length getElem_mem drop_length drop_eq_getElem_cons foldl_cons)
open Nat (zero_le)
open Option (getD_some)
namespace Go.Proofs.YtkihibnffkpnkaaGreatDoor.Chk
open Go.GL Go.RowKit Go.Stele
variable{els thn:List Sm}{index value:List Ex}{name:List UInt8}
theorem qpK{x y:Nat×LObj}{A B:Heap}:List.Perm (x::y::(A++B)) (A++(x::y::B)):=by
 have h:List.Perm (([x,y]++A)++B) ((A++[x,y])++B):=zPc.append_right B;rw[zAs A] at h;exact h
theorem qjf{x:Nat×LObj}{A B:Heap}:List.Perm (x::(A++B)) (A++(x::B)):=by
 have h:List.Perm (([x]++A)++B) ((A++[x])++B):=zPc.append_right B;rw[zAs A] at h;exact h
theorem qwV{x y:Nat×LObj}{A B:Heap}:List.Perm (A++(x::y::B)) (B++(x::y::A)):=by
 refine qpK.symm.trans ?_;exact(zPc (l₁:=x::y::A) (l₂:=B))
theorem qxj(n:Nat):∀ v∈[iv n],v.cells.length=1:=λv hv=>by rw[List.mem_singleton.1 hv];rfl
theorem qhW(c:CEnv):∀ l:List Ex,(qaZ c l).length=l.length
 |[]=>rfl
 |x::l=>by rw[qaZ,zLc,zLc,qhW c l]
theorem qkW(c:CEnv)(x:Ex):∀ l:List Ex,qaZ c (l++[x])=qaZ c l++[qba c x]
 |[]=>rfl
 |y::l=>by
  show qaZ c (y::(l++[x]))=_;rw[qaZ,qkW c x l,qaZ];rfl
theorem qng(c:CEnv)(x:Ex):∀ l:List Ex,qb0 c (l++[x])=max (qb0 c l) (depE c x)
 |[]=>by
  show max (depE c x) 0=max 0 (depE c x)
  omega
 |y::l=>by
  show qb0 c (y::(l++[x]))=_;rw[qb0,qng c x l,qb0,Nat.max_assoc]
theorem qkD{c:CEnv}{B D:Nat}(hB:KnB B D c.funcs):∀ {l:List Ex} {n:Nat},n∈qaZ c l->n<=4 * ndEs l+B
 |[],n,h=>by rw[qaZ] at h;cases h
 |x::l,n,h=>by
  rw[qaZ] at h;rw[ndEs];rcases zMi.1 h with rfl|h;have:=qf8 B D c hB x;omega;have:=qkD hB h;omega
attribute [local irreducible] LOps qag qae LCalls Go.GL.Pure qaz qam qad LQ LAny qaI qan LS
section
variable{B0:Nat}{w0:World}
def qxF(B0:Nat)(w0:World)(k:KB)(c:CEnv)(n:Nat):Prop:=∀ (x:Ex) (d:Nat),ndE x<=n->d<=200000000->LCalls (KC B0 w0) 238 [ptr k.cb 0,encE x] (ckH k d) (qhY (errE c x) (iv (qba c x)) (ckH k (max d (depE c x))))
theorem qec{k:KB}{c:CEnv}(hk:KBok k c){B D:Nat}(hB:KnB B D c.funcs)(hB8:B<=100000000)(hD8:D<=100000000):∀ n:Nat,n<=2000000->qxF B0 w0 k c n
 |0,_=>λx d h _=>by have:=qlw x;omega
 |n+1,hn6=>by
  have ih:=qec hk hB hB8 hD8 n zo;intro x d hnd hd;obtain⟨op,num,name,args⟩:=x;rw[ndE] at hnd;have hal:=qf9 args;have hall:(args.map encE).length=args.length:=zLm _;generalize hI:errE c (Ex.mk op num name args)=E;rw[errE] at hI;rw[qba,depE];rw[qd5];refine zcI Tryz.func238 rfl (n:=121) rfl rfl rfl ?_;refine gah ?_;refine oS (zsB rfl λb3=>?_) rfl;refine gac ?_;refine oS (sF [_] rfl (qlz op) ?_) rfl;refine gab ?_;refine cM (A:=Unit) (λ_=>[(0,ptr k.cb 0),(3,ptr b3 0)]) (λ_=>(b3,.cells 202 [str op,int .u32 (num:Int),str name,.list (args.map encE)])::ckH k d) (λ_=>qbw op = -1∨qbw op=args.length) ?_ (λ_ hop j hj=>?_);refine cD (m:=14) rfl [(b3,.cells 202 [str op,int .u32 (num:Int),str name,.list (args.map encE)]),(k.cb,.cells 126 [.atom (.map (some k.gm)),.atom (.map (some k.vm)),.atom (.map (some k.am)),.atom (.map (some k.fm)),str k.name,.atom (.map (some k.om)),int .i64 (d:Int)])]<|aT 0 rfl rfl (pM (lv:=.atom _) rfl) ?_
  by_cases h1:qbw op = -1
  refine LAny.take (i:=1) (zhP pH zhp) rfl zk zk zk rfl (Pure.eqlT h1 rfl rfl)<|zQ35 ?_;refine zQ28 ?_;refine LAny.takeSkip (i:=7) rfl rfl rfl rfl zk zk zk rfl<|aT 8 rfl rfl (Pure.pickT (lv:=.atom _) rfl rfl)<|zQ15 ?_;refine lO 13 (lS (H1:=[]) rfl (.inl rfl) rfl zpr (zhP pH zhp) (qae.callK [_,_,_] rfl (qav true k.name 3 zDd) (λ_=>?_) (λnm h=>absurd rfl h)));refine lD zk ?_;refine qN ?_;exact⟨(),.inl h1,⟨rfl,rfl,trivial⟩,zhR _,rfl⟩;refine LAny.take (i:=1) (zhP pH zhp) rfl zk zk zk rfl (Pure.eqlF h1 rfl rfl)<|zQ35 ?_;refine LAny.tkW 3 rfl rfl rfl rfl (pM (lv:=.atom _) rfl)<|LAny.tkW 4 rfl rfl rfl rfl (pF rfl)<|LAny.tkW 5 rfl rfl rfl rfl (pL (c:=.list _) rfl zm0 rfl)<|LAny.tkW 6 rfl rfl rfl rfl (Pure.llen rfl) ?_
  by_cases h2:qbw op=args.length
  refine LAny.takeWant (i:=7) (zhP pH zhp) rfl rfl rfl zk zk zk rfl (Pure.eqlT (show qbw op=((args.map encE).length:Int) by rw[hall];exact h2) rfl rfl)<|aT 8 rfl rfl (Pure.pickF (lv:=.atom _) rfl rfl)<|zQ15 ?_;refine lO 13 (lS (H1:=[]) rfl (.inl rfl) rfl zpr (zhP pH zhp) (qae.callK [_,_,_] rfl (qav true k.name 3 zDd) (λ_=>?_) (λnm h=>absurd rfl h)));refine lD zk ?_;refine qN ?_;exact⟨(),.inr h2,⟨rfl,rfl,trivial⟩,zhR _,rfl⟩;refine LAny.takeWant (i:=7) (zhP pH zhp) rfl rfl rfl zk zk zk rfl (Pure.eqlF (show ¬ qbw op=((args.map encE).length:Int) by rw[hall];exact h2) rfl rfl)<|aT 8 rfl rfl (Pure.pickF (lv:=.atom _) rfl rfl)<|zQ15 ?_;refine lO 13 (lS (H1:=[]) rfl (.inl rfl) rfl zpr (zhP pH zhp) (qae.callK [_,_,_] rfl (qav false k.name 3 zDd) (λh=>absurd h zDd) (λnm _ e' he'=>?_)));refine gal ?_;exact panK (he'.trans rfl) (by rw[<-hI,zn (λh=>h.elim h1 h2)];rfl) zDd;rw[zp hop] at hI;refine gaa ?_
  refine zoL (λkk ls H'=>∃ (pre l1:List Ex) (v:LV) (Ha:Heap),args=pre++l1/\kk=l1.length/\ls=[(0,ptr k.cb 0),(3,ptr b3 0),(6,v),(29,.list (args.map encE)),(30,int .i64 ((args.map encE).length:Int)),(31,int .i64 (pre.length:Int))] /\
    H'=(b3,.cells 202 [str op,int .u32 (num:Int),str name,.list (args.map encE)])::(ckH k (max d (qb0 c pre))++Ha)/\GL.Acc 1 v ((qaZ c pre).map iv) Ha []/\orE (qbs c l1) (useE c op name args.length)=E)
   ⟨args.length,_,_,⟨[],args,qab,[],rfl,rfl,rfl,rfl,Acc.nil,hI⟩,⟨rfl,rfl,rfl,rfl,rfl,rfl,trivial⟩,⟨[],by
    rw[zLz,zLz,qb0,Nat.max_zero]⟩⟩ ?_
  rintro kk ls H' ⟨pre,l1,v,Ha,hLe,rfl,rfl,rfl,hacc,hI2⟩ j2 hj2
  have hb2:pre.length<=2000000:=by
   have:=congrArg List.length hLe;rw[zLa] at this;omega
  have hdp:max d (qb0 c pre)<=200000000:=by
   have:=qgO B D c hB pre;omega
  refine gai ?_;refine zoC rfl (λhc=>?_) (λhc=>?_);have hlen:=zt hc;rw[zLm,hLe,zLa] at hlen
  obtain⟨a,l2,rfl⟩:∃ a l2,l1=a::l2:=by
   cases l1 with
   |nil=>simp at hlen
   |cons a l2=>exact⟨a,l2,rfl⟩
  have ham:ndE a<=ndEs args:=qlm (by rw[hLe];exact List.mem_append_right _ zMs);rw[qbs] at hI2;refine gak ?_;refine oP (xR (el':=encE a) (cs:=[_,_,_,_]) rfl rfl zo (by rw[hLe];exact get_mid encE pre a l2) rfl rfl) rfl<|gad ?_;refine oS (zsA λb8=>?_) rfl;refine gaa ?_;refine zQ14 ?_;refine gad ?_;refine oS (zsK [_,_] rfl qpK (ih a _ zo hdp) (λh0=>?_) (λnm h0 e' he'=>?_)) rfl;rw[h0] at hI2;refine oS (sL (es:=[iv (qba c a)]) [_] rfl (eC rfl rfl eN) rfl rfl rfl<|oS (sG qwV rfl hacc rfl (qxj _) rfl (by rw[zLm,qhW,zLc,zLn];omega) λv' Ha' hacc'=>?_) rfl) rfl;refine zQ19 ?_;refine gaq ?_
  exact⟨l2.length,_,_,Nat.lt_succ_self _,⟨pre++[a],l2,v',Ha',by rw[hLe];simp,rfl,rfl,rfl,by rw[qkW,zMa];exact hacc',by rw[<-hI2];rfl⟩,⟨rfl,rfl,rfl,rfl,rfl,qap (by simp),trivial⟩,by
   rw[qng,<-Nat.max_assoc]
   exact zhD zhr,hj2⟩
  refine gae ?_;exact panK ((he'.trans hj2).trans hj) (by rw[<-hI2];unfold orE;rw[zp h0,zp h0]) h0;have hlen:=zf hc;rw[zLm,hLe,zLa] at hlen
  obtain rfl:l1=[]:=by
   cases l1 with
   |nil=>rfl
   |cons a l2=>simp at hlen;omega
  rw[zLz] at hLe;subst hLe;have hI3:useE c op name args.length=E:=by rw[<-hI2];rfl
  have hds:j2.ds=[]:=hj2.trans hj;generalize hd1:max d (qb0 c args)=d1 at hdp ⊢;have hdd:max d (max (qb0 c args) (qgl c op name))=max d1 (qgl c op name):=by rw[<-hd1,Nat.max_assoc]
  rw[hdd];generalize hns:qaZ c args=ns at hacc ⊢;have hnl:ns.length=args.length:=by rw[<-hns,qhW]
  have hnb:∀ m∈ns,m<=1000000000:=λm hm=>by
   rw[<-hns] at hm;have:=qkD hB hm;omega
  have hel:=hacc.elems;refine gac ?_
  have ret1:∀ (nd:LV) {e:Env} {H:Heap},E=0->e.ds=[]->e.s 4=nd->HSub (ckH k d1) H->qgl c op name=0->iv (opN c op name ns)=nd->qad (KC B0 w0) 121 [ResultVar.tmp 4] (qhY E (iv (opN c op name ns)) (ckH k (max d1 (qgl c op name)))) .ret e H:=λnd {e H} h0 hd he hH hcd hn=>by
   rw[hcd,Nat.max_zero];exact retK hd (rC (rT he zsr) rN) h0 hn.symm hH
  have hcall0:¬ op=qbB->qgl c op name=0:=λh=>by
   unfold qgl;rw[zn (λh2=>h h2.1)]
  have hE0:¬ op=nVar->¬ op=qeh->¬ op=qbB->E=0:=λa1 a2 a3=>by
   rw[<-hI3];unfold useE;rw[zn a1,zn a2,zn a3]
  have HS:HSub (ckH k d1) ((b3,.cells 202 [str op,int .u32 (num:Int),str name,.list (args.map encE)])::(ckH k d1++Ha)):=zhD qc0
  by_cases h1:op=[110,117,109]
  refine zoC rfl (λ_=>?_) (λhc=>absurd h1 (zf hc));refine gac ?_;refine ret1 (iv 1) ?_ ?_ ?_ ?_ ?_ ?_;subst h1;exact hE0 zDd zDd zDd;exact hds;rfl;exact HS;subst h1;exact hcall0 zDd;subst h1;rfl;refine zoC rfl (λhc=>absurd (zt hc) h1) (λ_=>?_);refine gas ?_
  by_cases h2:op=[118,97,114]
  refine zoC rfl (λ_=>?_) (λhc=>absurd h2 (zf hc));have hI4:qcg c name=E:=by rw[<-hI3];subst h2;rfl
  refine gac ?_;refine oS (zsK [_,_] rfl qjf (qde hk d1 name) (λh0=>?_) (λnm h0 e' he'=>?_)) rfl;rw[hI4] at h0;refine gac ?_;refine ret1 (iv 1) h0 ?_ ?_ ?_ ?_ ?_;exact hds;rfl;exact qc0;subst h2;exact hcall0 zDd;subst h2;rfl;refine gae ?_;exact panK (he'.trans hds) hI4.symm h0;refine zoC rfl (λhc=>absurd (zt hc) h2) (λ_=>?_);refine gas ?_
  by_cases h3:op=[101,108,101,109]
  refine zoC rfl (λ_=>?_) (λhc=>absurd h3 (zf hc));have hI4:qeU c name=E:=by rw[<-hI3];subst h3;rfl
  obtain⟨n0,rfl⟩:∃ n0,ns=[n0]:=by
   have h9:ns.length=1:=by
    rcases hop with h|h;subst h3;exact absurd h zDd;subst h3;have h9:(1:Int)=(args.length:Int):=h;omega
   cases ns with
   |nil=>cases h9
   |cons a l=>
    cases l with
    |nil=>exact⟨a,rfl⟩
    |cons b l=>simp at h9
  have hn0:=hnb n0 zMs;refine gac ?_;refine oS (zsK [_,_] rfl qjf (qeP hk d1 name) (λh0=>?_) (λnm h0 e' he'=>?_)) rfl;rw[hI4] at h0;refine gai ?_;refine zQ37 ?_;refine ret1 (int .i64 (1+(n0:Int))) h0 ?_ ?_ ?_ ?_ ?_;exact hds;rfl;exact qc0;subst h3;exact hcall0 zDd;subst h3;exact qap (show((1+n0:Nat):Int)=_ by omega);refine gae ?_;exact panK (he'.trans hds) hI4.symm h0;refine zoC rfl (λhc=>absurd (zt hc) h3) (λ_=>?_);refine gas ?_
  by_cases h4:op=[99,97,108,108]
  refine zoC rfl (λ_=>?_) (λhc=>absurd h4 (zf hc));have hI4:callE c name ns.length=E:=by rw[<-hI3,hnl];subst h4;rfl
  have hN4:opN c op name ns=qiI c name ns:=by subst h4;rfl
  have hD4:qgl c op name=qgl c qbB name:=by subst h4;rfl
  refine gac ?_;refine zQ14 ?_;refine LOps.sub 67 rfl hacc.sub ?_;refine oS (zsK [_,_,_] rfl qjf (qq7 hk hB hB8 hD8 d1 zo name ns zo hnb) (λh0=>?_) (λnm h0 e' he'=>?_)) rfl;rw[hI4] at h0;refine gab ?_;rw[hN4,hD4];exact retK hds (zra rfl) h0 rfl qc0;refine gae ?_;exact panK (he'.trans hds) hI4.symm h0;refine zoC rfl (λhc=>absurd (zt hc) h4) (λ_=>?_);have hE00:=hE0 h2 h3 h4;have hcd:=hcall0 h4;refine gas ?_
  by_cases h5:op=[110,101,103]
  refine zoC rfl (λ_=>?_) (λhc=>absurd h5 (zf hc))
  obtain⟨n0,rfl⟩:∃ n0,ns=[n0]:=by
   have h9:ns.length=1:=by
    rcases hop with h|h;subst h5;exact absurd h zDd;subst h5;have h9:(1:Int)=(args.length:Int):=h;omega
   cases ns with
   |nil=>cases h9
   |cons a l=>
    cases l with
    |nil=>exact⟨a,rfl⟩
    |cons b l=>simp at h9
  have hn0:=hnb n0 zMs;refine gah ?_;refine zQ37 ?_;refine ret1 (int .i64 (1+(n0:Int))) hE00 ?_ ?_ ?_ hcd ?_;exact hds;rfl;exact HS;subst h5;exact qap (show((1+n0:Nat):Int)=_ by omega);refine zoC rfl (λhc=>absurd (zt hc) h5) (λ_=>?_);have h5n:=h5;clear h5;refine gas ?_
  by_cases h5:op=[110,111,116]
  refine zoC rfl (λ_=>?_) (λhc=>absurd h5 (zf hc))
  obtain⟨n0,rfl⟩:∃ n0,ns=[n0]:=by
   have h9:ns.length=1:=by
    rcases hop with h|h;subst h5;exact absurd h zDd;subst h5;have h9:(1:Int)=(args.length:Int):=h;omega
   cases ns with
   |nil=>cases h9
   |cons a l=>
    cases l with
    |nil=>exact⟨a,rfl⟩
    |cons b l=>simp at h9
  have hn0:=hnb n0 zMs;refine gah ?_;refine zQ37 ?_;refine oP (Pure.max2e 2 n0 rfl rfl rfl rfl) rfl<|gab ?_;refine ret1 (iv (max 2 n0)) hE00 ?_ ?_ ?_ hcd ?_;exact hds;rfl;exact HS;subst h5;rfl;refine zoC rfl (λhc=>absurd (zt hc) h5) (λ_=>?_)
  have hbin:ns.length=2:=by
   unfold qbw at hop;rw[zn (λh=>h.elim h1 h2),zn (λh=>h.elim h3 (λh=>h.elim h5n h5)),zn (show ¬ op=qbB from h4)] at hop;split at hop;rcases hop with h|h <;> omega;rcases hop with h|h <;> omega
  obtain⟨a,b,rfl⟩:∃ a b,ns=[a,b]:=by
   match ns,hbin with
   |[a,b],_=>exact⟨a,b,rfl⟩
  have ha:=hnb a zMs;have hb:=hnb b (zMo _ zMs);refine gab ?_;refine qag.quiet zk ?_;refine qP (pM (lv:=v) rfl) rfl ?_;refine qP (xR (el':=iv a) (cs:=[iv a]) hel rfl zo rfl rfl rfl) rfl ?_;refine gad ?_;refine qP (pM (lv:=v) rfl) rfl ?_;refine qP (xR (el':=iv b) (cs:=[iv b]) hel rfl zo rfl rfl rfl) rfl ?_;refine gaa ?_
  by_cases h6:op=[62]
  refine zoC rfl (λ_=>?_) (λhc=>absurd h6 (zf hc));refine gab ?_;refine zoC rfl (λ_=>?_) (λhc=>absurd h6 (zf hc));refine gac ?_;refine oP (Pure.max3e 3 a (1+b) rfl rfl rfl rfl rfl zo) rfl<|gab ?_;refine ret1 (iv (max (max 3 a) (1+b))) hE00 ?_ ?_ ?_ hcd ?_;exact hds;rfl;exact HS;subst h6;rfl;refine zoC rfl (λhc=>absurd (zt hc) h6) (λ_=>?_);have h6n:=h6;clear h6;refine gas ?_
  by_cases h6:op=[60,61]
  refine zoC rfl (λ_=>?_) (λhc=>absurd h6 (zf hc));refine gac ?_;refine oP (Pure.max3e 3 a (1+b) rfl rfl rfl rfl rfl zo) rfl<|gab ?_;refine ret1 (iv (max (max 3 a) (1+b))) hE00 ?_ ?_ ?_ hcd ?_;exact hds;rfl;exact HS;subst h6;rfl;refine zoC rfl (λhc=>absurd (zt hc) h6) (λ_=>?_);refine gas ?_
  by_cases h7:op=[33,61]
  refine zoC rfl (λ_=>?_) (λhc=>absurd h7 (zf hc));refine gac ?_;refine oP (Pure.max3e 3 (1+a) (2+b) rfl rfl rfl rfl zo zo) rfl<|gab ?_;refine ret1 (iv (max (max 3 (1+a)) (2+b))) hE00 ?_ ?_ ?_ hcd ?_;exact hds;rfl;exact HS;subst h7;rfl;refine zoC rfl (λhc=>absurd (zt hc) h7) (λ_=>?_);refine gas ?_
  by_cases h8:op=[38,38]
  refine zoC rfl (λ_=>?_) (λhc=>absurd h8 (zf hc));refine gac ?_;refine oP (Pure.max2e (1+a) (2+b) rfl rfl zo zo) rfl<|gab ?_;refine ret1 (iv (max (1+a) (2+b))) hE00 ?_ ?_ ?_ hcd ?_;exact hds;rfl;exact HS;subst h8;rfl;refine zoC rfl (λhc=>absurd (zt hc) h8) (λ_=>?_);refine gas ?_
  by_cases h9:op=[124,124]
  refine zoC rfl (λ_=>?_) (λhc=>absurd h9 (zf hc));refine gac ?_;refine oP (Pure.max2e (2+a) (3+b) rfl rfl zo zo) rfl<|gab ?_;refine ret1 (iv (max (2+a) (3+b))) hE00 ?_ ?_ ?_ hcd ?_;exact hds;rfl;exact HS;subst h9;rfl;refine zoC rfl (λhc=>absurd (zt hc) h9) (λ_=>?_);refine gac ?_;refine oP (Pure.max3e 2 a (1+b) rfl rfl rfl rfl rfl zo) rfl<|gaf ?_;refine ret1 (iv (max (max 2 a) (1+b))) hE00 ?_ ?_ ?_ hcd ?_;exact hds;rfl;exact HS;unfold opN;rw[zn (λh=>h.elim h1 h2),zn (λh=>h.elim h3 h5n),zn (show ¬ op=qbB from h4),zn (show ¬ op=nNot from h5),zn (λh=>h.elim h6n h6),zn h7,zn h8,zn h9];rfl
end
theorem qxR:qbR (.mk 1 name index value thn els)=((!decide (name=[])) && decide (((index.map encE).length:Int)=0) && decide (((value.map encE).length:Int)=1) && decide (((thn.map encS).length:Int)=0) && decide (((els.map encS).length:Int)=0)):=by
 rw[Bool.eq_iff_iff];simp only[qbR,zBa,zDe,Bool.not_eq_true',decide_eq_false_iff_not,zLm];constructor;exact zT14;exact zT17
theorem qxq:qbR (.mk 2 name index value thn els)=((!decide (name=[])) && decide (((index.map encE).length:Int)=1) && decide (((value.map encE).length:Int)=1) && decide (((thn.map encS).length:Int)=0) && decide (((els.map encS).length:Int)=0)):=by
 rw[Bool.eq_iff_iff];simp only[qbR,zBa,zDe,Bool.not_eq_true',decide_eq_false_iff_not,zLm];constructor;exact zT14;exact zT17
theorem qyk:qbR (.mk 3 name index value thn els)=((!!decide (name=[])) && decide (((index.map encE).length:Int)=0) && decide (((value.map encE).length:Int)=1)):=by
 rw[Bool.eq_iff_iff];simp only[qbR,zBa,zDe,Bool.not_eq_true',decide_eq_false_iff_not,zLm];constructor;intro h;have h':_:=zt h;obtain⟨a1,a2,a3⟩:=h';exact⟨⟨by simpa using a1,by omega⟩,by omega⟩;rintro⟨⟨a1,a2⟩,a3⟩;exact decide_eq_true ⟨by simpa using a1,by omega,by omega⟩
theorem qxn:qbR (.mk 4 name index value thn els)=((!!decide (name=[])) && decide (((index.map encE).length:Int)=0) && decide (((value.map encE).length:Int)=1) && decide (((els.map encS).length:Int)=0)):=by
 rw[Bool.eq_iff_iff];simp only[qbR,zBa,zDe,Bool.not_eq_true',decide_eq_false_iff_not,zLm];constructor;intro h;have h':_:=zt h;obtain⟨a1,a2,a3,a4⟩:=h';exact⟨⟨⟨by simpa using a1,by omega⟩,by omega⟩,by omega⟩;rintro⟨⟨⟨a1,a2⟩,a3⟩,a4⟩;exact decide_eq_true ⟨by simpa using a1,by omega,by omega,by omega⟩
theorem qxY:qbR (.mk 5 name index value thn els)=((!!decide (name=[])) && decide (((index.map encE).length:Int)=0) && decide (((value.map encE).length:Int)=1) && decide (((thn.map encS).length:Int)=0) && decide (((els.map encS).length:Int)=0)):=by
 rw[Bool.eq_iff_iff];simp only[qbR,zBa,zDe,Bool.not_eq_true',decide_eq_false_iff_not,zLm];constructor;exact zT14;exact zT17
theorem qx5:qbR (.mk 6 name index value thn els)=((!!decide (name=[])) && decide (((index.map encE).length:Int)=0) && decide (((value.map encE).length:Int)=1) && decide (((thn.map encS).length:Int)=0) && decide (((els.map encS).length:Int)=0) && decide (exOp (value.headD default)=[99,97,108,108])):=by
 rw[Bool.eq_iff_iff];simp only[qbR,zBa,zDe,Bool.not_eq_true',decide_eq_false_iff_not,zLm];constructor;intro h;have h':_:=zt h;obtain⟨a1,a2,a3,a4,a5,a6⟩:=h';exact⟨⟨⟨⟨⟨by simpa using a1,by omega⟩,by omega⟩,by omega⟩,by omega⟩,a6⟩;rintro⟨⟨⟨⟨⟨a1,a2⟩,a3⟩,a4⟩,a5⟩,a6⟩;exact decide_eq_true ⟨by simpa using a1,by omega,by omega,by omega,by omega,a6⟩
theorem qxX:qbR (.mk 7 name index value thn els)=((!!decide (name=[])) && decide (((index.map encE).length:Int)=0) && decide (((value.map encE).length:Int)=0) && decide (((thn.map encS).length:Int)=0) && decide (((els.map encS).length:Int)=0)):=by
 rw[Bool.eq_iff_iff];simp only[qbR,zBa,zDe,Bool.not_eq_true',decide_eq_false_iff_not,zLm];constructor;exact zT14;exact zT17
section
variable{B0:Nat}{w0:World}
theorem qnJ(s:Sm):LCalls (KC B0 w0) 237 [encS s] [] (Ret (bool (qbR s))):=by
 obtain⟨kind,name,index,value,thn,els⟩:=s;rw[qcJ];refine zcI Tryz.func237 rfl (n:=159) rfl rfl rfl ?_;refine gah ?_;refine oS (zsB rfl λb1=>?_) rfl;refine gab ?_;refine qag.quiet zk ?_;refine gaa ?_
 by_cases hk1:kind=1
 ·subst hk1;refine zoC rfl (λ_=>?_) (λhc=>by cases hc);rw[qxR];refine gag ?_;refine zoB 28 rfl (λq1=>?_) (λq1=>?_);rotate_left;exact zT8;refine gab ?_;refine zoB 32 rfl (λq2=>?_) (λq2=>?_);rotate_left;exact zT6;refine gab ?_;refine zoB 36 rfl (λq3=>?_) (λq3=>?_);rotate_left;exact zT12;refine gab ?_;refine zoB 40 rfl (λq4=>?_) (λq4=>?_);rotate_left;exact zT15;refine zQ1 ?_;simp only[q1,q2,q3,q4,Bool.true_and];rfl
 refine zoC rfl (λhc=>absurd (zt hc) hk1) (λ_=>?_);refine gan ?_
 by_cases hk2:kind=2
 ·subst hk2;refine zoC rfl (λ_=>?_) (λhc=>by cases hc);rw[qxq];refine gag ?_;refine zoB 47 rfl (λq1=>?_) (λq1=>?_);rotate_left;exact zT8;refine gab ?_;refine zoB 51 rfl (λq2=>?_) (λq2=>?_);rotate_left;exact zT6;refine gab ?_;refine zoB 55 rfl (λq3=>?_) (λq3=>?_);rotate_left;exact zT12;refine gab ?_;refine zoB 59 rfl (λq4=>?_) (λq4=>?_);rotate_left;exact zT15;refine zQ1 ?_;simp only[q1,q2,q3,q4,Bool.true_and];rfl
 refine zoC rfl (λhc=>absurd (zt hc) hk2) (λ_=>?_);refine gan ?_
 by_cases hk3:kind=3
 ·subst hk3;refine zoC rfl (λ_=>?_) (λhc=>by cases hc);rw[qyk];refine gaa ?_;refine zoB 67 rfl (λq1=>?_) (λq1=>?_);rotate_left;exact zT8;refine gab ?_;refine zoB 71 rfl (λq2=>?_) (λq2=>?_);rotate_left;exact zT6;refine zQ1 ?_;simp only[q1,q2,Bool.true_and];rfl
 refine zoC rfl (λhc=>absurd (zt hc) hk3) (λ_=>?_);refine gan ?_
 by_cases hk4:kind=4
 ·subst hk4;refine zoC rfl (λ_=>?_) (λhc=>by cases hc);rw[qxn];refine gaa ?_;refine zoB 79 rfl (λq1=>?_) (λq1=>?_);rotate_left;exact zT8;refine gab ?_;refine zoB 83 rfl (λq2=>?_) (λq2=>?_);rotate_left;exact zT6;refine gab ?_;refine zoB 87 rfl (λq3=>?_) (λq3=>?_);rotate_left;exact zT12;refine zQ1 ?_;simp only[q1,q2,q3,Bool.true_and];rfl
 refine zoC rfl (λhc=>absurd (zt hc) hk4) (λ_=>?_);refine gan ?_
 by_cases hk5:kind=5
 ·subst hk5;refine zoC rfl (λ_=>?_) (λhc=>by cases hc);rw[qxY];refine gaa ?_;refine zoB 95 rfl (λq1=>?_) (λq1=>?_);rotate_left;exact zT8;refine gab ?_;refine zoB 99 rfl (λq2=>?_) (λq2=>?_);rotate_left;exact zT6;refine gab ?_;refine zoB 103 rfl (λq3=>?_) (λq3=>?_);rotate_left;exact zT12;refine gab ?_;refine zoB 107 rfl (λq4=>?_) (λq4=>?_);rotate_left;exact zT15;refine zQ1 ?_;simp only[q1,q2,q3,q4,Bool.true_and];rfl
 refine zoC rfl (λhc=>absurd (zt hc) hk5) (λ_=>?_);refine gan ?_
 by_cases hk6:kind=6
 ·subst hk6;refine zoC rfl (λ_=>?_) (λhc=>by cases hc);rw[qx5];refine gaa ?_;refine zoB 115 rfl (λq1=>?_) (λq1=>?_);rotate_left;exact zT8;refine gab ?_;refine zoB 119 rfl (λq2=>?_) (λq2=>?_);rotate_left;exact zT6;refine gab ?_;refine zoB 123 rfl (λq3=>?_) (λq3=>?_);rotate_left;exact zT12;refine gab ?_;refine zoB 127 rfl (λq4=>?_) (λq4=>?_);rotate_left;exact zT15;refine gab ?_;refine zoB 131 rfl (λq5=>?_) (λq5=>?_);rotate_left;refine zQ1 ?_;simp only[q1,q2,q3,q4,q5,Bool.false_and,Bool.and_false,Bool.true_and];rfl;refine gad ?_
  obtain⟨x0,rfl⟩:∃ x,value=[x]:=by
   have h1:((value.map encE).length:Int)=1:=zt q3;rw[zLm] at h1
   cases value with
   |nil=>simp at h1
   |cons x l=>
    cases l with
    |nil=>exact⟨x,rfl⟩
    |cons y l=>simp at h1;omega
  first|refine LOps.want rfl rfl ?_|skip
  refine oP (xR (el':=encE x0) (cs:=[_,_,_,_]) rfl rfl zo rfl rfl rfl) rfl<|gad ?_;refine rR rfl (zra rfl) zhn ⟨?_,rfl⟩;simp only[q1,q2,q3,q4,q5,Bool.true_and];rfl
 refine zoC rfl (λhc=>absurd (zt hc) hk6) (λ_=>?_);refine gan ?_
 by_cases hk7:kind=7
 ·subst hk7;refine zoC rfl (λ_=>?_) (λhc=>by cases hc);rw[qxX];refine gaa ?_;refine zoB 143 rfl (λq1=>?_) (λq1=>?_);rotate_left;exact zT8;refine gab ?_;refine zoB 147 rfl (λq2=>?_) (λq2=>?_);rotate_left;exact zT6;refine gab ?_;refine zoB 151 rfl (λq3=>?_) (λq3=>?_);rotate_left;exact zT12;refine gab ?_;refine zoB 155 rfl (λq4=>?_) (λq4=>?_);rotate_left;exact zT15;refine zQ1 ?_;simp only[q1,q2,q3,q4,Bool.true_and];rfl
 refine zoC rfl (λhc=>absurd (zt hc) hk7) (λ_=>?_);refine gac ?_;refine rR rfl (zra rfl) zhn ⟨?_,rfl⟩
 have hf:qbR (.mk kind name index value thn els)=false:=by
  simp only[qbR];rw[zn hk1,zn hk2,zn hk3,zn hk4,zn hk5,zn hk6,zn hk7]
 rw[hf];rfl
end
end Go.Proofs.YtkihibnffkpnkaaGreatDoor.Chk
namespace Go.GL
open Go.RowKit
theorem qaY:∀ l:List (List UInt8),qdA 1 (l.map str)
 |[]=>eN
 |a::l=>eC rfl rfl (qaY l)
theorem LCalls.ret_strs{C:Ctx}{f:FuncId}{vs:List Value}{l:List (List UInt8)}{t:TypeId}
  (h:∀ w,Below C.B0 C.w0 w->Calls C.P f vs.toArray w (λe w'=>e=.returned (.slice (some ⟨w.heap.size,0,none⟩) l.length l.length)/\w'=w.alloc (.cells (l.map λs=>Value.string ⟨s.toArray⟩).toArray t))):LCalls C f (vs.map .atom) [] (Ret (.list (l.map str))):=λxs w L hv hH=>by
 have hx:xs=vs:=by
  clear h hH
  induction vs generalizing xs with
  |nil=>simpa [RepL] using hv
  |cons v vs ih=>
   simp only[zMc,RepL,Rep] at hv;obtain⟨y,ys,rfl,rfl,hv⟩:=hv;rw[ih _ hv]
 subst hx;refine(h w hH.base).mono λe w' he=>?_;obtain⟨rfl,rfl⟩:=he
 have hr:RepL w L (l.map str) (l.map λs=>Value.string ⟨s.toArray⟩):=by
  have:=qa4 (w:=w) (L:=L) (l.map λs=>Value.string ⟨s.toArray⟩);rw[map_map] at this;exact this
 have hok:qdA 1 (l.map str):=qaY l;have hl:(l.map str).length=l.length:=zLm _;have:=qjB (K:=λlv H=>∃ b,lv=.app b l.length 1 (l.map str)) (t:=t) (cap:=l.length) (rest:=[]) hH hr hok zo (by simp) λb=>⟨b,rfl⟩
 have e1:((l.map λs=>Value.string ⟨s.toArray⟩).flatMap λv=>v.cells.toList)++[]=l.map λs=>Value.string ⟨s.toArray⟩:=by
  rw[zLz];clear this hok hr h hv hl
  induction l with
  |nil=>rfl
  |cons a l ih=>rw[zMc,List.flatMap_cons,ih];try rfl
 rw[e1,hl] at this;obtain⟨lv,H',L',r1,r2,r3,b,rfl⟩:=this;exact⟨.list (l.map str),[],L',r1.weak zhn,r2.weak zhn,LV.Sub.app _ _ _ _ _ _ _ r3,rfl,rfl⟩
end Go.GL
namespace Go.Proofs.YtkihibnffkpnkaaGreatDoor
open Go.GL Go.RowKit Go.Stele
namespace Asm
def GM(w0:World):Prop:=∃ m,w0.cell? ⟨0,0,none⟩=some (.int .i64 m)
theorem qkY{w:World}{L:Live}{b:Nat}:∀ (k off:Nat) (ws:List (List UInt8)),qak w L b k off (ws.map str)->∀ (j:Nat) x,(ws.map λl=>(⟨l.toArray⟩:ByteArray))[j]? = some x->k=1/\w.cell? ⟨b,off+j,none⟩=some (.string x)
 |k,off,[],_,j,x,h=>by simp at h
 |k,off,s::ws,h,0,x,hx=>by
  simp only[zMc,qak] at h;obtain⟨⟨hk,_,y,hy,hr⟩,_⟩:=h;simp only[Rep] at hr;simp at hx;rw[<-hx,Nat.add_zero,hy,hr]
  exact⟨hk.symm,rfl⟩
 |k,off,s::ws,h,j+1,x,hx=>by
  simp only[zMc,qak] at h;obtain⟨⟨hk,_⟩,h2⟩:=h;have:=qkY k (off+k) ws h2 j x (by simpa using hx);refine⟨hk.symm,?_⟩;rw[<-this.2,<-hk,Nat.add_assoc,Nat.add_comm 1 j]
section
variable{B0:Nat}{w0:World}
theorem cutPrefix_spec(s p:List UInt8):LCalls (KC B0 w0) 182 [str s,str p] [] (Ret (.tuple [str (Go.Lib.trimPrefix s p),bool (Go.Lib.hasPrefix s p)])):=by
 refine LCalls.mono (LCalls.of_belowT (vs:=[.string ⟨s.toArray⟩,.string ⟨p.toArray⟩]) (p:=λus=>us=[.string ⟨(Go.Lib.trimPrefix s p).toArray⟩,.bool (Go.Lib.hasPrefix s p)]) λw hw=>?_) ?_;refine(Tryz.strings_CutPrefix ⟨s.toArray⟩ ⟨p.toArray⟩ w).mono λe w' he=>⟨_,he.1,rfl,by rw[he.2];exact Below.refl _ _⟩;rintro r H ⟨v,rfl,⟨us,rfl,rfl⟩,rfl⟩;exact⟨rfl,rfl⟩
theorem cutSuffix_spec(s p:List UInt8)(hs:s.length<=1000000000):LCalls (KC B0 w0) 192 [str s,str p] [] (Ret (.tuple [str (Go.Lib.trimSuffix s p),bool (Go.Lib.hasSuffix s p)])):=by
 refine LCalls.mono (LCalls.of_belowT (vs:=[.string ⟨s.toArray⟩,.string ⟨p.toArray⟩]) (p:=λus=>us=[.string ⟨(Go.Lib.trimSuffix s p).toArray⟩,.bool (Go.Lib.hasSuffix s p)]) λw hw=>?_) ?_;refine(Tryz.strings_CutSuffix ⟨s.toArray⟩ ⟨p.toArray⟩ w (by show s.toArray.size<=_;simp;omega)).mono λe w' he=>⟨_,he.1,rfl,by rw[he.2];exact Below.refl _ _⟩;rintro r H ⟨v,rfl,⟨us,rfl,rfl⟩,rfl⟩;exact⟨rfl,rfl⟩
theorem joinS_spec(sep:List UInt8)(ws:List (List UInt8))(hn:ws.length<=1000000000)(hl:(Go.Lib.join ws sep).length<=1000000000):LCalls (KC B0 w0) 83 [.list (ws.map str),str sep] [] (Ret (str (Go.Lib.join ws sep))):=λxs w L hv hH=>by
 simp only[RepL] at hv;obtain⟨y,ys,rfl,hy,z,zs,rfl,hz,rfl⟩:=hv;simp only[Rep] at hy hz;obtain⟨a,cap,rfl,hcap,hrows⟩:=hy;subst hz;rw[zLm] at hcap
 have hmap:(ws.map λl=>(⟨l.toArray⟩:ByteArray)).map (·.data.toList)=ws:=by
  rw[map_map]
  conv=>rhs;rw[<-List.map_id ws]
  rfl
 have hc:Calls Tryz.prog 83 #[.slice a ws.length cap,.string ⟨sep.toArray⟩] w λe w'=>e=.returned (.string ⟨(Go.Lib.join ws sep).toArray⟩)/\Below w.heap.size w w':=by
  by_cases hne:ws=[]
  ·subst hne;exact(Tryz.strings_Join_none a cap ⟨sep.toArray⟩ w).mono λe w' he=>⟨by rw[he.1];try rfl,by rw[he.2];exact Below.refl _ _⟩
  obtain⟨b,off,k,rfl,hr⟩:=hrows (by simpa using hne);have hcells:=λj x hx=>(qkY k off ws hr j x hx).2
  have hb:b<w.heap.size:=by
   obtain⟨s,r,rfl⟩:=List.exists_cons_of_ne_nil hne;have:=hcells 0 _ rfl;exact World.block_lt_of_cell? _ _ this
  have:=Tryz.strings_Join b off cap (ws.map λl=>(⟨l.toArray⟩:ByteArray)) ⟨sep.toArray⟩ w hcells hb (by rw[zLm];omega) (by rw[zLm];exact hcap) (by rw[hmap];show(Go.Lib.join ws sep).length<=_;omega);rw[zLm,hmap] at this;exact this
 rw[zLm];refine hc.mono λe w' he=>?_;obtain⟨rfl,hb⟩:=he;obtain⟨h1,h2⟩:=qiL hH hb;exact⟨str (Go.Lib.join ws sep),[],L,h1,h2,qaj,rfl,rfl⟩
theorem GM.at(hG:GW B0 w0)(h:GM w0){w:World}(hb:Below B0 w0 w):∃ m,w.cell? ⟨0,0,none⟩=some (.int .i64 m):=by
 obtain⟨m,hm⟩:=h;exact⟨m,(cell_of_heap (hb.block 0 (Nat.lt_of_lt_of_le zDd hG.big)) 0).trans hm⟩
theorem qkV(hG:GW B0 w0)(hM:GM w0)(s:List UInt8)(c:UInt8)(hs:s.length<=1000000000):LCalls (KC B0 w0) 154 [str s,str [c]] [] (Ret (.list ((qaO c s).map str))):=by
 rw[<-qq3];refine LCalls.ret_strs (vs:=[.string ⟨s.toArray⟩,.string ⟨#[c]⟩]) (t:=9) λw hw=>?_;obtain⟨m,hm⟩:=GM.at hG hM hw;have h1:=Tryz.strings_Split ⟨s.toArray⟩ ⟨#[c]⟩ m w (by show s.toArray.size<_;simp;omega) hm (zNr 1)
 have e1:(Go.Lib.splitB ⟨#[c]⟩ 0 (Go.Lib.countB ⟨s.toArray⟩ ⟨#[c]⟩) ⟨s.toArray⟩).map Value.string=(Go.Lib.split s [c]).map λs=>Value.string ⟨s.toArray⟩:=by
  have:=Go.Lib.splitB_data ⟨#[c]⟩ 0 (Go.Lib.countB ⟨s.toArray⟩ ⟨#[c]⟩) ⟨s.toArray⟩;have e2:Go.Lib.split s [c]=Go.Lib.splitK (⟨#[c]⟩:ByteArray).data.toList 0 (Go.Lib.countB ⟨s.toArray⟩ ⟨#[c]⟩) (⟨s.toArray⟩:ByteArray).data.toList:=rfl;rw[e2,<-this,map_map]
  try rfl
 have e3:(Go.Lib.split s [c]).length=Go.Lib.countB ⟨s.toArray⟩ ⟨#[c]⟩+1:=by
  have:=congrArg List.length e1;rw[zLm,zLm,Go.Lib.splitB_all ⟨#[c]⟩ (zNr 1) 0 _ _ rfl] at this;exact this.symm
 rw[e1] at h1;rw[e3];exact h1
theorem qus(hG:GW B0 w0)(hM:GM w0)(s:List UInt8)(c:UInt8)(hs:s.length<=1000000000):LCalls (KC B0 w0) 155 [str s,str [c]] [] (qgY λlv=>∃ a b,lv=.tuple [str (s.takeWhile λd=>decide (d≠c)),str a,bool b]):=by
 rw[<-qvL];refine LCalls.mono (LCalls.of_belowT (vs:=[.string ⟨s.toArray⟩,.string ⟨#[c]⟩]) (p:=λus=>us=[.string ⟨(Go.Lib.cut s [c]).1.toArray⟩,.string ⟨(Go.Lib.cut s [c]).2.1.toArray⟩,.bool (Go.Lib.cut s [c]).2.2]) λw hw=>?_) ?_;obtain⟨m,hm⟩:=GM.at hG hM hw;refine(Tryz.strings_Cut ⟨s.toArray⟩ ⟨#[c]⟩ m w (by show s.toArray.size<_;simp;omega) hm).mono λe w' he=>?_;obtain⟨rfl,n,rfl⟩:=he;exact⟨_,rfl,rfl,below_drewN (Below.refl _ _) n⟩;rintro r H ⟨v,rfl,⟨us,rfl,rfl⟩,rfl⟩;exact⟨_,rfl,⟨_,_,rfl⟩,rfl⟩
def qcn(p:Wd×Nat):LV:=.agg [str p.1,int .i64 p.2]
end
def qld:List UInt8:=[97,98,99,100,101,102,103,104,105,106,107,108,109,110,111,112,113,114,115,116,117,118,119,120,121,122,95,48,49,50,51,52,53,54,55,56,57]
theorem qqI(c:UInt8):qld.contains c=qaW c:=by
 have:∀ n:Nat,n<256->qld.contains (UInt8.ofNat n)=qaW (UInt8.ofNat n):=by decide +kernel
 have h:=this c.toNat c.toNat_lt
 rwa [UInt8.ofNat_toNat] at h
theorem qoX{st:List UInt8}{p:UInt8->Bool}(he:∀ c,st.contains c=p c)(s:List UInt8):(Go.Lib.trimS s st=[]) ↔ s.all p=true:=by
 have he:(λc=>st.contains c)=p:=funext he;unfold Go.Lib.trimS Go.Lib.trimLeftS Go.Lib.trimRightS;rw[he,qb7];constructor;intro h
 by_cases h2:s.reverse.dropWhile p=[]
 rw[qb7] at h2;rw[all_reverse] at h2;exact h2;exfalso;obtain⟨c,r,hcr⟩:=List.exists_cons_of_ne_nil h2
 have h3:p c=false:=by
  have:=List.head?_dropWhile_not p s.reverse;rw[hcr] at this;simpa using this
 rw[hcr,all_reverse,List.all_cons,h3] at h;cases h;intro h;have h2:s.reverse.dropWhile p=[]:=by rw[qb7,all_reverse];exact h
 rw[h2]
 try rfl
def qbt(o:Option Wd)(lv:LV):Prop:=∃ s,lv=.tuple [str s,bool o.isSome]/\∀ l,o=some l->s=l
theorem qbt.mk{o:Option Wd}{s:Wd}{b:Bool}(hb:o.isSome=b)(hs:∀ l,o=some l->s=l):qbt o (.tuple [str s,bool b]):=⟨s,by rw[hb],hs⟩
theorem qbH{p q:Bool}{s:Wd}{o:Option Wd}(h:o=if p=true/\q=true then some s else none):o.isSome=(p && q)/\∀ l,o=some l->s=l:=by
 subst h;cases p <;> cases q <;> simp
attribute [local irreducible] LOps qag qae LCalls Go.GL.Pure qaz qam qad LQ LAny qaI qan
section
variable{B0:Nat}{w0:World}
theorem qpz(s st:List UInt8)(hs:s.length<=1000000000)(h1:st.length<=100)(h3:st.all (λb=>decide (b.toNat<128))=true):LCalls (KC B0 w0) 194 [str s,str st] [] (Ret (str (Go.Lib.trimS s st))):=
 LCalls.ret_of (vs:=[.string ⟨s.toArray⟩,.string ⟨st.toArray⟩]) λw hw=>(Go.Proofs.Any.strings_Trim_laid Tryz.lays160 zk ⟨s.toArray⟩ ⟨st.toArray⟩ w (by show s.toArray.size<=_;simp;omega) (by show st.toArray.size<_;simp;omega) (Go.Proofs.ascii_of_all h3))
theorem qmg(s:List UInt8)(hs:s.length<=1000000000):LCalls (KC B0 w0) 193 [str s] [] (Ret (bool (qkd s))):=by
 have hT:=qpz (B0:=B0) (w0:=w0) s qld hs zDd zDd;have hnil:=qoX qqI s;refine zcI Tryz.func193 rfl (n:=23) rfl rfl rfl ?_;refine gac ?_;refine zoB 5 rfl (λh1=>?_) (λh1=>?_);have e:s=[]:=of_decide_eq_true h1;subst e;refine gab ?_;refine zoC rfl (λh=>?_) (λh=>by cases h);refine gap ?_;exact qac rfl (rC (rT (v:=.atom _) rfl (vR _)) rN) rfl;have h1':¬ s=[]:=of_decide_eq_false h1
 obtain⟨c,r,rfl⟩:∃ c r,s=c::r:=by
  cases s with
  |nil=>exact absurd rfl h1'
  |cons c r=>exact⟨c,r,rfl⟩
 have hN:=qoI c r;refine gad ?_;refine zoB 10 rfl (λh2=>?_) (λh2=>?_);have h2':¬ (c::r).length<=40:=by have:=of_decide_eq_true h2;omega
 rw[decide_eq_false h2',Bool.false_and,Bool.false_and] at hN;refine gab ?_;refine zoC rfl (λh=>?_) (λh=>by cases h);refine gap ?_;exact qac rfl (rC (rT (v:=.atom _) rfl (vR _)) rN) (qau hN.symm);have h2':(c::r).length<=40:=by have:=of_decide_eq_false h2;omega
 rw[decide_eq_true h2',Bool.true_and] at hN;refine gaj ?_;refine oP (pI (c:=c) rfl rfl (by omega) rfl) rfl<|gab ?_;refine zoB 15 rfl (λh3=>?_) (λh3=>?_)
 have h3':qaV c=false:=by
  unfold qaV;rw[decide_eq_false (by have:cv c<97:=of_decide_eq_true h3;omega),Bool.false_and]
 rw[h3',Bool.false_and] at hN;refine gab ?_;refine zoC rfl (λh=>?_) (λh=>by cases h);refine gap ?_;exact qac rfl (rC (rT (v:=.atom _) rfl (vR _)) rN) (qau hN.symm);refine gaj ?_;refine oP (pI (c:=c) rfl rfl (by omega) rfl) rfl<|gad ?_;refine zoC rfl (λh=>?_) (λh=>?_)
 have h3':qaV c=false:=by
  unfold qaV;rw[decide_eq_false (p:=cv c<=122) (by have:cv c > 122:=of_decide_eq_true h;omega),Bool.and_false]
 rw[h3',Bool.false_and] at hN;refine gap ?_;exact qac rfl (rC (rT (v:=.atom _) rfl (vR _)) rN) (qau hN.symm)
 have h3':qaV c=true:=by
  unfold qaV;rw[decide_eq_true (by have:¬ cv c<97:=of_decide_eq_false h3;omega),decide_eq_true (by have:¬ cv c > 122:=of_decide_eq_false h;omega)]
  try rfl
 rw[h3',Bool.true_and] at hN;refine gac ?_;refine oS (sF [_,_] rfl hT ?_) rfl;refine gab ?_
 exact qac rfl (rC (rT (v:=.atom _) rfl (vR _)) rN) (qau (by
  rw[hN,Bool.eq_iff_iff,decide_eq_true_iff]
  exact hnil))
theorem qgJ(p:Wd×Nat)(hs:p.1.length<=1000000000):LCalls (KC B0 w0) 156 [qcn p] [] (qgY (qbt (defW p.1))):=by
 obtain⟨w,ln⟩:=p;simp only at hs ⊢;obtain⟨r1,r2⟩:=qbH (qvd w)
 have hlen:(Go.Lib.trimSuffix w [58]).length<=1000000000:=by
  unfold Go.Lib.trimSuffix;split;rw[List.length_take];omega;exact hs
 unfold qcn;refine zcI Tryz.func156 rfl (n:=18) rfl rfl rfl ?_;refine gah ?_;refine oS (zsB (cs:=[str w,int .i64 ln]) rfl λb1=>?_) rfl;refine gac ?_;refine oS (sF [_,_] rfl (cutSuffix_spec w [58] hs) ?_) rfl;refine gac ?_;refine zoB 14 rfl (λh=>?_) (λh=>?_);exact zT23;rw[h,Bool.false_and] at r1;refine gab ?_;exact qcl rfl (rC (rT (v:=.atom _) rfl (vR _)) (rC (rT (v:=.atom _) rfl (vR _)) rN)) (qbt.mk r1 r2)
theorem qjV(p:Wd×Nat)(hs:p.1.length<=1000000000):LCalls (KC B0 w0) 157 [qcn p] [] (qgY (qbt (refW p.1))):=by
 obtain⟨w,ln⟩:=p;simp only at hs ⊢;obtain⟨r1,r2⟩:=qbH (qvx w)
 have hlen:(Go.Lib.trimPrefix w [38]).length<=1000000000:=by
  unfold Go.Lib.trimPrefix;split;rw[List.length_drop];omega;exact hs
 unfold qcn;refine zcI Tryz.func157 rfl (n:=18) rfl rfl rfl ?_;refine gah ?_;refine oS (zsB (cs:=[str w,int .i64 ln]) rfl λb1=>?_) rfl;refine gac ?_;refine oS (sF [_,_] rfl (cutPrefix_spec w [38]) ?_) rfl;refine gac ?_;refine zoB 14 rfl (λh=>?_) (λh=>?_);exact zT23;rw[h,Bool.false_and] at r1;refine gab ?_;exact qcl rfl (rC (rT (v:=.atom _) rfl (vR _)) (rC (rT (v:=.atom _) rfl (vR _)) rN)) (qbt.mk r1 r2)
theorem qm3(p:Wd×Nat)(hs:p.1.length<=1000000000):LCalls (KC B0 w0) 158 [qcn p] [] (Ret (bool (qiJ p.1))):=by
 obtain⟨w,ln⟩:=p;simp only at hs ⊢;have hT:=qpz (B0:=B0) (w0:=w0) w qch hs zDd zDd;have hnil:(Go.Lib.trimS w qch=[]) ↔ qiJ w=true:=qoX (p:=λc=>qch.contains c) (λc=>rfl) w;unfold qcn;refine zcI Tryz.func158 rfl (n:=7) rfl rfl rfl ?_;refine gah ?_;refine oS (zsB (cs:=[str w,int .i64 ln]) rfl λb1=>?_) rfl;refine gac ?_;refine oS (sF [_,_] rfl hT ?_) rfl;refine gab ?_
 exact qac rfl (rC (rT (v:=.atom _) rfl (vR _)) rN) (qau (by
  rw[Bool.eq_iff_iff,decide_eq_true_iff]
  exact hnil))
theorem qg1(c:UInt8):LCalls (KC B0 w0) 161 [int .u8 c.toNat] [] (Ret (bool (qao c))):=by
 have hD:qao c=(decide (48<=cv c) && decide (cv c<=57)):=rfl;refine zcI Tryz.func161 rfl (n:=9) rfl rfl rfl ?_;refine gaa ?_;refine zoB 5 rfl (λh=>?_) (λh=>?_);have h':cv c ≥ 48:=of_decide_eq_true h;rw[decide_eq_true (show 48<=cv c from h'),Bool.true_and] at hD;refine gad ?_;exact qac rfl (rC (rT (v:=.atom _) rfl (vR _)) rN) (qau hD.symm);have h':¬ cv c ≥ 48:=of_decide_eq_false h;rw[decide_eq_false (show ¬ 48<=cv c from h'),Bool.false_and] at hD;refine gab ?_;exact qac rfl (rC (rT (v:=.atom _) rfl (vR _)) rN) (qau hD.symm)
theorem qfI(hG:GW B0 w0)(n:Nat)(hn:n<=1000000000000):LCalls (KC B0 w0) 160 [int .i64 n] [] (Ret (str (qeg n))):=by
 have hi:=qdr hG n (by omega);have hne:=qcq n
 have hl:(Go.Lib.decDigits n).length<=20:=by
  rw[Go.Lib.decDigits_length];exact zNt (qf1 12 n (by omega)) zDd
 have hA:qeg n=([48,48,48,48,48]++Go.Lib.decDigits n).drop (([48,48,48,48,48]++Go.Lib.decDigits n).length-6):=rfl;generalize Go.Lib.decDigits n=d at hi hne hl hA;have hpos:=List.length_pos_iff.2 hne;have hsl:([48,48,48,48,48]++d:List UInt8).length=d.length+5:=by simp
 refine zcI Tryz.func160 rfl (n:=12) rfl rfl rfl ?_;refine gao ?_;refine oS (sF [_] rfl hi ?_) rfl;refine gaa ?_;refine oP (Pure.sslice (l:=[48,48,48,48,48]++d) (i:=(([48,48,48,48,48]++d:List UInt8).length:Int)-6) (j:=(([48,48,48,48,48]++d:List UInt8).length:Int)) rfl ⟨_,rfl⟩ rfl (by omega) (by omega) (by omega)) rfl<|gaf ?_
 exact qac rfl (rC (rT (v:=.atom _) rfl (vR _)) rN) (by
  rw[hA];have e1:(((([48,48,48,48,48]++d:List UInt8).length:Nat):Int)-6).toNat=([48,48,48,48,48]++d:List UInt8).length-6:=by omega
  show str (List.drop (((([48,48,48,48,48]++d:List UInt8).length:Nat):Int)-6).toNat (List.take ((([48,48,48,48,48]++d:List UInt8).length:Nat):Int).toNat ([48,48,48,48,48]++d)))=_
  rw[e1,Int.toNat_natCast,take_length])
theorem qj7(b:Nat)(l:List UInt8)(H:Heap)(hB:BH b l H):LCalls (KC B0 w0) 159 [ptr b 0] H (λr H'=>r=.ret (int .i64 l.length)/\H'=H):=by
 obtain⟨p,v,Hv,hp,hacc,rfl⟩:=hB;refine zcI Tryz.func159 rfl (n:=8) rfl rfl rfl ?_;refine gac ?_;refine oP (Pure.blen rfl hacc) rfl<|gaf ?_;exact rR rfl (rC (rT (v:=.atom _) rfl (vR _)) rN) (zhR _) ⟨rfl,rfl⟩
theorem qkn(b:Nat)(l:List UInt8)(c:UInt8)(H:Heap)(hB:BH b l H)(hlen:l.length<=10000000000):LCalls (KC B0 w0) 162 [ptr b 0,int .u8 c.toNat] H (λr H'=>(∃ x,r=.ret x)/\BH b (l++[c]) H'):=by
 obtain⟨p,v,Hv,hp,hacc,rfl⟩:=hB;refine zcI Tryz.func162 rfl (n:=17) rfl rfl rfl ?_;refine gao ?_;refine oS (S.callH (H1:=[(b,_)]) (F:=Hv) [_] rfl (List.Perm.refl _) (qgp b p (.atom v) hp) (λx H' h=>?_) (λch H' h=>?_)) rfl;obtain⟨⟨x',hx'⟩,rfl⟩:=h;cases hx';refine gac ?_;refine zQ0 ?_;refine oS (S.appBL1 (q:=(b,.cells 69 [ptr b 0,.atom v])) (l:=l) (m:=[c]) rfl hacc rfl (by simp) (by simp;omega) λv' H' hacc'=>?_) rfl;refine gab ?_;have hacc2:=hacc';generalize l++[c]=lm at hacc' hacc2 ⊢
 cases hacc' with
 |nil=>
  refine gaa ?_
  exact rR rfl (rC (rT (v:=.atom _) rfl (vR _)) rN) (zhR _) ⟨⟨_,rfl⟩,ptr b 0,_,_,.inr rfl,hacc2,rfl⟩
 |row h0 h1 h2=>
  refine gaa ?_;exact rR rfl (rC (rT (v:=.atom _) rfl (vR _)) rN) (zhR _) ⟨⟨_,rfl⟩,ptr b 0,_,_,.inr rfl,hacc2,rfl⟩
 obtain⟨⟨x',hx'⟩,_⟩:=h;cases hx'
end
end Asm
end Go.Proofs.YtkihibnffkpnkaaGreatDoor
namespace Go.Proofs.YtkihibnffkpnkaaGreatDoor.Asm
open Go.GL Go.RowKit Go.Stele
abbrev txt(l:List (Wd×Nat)):List Wd:=l.map (·.1)
theorem qpm{l:List (Wd×Nat)}{i:Nat}(h:i<l.length):txt (l.take (i+1))=txt (l.take i)++[l[i].1]:=by
 unfold txt;rw[List.take_succ_eq_append_getElem h,zMa];rfl
theorem qki{a:List Wd}{w d:Wd}(h:defW w=some d):defs (a++[w])=defs a++[d]:=by
 rw[qgc,qcT,h];rfl
theorem qj1{a:List Wd}{w:Wd}(h:defW w=none):defs (a++[w])=defs a:=by
 rw[qgc,qaB h];simp[defs]
theorem set_nil:SetMap #[] (λs=>decide (s∈([]:List Wd))):=⟨λe he=>by simp at he,λs h=>by simp at h⟩
theorem qo1{es:Array MapEntry}{ds:List Wd}{d:Wd}(h:SetMap es (λs=>decide (s∈ds) || decide (s=d))):SetMap es (λs=>decide (s∈ds++[d])):=
 cast (congrArg (SetMap es) (funext λs=>by simp)) h
attribute [local irreducible] LOps qag qae LCalls Go.GL.Pure qaz qam qad LQ LAny qaI qan
section
variable{B0:Nat}{w0:World}
theorem tokens_spec(hG:GW B0 w0)(hM:GM w0)(s:List UInt8)(hs:s.length<=400000000):LCalls (KC B0 w0) 86 [str s] [] (Ret (.list ((qgo s).map qcn))):=by
 have hP:qgo s=qkv 0 (qaO 10 s):=rfl;have hpl:=qh4 10 s;have hpa:((qaO 10 s).map str).length=(qaO 10 s).length:=zLm _
 have htl:(qgo s).length<=s.length+1:=by
  have h1:=qie s;rw[<-qd6,zLm] at h1;exact h1
 have hsp:=qkV hG hM s 10 zo;refine zcI Tryz.func86 rfl (n:=41) rfl rfl rfl ?_;refine gao ?_;refine oS (sF [_,_] rfl hsp ?_) rfl;refine gad ?_
 refine zoL (λk ls H=>∃ (i:Nat) (out:List (Wd×Nat)) (v:LV),i<=(qaO 10 s).length/\k=(qaO 10 s).length-i/\ls=[(3,v),(9,.list ((qaO 10 s).map str)),(10,int .i64 (qaO 10 s).length),(11,int .i64 (i:Nat))]/\Acc 2 v (out.map qcn) H []/\out++qkv i ((qaO 10 s).drop i)=qgo s)
  ⟨_,_,_,⟨0,[],qab,zero_le _,rfl,rfl,Acc.nil,rfl⟩,⟨rfl,rfl,qap zo,rfl,trivial⟩,zhR _⟩ ?_
 rintro k ls H ⟨i,out,v,hi,rfl,rfl,hacc,hE⟩ j hj;refine gai ?_;refine zoC rfl (λhc=>?_) (λhc=>?_)
 ·have hlt:i<(qaO 10 s).length:=by have:=zt hc;omega
  have hlo:out.length<=(qgo s).length:=by rw[<-hE,zLa];omega
  rw[qpV hlt] at hE;have hll:=qdi (getElem_mem hlt);have hc1:=qus hG hM (qaO 10 s)[i] 35 zo;have hW:qfJ (qaO 10 s)[i]=full (qaO 32 ((qaO 10 s)[i].takeWhile λd=>decide (d≠35))):=rfl;have htw:((qaO 10 s)[i].takeWhile λd=>decide (d≠35)).length<=(qaO 10 s)[i].length:=(List.takeWhile_prefix _).length_le;have hs2:=qkV hG hM ((qaO 10 s)[i].takeWhile λd=>decide (d≠35)) 32 zo;have hql:=qh4 32 ((qaO 10 s)[i].takeWhile λd=>decide (d≠35));generalize (qaO 10 s)[i].takeWhile (λd=>decide (d≠35))=line at hc1 hW htw hs2 hql;generalize hq:qaO 32 line=q at hW hs2 hql;have hqa:(q.map str).length=q.length:=zLm _
  repeat (first|refine LOps.nil ?_|refine qN ?_|refine qag.skip ?_)
  refine qag.seq ?_;refine cM (A:=List (Wd×Nat)×LV×Heap) (λa=>[(3,a.2.1),(9,.list ((qaO 10 s).map str)),(10,int .i64 (qaO 10 s).length),(11,int .i64 (i:Nat))]) (λa=>a.2.2) (λa=>a.1=out++(full q).map (λw=>(w,i+1))/\Acc 2 a.2.1 (a.1.map qcn) a.2.2 []) ?_ ?_;refine gac ?_;refine oP (xR (el':=str (qaO 10 s)[i]) (cs:=[str (qaO 10 s)[i]]) rfl rfl zo (qbj _ _ _ hlt) rfl rfl) rfl<|gaa ?_;refine oS (S.fnIf [_,_] rfl hc1 ?_) rfl;rintro lv ⟨a,b,rfl⟩;refine gac ?_;refine oS (sF [_,_] rfl hs2 ?_) rfl;refine gad ?_
  refine zoL (λk ls H=>∃ (x:Nat) (out2:List (Wd×Nat)) (v:LV),x<=q.length/\k=q.length-x/\ls=[(3,v),(4,int .i64 (i:Nat)),(9,.list ((qaO 10 s).map str)),(10,int .i64 (qaO 10 s).length),(11,int .i64 (i:Nat)),(23,.list (q.map str)),(24,int .i64 q.length),(25,int .i64 (x:Nat))]/\Acc 2 v (out2.map qcn) H []/\out2.length<=out.length+x/\out2++(full (q.drop x)).map (λw=>(w,i+1))=out++(full q).map (λw=>(w,i+1)))
   ⟨_,_,_,⟨0,out,v,zero_le _,rfl,rfl,hacc,by omega,rfl⟩,⟨rfl,rfl,rfl,rfl,rfl,rfl,qap zo,rfl,trivial⟩,zhR _⟩ ?_
  rintro k ls H ⟨x,out2,v2,hx,rfl,rfl,hacc2,hlen2,hE2⟩ j2 hj2;have hol2:(out2.map qcn).length=out2.length:=zLm _;refine gai ?_;refine zoC rfl (λhc=>?_) (λhc=>?_);have hlt2:x<q.length:=by have:=zt hc;omega
  rw[qrl hlt2] at hE2;refine gak ?_;refine oP (xR (el':=str q[x]) (cs:=[str q[x]]) rfl rfl zo (qbj _ _ _ hlt2) rfl rfl) rfl<|gaa ?_;refine zoC rfl (λhn=>?_) (λhn=>?_);have hne:¬ q[x]=[]:=by simpa using hn
  rw[zn hne] at hE2;refine gah ?_;refine oP (pM (lv:=v2) rfl) rfl<|gad ?_;refine zQ0 ?_;refine oS (S.acc rfl hacc2 rfl (by simp;rfl) rfl (by simp;omega) λv3 H3 hacc3=>oP (pA (lv:=v3) rfl) rfl ?_) rfl;refine gaq ?_;exact⟨_,_,_,by omega,⟨x+1,out2++[(q[x],i+1)],v3,by omega,rfl,rfl,by rw[zMa];exact hacc3,by simp;omega,by rw[zAs];exact hE2⟩,⟨rfl,rfl,rfl,rfl,rfl,rfl,rfl,qap zo,trivial⟩,zhR _,hj2⟩;have hne:q[x]=[]:=by simpa using hn
  rw[zp hne] at hE2;refine gac ?_;exact⟨_,_,_,by omega,⟨x+1,out2,v2,by omega,rfl,rfl,hacc2,by omega,hE2⟩,⟨rfl,rfl,rfl,rfl,rfl,rfl,rfl,qap zo,trivial⟩,zhR _,hj2⟩;have hx':x=q.length:=by have:=zf hc;omega
  subst hx';rw[drop_length] at hE2;refine gab ?_;exact⟨(out2,v2,H),⟨by simpa [full] using hE2,hacc2⟩,⟨rfl,rfl,rfl,rfl,trivial⟩,zhR _,hj2⟩;rintro⟨out2,v2,H2⟩ ⟨ho,hacc2⟩ j3 hj3;simp only at ho hacc2;rw[hW,<-zAs,<-ho] at hE;refine gaq ?_;exact⟨_,_,_,by omega,⟨i+1,out2,v2,by omega,rfl,rfl,hacc2,by rw[<-hE]⟩,⟨rfl,rfl,rfl,qap zo,trivial⟩,zhR _,hj3.trans hj⟩
 have hi':i=(qaO 10 s).length:=by have:=zf hc;omega
 subst hi';rw[drop_length,qkv,zLz] at hE;subst hE;refine qag.sub (d:=3) (v:=v) rfl hacc.sub ?_;refine cW zhn ?_;refine gaa ?_;exact qac hj (rC (rT (v:=.list _) rfl zsr) rN) rfl
end
theorem qoL{all met:List Wd}{p:Wd×Nat}{x:Wd}{r:List (Wd×Nat)}(h:defW p.1=some x):errT all met (p::r)=if x∈met then (p.2,8) else errT all (met++[x]) r:=by
 obtain⟨w,ln⟩:=p;simp only at h;rw[errT,h]
theorem qpG{all met:List Wd}{p:Wd×Nat}{x:Wd}{r:List (Wd×Nat)}(h:defW p.1=none)(h2:refW p.1=some x):errT all met (p::r)=if x∈all then errT all met r else (p.2,7):=by
 obtain⟨w,ln⟩:=p;simp only at h h2;rw[errT,h,h2]
theorem qnc{all met:List Wd}{p:Wd×Nat}{r:List (Wd×Nat)}(h:defW p.1=none)(h2:refW p.1=none):errT all met (p::r)=if qiJ p.1=true then errT all met r else (p.2,3):=by
 obtain⟨w,ln⟩:=p;simp only at h h2;rw[errT,h,h2]
section
variable{B0:Nat}{w0:World}
theorem check_spec(l:List (Wd×Nat))(hl:l.length<=1000000000)(hs:∀ p∈l,p.1.length<=1000000000):LCalls (KC B0 w0) 87 [.list (l.map qcn)] [] (Ret (.tuple [int .i64 ((errT (defs (txt l)) [] l).1:Nat),int .i64 ((errT (defs (txt l)) [] l).2:Nat)])):=by
 have hla:(l.map qcn).length=l.length:=zLm _;have zb:∀ w,(zeroValue 4).run (KC B0 w0).P w=.ok (.bool false) w:=λw=>(Go.zero_of_info (P:=Tryz.prog) (n:=1) zk).1 w;generalize hR:errT (defs (txt l)) [] l=R;refine zcI Tryz.func87 rfl (n:=70) rfl rfl rfl ?_;refine gar ?_;refine oS (S.makeMap λm=>?_) rfl;refine gaa ?_
 refine zoL (λk ls H=>∃ (i:Nat) (es:Array MapEntry) (clock:Nat),i<=l.length/\k=l.length-i/\ls=[(0,.list (l.map qcn)),(4,.atom (.map (some m))),(17,.list (l.map qcn)),(18,int .i64 l.length),(19,int .i64 (i:Nat))]/\H=[(m,.obj (.map es clock))]/\SetMap es (λs=>decide (s∈defs (txt (l.take i)))))
  ⟨_,_,_,⟨0,#[],0,zero_le _,rfl,rfl,rfl,set_nil⟩,⟨rfl,rfl,rfl,qap zo,rfl,trivial⟩,zhR _⟩ ?_
 rintro k ls H ⟨i,es,clock,hi,rfl,rfl,rfl,hM⟩ j1 hj1;refine gai ?_;refine zoC rfl (λhc=>?_) (λhc=>?_);have hlt:i<l.length:=by have:=zt hc;omega
 have kd:=qgJ (B0:=B0) (w0:=w0) l[i] (by have:=hs _ (getElem_mem hlt);omega);have htt:=qpm hlt;refine zQ18 ?_;refine oS (zsA λb6=>?_) rfl;refine gaa ?_;refine oS (S.fnIf [_] rfl kd ?_) rfl;rintro lv ⟨s,rfl,hs2⟩;refine gac ?_;refine zoC rfl (λh=>?_) (λh=>?_);obtain⟨d,hd⟩:=Option.isSome_iff_exists.1 h;obtain rfl:=hs2 d hd;refine gag ?_;refine oS (S.setPut (t:=123) (kt:=9) (el:=4) zk zk rfl rfl rfl zp1 hM λes' clock' hM'=>?_) rfl;refine gaq ?_;exact⟨_,_,_,by omega,⟨i+1,es',clock',by omega,rfl,rfl,rfl,by rw[htt,qki hd];exact qo1 hM'⟩,⟨rfl,rfl,rfl,rfl,qap zo,trivial⟩,⟨[_],List.Perm.refl _⟩,hj1⟩
 have hn:defW l[i].1=none:=by
  cases ho:defW l[i].1 with
  |none=>rfl
  |some d=>rw[ho] at h;cases h
 refine gac ?_;exact⟨_,_,_,by omega,⟨i+1,es,clock,by omega,rfl,rfl,rfl,by rw[htt,qj1 hn];exact hM⟩,⟨rfl,rfl,rfl,rfl,qap zo,trivial⟩,zhD zhr,hj1⟩;have hi':i=l.length:=by have:=zf hc;omega
 subst hi';rw[take_length] at hM;refine gac ?_;refine oS (S.makeMap λm2=>?_) rfl;refine gaa ?_
 refine zoL (λk ls H=>∃ (i:Nat) (es2:Array MapEntry) (clock2:Nat),i<=l.length/\k=l.length-i/\ls=[(4,.atom (.map (some m))),(9,.atom (.map (some m2))),(33,.list (l.map qcn)),(34,int .i64 l.length),(35,int .i64 (i:Nat))]/\H=[(m2,.obj (.map es2 clock2)),(m,.obj (.map es clock))]/\SetMap es2 (λs=>decide (s∈defs (txt (l.take i))))/\errT (defs (txt l)) (defs (txt (l.take i))) (l.drop i)=R)
  ⟨_,_,_,⟨0,#[],0,zero_le _,rfl,rfl,rfl,set_nil,hR⟩,⟨rfl,rfl,rfl,qap zo,rfl,trivial⟩,zhR _⟩ ?_
 rintro k ls H ⟨i,es2,clock2,hi,rfl,rfl,rfl,hM2,hE⟩ j2 hj2;refine gai ?_;refine zoC rfl (λhc=>?_) (λhc=>?_)
 ·have hlt:i<l.length:=by have:=zt hc;omega
  have hsl:=hs _ (getElem_mem hlt);have kd:=qgJ (B0:=B0) (w0:=w0) l[i] zo;have kr:=qjV (B0:=B0) (w0:=w0) l[i] zo;have kc:=qm3 (B0:=B0) (w0:=w0) l[i] zo;have htt:=qpm hlt;rw[drop_eq_getElem_cons hlt] at hE;refine zQ18 ?_;refine oS (zsA λb11=>?_) rfl;refine gaa ?_;refine oS (S.fnIf [_] rfl kd ?_) rfl;rintro lv ⟨s,rfl,hs2⟩;refine gac ?_;refine zoC rfl (λh=>?_) (λh=>?_)
  ·obtain⟨d,hd⟩:=Option.isSome_iff_exists.1 h;obtain rfl:=hs2 d hd;refine gag ?_;refine oP (Pure.setGet (t:=123) (kt:=9) (el:=4) zk zk zb rfl rfl zm1 hM2) rfl<|gaf ?_;refine zoC rfl (λh3=>?_) (λh3=>?_);have hin:=zt h3;refine gac ?_;rw[qoL hd,zp hin] at hE;exact qac (hj2.trans hj1) (rC (zrt rfl) (zra rfl)) (by rw[<-hE];rfl);have hin:=zf h3;refine gac ?_;refine oS (S.setPut (t:=123) (kt:=9) (el:=4) zk zk rfl rfl rfl zp1 hM2 λes' clock' hM'=>?_) rfl;refine gaq ?_;exact⟨_,_,_,by omega,⟨i+1,es',clock',by omega,rfl,rfl,rfl,by rw[htt,qki hd];exact qo1 hM',by rw[htt,qki hd,<-hE,qoL hd,zn hin]⟩,⟨rfl,rfl,rfl,rfl,qap zo,trivial⟩,⟨[_],List.Perm.cons _ (List.Perm.swap ..)⟩,hj2⟩
  have hn:defW l[i].1=none:=by
   cases ho:defW l[i].1 with
   |none=>rfl
   |some d=>rw[ho] at h;cases h
  refine gaa ?_;refine oS (S.fnIf [_] rfl kr ?_) rfl;rintro lv ⟨s,rfl,hs3⟩;refine gac ?_;refine zoC rfl (λh3=>?_) (λh3=>?_);obtain⟨d,hd⟩:=Option.isSome_iff_exists.1 h3;obtain rfl:=hs3 d hd;refine gag ?_;refine oP (Pure.setGet (t:=123) (kt:=9) (el:=4) zk zk zb rfl rfl zm2 hM) rfl<|gad ?_;refine zoC rfl (λh4=>?_) (λh4=>?_);have hin:¬ s∈defs (txt l):=by simpa using h4
  refine gac ?_;rw[qpG hn hd,zn hin] at hE;exact qac (hj2.trans hj1) (rC (zrt rfl) (zra rfl)) (by rw[<-hE];rfl);have hin:s∈defs (txt l):=by simpa using h4
  refine gac ?_;exact⟨_,_,_,by omega,⟨i+1,es2,clock2,by omega,rfl,rfl,rfl,by rw[htt,qj1 hn];exact hM2,by rw[htt,qj1 hn,<-hE,qpG hn hd,zp hin]⟩,⟨rfl,rfl,rfl,rfl,qap zo,trivial⟩,zhD zhr,hj2⟩
  have hrn:refW l[i].1=none:=by
   cases ho:refW l[i].1 with
   |none=>rfl
   |some d=>rw[ho] at h3;cases h3
  refine gaa ?_;refine oS (sF [_] rfl kc ?_) rfl;refine gad ?_;refine zoC rfl (λh4=>?_) (λh4=>?_);have hin:¬ qiJ l[i].1=true:=by simpa using h4
  refine gac ?_;rw[qnc hn hrn,zn hin] at hE;exact qac (hj2.trans hj1) (rC (zrt rfl) (zra rfl)) (by rw[<-hE];rfl);have hin:qiJ l[i].1=true:=by simpa using h4
  refine gac ?_;exact⟨_,_,_,by omega,⟨i+1,es2,clock2,by omega,rfl,rfl,rfl,by rw[htt,qj1 hn];exact hM2,by rw[htt,qj1 hn,<-hE,qnc hn hrn,zp hin]⟩,⟨rfl,rfl,rfl,rfl,qap zo,trivial⟩,zhD zhr,hj2⟩
 have hi':i=l.length:=by have:=zf hc;omega
 subst hi';rw[drop_length,errT] at hE;refine gac ?_;exact qac (hj2.trans hj1) (rC (zrt rfl) (zra rfl)) (by rw[<-hE];rfl)
end
def qn4(km:Option Nat)(Hk:Heap)(kn:Wd->Nat):Prop:=(km=none/\Hk=[]/\∀ x,kn x=0)∨∃ b m clock,km=some b/\Hk=[(b,.map (kvs m) clock)]/\∀ x,(GL.kvGet m x).getD (int .i64 0)=int .i64 (kn x:Nat)
section
variable{C:Ctx}{e:Env}{H:Heap}{dst:Option Nat}{ty:TypeId}{pos:String}{aft:Array Edge}{g:Option (Nat×Bool)}{K:LV->Heap->Prop}{X:List PanicEntry->Heap->Prop}{x y:Operand}
theorem S.known{t kt el:TypeId}(ht:C.P.underlying t=some (.map kt el))(hkt:C.P.underlying kt=some .string)(hz:∀ w,(zeroValue el).run C.P w=.ok (.int .i64 0) w){km:Option Nat}{Hk:Heap}{kn:Wd->Nat}{k:List UInt8}(hK:qn4 km Hk kn)(hm:e.ev x=.atom (.map km))(hx:e.ev y=str k)
  (hb:∀ q∈Hk,q∈H) (hk:K (int .i64 (kn k:Nat)) H):qae C ⟨dst,.lookup t x y false,ty,pos,aft,g⟩ e H K X:=by
 rcases hK with⟨rfl,rfl,h0⟩|⟨b,m,clock,rfl,rfl,hI⟩;refine Pure.step (Pure.nilGet ht hkt hz hm hx) ?_;rw[h0 k] at hk;exact hk;refine Pure.step (Pure.kvGet ht hkt hz (zl:=int .i64 0) (λ_ _=>qaj) hm hx (hb _ (List.mem_singleton.2 rfl))) ?_;rw[hI k];exact hk
end
theorem qnH{a b:Heap}{q:Nat×LObj}:HSub (a++b) (a++q::b):=⟨[q],List.perm_middle.trans (List.perm_append_singleton _ _).symm⟩
theorem qub{a b:Heap}{q:Nat×LObj}:HSub (a++b) ((a++[q])++b):=by
 rw[zAs];exact qnH
theorem qwG(a b:Nat):int .i64 ((a+b:Nat):Int)=int .i64 ((a:Int)+(b:Nat)):=qap zo
theorem quT{a b:Heap}{q:Nat×LObj}:(a++q::b).Perm (b++(a++[q])):=by
 have h:=zPc (l₁:=a++[q]) (l₂:=b);rw[zAs] at h;exact h
theorem qwU{s:Nat}{v:LV}{es:List LV}{a H F:Heap}(h:Acc s v es H F):HSub (a++F) (a++H):=by
 cases h with
 |nil=>exact zhR _
 |row=>exact qnH
theorem qn0(kn:Wd->Nat)(og:Nat)(l:List Wd)(t:Wd)(labs:List (Wd×Nat))(h:∀ w∈l,w≠[]):t.length<=(l.foldl (qbv kn og) (t,labs)).1.length:=by
 rw[qhn,qjY kn l t h];omega
theorem qmA(kn:Wd->Nat)(og:Nat):∀ (l:List Wd) (s:Wd×List (Wd×Nat)),s.2.length<=((l.foldl (qbv kn og) s).2).length/\((l.foldl (qbv kn og) s).2).length<=s.2.length+l.length
 |[],s=>by simp
 |w::r,s=>by
  rw[foldl_cons];have:=qmA kn og r (qbv kn og s w)
  have h2:s.2.length<=(qbv kn og s w).2.length/\(qbv kn og s w).2.length<=s.2.length+1:=by
   unfold qbv
   cases defW w with
   |some x=>simp
   |none=>simp
  simp only[zLc];omega
theorem qtX:qbb []=qao 32:=by decide
section
variable{B0:Nat}{w0:World}
theorem qr0(hG:GW B0 w0)(l:List (Wd×Nat))(og:Nat)(hog:og<=1000000)(hl:l.length<=1000000000)(hs:∀ p∈l,p.1≠[]/\p.1.length<=1000000000)(kn:Wd->Nat)(hkn:∀ x,kn x<=1000000000000)(hL:((txt l).foldl (qbv kn og) ([],[])).1.length<=2000000000)(km:Option Nat)(Hk:Heap)(hK:qn4 km Hk kn) :
  LCalls (KC B0 w0) 88 [.list (l.map qcn),int .i64 (og:Nat),.atom (.map km)] Hk (λr H'=>r=.ret (.tuple [str ((txt l).foldl (qbv kn og) ([],[])).1,.list (((txt l).foldl (qbv kn og) ([],[])).2.map qcn)])/\H'=Hk):=by
 have hla:(l.map qcn).length=l.length:=zLm _;have zi:∀ w,(zeroValue 3).run (KC B0 w0).P w=.ok (.int .i64 0) w:=λw=>(Go.zero_of_info (P:=Tryz.prog) (n:=1) zk).1 w
 have hne0:∀ i,∀ w∈txt (l.drop i),w≠[]:=λi w hw=>by
  obtain⟨p,hp,rfl⟩:=List.mem_map.1 hw;exact(hs p (List.mem_of_mem_drop hp)).1
 generalize hR:(txt l).foldl (qbv kn og) ([],[])=R at hL ⊢;refine zcI Tryz.func88 rfl (n:=68) rfl rfl rfl ?_;refine gar ?_;refine oS (zsA λbb=>?_) rfl;refine gaa ?_
 refine zoL (λk ls H=>∃ (i:Nat) (t:List UInt8) (labs:List (Wd×Nat)) (v:LV) (last:UInt8) (HB HL:Heap),i<=l.length/\k=l.length-i/\ls=[(1,int .i64 (og:Nat)),(2,.atom (.map km)),(8,ptr bb 0),(9,v),(10,int .u8 last.toNat),(18,.list (l.map qcn)),(19,int .i64 l.length),(20,int .i64 (i:Nat))]/\H=HB++HL/\BH bb t HB/\Acc 2 v (labs.map qcn) HL Hk/\qbb t=qao last/\labs.length<=i/\(txt (l.drop i)).foldl (qbv kn og) (t,labs)=R)
  ⟨_,_,_,⟨0,[],[],qab,32,[(bb,.cells 69 [.atom (.pointer none),.atom (.slice none 0 0)])],Hk,zero_le _,rfl,rfl,rfl,⟨_,_,[],.inl rfl,BRow.nil,rfl⟩,Acc.nil,qtX,zero_le _,hR⟩,⟨rfl,rfl,rfl,rfl,rfl,rfl,qap zo,rfl,trivial⟩,zhR _⟩ ?_
 rintro k ls H ⟨i,t,labs,v,last,HB,HL,hi,rfl,rfl,rfl,hB,hacc,hla2,hll,hE⟩ j hj;have hol:(labs.map qcn).length=labs.length:=zLm _;have htR:=qn0 kn og (txt (l.drop i)) t labs (hne0 i);rw[hE] at htR;refine gai ?_;refine zoC rfl (λhc=>?_) (λhc=>?_);have hlt:i<l.length:=by have:=zt hc;omega
 obtain⟨hne,hsl⟩:=hs _ (getElem_mem hlt);have kd:=qgJ (B0:=B0) (w0:=w0) l[i] zo;have kr:=qjV (B0:=B0) (w0:=w0) l[i] zo
 have hdr:txt (l.drop i)=l[i].1::txt (l.drop (i+1)):=by
  unfold txt;rw[drop_eq_getElem_cons hlt,zMc]
 rw[hdr,foldl_cons] at hE;refine zQ18 ?_;refine oS (zsA λb12=>?_) rfl;refine gaa ?_;refine oS (S.fnIf [_] rfl kd ?_) rfl;rintro lv ⟨s,rfl,hs2⟩;refine gac ?_;refine zoC rfl (λh=>?_) (λh=>?_);obtain⟨d,hd⟩:=Option.isSome_iff_exists.1 h;obtain rfl:=hs2 d hd;have hst:qbv kn og (t,labs) l[i].1=(t,labs++[(s,og+t.length)]):=by unfold qbv;rw[hd]
 rw[hst] at hE;refine gah ?_;refine zQ14 ?_;refine gaj ?_;refine oS (S.callH (H1:=HB) (F:=(b12,.cells 171 [str l[i].1,int .i64 l[i].2])::HL) [_] rfl List.perm_middle.symm (qj7 bb t HB hB) (λv' H' h=>?_) (λch H' h=>by obtain⟨h,_⟩:=h;cases h)) rfl;obtain⟨hv,rfl⟩:=h;cases hv;refine gad ?_;refine zQ0 ?_;refine oS (sG (H1:=HL) (A:=H'++[(b12,.cells 171 [str l[i].1,int .i64 l[i].2])]) quT rfl hacc rfl (by simp;rfl) rfl (by simp;omega) λv' H2 hacc'=>?_) rfl;refine zQ19 ?_;refine gac ?_
 exact⟨_,_,_,by omega,⟨i+1,t,labs++[(s,og+t.length)],v',last,H',H2,by omega,rfl,rfl,rfl,hB,by
  rw[zMa]
  have e1:[qcn (s,og+t.length)]=[LV.agg [str s,int .i64 ((og:Int)+(t.length:Nat))]]:=by
   unfold qcn;rw[qwG]
  rw[List.map_singleton,e1]
  exact hacc',hla2,by simp;omega,hE⟩,⟨rfl,rfl,rfl,rfl,rfl,rfl,rfl,qap zo,trivial⟩,qub,hj⟩
 have hn:defW l[i].1=none:=by
  cases ho:defW l[i].1 with
  |none=>rfl
  |some d=>rw[ho] at h;cases h
 have hst:qbv kn og (t,labs) l[i].1=(addT kn t l[i].1,labs):=by unfold qbv;rw[hn]
 obtain⟨hp0,hp1,hp2⟩:=qhy kn t l[i].1 hn hne;have hadd:addT kn t l[i].1=t++(if qbb t && qbP (qaG kn l[i].1) then [32] else [])++qaG kn l[i].1:=by unfold addT;rw[hn]
 have htR2:=qn0 kn og (txt (l.drop (i+1))) (addT kn t l[i].1) labs (hne0 (i+1));rw[hst] at hE;rw[hE] at htR2;refine cM (A:=Wd) (λs=>[(1,int .i64 (og:Nat)),(2,.atom (.map km)),(8,ptr bb 0),(9,v),(10,int .u8 last.toNat),(13,str s),(18,.list (l.map qcn)),(19,int .i64 l.length),(20,int .i64 (i:Nat))]) (λ_=>(b12,.cells 171 [str l[i].1,int .i64 l[i].2])::(HB++HL)) (λs=>s=qaG kn l[i].1) ?_ ?_;refine gaa ?_;refine oS (S.fnIf [_] rfl kr ?_) rfl;rintro lv ⟨s,rfl,hs3⟩;refine gac ?_;refine zoC rfl (λh3=>?_) (λh3=>?_);obtain⟨d,hd⟩:=Option.isSome_iff_exists.1 h3;obtain rfl:=hs3 d hd;refine gag ?_;refine oS (S.known (t:=130) (kt:=9) (el:=3) zk zk zi hK rfl rfl (λq hq=>zMo _ (List.mem_append_right _ (hacc.hsub.mem q hq)))<|oS (sF [_] rfl (qfI hG (kn s) (hkn s)) ?_) rfl) rfl;refine gaf ?_;exact⟨qeg (kn s),(by unfold qaG;rw[hd]),⟨rfl,rfl,rfl,rfl,rfl,rfl,rfl,rfl,rfl,trivial⟩,zhR _,rfl⟩
 have hrn:refW l[i].1=none:=by
  cases ho:refW l[i].1 with
  |none=>rfl
  |some d=>rw[ho] at h3;cases h3
 refine gab ?_;exact⟨l[i].1,(by unfold qaG;rw[hrn]),⟨rfl,rfl,rfl,rfl,rfl,rfl,rfl,rfl,rfl,trivial⟩,zhR _,rfl⟩;rintro s hpc j2 hj2;rw[<-hpc] at hp0 hp1 hp2 hadd;have hs0:=hp0;have hone:=one_le (qao last && qbP s);obtain⟨c,r,hcr⟩:=List.exists_cons_of_ne_nil hs0;have hfc:qbP s=qao c:=by rw[hcr];rfl
 rw[hla2] at hadd hp2;refine qag.seq ?_;refine cM (A:=Heap) (λ_=>[(1,int .i64 (og:Nat)),(2,.atom (.map km)),(8,ptr bb 0),(9,v),(10,int .u8 last.toNat),(13,str s),(18,.list (l.map qcn)),(19,int .i64 l.length),(20,int .i64 (i:Nat))]) (λHB'=>HB'++(b12,.cells 171 [str l[i].1,int .i64 l[i].2])::HL) (λHB'=>BH bb (t++if (qao last && qbP s)=true then [32] else []) HB') ?_ ?_;refine gag ?_;refine oS (sF [_] rfl (qg1 last) ?_) rfl;refine gaj ?_;refine zoB 52 rfl (λh4=>?_) (λh4=>?_);have h4':qao last=true:=h4;rw[h4',Bool.true_and,hfc];refine gaj ?_;refine oP (pI (c:=c) rfl rfl zo (by rw[hcr];rfl)) rfl<|gaj ?_;refine oS (sF [_] rfl (qg1 c) ?_) rfl;refine gab ?_;refine zoC rfl (λh5=>?_) (λh5=>?_);refine gah ?_;refine oS (S.callH (H1:=HB) (F:=(b12,.cells 171 [str l[i].1,int .i64 l[i].2])::HL) [_,_] rfl List.perm_middle.symm (qkn bb t 32 HB hB zo) (λv' H' h=>?_) (λch H' h=>by obtain⟨⟨x,h⟩,_⟩:=h;cases h)) rfl;refine gaf ?_;exact⟨H',by rw[zp h5];exact h.2,⟨rfl,rfl,rfl,rfl,rfl,rfl,rfl,rfl,rfl,trivial⟩,zhR _,rfl⟩;refine gab ?_;exact⟨HB,by rw[zn (by rw[h5];decide),zLz];exact hB,⟨rfl,rfl,rfl,rfl,rfl,rfl,rfl,rfl,rfl,trivial⟩,⟨[],by simpa using List.perm_middle.symm⟩,rfl⟩;have h4':qao last=false:=h4;rw[h4',Bool.false_and];refine gab ?_;refine zoC rfl (λh5=>by cases h5) (λh5=>?_);refine gab ?_;exact⟨HB,by rw[zn zDd,zLz];exact hB,⟨rfl,rfl,rfl,rfl,rfl,rfl,rfl,rfl,rfl,trivial⟩,⟨[],by simpa using List.perm_middle.symm⟩,rfl⟩;rintro HB' hB' j3 hj3;have hsl3:=List.length_pos_iff.2 hs0
 have hget:s[((s.length:Int)-1).toNat]? = some (s.getLast hs0):=by
  rw[show((s.length:Int)-1).toNat=s.length-1 by omega,List.getLast_eq_getElem,List.getElem?_eq_getElem zo]
 have hlast:qbb s=qao (s.getLast hs0):=by
  unfold qbb;rw[List.getLast?_eq_some_getLast hs0]
 have htl:(t++if (qao last && qbP s)=true then [32] else []).length+s.length<=2000000000:=by
  have:(t++if (qao last && qbP s)=true then [32] else []).length=t.length+one (qao last && qbP s):=by
   rw[zLa];unfold one;split <;> rfl
  omega
 rw[hadd] at hE hp1;generalize (t++if (qao last && qbP s)=true then [32] else [])=t2 at hB' htl hE hp1;refine gag ?_;refine oS (S.callH (H1:=HB') (F:=(b12,.cells 171 [str l[i].1,int .i64 l[i].2])::HL) [_,_] rfl zpr (qfo bb t2 s HB' hB' zo) (λv' H' h=>?_) (λch H' h=>by obtain⟨⟨x,h⟩,_⟩:=h;cases h)) rfl;obtain⟨⟨x,hx⟩,hB2⟩:=h;refine gaa ?_;refine oP (pI (c:=s.getLast hs0) rfl rfl zo hget) rfl<|gac ?_;exact⟨_,_,_,by omega,⟨i+1,t2++s,labs,v,s.getLast hs0,H',HL,by omega,rfl,rfl,rfl,hB2,hacc,by rw[hp1,hlast],by omega,hE⟩,⟨rfl,rfl,rfl,rfl,rfl,rfl,rfl,qap zo,trivial⟩,qnH,hj3.trans (hj2.trans hj)⟩;have hi':i=l.length:=by have:=zf hc;omega
 subst hi';rw[drop_length] at hE;have hE':(t,labs)=R:=hE;subst hE';refine qag.sub (d:=9) (v:=v) rfl hacc.sub ?_;refine cW (qwU hacc) ?_;refine gac ?_;refine oS (S.callH (H1:=HB) (F:=Hk) [_] rfl zpr (qgG bb t HB hB zo) (λv' H' h=>?_) (λch H' h=>by obtain⟨h,_⟩:=h;cases h)) rfl;obtain⟨hv,rfl⟩:=h;cases hv;refine gad ?_;exact rR hj (rC (zrt rfl) (rC (rT (v:=.list _) rfl zsr) rN)) zhr ⟨rfl,by simp⟩
end
theorem qlr:∀ (l:List Wd) (d:Bool),lenW d l<=3 * tot l
 |[],d=>zero_le _
 |w::r,d=>by
  have h1:=one_le d;have h2:=one_le (d && qbP w);rw[lenW,qaM]
  cases defW w with
  |some l=>have:=qlr r d;simp only;omega
  |none=>
   cases hr:refW w with
   |some l=>
    have:=qlr r true
    have hlen:2<=w.length:=by
     unfold refW at hr;split at hr;cases hr
     rename_i c q
     split at hr
     rename_i hc
     have:=List.length_pos_iff.2 (quQ hc.2);simp only[zLc];omega;cases hr
    simp only
    omega
   |none=>have:=qlr r (qbb w);simp only;omega
theorem qsN(kn:Wd->Nat)(og M:Nat):∀ (l:List Wd) (s:Wd×List (Wd×Nat)),(∀ w∈l,w≠[])->((l.foldl (qbv kn og) s).1).length<=M->(∀ p∈s.2,p.2<=og+M)->∀ p∈(l.foldl (qbv kn og) s).2,p.2<=og+M
 |[],s,_,_,h=>h
 |w::r,s,hw,hM,h=>by
  rw[foldl_cons] at hM ⊢;refine qsN kn og M r _ (λx hx=>hw x (zMo w hx)) hM ?_;have h1:=qn0 kn og r (qbv kn og s w).1 (qbv kn og s w).2 (λx hx=>hw x (zMo w hx));intro p hp;unfold qbv at hp h1 hM
  cases hd:defW w with
  |none=>
   rw[hd] at hp
   exact h p hp
  |some x=>
   rw[hd] at hp h1 hM;simp only at hp h1 hM;rcases List.mem_append.1 hp with hp|hp;exact h p hp;rw[List.mem_singleton.1 hp];simp only;omega
def qlU(labs:List (Wd×Nat)):KV:=labs.map λp=>(p.1,int .i64 (p.2:Nat))
theorem qmj:∀ (labs:List (Wd×Nat)) (x:Wd),(GL.kvGet (qlU labs) x).getD (int .i64 0)=int .i64 (qdL labs x:Nat)
 |[],x=>rfl
 |p::r,x=>by
  unfold qlU qdL;rw[zMc,GL.kvGet,List.find?_cons]
  by_cases h:p.1=x
  rw[zp h,decide_eq_true h];rfl;rw[zn h,decide_eq_false h];exact qmj r x
theorem qp6{labs:List (Wd×Nat)}{i:Nat}(h:i<labs.length)(hn:(labs.map (·.1)).Nodup):GL.kvPut (qlU (labs.take i)) labs[i].1 (int .i64 (labs[i].2:Nat))=qlU (labs.take (i+1)):=by
 unfold qlU;rw[List.take_succ_eq_append_getElem h,zMa];refine qpj ?_;rw[map_map];intro hm
 have e1:labs.map (·.1)=(labs.take i).map (·.1)++labs[i].1::(labs.drop (i+1)).map (·.1):=by
  conv=>lhs;rw[<-List.take_append_drop i labs,drop_eq_getElem_cons h]
  rw[zMa,zMc]
 rw[e1,List.nodup_append] at hn;exact hn.2.2 _ hm _ zMs rfl
theorem quL{labs:List (Wd×Nat)}{M:Nat}(h:∀ p∈labs,p.2<=M)(x:Wd):qdL labs x<=M:=by
 unfold qdL
 cases hf:labs.find? λp=>decide (p.1=x) with
 |none=>exact zero_le _
 |some p=>exact h p (List.mem_of_find?_eq_some hf)
def asmLV:Except (Nat×Nat) (Wd×List (Wd×Nat))->LV
 |.error e=>.tuple [str [],.list [],int .i64 (e.1:Nat),int .i64 (e.2:Nat)]
 |.ok x=>.tuple [str x.1,.list (x.2.map qcn),int .i64 0,int .i64 0]
section
variable{B0:Nat}{w0:World}
theorem assemble_spec(hG:GW B0 w0)(hM:GM w0)(src:List UInt8)(og:Int)(hs:src.length<=300000000):LCalls (KC B0 w0) 39 [str src,int .i64 og] [] (Ret (asmLV (asmP src og))):=by
 have hA:asmP src og=asmP src og:=rfl
 conv at hA=>rhs;unfold asmP
 generalize hR:asmP src og=R at hA ⊢;refine LCalls.intro4 Tryz.func39 rfl (n:=65) rfl rfl rfl ?_;refine gac ?_;refine zoB 19 rfl (λh1=>?_) (λh1=>?_);have h1':og<0:=zt h1;rw[zp (.inl h1')] at hA;subst hA;refine gab ?_;refine zoC rfl (λh=>?_) (λh=>by cases h);refine gap ?_;exact qac rfl (rC (zrt rfl) (rC (rT (v:=qab) rfl vN) (rC (zrt rfl) (zra rfl)))) rfl;have h1':¬ og<0:=zf h1;refine gad ?_;refine zoC rfl (λh2=>?_) (λh2=>?_);have h2':og ≥ 262144:=zt h2;rw[zp (.inr h2')] at hA;subst hA;refine gap ?_;exact qac rfl (rC (zrt rfl) (rC (rT (v:=qab) rfl vN) (rC (zrt rfl) (zra rfl)))) rfl;have h2':¬ og ≥ 262144:=zf h2;rw[zn zo] at hA;obtain⟨o,rfl⟩:∃ o:Nat,og=(o:Int):=⟨og.toNat,by omega⟩;rw[Int.toNat_natCast] at hA;have hao:=@qpa src;have hft:=qd6 src;have hwt:=qhf src;have hwl:=qie src;have hcl:=qii src;have hlw:=qlr (qbi src) false;have htk:=tokens_spec hG hM src zo;rw[<-hft] at hwt hwl hcl hlw hA hao;rw[zLm] at hwl;generalize qgo src=l at hwt hwl hcl hlw htk hA hao;have hne:∀ w∈txt l,w≠[]:=λw hw=>(hcl w hw).1
 have hsz:∀ p∈l,p.1≠[]/\p.1.length<=1000000000:=λp hp=>by
  have hm:p.1∈l.map (·.1):=List.mem_map_of_mem hp;have:=qrc hm;exact⟨(hcl _ hm).1,by omega⟩
 have hck:=check_spec (B0:=B0) (w0:=w0) l zo (λp hp=>(hsz p hp).2)
 have hlen:∀ kn,((txt l).foldl (qbv kn o) ([],[])).1.length=lenW false (txt l):=λkn=>by
  rw[qhn];exact qjN kn _ hne
 have hjo:=λkn hkn km Hk hK=>qr0 hG l o zo zo hsz kn hkn (by rw[hlen kn];show lenW false (l.map (·.1))<=_;omega) km Hk hK;generalize hE:errT (defs (txt l)) [] l=E at hck hA hao;have hE2:E=(E.1,E.2):=rfl;refine gac ?_;refine oS (sF [_] rfl htk ?_) rfl;refine gaa ?_;refine oS (sF [_] rfl hck ?_) rfl;refine gaa ?_;refine zoC rfl (λh1=>?_) (λh1=>?_);have h3:¬ E.2=0:=by simpa using h1
 rw[zp h3] at hA;subst hA;refine gac ?_;exact qac rfl (rC (zrt rfl) (rC (rT (v:=qab) rfl vN) (rC (zrt rfl) (zra rfl)))) rfl;have h3:E.2=0:=by simpa using h1
 rw[zn zo] at hA;have hnd:=(hao h3).1;refine gac ?_;refine oS (S.callH (H1:=[]) (F:=[]) [_,_,.const (.map none)] rfl zpr (hjo (λ_=>0) (λ_=>zero_le _) none [] (.inl ⟨rfl,rfl,λ_=>rfl⟩)) (λv' H' hh=>?_) (λch H' hh=>by obtain⟨h,_⟩:=hh;cases h)) rfl;obtain⟨hv,rfl⟩:=hh;cases hv;have hlabs:((txt l).foldl (qbv (λ_=>0) o) ([],[])).2=qek (λ_=>0) o (l.map (·.1)):=rfl
 have hle:∀ p∈((txt l).foldl (qbv (λ_=>0) o) ([],[])).2,p.2<=1000000000000:=λp hp=>by
  have:=qsN (λ_=>0) o (lenW false (txt l)) (txt l) ([],[]) hne (by rw[hlen];exact zNr _) (λp hp=>by cases hp) p hp;have h5:lenW false (txt l)<=3 * tot (l.map (·.1)):=hlw;omega
 have hnl:(((txt l).foldl (qbv (λ_=>0) o) ([],[])).2.map (·.1)).Nodup:=by
  rw[qgw];exact hnd
 have hll:=(qmA (λ_=>0) o (txt l) ([],[])).2;rw[hlabs] at hle hnl hll;generalize hLB:qek (λ_=>0) o (l.map (·.1))=labs at hle hnl hll hA hlabs;rw[hlabs]
 have hll2:labs.length<=l.length:=by
  have:(txt l).length=l.length:=zLm _;simp only[zLn] at hll;omega
 have hlab:(labs.map qcn).length=labs.length:=zLm _;refine gaa ?_;refine oS (S.kvNew λm=>?_) rfl;refine gaa ?_
 refine zoL (λk ls H=>∃ (i:Nat) (clock:Nat),i<=labs.length/\k=labs.length-i/\ls=[(1,int .i64 (o:Nat)),(8,.list (l.map qcn)),(13,.atom (.map (some m))),(41,.list (labs.map qcn)),(42,int .i64 labs.length),(43,int .i64 (i:Nat))]/\H=[(m,.map (kvs (qlU (labs.take i))) clock)])
  ⟨_,_,_,⟨0,0,zero_le _,rfl,rfl,rfl⟩,⟨rfl,rfl,rfl,rfl,qap zo,rfl,trivial⟩,zhR _⟩ ?_
 rintro k ls H ⟨i,clock,hi,rfl,rfl,rfl⟩ j hj;refine gai ?_;refine zoC rfl (λhc=>?_) (λhc=>?_);have hlt:i<labs.length:=by have:=zt hc;omega
 refine gak ?_;refine oP (xR (el':=qcn labs[i]) (cs:=[_,_]) rfl rfl zo (qbj _ _ _ hlt) rfl rfl) rfl<|gad ?_;refine oS (zsA λb15=>?_) rfl;refine gaa ?_;refine oS (S.kvPut (t:=130) (kt:=9) (el:=3) (m:=qlU (labs.take i)) (k:=labs[i].1) (lv:=int .i64 (labs[i].2:Nat)) zk zk rfl rfl rfl zp1 λclock'=>?_) rfl;rw[qp6 hlt hnl];refine gaq ?_;exact⟨_,_,_,by omega,⟨i+1,clock',by omega,rfl,rfl,rfl⟩,⟨rfl,rfl,rfl,rfl,rfl,qap zo,trivial⟩,⟨[_],List.Perm.refl _⟩,hj⟩;have hi':i=labs.length:=by have:=zf hc;omega
 subst hi';rw[take_length];have hkn:=quL hle;refine gac ?_;refine oS (S.callH (H1:=[(m,.map (kvs (qlU labs)) clock)]) (F:=[]) [_,_,_] rfl zpr (hjo (qdL labs) hkn (some m) _ (.inr ⟨m,qlU labs,clock,rfl,rfl,qmj labs⟩)) (λv' H' hh=>?_) (λch H' hh=>by obtain⟨h,_⟩:=hh;cases h)) rfl;obtain⟨hv,rfl⟩:=hh;cases hv;have e1:((txt l).foldl (qbv (qdL labs) o) ([],[])).1=qcZ (qdL labs) (l.map (·.1)):=qhn _ _ _ _
 have e2:((txt l).foldl (qbv (qdL labs) o) ([],[])).2=labs:=by
  show qek (qdL labs) o (l.map (·.1))=labs;rw[qm8 (qdL labs) (λ_=>0) o (l.map (·.1)) hne];exact hLB
 rw[e1,e2];generalize qcZ (qdL labs) (l.map (·.1))=tx at hA;refine gaa ?_;refine zoC rfl (λh2=>?_) (λh2=>?_);have h5:40000<tx.length:=by have:=zt h2;omega
 rw[zp h5] at hA;subst hA;refine gap ?_;exact qac hj (rC (zrt rfl) (rC (rT (v:=qab) rfl vN) (rC (zrt rfl) (zra rfl)))) rfl;have h5:¬ 40000<tx.length:=by have:=zf h2;omega
 rw[zn h5] at hA;subst hA;refine gaa ?_;exact qac hj (rC (zrt rfl) (rC (rT (v:=.list _) rfl zsr) (rC (zrt rfl) (zra rfl)))) rfl
end
end Go.Proofs.YtkihibnffkpnkaaGreatDoor.Asm
namespace Go.Proofs.YtkihibnffkpnkaaGreatDoor.Pp
open Go.GL Go.RowKit Go.Stele
open Asm (qbt qbt.mk qbH)
attribute [local irreducible] LOps qag qae LCalls Go.GL.Pure qaz qam qad LQ LAny qaI qan
structure GW(B0:Nat)(w0:World):Prop where
 base:Go.Proofs.YtkihibnffkpnkaaGreatDoor.GW B0 w0
 mx:Asm.GM w0
 errSyntax : ∃ tp p, w0.var? Tryz.prog "strconv.ErrSyntax" = some #[.iface tp p]
section
variable{B0:Nat}{w0:World}
theorem GW.syn (h : GW B0 w0) {w : World} (hb : Below B0 w0 w) : ∃ tp p, w.var? Tryz.prog "strconv.ErrSyntax" = some #[.iface tp p] := by
 have hg : Tryz.prog.globalNamed "strconv.ErrSyntax" = some 1 := by kernel_rfl
 obtain⟨tp,p,hv⟩:=h.errSyntax;exact⟨tp,p,var?_below hb hg (Nat.lt_of_lt_of_le zDd h.base.big) hv⟩
theorem GW.range (h : GW B0 w0) {w : World} (hb : Below B0 w0 w) : ∃ tp p, w.var? Tryz.prog "strconv.ErrRange" = some #[.iface tp p] := h.base.err hb
theorem fmtUint_spec(hG:GW B0 w0)(u:Nat)(hu:u<18446744073709551616):LCalls (KC B0 w0) 165 [int .u64 u,int .i64 10] [] (Ret (str (Go.Lib.decDigits u))):=Go.Proofs.YtkihibnffkpnkaaGreatDoor.fmtUint_spec hG.base u hu
theorem cutPrefix_spec(s p:List UInt8):LCalls (KC B0 w0) 182 [str s,str p] [] (Ret (.tuple [str (Go.Lib.trimPrefix s p),bool (Go.Lib.hasPrefix s p)])):=Asm.cutPrefix_spec s p
theorem cutSuffix_spec(s p:List UInt8)(hs:s.length<=1000000000):LCalls (KC B0 w0) 192 [str s,str p] [] (Ret (.tuple [str (Go.Lib.trimSuffix s p),bool (Go.Lib.hasSuffix s p)])):=Asm.cutSuffix_spec s p hs
theorem qlu(hG:GW B0 w0)(s:List UInt8)(hs:s.length<=1000000000):LCalls (KC B0 w0) 164 [str s,int .i64 10,int .i64 32] []
  (qgY λlv=>(∃ u,Go.Lib.parseUintB 32 s=.ok u/\lv=.tuple [int .u64 u,.atom .nilIface])∨((∀ u,Go.Lib.parseUintB 32 s≠.ok u)/\∃ v t p,lv=.tuple [int .u64 v,.atom (.iface t p)])):=by
 have hsz:∀ k,1000000000<=k->s.toArray.size<=k:=λk hk=>by simp;omega
 refine LCalls.mono (LCalls.of_belowT (vs:=[.string ⟨s.toArray⟩,.int .i64 10,.int .i64 32]) (p:=λus=>(∃ u,Go.Lib.parseUintB 32 s=.ok u/\us=[.int .u64 u,.nilIface])∨((∀ u,Go.Lib.parseUintB 32 s≠.ok u)/\∃ v t p,us=[.int .u64 v,.iface t p])) λw hw=>?_) ?_
 cases h:Go.Lib.parseUintB 32 s with
 |ok u=>
  refine(Tryz.strconv_ParseUint_10_at32_ok ⟨s.toArray⟩ (hsz _ zDd) u (by simpa using h) w).mono λe w' he=>⟨_,he.1,.inl ⟨u,rfl,rfl⟩,?_⟩;rcases he.2 with h2|h2;rw[h2];exact Below.refl _ _;rw[h2]
  exact⟨rfl,rfl,rfl,by rw[Go.Lib.bytesWorld_size];omega,λk hk=>Go.Lib.bytesWorld_at_old w 5 _ k hk⟩
 |range=>
  obtain⟨tp,p,hv⟩:=hG.range hw;refine(Tryz.strconv_ParseUint_10_at32_range_var ⟨s.toArray⟩ (hsz _ zDd) (by simpa using h) tp p w hv).mono λe w' he=>?_;obtain⟨N,h1,_,_,h4⟩:=he
  exact⟨_,h1,.inr ⟨(λu hu=>by cases hu),_,_,_,rfl⟩,h4⟩
 |_=>
  obtain⟨tp,p,hv⟩:=hG.syn hw;refine(Tryz.strconv_ParseUint_10_at32_syntax_var ⟨s.toArray⟩ (hsz _ zDd) ⟨λu hu=>(by rw[h] at hu;cases hu),λhu=>(by rw[h] at hu;cases hu)⟩ tp p w hv).mono λe w' he=>?_;obtain⟨N,h1,_,_,h4⟩:=he;exact⟨_,h1,.inr ⟨(λu hu=>by cases hu),_,_,_,rfl⟩,h4⟩
 rintro r H ⟨v,rfl,⟨us,hus,rfl⟩,rfl⟩;refine⟨_,rfl,?_,rfl⟩;rcases hus with⟨u,h1,rfl⟩|⟨h1,v,t,p,rfl⟩;exact .inl ⟨u,h1,rfl⟩;exact .inr ⟨h1,v,t,p,rfl⟩
theorem qtn(s:List UInt8)(hs:s.length<=1000000000):LCalls (KC B0 w0) 194 [str s,str qfL] [] (Ret (str (Go.Lib.trimS s qfL))):=
 LCalls.ret_of (vs:=[.string ⟨s.toArray⟩,.string ⟨qfL.toArray⟩]) λw hw=>(Go.Proofs.Any.strings_Trim_laid Tryz.lays160 zk ⟨s.toArray⟩ ⟨qfL.toArray⟩ w (by show s.toArray.size<=_;simp;omega) zDd (Go.Proofs.ascii_of_all zDd))
end
theorem qnU{n:Int}(h:0<=n/\n<=4294967295):IntKind.u32.wrap n=n:=by
 simp only[IntKind.wrap,IntKind.bits,IntKind.signed,Bool.false_and]
 simp
 omega
theorem qvQ{n:Int}(h:0<=n/\n<=4294967295):IntKind.u64.wrap n=n:=by
 simp only[IntKind.wrap,IntKind.bits,IntKind.signed,Bool.false_and]
 simp
 omega
theorem qlf(n:Int):IntKind.u32.wrap n=n % 4294967296:=by
 simp only[IntKind.wrap,IntKind.bits,IntKind.signed,Bool.false_and]
 simp
instance:TIface zTp 71:=.of zk
section
variable{B0:Nat}{w0:World}
theorem qe5(s:List UInt8)(hs:s.length<=1000000000):LCalls (KC B0 w0) 183 [str s] [] (Ret (bool (qkd s))):=by
 have hT:=qtn (B0:=B0) (w0:=w0) s hs;have hnil:=qul s
 cases s with
 |nil=>
  refine zcI Tryz.func183 rfl (n:=25) rfl rfl rfl ?_;refine gaa ?_
  exact qac rfl (zra rfl) rfl
 |cons c r=>
  have hN:qkd (c::r)=(decide ((c::r).length<=40) && qaV c && (c::r).all qaW):=rfl;rw[qaV] at hN;refine zcI Tryz.func183 rfl (n:=25) rfl rfl rfl ?_;refine gaa ?_;refine zoB 5 rfl (λh1=>?_) (λh1=>absurd h1 (by simp));refine zoB 10 rfl (λh2=>?_) (λh2=>?_);have h2':(c::r).length<=40:=by have:=zt h2;omega
  rw[decide_eq_true h2',Bool.true_and] at hN;refine gaj ?_;refine oP (pI (c:=c) rfl rfl zo rfl) rfl<|gad ?_;refine zoB 15 rfl (λh3=>?_) (λh3=>?_);have h3':decide (97<=cv c)=true:=h3;rw[h3',Bool.true_and] at hN;refine gaj ?_;refine oP (pI (c:=c) rfl rfl zo rfl) rfl<|gad ?_;refine zoB 20 rfl (λh4=>?_) (λh4=>?_);have h4':decide (cv c<=122)=true:=h4;rw[h4',Bool.true_and] at hN;refine gaj ?_;refine oS (sF [_,_] rfl hT ?_) rfl;refine gab ?_
  exact qac rfl (zra rfl) (qau (by
   rw[hN,Bool.eq_iff_iff,decide_eq_true_iff]
   exact hnil))
  have h4':decide (cv c<=122)=false:=h4;rw[h4',Bool.false_and] at hN;refine gab ?_;exact qac rfl (zra rfl) (qau hN.symm);have h3':decide (97<=cv c)=false:=h3;rw[h3',Bool.false_and,Bool.false_and] at hN;refine gab ?_;exact qac rfl (zra rfl) (qau hN.symm);have h2':¬ (c::r).length<=40:=by have:=zf h2;omega
  rw[decide_eq_false h2',Bool.false_and,Bool.false_and] at hN;refine gab ?_;exact qac rfl (zra rfl) (qau hN.symm)
theorem qdf(hG:GW B0 w0)(w:Wd)(hs:w.length<=1000000000):LCalls (KC B0 w0) 186 [str w] [] (Ret (.tuple [int .u32 ((numW w).getD 0:Nat),bool (numW w).isSome])):=by
 have hP:=qlu hG w hs;refine zcI Tryz.func186 rfl (n:=21) rfl rfl rfl ?_;refine gao ?_;refine oS (S.fnIf [_,_,_] rfl hP ?_) rfl;rintro lv (⟨u,hu,rfl⟩|⟨hno,v,t,p,rfl⟩);have hlt:=qnu hu;refine gaa ?_;refine oS (sF [_,_] rfl (fmtUint_spec hG u zo) ?_) rfl;refine gad ?_;refine zoC rfl (λh=>?_) (λh=>?_);have hne:¬ Go.Lib.decDigits u=w:=by simpa using h
 have hn:numW w=none:=by unfold numW;rw[hu];exact zn hne
 refine gap ?_;exact qac rfl (rC (zrt rfl) (zra rfl)) (by rw[hn];rfl);have he:Go.Lib.decDigits u=w:=by simpa using h
 have hn:numW w=some u:=by unfold numW;rw[hu];exact zp he
 refine gaa ?_
 exact qac rfl (rC (zrt rfl) (zra rfl)) (by
  rw[hn,qnU zo]
  rfl)
 have hn:numW w=none:=by
  unfold numW;split
  rename_i u hu
  exact absurd hu (hno u);rfl
 refine gaa ?_;refine zoC rfl (λh=>?_) (λh=>?_);refine gap ?_;exact qac rfl (rC (zrt rfl) (zra rfl)) (by rw[hn];rfl);cases h
theorem qgr(w:Wd)(hs:w.length<=1000000000):LCalls (KC B0 w0) 144 [str w] [] (qgY (qbt (refW w))):=by
 obtain⟨r1,r2⟩:=qbH (qvx w)
 have hlen:(Go.Lib.trimPrefix w [38]).length<=1000000000:=by
  unfold Go.Lib.trimPrefix;split;rw[List.length_drop];omega;exact hs
 refine zcI Tryz.func144 rfl (n:=17) rfl rfl rfl ?_;refine gao ?_;refine oS (sF [_,_] rfl (cutPrefix_spec w [38]) ?_) rfl;refine gac ?_;refine zoB 13 rfl (λh=>?_) (λh=>?_);exact zT32;rw[h,Bool.false_and] at r1;refine gab ?_;exact qcl rfl (rC (zrt rfl) (zra rfl)) (qbt.mk r1 r2)
theorem qed(w:Wd)(hs:w.length<=1000000000):LCalls (KC B0 w0) 189 [str w] [] (qgY (qbt (defW w))):=by
 obtain⟨r1,r2⟩:=qbH (qvd w)
 have hlen:(Go.Lib.trimSuffix w [58]).length<=1000000000:=by
  unfold Go.Lib.trimSuffix;split;rw[List.length_take];omega;exact hs
 refine zcI Tryz.func189 rfl (n:=17) rfl rfl rfl ?_;refine gao ?_;refine oS (sF [_,_] rfl (cutSuffix_spec w [58] hs) ?_) rfl;refine gac ?_;refine zoB 13 rfl (λh=>?_) (λh=>?_);exact zT32;rw[h,Bool.false_and] at r1;refine gab ?_;exact qcl rfl (rC (zrt rfl) (zra rfl)) (qbt.mk r1 r2)
def qb3(v:List Wd)(m:Nat):LV:=.agg [.list (v.map str),.atom (.map (some m))]
theorem qaQ(v:List Wd)(m i:Nat)(hv:v.length<=1000000000):LCalls (KC B0 w0) 185 [qb3 v m,int .i64 i] [] (Ret (str (wdAt v i))):=by
 have hla:(v.map str).length=v.length:=zLm _;unfold qb3;refine zcI Tryz.func185 rfl (n:=15) rfl rfl rfl ?_;refine gah ?_;refine oS (zsB (cs:=[.list (v.map str),.atom (.map (some m))]) rfl λb2=>?_) rfl;refine gaa ?_;refine zoC rfl (λh=>?_) (λh=>?_);have hlt:i<v.length:=by have:=zt h;omega
 have hw:wdAt v i=v[i]:=by unfold wdAt;rw[List.getElem?_eq_getElem hlt];rfl
 refine gaa ?_;refine oP (xR (el':=str v[i]) (cs:=[str v[i]]) rfl rfl zo (qbj _ _ _ hlt) rfl rfl) rfl<|gad ?_;exact qac rfl (zra rfl) (qmT hw.symm);have hge:v.length<=i:=by have:=zf h;omega
 have hw:wdAt v i=[]:=by unfold wdAt;rw[List.getElem?_eq_none hge];rfl
 refine gac ?_;exact qac rfl (zra rfl) (qmT hw.symm)
def Small(v:List Wd):Prop:=v.length<=1000000/\∀ w∈v,w.length<=1000000
theorem Small.at{v:List Wd}(h:Small v)(i:Nat):(wdAt v i).length<=1000000:=by
 unfold wdAt
 cases hi:v[i]? with
 |none=>exact zero_le _
 |some w=>exact h.2 w (List.mem_of_getElem? hi)
theorem qhm(v:List Wd)(m i:Nat)(hv:Small v)(hi:i<=1000):LCalls (KC B0 w0) 188 [qb3 v m,int .i64 i] [] (qgY (qbt (qdd v i))):=by
 have h1:=qaQ (B0:=B0) (w0:=w0) v m i (by have:=hv.1;omega);have h2:=qaQ (B0:=B0) (w0:=w0) v m (i+1) (by have:=hv.1;omega);have e2:int .i64 ((i:Int)+1)=int .i64 ((i+1:Nat):Int):=qap zo;rw[<-e2] at h2;have hl:=hv.at i
 have hJ:qdd v i=match refW (wdAt v i) with
  |some l=>if wdAt v (i+1)=[63] then some l else none
  |none=>none:=rfl
 unfold qb3 at h1 h2 ⊢;refine zcI Tryz.func188 rfl (n:=24) rfl rfl rfl ?_;refine gah ?_;refine oS (zsB (cs:=[.list (v.map str),.atom (.map (some m))]) rfl λb2=>?_) rfl;refine gaa ?_;refine oS (sF [_,_] rfl h1<|oS (S.fnIf [_] rfl (qgr _ zo) ?_) rfl) rfl;rintro lv ⟨s,rfl,hs⟩;refine gac ?_;refine zoB 17 rfl (λh=>?_) (λh=>?_);obtain⟨l,hl2⟩:=Option.isSome_iff_exists.1 h;have hsl:=hs l hl2;rw[hl2] at hJ;refine gad ?_;refine oS (sF [_,_] rfl h2 ?_) rfl;refine gab ?_
 exact qcl rfl (rC (zrt rfl) (zra rfl)) (qbt.mk (by rw[hJ];simp only;split <;> simp_all) (by
  intro l' h';rw[hJ] at h';simp only at h';split at h';injection h' with h';rw[hsl,h']
  cases h'))
 have hn:refW (wdAt v i)=none:=by
  cases h3:refW (wdAt v i) with
  |none=>rfl
  |some l=>rw[h3] at h;cases h
 rw[hn] at hJ;refine gab ?_
 exact qcl rfl (rC (zrt rfl) (zra rfl)) (qbt.mk (by rw[hJ];rfl) (by
  intro l' h';rw[hJ] at h'
  cases h'))
end
theorem xor32{a b:Nat}(ha:a<4294967296)(hb:b<4294967296):IntKind.u32.wrap (((BitVec.ofInt IntKind.u32.bits (a:Int) ^^^ BitVec.ofInt IntKind.u32.bits (b:Int)).toNat:Nat):Int)=((a ^^^ b:Nat):Int):=by
 have h1:(BitVec.ofInt 32 (a:Int) ^^^ BitVec.ofInt 32 (b:Int)).toNat=a ^^^ b:=by
  rw[BitVec.ofInt_natCast,BitVec.ofInt_natCast,BitVec.toNat_xor,BitVec.toNat_ofNat,BitVec.toNat_ofNat,Nat.mod_eq_of_lt ha,Nat.mod_eq_of_lt hb]
 have h2:a ^^^ b<4294967296:=Nat.xor_lt_two_pow (n:=32) ha hb;show IntKind.u32.wrap (((BitVec.ofInt 32 (a:Int) ^^^ BitVec.ofInt 32 (b:Int)).toNat:Nat):Int)=_;rw[h1,qnU zo]
theorem wadd(a b:Nat):IntKind.u32.wrap ((a:Int)+b)=(((a+b) % 4294967296:Nat):Int):=by
 rw[qlf];omega
theorem wsub{a b:Nat}(hb:b<4294967296):IntKind.u32.wrap ((a:Int)-b)=(((a+4294967296-b) % 4294967296:Nat):Int):=by
 rw[qlf];omega
theorem wmul(a b:Nat):IntKind.u32.wrap ((a:Int) * b)=((a * b % 4294967296:Nat):Int):=by
 rw[qlf,Int.natCast_emod,Int.natCast_mul];rfl
theorem resT{n:Int}{m:Nat}{o:Option Nat}(ho:o=some m)(h:n=(m:Int)):qbJ [int .u32 n,bool true]=LV.tuple [int .u32 ((o.getD 0:Nat):Int),bool o.isSome]:=by
 subst h;subst ho;rfl
section
variable{B0:Nat}{w0:World}
theorem qmk(a b:Nat)(op:Wd)(ha:a<4294967296)(hb:b<4294967296):LCalls (KC B0 w0) 210 [int .u32 a,str op,int .u32 b] [] (Ret (.tuple [int .u32 ((qd7 a op b).getD 0:Nat),bool (qd7 a op b).isSome])):=by
 have hC:qd7 a op b=qd7 a op b:=rfl
 conv at hC=>rhs;unfold qd7
 refine zcI Tryz.func210 rfl (n:=47) rfl rfl rfl ?_;refine gac ?_;refine zoC rfl (λh1=>?_) (λh1=>?_);rw[zp (zt h1)] at hC;refine gag ?_;refine oP (Pure.addW rfl rfl) rfl<|gab ?_;exact qac rfl (rC (zrt rfl) (zra rfl)) (resT hC (wadd a b));rw[zn (zf h1)] at hC;refine gas ?_;refine zoC rfl (λh2=>?_) (λh2=>?_);rw[zp (zt h2)] at hC;refine gag ?_;refine oP (Pure.subW rfl rfl) rfl<|gab ?_;exact qac rfl (rC (zrt rfl) (zra rfl)) (resT hC (wsub hb));rw[zn (zf h2)] at hC;refine gas ?_;refine zoC rfl (λh3=>?_) (λh3=>?_);rw[zp (zt h3)] at hC;refine gag ?_;refine oP (Pure.mulW rfl rfl) rfl<|gab ?_;exact qac rfl (rC (zrt rfl) (zra rfl)) (resT hC (wmul a b));rw[zn (zf h3)] at hC;refine gas ?_;refine zoC rfl (λh4=>?_) (λh4=>?_);rw[zp (zt h4)] at hC;refine gag ?_;refine oP (Pure.xorW rfl rfl) rfl<|gab ?_;exact qac rfl (rC (zrt rfl) (zra rfl)) (resT hC (xor32 ha hb));rw[zn (zf h4)] at hC;refine gas ?_;refine zoC rfl (λh5=>?_) (λh5=>?_);rw[zp (zt h5)] at hC;refine gac ?_;refine zoC rfl (λh6=>?_) (λh6=>?_);have hlt:a<b:=by have:=zt h6;omega
 refine gac ?_;exact qac rfl (rC (zrt rfl) (zra rfl)) (by rw[hC,zp hlt];rfl);have hlt:¬ a<b:=by have:=zf h6;omega
 refine gac ?_;exact qac rfl (rC (zrt rfl) (zra rfl)) (by rw[hC,zn hlt];rfl);rw[zn (zf h5)] at hC;refine gas ?_;refine zcC [(0,int .u32 a),(1,str op),(2,int .u32 b),(34,bool (decide (op=[47]∨op=[37])))] ?_ (λj hj=>?_);refine zoC rfl (λh6=>?_) (λh6=>?_);refine gab ?_;exact⟨⟨rfl,rfl,rfl,qau (by simp[zt h6]),trivial⟩,rfl,rfl⟩;refine gas ?_;exact⟨⟨rfl,rfl,rfl,qau (by simp[zf h6]),trivial⟩,rfl,rfl⟩;refine zoC rfl (λh6=>?_) (λh6=>?_);have h6':op=[47]∨op=[37]:=zt h6;refine gac ?_;refine zoC rfl (λh7=>?_) (λh7=>?_);have hb0:b=0:=by have:=zt h7;omega
 have hCn:qd7 a op b=none:=by
  rw[hC];rcases h6' with h|h;rw[zp h,zp hb0];rw[zn (by rw[h];decide),zp h,zp hb0]
 refine gac ?_;exact qac hj (rC (zrt rfl) (zra rfl)) (by rw[hCn];rfl);have hb0:¬ b=0:=by have:=zf h7;omega
 refine gac ?_;refine zoC rfl (λh8=>?_) (λh8=>?_);rw[zp (zt h8),zn hb0] at hC;have hle:a / b<=a:=Nat.div_le_self _ _
 have e1:IntKind.u32.wrap ((a:Int).tdiv (b:Int))=((a / b:Nat):Int):=by
  rw[Int.tdiv_eq_ediv_of_nonneg zo,<-Int.natCast_ediv];exact qnU ⟨Int.natCast_nonneg _,Int.ofNat_le.2 (show a / b<=4294967295 by omega)⟩
 refine gag ?_;refine oP (Pure.quoW rfl rfl zo) rfl<|gab ?_;exact qac hj (rC (zrt rfl) (zra rfl)) (resT hC e1)
 have h9:op=[37]:=by
  rcases h6' with h|h;exact absurd h (zf h8);exact h
 rw[zn (zf h8),zp h9,zn hb0] at hC
 have e1:(a:Int).tmod (b:Int)=((a % b:Nat):Int):=by
  rw[Int.tmod_eq_emod_of_nonneg zo,<-Int.natCast_emod]
 refine gac ?_;refine oP (Pure.remW rfl rfl zo) rfl<|gab ?_;exact qac hj (rC (zrt rfl) (zra rfl)) (resT hC e1);have h6':¬ (op=[47]∨op=[37]):=zf h6
 have hCn:qd7 a op b=none:=by
  rw[hC,zn (λh=>h6' (.inl h)),zn (λh=>h6' (.inr h))]
 refine gac ?_;exact qac hj (rC (zrt rfl) (zra rfl)) (by rw[hCn];rfl)
theorem qjc(hG:GW B0 w0)(x op y:Wd)(hx:x.length<=1000000)(hy:y.length<=1000000):LCalls (KC B0 w0) 184 [str x,str op,str y] [] (qgY (qbt (qa2 x op y))):=by
 have n1:=qdf hG x zo;have n2:=qdf hG y zo
 have hJ:qa2 x op y=match numW x,numW y with
  |some a,some b=>match qd7 a op b with
   |some c=>if (Go.Lib.decDigits c).length<=x.length+y.length+1 then some (Go.Lib.decDigits c) else none
   |none=>none
  |_,_=>none:=rfl
 have ha:(numW x).getD 0<4294967296:=by
  cases h:numW x with
  |none=>decide
  |some u=>exact qjh h
 have hb:(numW y).getD 0<4294967296:=by
  cases h:numW y with
  |none=>decide
  |some u=>exact qjh h
 have n3:=qmk (B0:=B0) (w0:=w0) _ _ op ha hb
 have hc:(qd7 ((numW x).getD 0) op ((numW y).getD 0)).getD 0<4294967296:=by
  cases h:qd7 ((numW x).getD 0) op ((numW y).getD 0) with
  |none=>decide
  |some u=>exact qkg ha hb h
 have hdl:=qhX hc;refine zcI Tryz.func184 rfl (n:=54) rfl rfl rfl ?_;refine gao ?_;refine oS (sF [_] rfl n1 ?_) rfl;refine gac ?_;refine oS (sF [_] rfl n2 ?_) rfl;refine gac ?_;refine oS (sF [_,_,_] rfl n3 ?_) rfl;refine gaa ?_;refine oS (sF [_,_] (show _=[int .u64 (IntKind.u64.wrap (((qd7 ((numW x).getD 0) op ((numW y).getD 0)).getD 0:Nat):Int)),int .i64 10] from rfl) (by rw[qvQ zo];exact fmtUint_spec hG _ zo) ?_) rfl;refine gao ?_;refine zoB 37 rfl (λh1=>?_) (λh1=>?_);obtain⟨a,ha2⟩:=Option.isSome_iff_exists.1 h1;refine gab ?_;refine zoB 40 rfl (λh2=>?_) (λh2=>?_);obtain⟨b,hb2⟩:=Option.isSome_iff_exists.1 h2;rw[ha2,hb2] at hJ;rw[ha2,hb2];simp only at hJ;simp only[getD_some];refine gab ?_;refine zoB 43 rfl (λh3=>?_) (λh3=>?_);obtain⟨c,hc2⟩:=Option.isSome_iff_exists.1 h3;rw[ha2,hb2] at hdl;simp only[getD_some] at hdl;rw[hc2] at hJ hdl;rw[hc2];simp only[getD_some] at hJ hdl ⊢;refine gad ?_
 exact qcl rfl (rC (zrt rfl) (zra rfl)) (qbt.mk (by
  rw[hJ]
  by_cases hle:(Go.Lib.decDigits c).length<=x.length+y.length+1
  rw[zp hle,decide_eq_true zo];rfl;rw[zn hle,decide_eq_false zo];rfl) (by
  intro l' h';rw[hJ] at h';split at h';injection h'
  cases h'))
 have hn:qd7 a op b=none:=by
  cases h4:qd7 a op b with
  |none=>rfl
  |some l=>rw[h4] at h3;cases h3
 rw[hn] at hJ;refine gab ?_
 exact qcl rfl (rC (zrt rfl) (zra rfl)) (qbt.mk (by rw[hJ];rfl) (by
  intro l' h';rw[hJ] at h'
  cases h'))
 have hn:numW y=none:=by
  cases h3:numW y with
  |none=>rfl
  |some l=>rw[h3] at h2;cases h2
 rw[ha2,hn] at hJ;refine gab ?_
 exact qcl rfl (rC (zrt rfl) (zra rfl)) (qbt.mk (by rw[hJ];rfl) (by
  intro l' h';rw[hJ] at h'
  cases h'))
 have hn:numW x=none:=by
  cases h3:numW x with
  |none=>rfl
  |some l=>rw[h3] at h1;cases h1
 rw[hn] at hJ;refine gab ?_
 exact qcl rfl (rC (zrt rfl) (zra rfl)) (qbt.mk (by rw[hJ];rfl) (by
  intro l' h';rw[hJ] at h'
  cases h'))
end
def qht(r:qeZ):LV:=.tuple [int .i64 r.1,.list (r.2.map str)]
section
variable{B0:Nat}{w0:World}
theorem qrQ(hG:GW B0 w0)(v:List Wd)(m:Nat)(hv:Small v):LCalls (KC B0 w0) 145 [qb3 v m] [] (Ret (qht (qhE v))):=by
 have k0:=qaQ (B0:=B0) (w0:=w0) v m 0 (by have:=hv.1;omega);have k1:=qaQ (B0:=B0) (w0:=w0) v m 1 (by have:=hv.1;omega);have k2:=qaQ (B0:=B0) (w0:=w0) v m 2 (by have:=hv.1;omega);have kj:=qjc hG (wdAt v 0) (wdAt v 2) (wdAt v 1) (hv.at 0) (hv.at 1)
 have hF:qhE v=match qa2 (wdAt v 0) (wdAt v 2) (wdAt v 1) with
  |some s=>(3,[s])
  |none=>(0,[]):=rfl
 unfold qb3 at k0 k1 k2 ⊢;generalize qa2 (wdAt v 0) (wdAt v 2) (wdAt v 1)=o at kj hF;refine zcI Tryz.func145 rfl (n:=19) rfl rfl rfl ?_;refine gah ?_;refine oS (zsB (cs:=[.list (v.map str),.atom (.map (some m))]) rfl λb1=>?_) rfl;refine gab ?_;refine cD (m:=12) rfl [(b1,.cells 179 [.list (v.map str),.atom (.map (some m))])]<|aT 0 rfl rfl (pG (cs':=[_,_]) rfl zm0 rfl rfl)<|aT 2 rfl rfl (pG (cs':=[_,_]) rfl zm0 rfl rfl)<|aT 4 rfl rfl (pG (cs':=[_,_]) rfl zm0 rfl rfl)<|zQ46 ?_;refine lO 3 (lS (H1:=[]) rfl (.inl rfl) rfl zpr zhr (sF [_,_] rfl k2 ?_));refine lO 5 (lS (H1:=[]) rfl (.inl rfl) rfl zpr zhr (sF [_,_] rfl k1 ?_));refine lO 6 (lS (H1:=[]) rfl (.inl rfl) rfl zpr zhr (S.fnIf [_,_,_] rfl kj ?_));rintro lv ⟨s,rfl,hs⟩;refine qaI.any [(b1,.cells 179 [.list (v.map str),.atom (.map (some m))])] (λ_ h=>h) ?_;refine aT 7 rfl rfl (pM (lv:=.tuple _) rfl)<|aT 8 rfl rfl (Pure.extract (c:=.atom _) rfl rfl)<|aT 9 rfl rfl (Pure.extract (c:=.atom _) rfl rfl)<|aT 10 rfl rfl (pA (lv:=.atom _) rfl)<|aT 11 rfl rfl (pA (lv:=.atom _) rfl)<|zQ47 ?_;refine gam ?_;refine zoC rfl (λh=>?_) (λh=>?_);obtain⟨l,rfl⟩:=Option.isSome_iff_exists.1 h;obtain rfl:=hs l rfl;refine gag ?_;refine zQ0 ?_;refine gad ?_;exact qac rfl (rC (zrt rfl) (rC (rT (v:=.list _) rfl zsr) rN)) (by rw[hF];rfl)
 obtain rfl:o=none:=by
  cases o with
  |none=>rfl
  |some l=>cases h
 refine gac ?_;exact qac rfl (rC (zrt rfl) (rC (rT (v:=qab) rfl vN) rN)) (by rw[hF];rfl)
theorem qqU(hG:GW B0 w0)(v:List Wd)(m:Nat)(hv:Small v):LCalls (KC B0 w0) 150 [qb3 v m] [] (Ret (qht (qeV v))):=by
 have k0:=qaQ (B0:=B0) (w0:=w0) v m 0 (by have:=hv.1;omega);have kn:=qdf hG (wdAt v 0) (by have:=hv.at 0;omega);have kj:=qhm (B0:=B0) (w0:=w0) v m 1 hv zo
 have hF:qeV v=match numW (wdAt v 0) with
  |some n=>if n≠0/\(qdd v 1).isSome=true then (3,[]) else (0,[])
  |none=>(0,[]):=rfl
 unfold qb3 at k0 kj ⊢;generalize numW (wdAt v 0)=on at kn hF;generalize qdd v 1=oj at kj hF;refine zcI Tryz.func150 rfl (n:=27) rfl rfl rfl ?_;refine gah ?_;refine oS (zsB (cs:=[.list (v.map str),.atom (.map (some m))]) rfl λb1=>?_) rfl;refine gaa ?_;refine oS (sF [_,_] rfl k0<|oS (sF [_] rfl kn ?_) rfl) rfl;refine gaa ?_;refine oS (S.fnIf [_,_] rfl kj ?_) rfl;rintro lv ⟨s,rfl,hs⟩;refine gac ?_;refine zoB 20 rfl (λh1=>?_) (λh1=>?_);rw[h1] at hF
 cases on with
 |none=>
  refine gab ?_;refine zoC rfl (λh=>?_) (λh=>?_);cases h
  exact zT29
 |some n=>
  refine gad ?_;refine zoC rfl (λh=>?_) (λh=>?_)
  have hn:n≠0:=by
   intro h0;subst h0;exact absurd h zDd
  simp only[hn,ne_eq,not_false_eq_true,and_self,if_true] at hF;refine gap ?_;exact qac rfl (rC (zrt rfl) (rC (rT (v:=qab) rfl vN) rN)) (by rw[hF];rfl)
  have hn:n=0:=by
   have h0:¬ ¬ ((n:Int)=0):=by simpa using h
   omega
  subst hn;refine gac ?_;exact qac rfl (rC (zrt rfl) (rC (rT (v:=qab) rfl vN) rN)) (by rw[hF];rfl)
 rw[h1] at hF;refine gab ?_;refine zoC rfl (λh=>?_) (λh=>?_);cases h;refine gac ?_
 exact qac rfl (rC (zrt rfl) (rC (rT (v:=qab) rfl vN) rN)) (by
  rw[hF]
  cases on <;> simp <;> rfl)
theorem qog(v:List Wd)(m:Nat)(hv:Small v){es:Array MapEntry}{clock:Nat}{p:List UInt8->Bool}(hs:SetMap es p):LCalls (KC B0 w0) 153 [qb3 v m] [(m,.obj (.map es clock))] (λr H=>r=.ret (qht (qcB p v))/\H=[(m,.obj (.map es clock))]):=by
 have k0:=qaQ (B0:=B0) (w0:=w0) v m 0 (by have:=hv.1;omega);have kd:=qed (B0:=B0) (w0:=w0) (wdAt v 0) (by have:=hv.at 0;omega)
 have hF:qcB p v=match defW (wdAt v 0) with
  |some l=>if p l=true then (0,[]) else (1,[])
  |none=>(0,[]):=rfl
 unfold qb3 at k0 ⊢;generalize defW (wdAt v 0)=o at kd hF;refine zcI Tryz.func153 rfl (n:=20) rfl rfl rfl ?_;refine gah ?_;refine oS (zsB (cs:=[.list (v.map str),.atom (.map (some m))]) rfl λb1=>?_) rfl;refine gaa ?_;refine oS (sF [_,_] rfl k0<|oS (S.fnIf [_] rfl kd ?_) rfl) rfl;rintro lv ⟨s,rfl,hs2⟩;refine gac ?_;refine zoB 13 rfl (λh1=>?_) (λh1=>?_);obtain⟨l,rfl⟩:=Option.isSome_iff_exists.1 h1;obtain rfl:=hs2 l rfl;simp only at hF;refine gab ?_;refine oP (Pure.setGet (t:=123) (kt:=9) (el:=4) zk zk (λw=>(Go.zero_of_info (P:=Tryz.prog) (n:=1) zk).1 w) rfl rfl zm1 hs) rfl<|gad ?_;refine zoC rfl (λh=>?_) (λh=>?_);have hp:p s=false:=by simpa using h
 refine gap ?_;exact rR rfl (rC (zrt rfl) (rC (rT (v:=qab) rfl vN) rN)) (zhD zhr) ⟨by rw[hF,hp];rfl,rfl⟩;have hp:p s=true:=by simpa using h
 refine gac ?_;exact rR rfl (rC (zrt rfl) (rC (rT (v:=qab) rfl vN) rN)) (zhD zhr) ⟨by rw[hF,hp];rfl,rfl⟩
 obtain rfl:o=none:=by
  cases o with
  |none=>rfl
  |some l=>cases h1
 refine gab ?_;refine zoC rfl (λh=>?_) (λh=>?_);cases h;refine gac ?_;exact rR rfl (rC (zrt rfl) (rC (rT (v:=qab) rfl vN) rN)) (zhD zhr) ⟨by rw[hF];rfl,rfl⟩
end
def isW(v:List Wd):Nat->List Wd->Bool
 |_,[]=>true
 |i,w::r=>decide (wdAt v i=w) && isW v (i+1) r
section
variable{B0:Nat}{w0:World}
theorem qcp(v:List Wd)(m i:Nat)(ws:List Wd)(hv:Small v)(hi:i<=1000)(hw:ws.length<=1000):LCalls (KC B0 w0) 187 [qb3 v m,int .i64 i,.list (ws.map str)] [] (Ret (bool (isW v i ws))):=by
 have hla:(ws.map str).length=ws.length:=zLm _;have kw:∀ k,LCalls (KC B0 w0) 185 [qb3 v m,int .i64 (k:Nat)] [] (Ret (str (wdAt v k))):=λk=>qaQ v m k (by have:=hv.1;omega);unfold qb3 at kw ⊢;refine zcI Tryz.func187 rfl (n:=24) rfl rfl rfl ?_;refine gah ?_;refine oS (zsB (cs:=[.list (v.map str),.atom (.map (some m))]) rfl λb3=>?_) rfl;refine gaa ?_
 refine zoL (λk ls H=>∃ j,j<=ws.length/\k=ws.length-j/\ls=[(1,int .i64 i),(3,ptr b3 0),(9,.list (ws.map str)),(10,int .i64 ws.length),(11,int .i64 j)]/\H=[(b3,.cells 179 [.list (v.map str),.atom (.map (some m))])]/\isW v i ws=isW v (i+j) (ws.drop j))
  ⟨_,_,_,⟨0,zero_le _,rfl,rfl,rfl,rfl⟩,⟨rfl,rfl,rfl,qap zo,rfl,trivial⟩,zhR _⟩ ?_
 rintro k ls H ⟨j,hj,rfl,rfl,rfl,hE⟩ j1 hj1;refine gai ?_;refine zoC rfl (λhc=>?_) (λhc=>?_);have hlt:j<ws.length:=by have:=zt hc;omega
 rw[drop_eq_getElem_cons hlt,isW] at hE;have k1:=kw (i+j);have e1:int .i64 ((i+j:Nat):Int)=int .i64 ((i:Int)+j):=qap zo;rw[e1] at k1;refine gac ?_;refine oP (xR (el':=str ws[j]) (cs:=[str ws[j]]) rfl rfl zo (qbj _ _ _ hlt) rfl rfl) rfl<|gaa ?_;refine oS (sF [_,_] rfl k1 ?_) rfl;refine gad ?_;refine zoC rfl (λh=>?_) (λh=>?_);have hne:¬ wdAt v (i+j)=ws[j]:=by simpa using h
 rw[decide_eq_false hne,Bool.false_and] at hE;refine gac ?_;exact qac hj1 (zra rfl) (qau hE.symm);have he:wdAt v (i+j)=ws[j]:=by simpa using h
 rw[decide_eq_true he,Bool.true_and] at hE;refine gac ?_;exact⟨_,_,_,by omega,⟨j+1,by omega,rfl,rfl,rfl,by rw[hE,Nat.add_assoc]⟩,⟨rfl,rfl,rfl,rfl,qap zo,trivial⟩,zhR _,hj1⟩;have hj':j=ws.length:=by have:=zf hc;omega
 subst hj';rw[drop_length,isW] at hE;refine gac ?_;exact qac hj1 (zra rfl) (qau hE.symm)
theorem qmO(v:List Wd)(m:Nat)(hv:Small v):LCalls (KC B0 w0) 146 [qb3 v m] [] (Ret (qht (qcV v))):=by
 have k0:=qaQ (B0:=B0) (w0:=w0) v m 0 (by have:=hv.1;omega);have k1:=qaQ (B0:=B0) (w0:=w0) v m 1 (by have:=hv.1;omega);have hF:qcV v=if wdAt v 0=[48]/\(wdAt v 1=[43]∨wdAt v 1=[45]∨wdAt v 1=[94])∨wdAt v 0=[49]/\(wdAt v 1=[42]∨wdAt v 1=[47]) then (2,[]) else (0,[]):=rfl
 unfold qb3 at k0 k1 ⊢;generalize wdAt v 0=a at k0 hF;generalize wdAt v 1=b at k1 hF;refine zcI Tryz.func146 rfl (n:=36) rfl rfl rfl ?_;refine gah ?_;refine oS (zsB (cs:=[.list (v.map str),.atom (.map (some m))]) rfl λb1=>?_) rfl;refine gab ?_;refine cD (m:=6) rfl [(b1,.cells 179 [.list (v.map str),.atom (.map (some m))])]<|aT 0 rfl rfl (pG (cs':=[_,_]) rfl zm0 rfl rfl)<|aT 2 rfl rfl (pG (cs':=[_,_]) rfl zm0 rfl rfl)<|zQ46 ?_;refine lO 3 (lS (H1:=[]) rfl (.inl rfl) rfl zpr zhr (sF [_,_] rfl k1 ?_));refine qaI.any [(b1,.cells 179 [.list (v.map str),.atom (.map (some m))])] (λ_ h=>h) ?_;refine aT 4 rfl rfl (pA (lv:=.atom _) rfl)<|aT 5 rfl rfl (pA (lv:=.atom _) rfl)<|zQ47 ?_;refine gac ?_;refine LOps.cut [(1,ptr b1 0),(35,bool (decide (a=[48]/\(b=[43]∨b=[45]∨b=[94])∨a=[49]/\(b=[42]∨b=[47]))))] ?_ (λj hj=>?_);refine zoB 12 rfl (λh1=>?_) (λh1=>?_);have e1:a=[48]:=zt h1;have n1:¬ a=[49]:=by rw[e1];decide
 refine gab ?_;refine zoB 15 rfl (λh2=>?_) (λh2=>?_);have e2:b=[43]:=zt h2;refine gad ?_;exact⟨⟨rfl,qau (by simp[e1,e2]),trivial⟩,rfl,rfl⟩;have e2:¬ b=[43]:=zf h2;refine gab ?_;refine zoB 19 rfl (λh3=>?_) (λh3=>?_);have e3:b=[45]:=zt h3;refine gad ?_;exact⟨⟨rfl,qau (by simp[e1,e3]),trivial⟩,rfl,rfl⟩;have e3:¬ b=[45]:=zf h3;refine gab ?_;refine zoB 24 rfl (λh4=>?_) (λh4=>?_);have e4:b=[94]:=zt h4;refine gad ?_;exact⟨⟨rfl,qau (by simp[e1,e4]),trivial⟩,rfl,rfl⟩;have e4:¬ b=[94]:=zf h4;refine gab ?_;refine zoB 27 rfl (λh5=>absurd (zt h5) n1) (λh5=>?_);refine gad ?_;exact⟨⟨rfl,qau (by simp[e2,e3,e4,n1]),trivial⟩,rfl,rfl⟩;have e1:¬ a=[48]:=zf h1;refine gad ?_;refine zoB 27 rfl (λh2=>?_) (λh2=>?_);have e2:a=[49]:=zt h2;refine gab ?_;refine zoB 30 rfl (λh3=>?_) (λh3=>?_);have e3:b=[42]:=zt h3;refine gab ?_;exact⟨⟨rfl,qau (by simp[e2,e3]),trivial⟩,rfl,rfl⟩;have e3:¬ b=[42]:=zf h3;refine gab ?_;exact⟨⟨rfl,qau (by simp[e2,e3]),trivial⟩,rfl,rfl⟩;have e2:¬ a=[49]:=zf h2;refine gad ?_;exact⟨⟨rfl,qau (by simp[e1,e2]),trivial⟩,rfl,rfl⟩;refine zoC rfl (λh=>?_) (λh=>?_);rw[zp (zt h)] at hF;refine gap ?_;exact qac hj (rC (zrt rfl) (rC (rT (v:=qab) rfl vN) rN)) (by rw[hF];rfl);rw[zn (zf h)] at hF;refine gac ?_;exact qac hj (rC (zrt rfl) (rC (rT (v:=qab) rfl vN) rN)) (by rw[hF];rfl)
end
theorem qqB(l:Wd)(v:List Wd)(i:Nat):qf0 l (v.drop i)=match defW (wdAt v i) with
  |some d=>decide (d=l) || qf0 l (v.drop (i+1))
  |none=>false:=by
 by_cases h:i<v.length
 ·have e:wdAt v i=v[i]:=by unfold wdAt;rw[List.getElem?_eq_getElem h];rfl
  rw[drop_eq_getElem_cons h,qf0,e]
  first|done|(cases defW v[i] <;> rfl)
 have e:wdAt v i=[]:=by unfold wdAt;rw[List.getElem?_eq_none zo];rfl
 rw[List.drop_eq_nil_of_le zo,e];rfl
theorem qwT{v:List Wd}{i:Nat}{d:Wd}(h:defW (wdAt v i)=some d):i<v.length:=by
 by_cases hl:i<v.length
 exact hl;have e:wdAt v i=[]:=by unfold wdAt;rw[List.getElem?_eq_none zo];rfl
 rw[e] at h;cases h
section
variable{B0:Nat}{w0:World}
theorem qs1(v:List Wd)(m:Nat)(hv:Small v):LCalls (KC B0 w0) 151 [qb3 v m] [] (Ret (qht (qhN v))):=by
 have k0:=qaQ (B0:=B0) (w0:=w0) v m 0 (by have:=hv.1;omega);have kj:=qhm (B0:=B0) (w0:=w0) v m 1 hv zo;have kw:∀ k,LCalls (KC B0 w0) 185 [qb3 v m,int .i64 (k:Nat)] [] (Ret (str (wdAt v k))):=λk=>qaQ v m k (by have:=hv.1;omega);have kd:∀ k,LCalls (KC B0 w0) 189 [str (wdAt v k)] [] (qgY (qbt (defW (wdAt v k)))):=λk=>qed (wdAt v k) (by have:=hv.at k;omega)
 have hF:qhN v=match qdd v 1 with
  |some l=>if wdAt v 0=[48]/\qf0 l (v.drop 3)=true then (3,[]) else (0,[])
  |none=>(0,[]):=rfl
 unfold qb3 at k0 kj kw ⊢;generalize qdd v 1=oj at kj hF;generalize wdAt v 0=a at k0 hF;refine zcI Tryz.func151 rfl (n:=35) rfl rfl rfl ?_;refine gah ?_;refine oS (zsB (cs:=[.list (v.map str),.atom (.map (some m))]) rfl λb1=>?_) rfl;refine gaa ?_;refine oS (S.fnIf [_,_] rfl kj ?_) rfl;rintro lv ⟨s,rfl,hs⟩;refine gaa ?_;refine zoB 16 rfl (λh1=>?_) (λh1=>?_)
 obtain rfl:oj=none:=by
  cases oj with
  |none=>rfl
  |some l=>cases h1
 refine gab ?_;refine zoC rfl (λh=>?_) (λh=>?_);refine gap ?_;exact qac rfl (rC (zrt rfl) (rC (rT (v:=qab) rfl vN) rN)) (by rw[hF];rfl);cases h
 obtain⟨l,rfl⟩:∃ l,oj=some l:=by
  cases oj with
  |none=>cases h1
  |some l=>exact⟨l,rfl⟩
 obtain rfl:=hs l rfl;simp only at hF;refine gad ?_;refine oS (sF [_,_] rfl k0 ?_) rfl;refine gad ?_;refine zoC rfl (λh=>?_) (λh=>?_);have hne:¬ a=[48]:=by simpa using h
 rw[zn (λhc=>hne hc.1)] at hF;refine gap ?_;exact qac rfl (rC (zrt rfl) (rC (rT (v:=qab) rfl vN) rN)) (by rw[hF];rfl);have he:a=[48]:=by simpa using h
 subst he;simp only[true_and] at hF;refine gac ?_
 refine zoL (λk ls H=>∃ i,(i<=v.length∨i=3)/\k=v.length+4-i/\ls=[(1,ptr b1 0),(4,str s),(6,int .i64 (i:Nat))]/\H=[(b1,.cells 179 [.list (v.map str),.atom (.map (some m))])]/\qf0 s (v.drop 3)=qf0 s (v.drop i))
  ⟨_,_,_,⟨3,Or.inr rfl,rfl,rfl,rfl,rfl⟩,⟨rfl,rfl,rfl,trivial⟩,zhR _⟩ ?_
 rintro k ls H ⟨i,hi,rfl,rfl,rfl,hE⟩ j1 hj1;have hl:=hv.1;rw[qqB s v i] at hE;refine gaa ?_;refine oS (sF [_,_] rfl (kw i)<|oS (S.fnIf [_] rfl (kd i) ?_) rfl) rfl;rintro lv ⟨d,rfl,hd⟩;refine gaa ?_;refine zoC rfl (λh=>?_) (λh=>?_)
 have hn:defW (wdAt v i)=none:=by
  cases ho:defW (wdAt v i) with
  |none=>rfl
  |some l=>rw[ho] at h;cases h
 rw[hn] at hE;rw[hE] at hF;refine gac ?_;exact qac hj1 (rC (zrt rfl) (rC (rT (v:=qab) rfl vN) rN)) (by rw[hF];rfl)
 obtain⟨e,ho⟩:∃ e,defW (wdAt v i)=some e:=by
  cases ho:defW (wdAt v i) with
  |none=>rw[ho] at h;cases h
  |some l=>exact⟨l,rfl⟩
 have hlt:=qwT ho;obtain rfl:=hd e ho;rw[ho] at hE;simp only at hE;refine gac ?_;refine zoC rfl (λh2=>?_) (λh2=>?_);have he:d=s:=zt h2;rw[decide_eq_true he,Bool.true_or] at hE;rw[hE] at hF;refine gac ?_;exact qac hj1 (rC (zrt rfl) (rC (rT (v:=qab) rfl vN) rN)) (by rw[hF];rfl);have he:¬ d=s:=zf h2;rw[decide_eq_false he,Bool.false_or] at hE;refine gac ?_;exact⟨_,_,_,by omega,⟨i+1,Or.inl zo,rfl,rfl,rfl,hE⟩,⟨rfl,rfl,qap zo,trivial⟩,zhR _,hj1⟩
end
section
variable{B0:Nat}{w0:World}
theorem qta(hG:GW B0 w0)(v:List Wd)(m:Nat)(hv:Small v):LCalls (KC B0 w0) 148 [qb3 v m] [] (Ret (qht (qiE v))):=by
 have k0:=qaQ (B0:=B0) (w0:=w0) v m 0 (by have:=hv.1;omega);have kn:=qdf hG (wdAt v 0) (by have:=hv.at 0;omega);have ki:=qcp (B0:=B0) (w0:=w0) v m 1 [[64],wdAt v 0,[33]] hv zo (by simp only[zLc,zLn];omega)
 have hF:qiE v=if (numW (wdAt v 0)).isSome=true/\isW v 1 [[64],wdAt v 0,[33]]=true then (4,[]) else (0,[]):=by
  simp only[qiE,isW,zBa,zDe,and_true]
 unfold qb3 at k0 ki ⊢;generalize numW (wdAt v 0)=on at kn hF;generalize isW v 1 [[64],wdAt v 0,[33]]=q at ki hF;generalize wdAt v 0=a at k0 kn ki;refine zcI Tryz.func148 rfl (n:=20) rfl rfl rfl ?_;refine gah ?_;refine oS (zsB (cs:=[.list (v.map str),.atom (.map (some m))]) rfl λb1=>?_) rfl;refine gaa ?_;refine oS (sF [_,_] rfl k0<|oS (sF [_] rfl kn ?_) rfl) rfl;refine gab ?_
 cases on with
 |none=>
  refine zQ43 ?_;refine LAny.takeSkip (i:=2) rfl rfl rfl rfl zk zk zk rfl<|zQ28 ?_;refine aT 7 rfl rfl (Pure.pickF (lv:=.atom _) rfl rfl)<|zQ47 ?_;refine gaf ?_;refine zoC rfl (λh=>?_) (λh=>?_);cases h
  exact zT29
 |some n=>
  refine zQ43 ?_;refine LAny.tkW 2 rfl rfl rfl rfl (pG (cs':=[_,_]) rfl zm0 rfl rfl)<|LAny.tkW 3 rfl rfl rfl rfl (pG (cs':=[_,_]) rfl zm0 rfl rfl)<|aL ?_ zhr;refine lO 4 (lS (H1:=[]) rfl (.inr ⟨1,true,13,rfl,rfl,rfl⟩) rfl zpr zhr (sF [_,_] rfl k0 ?_));refine lO 5 (lS (H1:=[]) rfl (.inr ⟨1,true,13,rfl,rfl,rfl⟩) rfl zpr zhr ?_);refine sL [.const (.string { data:=#[64] }),.tmp 16,.const (.string { data:=#[33] })] rfl (eC rfl rfl (eC rfl rfl (eC rfl rfl eN))) rfl rfl rfl ?_;refine lO 6 (lS (H1:=[]) rfl (.inr ⟨1,true,13,rfl,rfl,rfl⟩) rfl zpr zhr (sF [_,_,_] rfl ki ?_));refine qaI.any [(b1,.cells 179 [.list (v.map str),.atom (.map (some m))])] (λ_ h=>h) ?_;refine aT 7 rfl rfl (Pure.pickT (lv:=.atom _) rfl rfl)<|zQ47 ?_;refine gaf ?_;refine zoC rfl (λh=>?_) (λh=>?_);have hq:q=true:=h;subst hq;refine gap ?_;exact qac rfl (rC (zrt rfl) (rC (rT (v:=qab) rfl vN) rN)) (by rw[hF];rfl);have hq:q=false:=h;subst hq;refine gac ?_;exact qac rfl (rC (zrt rfl) (rC (rT (v:=qab) rfl vN) rN)) (by rw[hF];rfl)
end
end Go.Proofs.YtkihibnffkpnkaaGreatDoor.Pp
