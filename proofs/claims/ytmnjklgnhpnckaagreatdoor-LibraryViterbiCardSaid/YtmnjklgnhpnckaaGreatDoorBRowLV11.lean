import Derived.Lib.SplitLaws
import Derived.Shelf.Strings.SlTrimAscii
import Derived.Test.YtmnjklgnhpnckaaGreatDoorBRowLV10
set_option linter.unusedVariables false
set_option linter.unusedSimpArgs false
set_option maxRecDepth 100000
set_option maxHeartbeats 4000000
open Go.GL (zk)
open List (map_map all_reverse take_length getElem_mem drop_length drop_eq_getElem_cons foldl_cons)
open Nat (zero_le)
open Option (getD_some)
namespace Go.Proofs.YtmnjklgnhpnckaaGreatDoor.sj
open Go.GL Go.RowKit Go.ia
variable{A B:Heap}{Cb Ua:List Sm}{index value:List Ex}{name:List UInt8}
theorem qqY{x y:Nat×ma}:List.Perm (x::y::(A++B)) (A++(x::y::B)):=by have h:List.Perm (([x,y]++A)++B) ((A++[x,y])++B):=gi.append_right B;rw[Sc A] at h;exact h
theorem uZ{x:Nat×ma}:List.Perm (x::(A++B)) (A++(x::B)):=by have h:List.Perm (([x]++A)++B) ((A++[x])++B):=gi.append_right B;rw[Sc A] at h;exact h
theorem qyY{x y:Nat×ma}:List.Perm (A++(x::y::B)) (B++(x::y::A)):=by refine qqY.symm.trans ?_;exact(gi (l₁:=x::y::A) (l₂:=B))
theorem qzo(n:Nat):∀ v∈[iv n],v.cells.length=1:=λv hv=>by rw[Vi hv];rfl
theorem CZ(c:Bb):∀ l:List Ex,(oh c l).length=l.length
 |[]=>rfl
 |x::l=>by rw[oh,La,La,CZ c l]
theorem qlv(c:Bb)(x:Ex):∀ l:List Ex,oh c (l++[x])=oh c l++[Kf c x]
 |[]=>rfl
 |y::l=>by show oh c (y::(l++[x]))=_;rw[oh,qlv c x l,oh];rfl
theorem qn9(c:Bb)(x:Ex):∀ l:List Ex,Ai c (l++[x])=max (Ai c l) (nj c x)
 |[]=>by show max (nj c x) 0=max 0 (nj c x);omega
 |y::l=>by show Ai c (y::(l++[x]))=_;rw[Ai,qn9 c x l,Ai,Nat.max_assoc]
theorem qlf{c:Bb}{B D:Nat}(hB:pt B D c.funcs):∀ {l:List Ex} {n:Nat},n∈oh c l->n<=4 * Sb l+B
 |[],n,h=>by rw[oh] at h;cases h
 |x::l,n,h=>by rw[oh] at h;rw[Sb];rcases zc.1 h with rfl|h;have:=NM B D c hB x;omega;have:=qlf hB h;omega
attribute [local irreducible] Ea fb Ya ca Go.GL.Pure ve Oe Kd LQ yb nh db LS
variable{B0:Nat}{w0:World}
def L7(B0:Nat)(w0:World)(k:KB)(c:Bb)(n:Nat):Prop:=∀ (x:Ex) (d:Nat),xl x<=n->d<=200000000->ca (KC B0 w0) 229 [ptr k.cb 0,Ab x] (Xf k d) (Gy (yf c x) (iv (Kf c x)) (Xf k (max d (nj c x))))
theorem SJ{k:KB}{c:Bb}(hk:Pz k c){B D:Nat}(hB:pt B D c.funcs)(tL:B<=100000000)(ZC:D<=100000000):∀ n:Nat,n<=2000000->L7 B0 w0 k c n
 |0,_=>λx d h _=>by have:=pU x;omega
 |n+1,hn6=>by
  have ih:=SJ hk hB tL ZC n zo;intro x d rh hd;obtain⟨op,num,name,args⟩:=x;rw[xl] at rh;have uu:=MM args;have Bg:(args.map Ab).length=args.length:=Db _;generalize hI:yf c (Ex.mk op num name args)=E;rw[yf] at hI;rw[Kf,nj];rw[uB];refine kb Tryz.func229 rfl (n:=121) rfl rfl rfl ?_;refine qe ?_;refine oS (sB rfl λb3=>?_);refine xa ?_;refine oS (sF [_] rfl (qme op) ?_);refine Da ?_;refine cM (A:=Unit) (λ_=>[(0,ptr k.cb 0),(3,ptr b3 0)]) (λ_=>(b3,.cells 220 [str op,int .u32 (num:Int),str name,.list (args.map Ab)])::Xf k d) (λ_=>fg op = -1∨fg op=args.length) ?_ λ_ Xc j hj=>?_;refine cD (m:=14) rfl [(b3,.cells 220 [str op,int .u32 (num:Int),str name,.list (args.map Ab)]),(k.cb,.cells 115 [.atom (.map (some k.gm)),.atom (.map (some k.vm)),.atom (.map (some k.am)),.atom (.map (some k.fm)),str k.name,.atom (.map (some k.om)),int .i64 (d:Int)])]<|aT 0 rfl rfl (pM (lv:=.atom _) rfl) ?_
  by_cases h1:fg op = -1;refine yb.take (i:=1) (tc pH qd) rfl zk zk zk rfl (Pure.CS h1 rfl rfl)<|mv ?_;refine yO ?_;refine yb.mi (i:=7) rfl rfl rfl rfl zk zk zk rfl<|aT 8 rfl rfl (Pure.cp (lv:=.atom _) rfl rfl)<|kJ ?_;refine lO 13 (lS (H1:=[]) rfl (.inl rfl) rfl mc (tc pH qd) (Ya.Nl [_,_,_] rfl (Jg true k.name 3 fa) (λ_=>?_) λnm h=>absurd rfl h));refine fq ?_;exact⟨(),.inl h1,lb,Kb _,rfl⟩;refine yb.take (i:=1) (tc pH qd) rfl zk zk zk rfl (Pure.DS h1 rfl rfl)<|mv ?_;refine yb.qo 3 rfl rfl rfl rfl (pM (lv:=.atom _) rfl)<|yb.qo 4 rfl rfl rfl rfl (pF rfl)<|yb.qo 5 rfl rfl rfl rfl (pL (c:=.list _) rfl nc rfl)<|yb.qo 6 rfl rfl rfl rfl (Pure.kp rfl) ?_
  by_cases h2:fg op=args.length;refine yb.Po (i:=7) (tc pH qd) rfl rfl rfl zk zk zk rfl (Pure.CS (show fg op=((args.map Ab).length:Int) by rw[Bg];exact h2) rfl rfl)<|aT 8 rfl rfl (Pure.vl (lv:=.atom _) rfl rfl)<|kJ ?_;refine lO 13 (lS (H1:=[]) rfl (.inl rfl) rfl mc (tc pH qd) (Ya.Nl [_,_,_] rfl (Jg true k.name 3 fa) (λ_=>?_) λnm h=>absurd rfl h));refine fq ?_;exact⟨(),.inr h2,lb,Kb _,rfl⟩;refine yb.Po (i:=7) (tc pH qd) rfl rfl rfl zk zk zk rfl (Pure.DS (show ¬ fg op=((args.map Ab).length:Int) by rw[Bg];exact h2) rfl rfl)<|aT 8 rfl rfl (Pure.vl (lv:=.atom _) rfl rfl)<|kJ ?_;refine lO 13 (lS (H1:=[]) rfl (.inl rfl) rfl mc (tc pH qd) (Ya.Nl [_,_,_] rfl (Jg false k.name 3 fa) (λh=>absurd h fa) λnm _ e' Ka=>?_));refine Ei ?_;exact Tf (Ka.trans rfl) (by rw[<-hI,zn (λh=>h.elim h1 h2)];rfl) fa;rw[zp Xc] at hI;refine wa ?_
  refine oL (λkk ls H'=>∃ (pre l1:List Ex) (v:LV) (Ha:Heap),args=pre++l1/\kk=l1.length/\ls=[(0,ptr k.cb 0),(3,ptr b3 0),(6,v),(29,.list (args.map Ab)),(30,int .i64 ((args.map Ab).length:Int)),(31,int .i64 (pre.length:Int))] /\
    H'=(b3,.cells 220 [str op,int .u32 (num:Int),str name,.list (args.map Ab)])::(Xf k (max d (Ai c pre))++Ha)/\GL.Acc 1 v ((oh c pre).map iv) Ha []/\Ii (ig c l1) (Ay c op name args.length)=E)
   ⟨args.length,_,_,⟨[],args,Yb,[],rfl,rfl,rfl,rfl,Acc.nil,hI⟩,lb,⟨[],by
    rw[de,de,Ai,Nat.max_zero]⟩⟩ ?_
  rintro kk ls H' ⟨pre,l1,v,Ha,Xb,rfl,rfl,rfl,Ra,BG⟩ j2 wc;have Kl:pre.length<=2000000:=by have:=congrArg List.length Xb;rw[Ga] at this;omega
  have hdp:max d (Ai c pre)<=200000000:=by have:=eQ B D c hB pre;omega
  refine Zg ?_;refine Ma (λhc=>?_) λhc=>?_;have na:=zt hc;rw[Db,Xb,Ga] at na
  obtain⟨a,l2,rfl⟩:∃ a l2,l1=a::l2:=by
   cases l1 with
   |nil=>simp at na
   |cons a l2=>exact⟨a,l2,rfl⟩
  have UC:xl a<=Sb args:=NY (by rw[Xb];exact List.mem_append_right _ We);rw[ig] at BG;refine Ti ?_;refine la (xR (ke:=Ab a) (cs:=[_,_,_,_]) rfl rfl zo (by rw[Xb];exact Td Ab pre a l2) rfl rfl)<|Na ?_;refine oS (Jd λb8=>?_);refine wa ?_;refine Xi ?_;refine Na ?_;refine oS (sK [_,_] rfl qqY (ih a _ zo hdp) (λh0=>?_) λnm h0 e' Ka=>?_);rw[h0] at BG;refine oS (sL (es:=[iv (Kf c a)]) [_] rfl (gd rfl rfl Ch) rfl rfl rfl<|oS (sG qyY rfl Ra rfl (qzo _) rfl (by rw[Db,CZ,La,oc];omega) λv' Ha' ab=>?_));refine rm ?_;refine Zk ?_
  exact⟨l2.length,_,_,Nat.lt_succ_self _,⟨pre++[a],l2,v',Ha',by rw[Xb];simp,rfl,rfl,rfl,by rw[qlv,Je];exact ab,by rw[<-BG];rfl⟩,⟨rfl,rfl,rfl,rfl,rfl,Kg (by simp),trivial⟩,by
   rw[qn9,<-Nat.max_assoc];exact Pg ob,wc⟩
  refine Qd ?_;exact Tf ((Ka.trans wc).trans hj) (by rw[<-BG];unfold Ii;rw[zp h0,zp h0]) h0;have na:=zf hc;rw[Db,Xb,Ga] at na;obtain rfl:l1=[]:=by
   cases l1 with
   |nil=>rfl
   |cons a l2=>simp at na;omega
  rw[de] at Xb;subst Xb;have lL:Ay c op name args.length=E:=by rw[<-BG];rfl
  have Cs:j2.ds=[]:=wc.trans hj;generalize Rq:max d (Ai c args)=d1 at hdp ⊢;have MC:max d (max (Ai c args) (Mu c op name))=max d1 (Mu c op name):=by rw[<-Rq,Nat.max_assoc]
  rw[MC];generalize NK:oh c args=ns at Ra ⊢;have Nq:ns.length=args.length:=by rw[<-NK,CZ]
  have PK:∀ m∈ns,m<=1000000000:=λm hm=>by rw[<-NK] at hm;have:=qlf hB hm;omega
  have Mm:=Ra.elems;refine xa ?_;have Wj:∀ (nd:LV) {e:Env} {H:Heap},E=0->e.ds=[]->e.s 4=nd->HSub (Xf k d1) H->Mu c op name=0->iv (IB c op name ns)=nd->Kd (KC B0 w0) 121 [ResultVar.tmp 4] (Gy E (iv (IB c op name ns)) (Xf k (max d1 (Mu c op name)))) .ret e H:=λnd {e H} h0 hd he hH Fs hn=>by rw[Fs,Nat.max_zero];exact xm hd (rC (rT he Nd) rN) h0 hn.symm hH
  have Gs:¬ op=eg->Mu c op name=0:=λh=>by unfold Mu;rw[zn (λh2=>h h2.1)]
  have nL:¬ op=Uf->¬ op=Bj->¬ op=eg->E=0:=λa1 a2 a3=>by rw[<-lL];unfold Ay;rw[zn a1,zn a2,zn a3]
  have HS:HSub (Xf k d1) ((b3,.cells 220 [str op,int .u32 (num:Int),str name,.list (args.map Ab)])::(Xf k d1++Ha)):=Pg zF;by_cases h1:op=[110,117,109];refine oC rfl (λ_=>?_) λhc=>absurd h1 (zf hc);refine xa ?_;refine Wj (iv 1) ?_ ?_ ?_ ?_ ?_ ?_;subst h1;exact nL fa fa fa;exact Cs;rfl;exact HS;subst h1;exact Gs fa;subst h1;rfl;refine oC rfl (λhc=>absurd (zt hc) h1) λ_=>?_;refine Rm ?_
  by_cases h2:op=[118,97,114];refine oC rfl (λ_=>?_) λhc=>absurd h2 (zf hc);have dv:Zs c name=E:=by rw[<-lL];subst h2;rfl
  refine xa ?_;refine oS (sK [_,_] rfl uZ (YM hk d1 name) (λh0=>?_) λnm h0 e' Ka=>?_);rw[dv] at h0;refine xa ?_;refine Wj (iv 1) h0 ?_ ?_ ?_ ?_ ?_;exact Cs;rfl;exact zF;subst h2;exact Gs fa;subst h2;rfl;refine Qd ?_;exact Tf (Ka.trans Cs) dv.symm h0;refine oC rfl (λhc=>absurd (zt hc) h2) λ_=>?_;refine Rm ?_
  by_cases h3:op=[101,108,101,109];refine oC rfl (λ_=>?_) λhc=>absurd h3 (zf hc);have dv:Qy c name=E:=by rw[<-lL];subst h3;rfl
  obtain⟨n0,rfl⟩:∃ n0,ns=[n0]:=by
   have h9:ns.length=1:=by rcases Xc with h|h;subst h3;exact absurd h fa;subst h3;have h9:(1:Int)=(args.length:Int):=h;omega
   cases ns with
   |nil=>cases h9
   |cons a l=>
    cases l with
    |nil=>exact⟨a,rfl⟩
    |cons b l=>simp at h9
  have Co:=PK n0 We;refine xa ?_;refine oS (sK [_,_] rfl uZ (uQ hk d1 name) (λh0=>?_) λnm h0 e' Ka=>?_);rw[dv] at h0;refine Zg ?_;refine eJ ?_;refine Wj (int .i64 (1+(n0:Int))) h0 ?_ ?_ ?_ ?_ ?_;exact Cs;rfl;exact zF;subst h3;exact Gs fa;subst h3;exact Kg (show((1+n0:Nat):Int)=_ by omega);refine Qd ?_;exact Tf (Ka.trans Cs) dv.symm h0;refine oC rfl (λhc=>absurd (zt hc) h3) λ_=>?_;refine Rm ?_
  by_cases h4:op=[99,97,108,108];refine oC rfl (λ_=>?_) λhc=>absurd h4 (zf hc);have dv:Lc c name ns.length=E:=by rw[<-lL,Nq];subst h4;rfl
  have hN4:IB c op name ns=Uz c name ns:=by subst h4;rfl
  have qS:Mu c op name=Mu c eg name:=by subst h4;rfl
  refine xa ?_;refine Xi ?_;refine Ea.sub 67 rfl Ra.sub ?_;refine oS (sK [_,_,_] rfl uZ (qsj hk hB tL ZC d1 zo name ns zo PK) (λh0=>?_) λnm h0 e' Ka=>?_);rw[dv] at h0;refine Da ?_;rw[hN4,qS];exact xm Cs (eb rfl) h0 rfl zF;refine Qd ?_;exact Tf (Ka.trans Cs) dv.symm h0;refine oC rfl (λhc=>absurd (zt hc) h4) λ_=>?_;have xu:=nL h2 h3 h4;have Fs:=Gs h4;refine Rm ?_
  by_cases h5:op=[110,101,103];refine oC rfl (λ_=>?_) λhc=>absurd h5 (zf hc)
  obtain⟨n0,rfl⟩:∃ n0,ns=[n0]:=by
   have h9:ns.length=1:=by rcases Xc with h|h;subst h5;exact absurd h fa;subst h5;have h9:(1:Int)=(args.length:Int):=h;omega
   cases ns with
   |nil=>cases h9
   |cons a l=>
    cases l with
    |nil=>exact⟨a,rfl⟩
    |cons b l=>simp at h9
  have Co:=PK n0 We;refine qe ?_;refine eJ ?_;refine Wj (int .i64 (1+(n0:Int))) xu ?_ ?_ ?_ Fs ?_;exact Cs;rfl;exact HS;subst h5;exact Kg (show((1+n0:Nat):Int)=_ by omega);refine oC rfl (λhc=>absurd (zt hc) h5) λ_=>?_;have h5n:=h5;clear h5;refine Rm ?_
  by_cases h5:op=[110,111,116];refine oC rfl (λ_=>?_) λhc=>absurd h5 (zf hc)
  obtain⟨n0,rfl⟩:∃ n0,ns=[n0]:=by
   have h9:ns.length=1:=by rcases Xc with h|h;subst h5;exact absurd h fa;subst h5;have h9:(1:Int)=(args.length:Int):=h;omega
   cases ns with
   |nil=>cases h9
   |cons a l=>
    cases l with
    |nil=>exact⟨a,rfl⟩
    |cons b l=>simp at h9
  have Co:=PK n0 We;refine qe ?_;refine eJ ?_;refine la (Pure.Ej 2 n0 rfl rfl rfl rfl)<|Da ?_;refine Wj (iv (max 2 n0)) xu ?_ ?_ ?_ Fs ?_;exact Cs;rfl;exact HS;subst h5;rfl;refine oC rfl (λhc=>absurd (zt hc) h5) λ_=>?_
  have Jl:ns.length=2:=by unfold fg at Xc;rw[zn λh=>h.elim h1 h2,zn λh=>h.elim h3 λh=>h.elim h5n h5,zn (show ¬ op=eg from h4)] at Xc;split at Xc;rcases Xc with h|h <;> omega;rcases Xc with h|h <;> omega
  obtain⟨a,b,rfl⟩:∃ a b,ns=[a,b]:=by
   match ns,Jl with
   |[a,b],_=>exact⟨a,b,rfl⟩
  have ha:=PK a We;have hb:=PK b (Pc _ We);refine Da ?_;refine fb.quiet zk ?_;refine qP (pM (lv:=v) rfl) rfl ?_;refine qP (xR (ke:=iv a) (cs:=[iv a]) Mm rfl zo rfl rfl rfl) rfl ?_;refine Na ?_;refine qP (pM (lv:=v) rfl) rfl ?_;refine qP (xR (ke:=iv b) (cs:=[iv b]) Mm rfl zo rfl rfl rfl) rfl ?_;refine wa ?_;by_cases h6:op=[62];refine oC rfl (λ_=>?_) λhc=>absurd h6 (zf hc);refine Da ?_;refine oC rfl (λ_=>?_) λhc=>absurd h6 (zf hc);refine xa ?_;refine la (Pure.Lq 3 a (1+b) rfl rfl rfl rfl rfl zo)<|Da ?_;refine Wj (iv (max (max 3 a) (1+b))) xu ?_ ?_ ?_ Fs ?_;exact Cs;rfl;exact HS;subst h6;rfl;refine oC rfl (λhc=>absurd (zt hc) h6) λ_=>?_;have h6n:=h6;clear h6;refine Rm ?_
  by_cases h6:op=[60,61];refine oC rfl (λ_=>?_) λhc=>absurd h6 (zf hc);refine xa ?_;refine la (Pure.Lq 3 a (1+b) rfl rfl rfl rfl rfl zo)<|Da ?_;refine Wj (iv (max (max 3 a) (1+b))) xu ?_ ?_ ?_ Fs ?_;exact Cs;rfl;exact HS;subst h6;rfl;refine oC rfl (λhc=>absurd (zt hc) h6) λ_=>?_;refine Rm ?_
  by_cases h7:op=[33,61];refine oC rfl (λ_=>?_) λhc=>absurd h7 (zf hc);refine xa ?_;refine la (Pure.Lq 3 (1+a) (2+b) rfl rfl rfl rfl zo zo)<|Da ?_;refine Wj (iv (max (max 3 (1+a)) (2+b))) xu ?_ ?_ ?_ Fs ?_;exact Cs;rfl;exact HS;subst h7;rfl;refine oC rfl (λhc=>absurd (zt hc) h7) λ_=>?_;refine Rm ?_
  by_cases h8:op=[38,38];refine oC rfl (λ_=>?_) λhc=>absurd h8 (zf hc);refine xa ?_;refine la (Pure.Ej (1+a) (2+b) rfl rfl zo zo)<|Da ?_;refine Wj (iv (max (1+a) (2+b))) xu ?_ ?_ ?_ Fs ?_;exact Cs;rfl;exact HS;subst h8;rfl;refine oC rfl (λhc=>absurd (zt hc) h8) λ_=>?_;refine Rm ?_
  by_cases h9:op=[124,124];refine oC rfl (λ_=>?_) λhc=>absurd h9 (zf hc);refine xa ?_;refine la (Pure.Ej (2+a) (3+b) rfl rfl zo zo)<|Da ?_;refine Wj (iv (max (2+a) (3+b))) xu ?_ ?_ ?_ Fs ?_;exact Cs;rfl;exact HS;subst h9;rfl;refine oC rfl (λhc=>absurd (zt hc) h9) λ_=>?_;refine xa ?_;refine la (Pure.Lq 2 a (1+b) rfl rfl rfl rfl rfl zo)<|dd ?_;refine Wj (iv (max (max 2 a) (1+b))) xu ?_ ?_ ?_ Fs ?_;exact Cs;rfl;exact HS;unfold IB;rw[zn λh=>h.elim h1 h2,zn λh=>h.elim h3 h5n,zn (show ¬ op=eg from h4),zn (show ¬ op=jg from h5),zn λh=>h.elim h6n h6,zn h7,zn h8,zn h9];rfl
theorem qzY:Jh (.mk 1 name index value Ua Cb)=((!decide (name=[])) && decide (((index.map Ab).length:Int)=0) && decide (((value.map Ab).length:Int)=1) && decide (((Ua.map lc).length:Int)=0) && decide (((Cb.map lc).length:Int)=0)):=by rw[Bool.eq_iff_iff];simp only[Jh,sd,Gg,Bool.not_eq_true',decide_eq_false_iff_not,Db];constructor;exact DE;exact CE
theorem qzA:Jh (.mk 2 name index value Ua Cb)=((!decide (name=[])) && decide (((index.map Ab).length:Int)=1) && decide (((value.map Ab).length:Int)=1) && decide (((Ua.map lc).length:Int)=0) && decide (((Cb.map lc).length:Int)=0)):=by rw[Bool.eq_iff_iff];simp only[Jh,sd,Gg,Bool.not_eq_true',decide_eq_false_iff_not,Db];constructor;exact DE;exact CE
theorem qAp:Jh (.mk 3 name index value Ua Cb)=((!!decide (name=[])) && decide (((index.map Ab).length:Int)=0) && decide (((value.map Ab).length:Int)=1)):=by rw[Bool.eq_iff_iff];simp only[Jh,sd,Gg,Bool.not_eq_true',decide_eq_false_iff_not,Db];constructor;intro h;have h':_:=zt h;obtain⟨a1,a2,a3⟩:=h';exact⟨⟨by simpa using a1,by omega⟩,by omega⟩;rintro⟨⟨a1,a2⟩,a3⟩;exact Nf ⟨by simpa using a1,by omega,by omega⟩
theorem qzs:Jh (.mk 4 name index value Ua Cb)=((!!decide (name=[])) && decide (((index.map Ab).length:Int)=0) && decide (((value.map Ab).length:Int)=1) && decide (((Cb.map lc).length:Int)=0)):=by rw[Bool.eq_iff_iff];simp only[Jh,sd,Gg,Bool.not_eq_true',decide_eq_false_iff_not,Db];constructor;intro h;have h':_:=zt h;obtain⟨a1,a2,a3,a4⟩:=h';exact⟨⟨⟨by simpa using a1,by omega⟩,by omega⟩,by omega⟩;rintro⟨⟨⟨a1,a2⟩,a3⟩,a4⟩;exact Nf ⟨by simpa using a1,by omega,by omega,by omega⟩
theorem qz3:Jh (.mk 5 name index value Ua Cb)=((!!decide (name=[])) && decide (((index.map Ab).length:Int)=0) && decide (((value.map Ab).length:Int)=1) && decide (((Ua.map lc).length:Int)=0) && decide (((Cb.map lc).length:Int)=0)):=by rw[Bool.eq_iff_iff];simp only[Jh,sd,Gg,Bool.not_eq_true',decide_eq_false_iff_not,Db];constructor;exact DE;exact CE
theorem qAa:Jh (.mk 6 name index value Ua Cb)=((!!decide (name=[])) && decide (((index.map Ab).length:Int)=0) && decide (((value.map Ab).length:Int)=1) && decide (((Ua.map lc).length:Int)=0) && decide (((Cb.map lc).length:Int)=0) && decide (vi (value.headD default)=[99,97,108,108])):=by rw[Bool.eq_iff_iff];simp only[Jh,sd,Gg,Bool.not_eq_true',decide_eq_false_iff_not,Db];constructor;intro h;have h':_:=zt h;obtain⟨a1,a2,a3,a4,a5,a6⟩:=h';exact⟨⟨⟨⟨⟨by simpa using a1,by omega⟩,by omega⟩,by omega⟩,by omega⟩,a6⟩;rintro⟨⟨⟨⟨⟨a1,a2⟩,a3⟩,a4⟩,a5⟩,a6⟩;exact Nf ⟨by simpa using a1,by omega,by omega,by omega,by omega,a6⟩
theorem qz2:Jh (.mk 7 name index value Ua Cb)=((!!decide (name=[])) && decide (((index.map Ab).length:Int)=0) && decide (((value.map Ab).length:Int)=0) && decide (((Ua.map lc).length:Int)=0) && decide (((Cb.map lc).length:Int)=0)):=by rw[Bool.eq_iff_iff];simp only[Jh,sd,Gg,Bool.not_eq_true',decide_eq_false_iff_not,Db];constructor;exact DE;exact CE
theorem qoJ(s:Sm):ca (KC B0 w0) 228 [lc s] [] (Qb (bool (Jh s))):=by
 obtain⟨kind,name,index,value,Ua,Cb⟩:=s;rw[Mv];refine kb Tryz.func228 rfl (n:=159) rfl rfl rfl ?_;refine qe ?_;refine oS (sB rfl λb1=>?_);refine Da ?_;refine fb.quiet zk ?_;refine wa ?_;by_cases jt:kind=1
 ·subst jt;refine oC rfl (λ_=>?_) (λhc=>by cases hc);rw[qzY];refine Bd ?_;refine oB 28 rfl (λq1=>?_) λq1=>?_;rotate_left;exact XI;refine Da ?_;refine oB 32 rfl (λq2=>?_) λq2=>?_;rotate_left;exact YI;refine Da ?_;refine oB 36 rfl (λq3=>?_) λq3=>?_;rotate_left;exact uy;refine Da ?_;refine oB 40 rfl (λq4=>?_) λq4=>?_;rotate_left;exact JA;refine NA ?_;simp only[q1,q2,q3,q4,Bool.true_and];rfl
 refine oC rfl (λhc=>absurd (zt hc) jt) λ_=>?_;refine Si ?_
 by_cases Ng:kind=2
 ·subst Ng;refine oC rfl (λ_=>?_) (λhc=>by cases hc);rw[qzA];refine Bd ?_;refine oB 47 rfl (λq1=>?_) λq1=>?_;rotate_left;exact XI;refine Da ?_;refine oB 51 rfl (λq2=>?_) λq2=>?_;rotate_left;exact YI;refine Da ?_;refine oB 55 rfl (λq3=>?_) λq3=>?_;rotate_left;exact uy;refine Da ?_;refine oB 59 rfl (λq4=>?_) λq4=>?_;rotate_left;exact JA;refine NA ?_;simp only[q1,q2,q3,q4,Bool.true_and];rfl
 refine oC rfl (λhc=>absurd (zt hc) Ng) λ_=>?_;refine Si ?_
 by_cases dE:kind=3
 ·subst dE;refine oC rfl (λ_=>?_) (λhc=>by cases hc);rw[qAp];refine wa ?_;refine oB 67 rfl (λq1=>?_) λq1=>?_;rotate_left;exact XI;refine Da ?_;refine oB 71 rfl (λq2=>?_) λq2=>?_;rotate_left;exact YI;refine NA ?_;simp only[q1,q2,Bool.true_and];rfl
 refine oC rfl (λhc=>absurd (zt hc) dE) λ_=>?_;refine Si ?_
 by_cases vG:kind=4
 ·subst vG;refine oC rfl (λ_=>?_) (λhc=>by cases hc);rw[qzs];refine wa ?_;refine oB 79 rfl (λq1=>?_) λq1=>?_;rotate_left;exact XI;refine Da ?_;refine oB 83 rfl (λq2=>?_) λq2=>?_;rotate_left;exact YI;refine Da ?_;refine oB 87 rfl (λq3=>?_) λq3=>?_;rotate_left;exact uy;refine NA ?_;simp only[q1,q2,q3,Bool.true_and];rfl
 refine oC rfl (λhc=>absurd (zt hc) vG) λ_=>?_;refine Si ?_
 by_cases UK:kind=5
 ·subst UK;refine oC rfl (λ_=>?_) (λhc=>by cases hc);rw[qz3];refine wa ?_;refine oB 95 rfl (λq1=>?_) λq1=>?_;rotate_left;exact XI;refine Da ?_;refine oB 99 rfl (λq2=>?_) λq2=>?_;rotate_left;exact YI;refine Da ?_;refine oB 103 rfl (λq3=>?_) λq3=>?_;rotate_left;exact uy;refine Da ?_;refine oB 107 rfl (λq4=>?_) λq4=>?_;rotate_left;exact JA;refine NA ?_;simp only[q1,q2,q3,q4,Bool.true_and];rfl
 refine oC rfl (λhc=>absurd (zt hc) UK) λ_=>?_;refine Si ?_
 by_cases EC:kind=6
 ·subst EC;refine oC rfl (λ_=>?_) (λhc=>by cases hc);rw[qAa];refine wa ?_;refine oB 115 rfl (λq1=>?_) λq1=>?_;rotate_left;exact XI;refine Da ?_;refine oB 119 rfl (λq2=>?_) λq2=>?_;rotate_left;exact YI;refine Da ?_;refine oB 123 rfl (λq3=>?_) λq3=>?_;rotate_left;exact uy;refine Da ?_;refine oB 127 rfl (λq4=>?_) λq4=>?_;rotate_left;exact JA;refine Da ?_;refine oB 131 rfl (λq5=>?_) λq5=>?_;rotate_left;refine NA ?_;simp only[q1,q2,q3,q4,q5,Ui,Bool.and_false,Bool.true_and];rfl;refine Na ?_
  obtain⟨x0,rfl⟩:∃ x,value=[x]:=by
   have h1:((value.map Ab).length:Int)=1:=zt q3;rw[Db] at h1;cases value with
   |nil=>simp at h1
   |cons x l=>
    cases l with
    |nil=>exact⟨x,rfl⟩
    |cons y l=>simp at h1;omega
  first|refine Ea.want rfl rfl ?_|skip
  refine la (xR (ke:=Ab x0) (cs:=[_,_,_,_]) rfl rfl zo rfl rfl rfl)<|Na ?_;refine rR rfl (eb rfl) yd ⟨?_,rfl⟩;simp only[q1,q2,q3,q4,q5,Bool.true_and];rfl
 refine oC rfl (λhc=>absurd (zt hc) EC) λ_=>?_;refine Si ?_
 by_cases O4:kind=7
 ·subst O4;refine oC rfl (λ_=>?_) (λhc=>by cases hc);rw[qz2];refine wa ?_;refine oB 143 rfl (λq1=>?_) λq1=>?_;rotate_left;exact XI;refine Da ?_;refine oB 147 rfl (λq2=>?_) λq2=>?_;rotate_left;exact YI;refine Da ?_;refine oB 151 rfl (λq3=>?_) λq3=>?_;rotate_left;exact uy;refine Da ?_;refine oB 155 rfl (λq4=>?_) λq4=>?_;rotate_left;exact JA;refine NA ?_;simp only[q1,q2,q3,q4,Bool.true_and];rfl
 refine oC rfl (λhc=>absurd (zt hc) O4) λ_=>?_;refine xa ?_;refine rR rfl (eb rfl) yd ⟨?_,rfl⟩
 have hf:Jh (.mk kind name index value Ua Cb)=false:=by simp only[Jh];rw[zn jt,zn Ng,zn dE,zn vG,zn UK,zn EC,zn O4]
 rw[hf];rfl
end Go.Proofs.YtmnjklgnhpnckaaGreatDoor.sj
namespace Go.GL
open Go.RowKit
theorem Wu:∀ l:List (List UInt8),dA 1 (l.map str)
 |[]=>Ch
 |a::l=>gd rfl rfl (Wu l)
theorem ca.YA{C:Ctx}{f:FuncId}{vs:List Value}{l:List (List UInt8)}{t:TypeId}
  (h:∀ w,Below C.B0 C.w0 w->Calls C.P f vs.toArray w λe w'=>e=.returned (.slice (some ⟨w.heap.size,0,none⟩) l.length l.length)/\w'=w.alloc (.cells (l.map λs=>Value.string ⟨s.toArray⟩).toArray t)):ca C f (vs.map .atom) [] (Qb (.list (l.map str))):=λxs w L hv hH=>by
 have hx:xs=vs:=by
  clear h hH;induction vs generalizing xs with
  |nil=>simpa [oa] using hv
  |cons v vs ih=>simp only[jd,oa,xb] at hv;obtain⟨y,ys,rfl,rfl,hv⟩:=hv;rw[ih _ hv]
 subst hx;refine(h w hH.base).mono λe w' he=>?_;obtain⟨rfl,rfl⟩:=he
 have hr:oa w L (l.map str) (l.map λs=>Value.string ⟨s.toArray⟩):=by have:=Wp (w:=w) (L:=L) (l.map λs=>Value.string ⟨s.toArray⟩);rw[map_map] at this;exact this
 have Dc:dA 1 (l.map str):=Wu l;have hl:(l.map str).length=l.length:=Db _;have:=qkb (K:=λlv H=>∃ b,lv=.app b l.length 1 (l.map str)) (t:=t) (cap:=l.length) (da:=[]) hH hr Dc zo (by simp) λb=>⟨b,rfl⟩
 have e1:((l.map λs=>Value.string ⟨s.toArray⟩).flatMap λv=>v.cells.toList)++[]=l.map λs=>Value.string ⟨s.toArray⟩:=by
  rw[de];clear this Dc hr h hv hl;induction l with
  |nil=>rfl
  |cons a l ih=>rw[jd,List.flatMap_cons,ih];try rfl
 rw[e1,hl] at this;obtain⟨lv,H',L',r1,r2,r3,b,rfl⟩:=this;exact⟨.list (l.map str),[],L',r1.qc yd,r2.qc yd,LV.Sub.app _ _ _ _ _ _ _ r3,rfl,rfl⟩
end Go.GL
namespace Go.Proofs.YtmnjklgnhpnckaaGreatDoor
open Go.GL Go.RowKit Go.ia
namespace sq
def GM(w0:World):Prop:=∃ m,w0.cell? ⟨0,0,none⟩=some (.int .i64 m)
theorem qlz{w:World}{L:Live}{b:Nat}:∀ (k off:Nat) (ws:List (List UInt8)),Qc w L b k off (ws.map str)->∀ (j:Nat) x,(ws.map λl=>(⟨l.toArray⟩:ByteArray))[j]? = some x->k=1/\w.cell? ⟨b,off+j,none⟩=some (.string x)
 |k,off,[],_,j,x,h=>by simp at h
 |k,off,s::ws,h,0,x,hx=>by simp only[jd,Qc] at h;obtain⟨⟨hk,_,y,hy,hr⟩,_⟩:=h;simp only[xb] at hr;simp at hx;rw[<-hx,Nat.add_zero,hy,hr];exact⟨hk.symm,rfl⟩
 |k,off,s::ws,h,j+1,x,hx=>by simp only[jd,Qc] at h;obtain⟨⟨hk,_⟩,h2⟩:=h;have:=qlz k (off+k) ws h2 j x (by simpa using hx);refine⟨hk.symm,?_⟩;rw[<-this.2,<-hk,Nat.add_assoc,Nat.add_comm 1 j]
variable{B0:Nat}{w0:World}
theorem Bf(s p:List UInt8):ca (KC B0 w0) 162 [str s,str p] [] (Qb (.tuple [str (Go.Lib.trimPrefix s p),bool (Go.Lib.hasPrefix s p)])):=by refine ca.mono (ca.fh (vs:=[.string ⟨s.toArray⟩,.string ⟨p.toArray⟩]) (p:=λus=>us=[.string ⟨(Go.Lib.trimPrefix s p).toArray⟩,.bool (Go.Lib.hasPrefix s p)]) λw hw=>?_) ?_;refine(Tryz.strings_CutPrefix ⟨s.toArray⟩ ⟨p.toArray⟩ w).mono λe w' he=>⟨_,he.1,rfl,by rw[he.2];exact Below.refl _ _⟩;rintro r H ⟨v,rfl,⟨us,rfl,rfl⟩,rfl⟩;exact⟨rfl,rfl⟩
theorem Af(s p:List UInt8)(hs:s.length<=1000000000):ca (KC B0 w0) 172 [str s,str p] [] (Qb (.tuple [str (Go.Lib.trimSuffix s p),bool (Go.Lib.hasSuffix s p)])):=by refine ca.mono (ca.fh (vs:=[.string ⟨s.toArray⟩,.string ⟨p.toArray⟩]) (p:=λus=>us=[.string ⟨(Go.Lib.trimSuffix s p).toArray⟩,.bool (Go.Lib.hasSuffix s p)]) λw hw=>?_) ?_;refine(Tryz.strings_CutSuffix ⟨s.toArray⟩ ⟨p.toArray⟩ w (by show s.toArray.size<=_;simp;omega)).mono λe w' he=>⟨_,he.1,rfl,by rw[he.2];exact Below.refl _ _⟩;rintro r H ⟨v,rfl,⟨us,rfl,rfl⟩,rfl⟩;exact⟨rfl,rfl⟩
theorem qh(sep:List UInt8)(ws:List (List UInt8))(hn:ws.length<=1000000000)(hl:(Go.Lib.join ws sep).length<=1000000000):ca (KC B0 w0) 49 [.list (ws.map str),str sep] [] (Qb (str (Go.Lib.join ws sep))):=λxs w L hv hH=>by
 simp only[oa] at hv;obtain⟨y,ys,rfl,hy,z,zs,rfl,hz,rfl⟩:=hv;simp only[xb] at hy hz;obtain⟨a,cap,rfl,Ue,fR⟩:=hy;subst hz;rw[Db] at Ue;have rG:(ws.map λl=>(⟨l.toArray⟩:ByteArray)).map (·.data.toList)=ws:=by
  rw[map_map]
  conv=>rhs;rw[<-List.map_id ws]
  rfl
 have hc:Calls Tryz.prog 49 #[.slice a ws.length cap,.string ⟨sep.toArray⟩] w λe w'=>e=.returned (.string ⟨(Go.Lib.join ws sep).toArray⟩)/\Below w.heap.size w w':=by
  by_cases Fb:ws=[]
  ·subst Fb;exact(Tryz.strings_Join_none a cap ⟨sep.toArray⟩ w).mono λe w' he=>⟨by rw[he.1];try rfl,by rw[he.2];exact Below.refl _ _⟩
  obtain⟨b,off,k,rfl,hr⟩:=fR (by simpa using Fb);have Es:=λj x hx=>(qlz k off ws hr j x hx).2
  have hb:b<w.heap.size:=by obtain⟨s,r,rfl⟩:=List.exists_cons_of_ne_nil Fb;have:=Es 0 _ rfl;exact World.block_lt_of_cell? _ _ this
  have:=Tryz.strings_Join b off cap (ws.map λl=>(⟨l.toArray⟩:ByteArray)) ⟨sep.toArray⟩ w Es hb (by rw[Db];omega) (by rw[Db];exact Ue) (by rw[rG];show(Go.Lib.join ws sep).length<=_;omega);rw[Db,rG] at this;exact this
 rw[Db];refine hc.mono λe w' he=>?_;obtain⟨rfl,hb⟩:=he;obtain⟨h1,h2⟩:=GU hH hb;exact⟨str (Go.Lib.join ws sep),[],L,h1,h2,zd,rfl,rfl⟩
theorem GM.at(hG:GW B0 w0)(h:GM w0){w:World}(hb:Below B0 w0 w):∃ m,w.cell? ⟨0,0,none⟩=some (.int .i64 m):=by obtain⟨m,hm⟩:=h;exact⟨m,(cell_of_heap (hb.block 0 (Nat.lt_of_lt_of_le fa hG.zW)) 0).trans hm⟩
theorem qlu(hG:GW B0 w0)(hM:GM w0)(s:List UInt8)(c:UInt8)(hs:s.length<=1000000000):ca (KC B0 w0) 104 [str s,str [c]] [] (Qb (.list ((qg c s).map str))):=by
 rw[<-qsf];refine ca.YA (vs:=[.string ⟨s.toArray⟩,.string ⟨#[c]⟩]) (t:=9) λw hw=>?_;obtain⟨m,hm⟩:=GM.at hG hM hw;have h1:=Tryz.strings_Split ⟨s.toArray⟩ ⟨#[c]⟩ m w (by show s.toArray.size<_;simp;omega) hm (Jb 1)
 have e1:(Go.Lib.splitB ⟨#[c]⟩ 0 (Go.Lib.countB ⟨s.toArray⟩ ⟨#[c]⟩) ⟨s.toArray⟩).map Value.string=(Go.Lib.split s [c]).map λs=>Value.string ⟨s.toArray⟩:=by have:=Go.Lib.splitB_data ⟨#[c]⟩ 0 (Go.Lib.countB ⟨s.toArray⟩ ⟨#[c]⟩) ⟨s.toArray⟩;have e2:Go.Lib.split s [c]=Go.Lib.splitK (⟨#[c]⟩:ByteArray).data.toList 0 (Go.Lib.countB ⟨s.toArray⟩ ⟨#[c]⟩) (⟨s.toArray⟩:ByteArray).data.toList:=rfl;rw[e2,<-this,map_map];try rfl
 have e3:(Go.Lib.split s [c]).length=Go.Lib.countB ⟨s.toArray⟩ ⟨#[c]⟩+1:=by have:=congrArg List.length e1;rw[Db,Db,Go.Lib.splitB_all ⟨#[c]⟩ (Jb 1) 0 _ _ rfl] at this;exact this.symm
 rw[e1] at h1;rw[e3];exact h1
theorem qwb(hG:GW B0 w0)(hM:GM w0)(s:List UInt8)(c:UInt8)(hs:s.length<=1000000000):ca (KC B0 w0) 105 [str s,str [c]] [] (Cr λlv=>∃ a b,lv=.tuple [str (s.takeWhile λd=>decide (d≠c)),str a,bool b]):=by rw[<-qxD];refine ca.mono (ca.fh (vs:=[.string ⟨s.toArray⟩,.string ⟨#[c]⟩]) (p:=λus=>us=[.string ⟨(Go.Lib.cut s [c]).1.toArray⟩,.string ⟨(Go.Lib.cut s [c]).2.1.toArray⟩,.bool (Go.Lib.cut s [c]).2.2]) λw hw=>?_) ?_;obtain⟨m,hm⟩:=GM.at hG hM hw;refine(Tryz.strings_Cut ⟨s.toArray⟩ ⟨#[c]⟩ m w (by show s.toArray.size<_;simp;omega) hm).mono λe w' he=>?_;obtain⟨rfl,n,rfl⟩:=he;exact⟨_,rfl,rfl,below_drewN (Below.refl _ _) n⟩;rintro r H ⟨v,rfl,⟨us,rfl,rfl⟩,rfl⟩;exact⟨_,rfl,⟨_,_,rfl⟩,rfl⟩
def uj(p:Wd×Nat):LV:=.agg [str p.1,int .i64 p.2]
def SY:List UInt8:=[97,98,99,100,101,102,103,104,105,106,107,108,109,110,111,112,113,114,115,116,117,118,119,120,121,122,95,48,49,50,51,52,53,54,55,56,57]
theorem qrV(c:UInt8):SY.contains c=Ni c:=by
 have:∀ n:Nat,n<256->SY.contains (UInt8.ofNat n)=Ni (UInt8.ofNat n):=by decide +kernel
 have h:=this c.toNat c.toNat_lt;rwa [UInt8.ofNat_toNat] at h
theorem qqd{st:List UInt8}{p:UInt8->Bool}(he:∀ c,st.contains c=p c)(s:List UInt8):(Go.Lib.trimS s st=[]) ↔ s.all p=true:=by
 have he:(λc=>st.contains c)=p:=funext he;unfold Go.Lib.trimS Go.Lib.trimLeftS Go.Lib.trimRightS;rw[he,fK];constructor;intro h;by_cases h2:s.reverse.dropWhile p=[];rw[fK] at h2;rw[all_reverse] at h2;exact h2;exfalso;obtain⟨c,r,CI⟩:=List.exists_cons_of_ne_nil h2;have h3:p c=false:=by have:=List.head?_dropWhile_not p s.reverse;rw[CI] at this;simpa using this
 rw[CI,all_reverse,List.all_cons,h3] at h;cases h;intro h;have h2:s.reverse.dropWhile p=[]:=by rw[fK,all_reverse];exact h
 rw[h2];try rfl
def rl(o:Option Wd)(lv:LV):Prop:=∃ s,lv=.tuple [str s,bool o.isSome]/\∀ l,o=some l->s=l
theorem rl.mk{o:Option Wd}{s:Wd}{b:Bool}(hb:o.isSome=b)(hs:∀ l,o=some l->s=l):rl o (.tuple [str s,bool b]):=⟨s,by rw[hb],hs⟩
theorem Xp{p q:Bool}{s:Wd}{o:Option Wd}(h:o=if p=true/\q=true then some s else none):o.isSome=(p && q)/\∀ l,o=some l->s=l:=by subst h;cases p <;> cases q <;> simp
attribute [local irreducible] Ea fb Ya ca Go.GL.Pure ve Oe Kd LQ yb nh db
theorem qqO(s st:List UInt8)(hs:s.length<=1000000000)(h1:st.length<=100)(h3:st.all (λb=>decide (b.toNat<128))=true):ca (KC B0 w0) 174 [str s,str st] [] (Qb (str (Go.Lib.trimS s st))):=
 ca.wm (vs:=[.string ⟨s.toArray⟩,.string ⟨st.toArray⟩]) λw hw=>(Go.Proofs.Any.strings_Trim_laid Tryz.Ix zk ⟨s.toArray⟩ ⟨st.toArray⟩ w (by show s.toArray.size<=_;simp;omega) (by show st.toArray.size<_;simp;omega) (Go.Proofs.ascii_of_all h3))
theorem qm3(s:List UInt8)(hs:s.length<=1000000000):ca (KC B0 w0) 173 [str s] [] (Qb (bool (Ju s))):=by
 have hT:=qqO (B0:=B0) (w0:=w0) s SY hs fa fa;have qw:=qqd qrV s;refine kb Tryz.func173 rfl (n:=23) rfl rfl rfl ?_;refine xa ?_;refine oB 5 rfl (λh1=>?_) λh1=>?_;have e:s=[]:=ag h1;subst e;refine Da ?_;refine oC rfl (λh=>?_) (λh=>by cases h);refine Gj ?_;exact qb rfl (rC (rT (v:=.atom _) rfl (vR _)) rN) rfl;have vW:¬ s=[]:=of_decide_eq_false h1
 obtain⟨c,r,rfl⟩:∃ c r,s=c::r:=by
  cases s with
  |nil=>exact absurd rfl vW
  |cons c r=>exact⟨c,r,rfl⟩
 have hN:=qpW c r;refine Na ?_;refine oB 10 rfl (λh2=>?_) λh2=>?_;have CA:¬ (c::r).length<=40:=by have:=ag h2;omega
 rw[decide_eq_false CA,Ui,Ui] at hN;refine Da ?_;refine oC rfl (λh=>?_) (λh=>by cases h);refine Gj ?_;exact qb rfl (rC (rT (v:=.atom _) rfl (vR _)) rN) (xe hN.symm);have CA:(c::r).length<=40:=by have:=of_decide_eq_false h2;omega
 rw[Nf CA,Bool.true_and] at hN;refine fi ?_;refine la (pI (c:=c) rfl rfl ga rfl)<|Da ?_;refine oB 15 rfl (λh3=>?_) λh3=>?_
 have Hs:tl c=false:=by unfold tl;rw[decide_eq_false (by have:cv c<97:=ag h3;omega),Ui]
 rw[Hs,Ui] at hN;refine Da ?_;refine oC rfl (λh=>?_) (λh=>by cases h);refine Gj ?_;exact qb rfl (rC (rT (v:=.atom _) rfl (vR _)) rN) (xe hN.symm);refine fi ?_;refine la (pI (c:=c) rfl rfl ga rfl)<|Na ?_;refine Ma (λh=>?_) λh=>?_
 have Hs:tl c=false:=by unfold tl;rw[decide_eq_false (p:=cv c<=122) (by have:cv c > 122:=ag h;omega),Bool.and_false]
 rw[Hs,Ui] at hN;refine Gj ?_;exact qb rfl (rC (rT (v:=.atom _) rfl (vR _)) rN) (xe hN.symm);have Hs:tl c=true:=by unfold tl;rw[Nf (by have:¬ cv c<97:=of_decide_eq_false h3;omega),Nf (by have:¬ cv c > 122:=of_decide_eq_false h;omega)];try rfl
 rw[Hs,Bool.true_and] at hN;refine xa ?_;refine oS (sF [_,_] rfl hT ?_);refine Da ?_;exact qb rfl (rC (rT (v:=.atom _) rfl (vR _)) rN) (xe (by
  rw[hN,Bool.eq_iff_iff,decide_eq_true_iff];exact qw))
theorem E0(p:Wd×Nat)(hs:p.1.length<=1000000000):ca (KC B0 w0) 106 [uj p] [] (Cr (rl (ya p.1))):=by
 obtain⟨w,ln⟩:=p;simp only at hs ⊢;obtain⟨r1,r2⟩:=Xp (F8 w);have na:(Go.Lib.trimSuffix w [58]).length<=1000000000:=by unfold Go.Lib.trimSuffix;split;rw[List.length_take];omega;exact hs
 unfold uj;refine kb Tryz.func106 rfl (n:=18) rfl rfl rfl ?_;refine qe ?_;refine oS (sB (cs:=[str w,int .i64 ln]) rfl λb1=>?_);refine xa ?_;refine oS (sF [_,_] rfl (Af w [58] hs) ?_);refine xa ?_;refine oB 14 rfl (λh=>?_) λh=>?_;exact cO;rw[h,Ui] at r1;refine Da ?_;exact Nr rfl (rC (rT (v:=.atom _) rfl (vR _)) (rC (rT (v:=.atom _) rfl (vR _)) rN)) (rl.mk r1 r2)
theorem qks(p:Wd×Nat)(hs:p.1.length<=1000000000):ca (KC B0 w0) 107 [uj p] [] (Cr (rl (Va p.1))):=by
 obtain⟨w,ln⟩:=p;simp only at hs ⊢;obtain⟨r1,r2⟩:=Xp (X7 w);have na:(Go.Lib.trimPrefix w [38]).length<=1000000000:=by unfold Go.Lib.trimPrefix;split;rw[List.length_drop];omega;exact hs
 unfold uj;refine kb Tryz.func107 rfl (n:=18) rfl rfl rfl ?_;refine qe ?_;refine oS (sB (cs:=[str w,int .i64 ln]) rfl λb1=>?_);refine xa ?_;refine oS (sF [_,_] rfl (Bf w [38]) ?_);refine xa ?_;refine oB 14 rfl (λh=>?_) λh=>?_;exact cO;rw[h,Ui] at r1;refine Da ?_;exact Nr rfl (rC (rT (v:=.atom _) rfl (vR _)) (rC (rT (v:=.atom _) rfl (vR _)) rN)) (rl.mk r1 r2)
theorem qnV(p:Wd×Nat)(hs:p.1.length<=1000000000):ca (KC B0 w0) 108 [uj p] [] (Qb (bool (dx p.1))):=by
 obtain⟨w,ln⟩:=p;simp only at hs ⊢;have hT:=qqO (B0:=B0) (w0:=w0) w cA hs fa fa;have qw:(Go.Lib.trimS w cA=[]) ↔ dx w=true:=qqd (p:=λc=>cA.contains c) (λc=>rfl) w;unfold uj;refine kb Tryz.func108 rfl (n:=7) rfl rfl rfl ?_;refine qe ?_;refine oS (sB (cs:=[str w,int .i64 ln]) rfl λb1=>?_);refine xa ?_;refine oS (sF [_,_] rfl hT ?_);refine Da ?_
 exact qb rfl (rC (rT (v:=.atom _) rfl (vR _)) rN) (xe (by
  rw[Bool.eq_iff_iff,decide_eq_true_iff];exact qw))
theorem qhi(c:UInt8):ca (KC B0 w0) 111 [int .u8 c.toNat] [] (Qb (bool (me c))):=by have hD:me c=(decide (48<=cv c) && decide (cv c<=57)):=rfl;refine kb Tryz.func111 rfl (n:=9) rfl rfl rfl ?_;refine wa ?_;refine oB 5 rfl (λh=>?_) λh=>?_;have h':cv c ≥ 48:=ag h;rw[Nf (show 48<=cv c from h'),Bool.true_and] at hD;refine Na ?_;exact qb rfl (rC (rT (v:=.atom _) rfl (vR _)) rN) (xe hD.symm);have h':¬ cv c ≥ 48:=of_decide_eq_false h;rw[decide_eq_false (show ¬ 48<=cv c from h'),Ui] at hD;refine Da ?_;exact qb rfl (rC (rT (v:=.atom _) rfl (vR _)) rN) (xe hD.symm)
theorem Z0(hG:GW B0 w0)(n:Nat)(hn:n<=1000000000000):ca (KC B0 w0) 110 [int .i64 n] [] (Qb (str (Qp n))):=by
 have hi:=JH hG n ga;have Fb:=dK n;have hl:(Go.Lib.decDigits n).length<=20:=by rw[Go.Lib.decDigits_length];exact Qf (rV 12 n ga) fa
 have hA:Qp n=([48,48,48,48,48]++Go.Lib.decDigits n).drop (([48,48,48,48,48]++Go.Lib.decDigits n).length-6):=rfl;generalize Go.Lib.decDigits n=d at hi Fb hl hA;have qz:=List.length_pos_iff.2 Fb;have ou:([48,48,48,48,48]++d:List UInt8).length=d.length+5:=by simp
 refine kb Tryz.func110 rfl (n:=12) rfl rfl rfl ?_;refine di ?_;refine oS (sF [_] rfl hi ?_);refine wa ?_;refine la (Pure.Ak (l:=[48,48,48,48,48]++d) (i:=(([48,48,48,48,48]++d:List UInt8).length:Int)-6) (j:=(([48,48,48,48,48]++d:List UInt8).length:Int)) rfl ⟨_,rfl⟩ rfl ga ga ga)<|dd ?_;exact qb rfl (rC (rT (v:=.atom _) rfl (vR _)) rN) (by
  rw[hA];have e1:(((([48,48,48,48,48]++d:List UInt8).length:Nat):Int)-6).toNat=([48,48,48,48,48]++d:List UInt8).length-6:=by omega
  show str (List.drop (((([48,48,48,48,48]++d:List UInt8).length:Nat):Int)-6).toNat (List.take ((([48,48,48,48,48]++d:List UInt8).length:Nat):Int).toNat ([48,48,48,48,48]++d)))=_;rw[e1,Int.toNat_natCast,take_length])
theorem qkE(b:Nat)(l:List UInt8)(H:Heap)(hB:BH b l H):ca (KC B0 w0) 109 [ptr b 0] H (λr H'=>r=.ret (int .i64 l.length)/\H'=H):=by obtain⟨p,v,Hv,hp,Ra,rfl⟩:=hB;refine kb Tryz.func109 rfl (n:=8) rfl rfl rfl ?_;refine xa ?_;refine la (Pure.D6 rfl Ra)<|dd ?_;exact rR rfl (rC (rT (v:=.atom _) rfl (vR _)) rN) (Kb _) ⟨rfl,rfl⟩
theorem qkT(b:Nat)(l:List UInt8)(c:UInt8)(H:Heap)(hB:BH b l H)(na:l.length<=10000000000):ca (KC B0 w0) 112 [ptr b 0,int .u8 c.toNat] H (λr H'=>(∃ x,r=.ret x)/\BH b (l++[c]) H'):=by
 obtain⟨p,v,Hv,hp,Ra,rfl⟩:=hB;refine kb Tryz.func112 rfl (n:=17) rfl rfl rfl ?_;refine di ?_;refine oS (S.Tc (H1:=[(b,_)]) (F:=Hv) [_] rfl (List.Perm.refl _) (qgx b p (.atom v) hp) (λx H' h=>?_) λch H' h=>?_);obtain⟨⟨x',Rn⟩,rfl⟩:=h;cases Rn;refine xa ?_;refine tj ?_;refine oS (S.KL (q:=(b,.cells 92 [ptr b 0,.atom v])) (l:=l) (m:=[c]) rfl Ra rfl (by simp) (by simp;omega) λv' H' ab=>?_);refine Da ?_;have ie:=ab;generalize l++[c]=lm at ab ie ⊢
 cases ab with
 |nil=>refine wa ?_;exact rR rfl (rC (rT (v:=.atom _) rfl (vR _)) rN) (Kb _) ⟨⟨_,rfl⟩,ptr b 0,_,_,.inr rfl,ie,rfl⟩
 |row h0 h1 h2=>refine wa ?_;exact rR rfl (rC (rT (v:=.atom _) rfl (vR _)) rN) (Kb _) ⟨⟨_,rfl⟩,ptr b 0,_,_,.inr rfl,ie,rfl⟩
 obtain⟨⟨x',Rn⟩,_⟩:=h;cases Rn
end sq
end Go.Proofs.YtmnjklgnhpnckaaGreatDoor
namespace Go.Proofs.YtmnjklgnhpnckaaGreatDoor.sq
open Go.GL Go.RowKit Go.ia
variable{a b:Heap}{all met:List Wd}
abbrev ic(l:List (Wd×Nat)):List Wd:=l.map (·.1)
theorem qqB{l:List (Wd×Nat)}{i:Nat}(h:i<l.length):ic (l.take (i+1))=ic (l.take i)++[l[i].1]:=by unfold ic;rw[List.take_succ_eq_append_getElem h,Je];rfl
theorem lZ{a:List Wd}{w d:Wd}(h:ya w=some d):Ib (a++[w])=Ib a++[d]:=by rw[jA,AF,h];rfl
theorem BP{a:List Wd}{w:Wd}(h:ya w=none):Ib (a++[w])=Ib a:=by rw[jA,tk h];simp[Ib]
theorem set_nil:He #[] (λs=>decide (s∈([]:List Wd))):=⟨λe he=>by simp at he,λs h=>by simp at h⟩
theorem qqh{es:Array MapEntry}{ds:List Wd}{d:Wd}(h:He es λs=>decide (s∈ds) || decide (s=d)):He es (λs=>decide (s∈ds++[d])):=
 cast (congrArg (He es) (funext λs=>by simp)) h
attribute [local irreducible] Ea fb Ya ca Go.GL.Pure ve Oe Kd LQ yb nh db
variable{B0:Nat}{w0:World}
theorem an(hG:GW B0 w0)(hM:GM w0)(s:List UInt8)(hs:s.length<=400000000):ca (KC B0 w0) 52 [str s] [] (Qb (.list ((Ku s).map uj))):=by
 have hP:Ku s=BD 0 (qg 10 s):=rfl;have Un:=VZ 10 s;have hpa:((qg 10 s).map str).length=(qg 10 s).length:=Db _;have uA:(Ku s).length<=s.length+1:=by have h1:=OZ s;rw[<-aK,Db] at h1;exact h1
 have Bo:=qlu hG hM s 10 zo;refine kb Tryz.func52 rfl (n:=41) rfl rfl rfl ?_;refine di ?_;refine oS (sF [_,_] rfl Bo ?_);refine Da ?_;refine oL (λk ls H=>∃ (i:Nat) (out:List (Wd×Nat)) (v:LV),i<=(qg 10 s).length/\k=(qg 10 s).length-i/\ls=[(3,v),(9,.list ((qg 10 s).map str)),(10,int .i64 (qg 10 s).length),(11,int .i64 (i:Nat))]/\Acc 2 v (out.map uj) H []/\out++BD i ((qg 10 s).drop i)=Ku s)
  ⟨_,_,_,⟨0,[],Yb,zero_le _,rfl,rfl,Acc.nil,rfl⟩,lb,Kb _⟩ ?_
 rintro k ls H ⟨i,out,v,hi,rfl,rfl,Ra,hE⟩ j hj;refine Zg ?_;refine Ma (λhc=>?_) λhc=>?_
 ·have Ja:i<(qg 10 s).length:=by have:=zt hc;omega
  have Bs:out.length<=(Ku s).length:=by rw[<-hE,Ga];omega
  rw[qq8 Ja] at hE;have aE:=AV (getElem_mem Ja);have rn:=qwb hG hM (qg 10 s)[i] 35 zo;have hW:Ft (qg 10 s)[i]=full (qg 32 ((qg 10 s)[i].takeWhile λd=>decide (d≠35))):=rfl;have htw:((qg 10 s)[i].takeWhile λd=>decide (d≠35)).length<=(qg 10 s)[i].length:=(List.takeWhile_prefix _).length_le;have Wk:=qlu hG hM ((qg 10 s)[i].takeWhile λd=>decide (d≠35)) 32 zo;have hql:=VZ 32 ((qg 10 s)[i].takeWhile λd=>decide (d≠35));generalize (qg 10 s)[i].takeWhile (λd=>decide (d≠35))=line at rn hW htw Wk hql;generalize hq:qg 32 line=q at hW Wk hql;have hqa:(q.map str).length=q.length:=Db _
  repeat (first|refine Ea.nil ?_|refine qN ?_|refine fb.skip ?_)
  refine fb.seq ?_;refine cM (A:=List (Wd×Nat)×LV×Heap) (λa=>[(3,a.2.1),(9,.list ((qg 10 s).map str)),(10,int .i64 (qg 10 s).length),(11,int .i64 (i:Nat))]) (λa=>a.2.2) (λa=>a.1=out++(full q).map (λw=>(w,i+1))/\Acc 2 a.2.1 (a.1.map uj) a.2.2 []) ?_ ?_;refine xa ?_;refine la (xR (ke:=str (qg 10 s)[i]) (cs:=[str (qg 10 s)[i]]) rfl rfl zo (Ln _ _ _ Ja) rfl rfl)<|wa ?_;refine oS (S.Dg [_,_] rfl rn ?_);rintro lv ⟨a,b,rfl⟩;refine xa ?_;refine oS (sF [_,_] rfl Wk ?_);refine Da ?_
  refine oL (λk ls H=>∃ (x:Nat) (dp:List (Wd×Nat)) (v:LV),x<=q.length/\k=q.length-x/\ls=[(3,v),(4,int .i64 (i:Nat)),(9,.list ((qg 10 s).map str)),(10,int .i64 (qg 10 s).length),(11,int .i64 (i:Nat)),(23,.list (q.map str)),(24,int .i64 q.length),(25,int .i64 (x:Nat))]/\Acc 2 v (dp.map uj) H []/\dp.length<=out.length+x/\dp++(full (q.drop x)).map (λw=>(w,i+1))=out++(full q).map λw=>(w,i+1))
   ⟨_,_,_,⟨0,out,v,zero_le _,rfl,rfl,Ra,by omega,rfl⟩,lb,Kb _⟩ ?_
  rintro k ls H ⟨x,dp,v2,hx,rfl,rfl,ie,El,qq⟩ j2 wc;have aal:(dp.map uj).length=dp.length:=Db _;refine Zg ?_;refine Ma (λhc=>?_) λhc=>?_;have uw:x<q.length:=by have:=zt hc;omega
  rw[qsz uw] at qq;refine Ti ?_;refine la (xR (ke:=str q[x]) (cs:=[str q[x]]) rfl rfl zo (Ln _ _ _ uw) rfl rfl)<|wa ?_;refine Ma (λhn=>?_) λhn=>?_;have Fb:¬ q[x]=[]:=by simpa using hn
  rw[zn Fb] at qq;refine qe ?_;refine la (pM (lv:=v2) rfl)<|Na ?_;refine tj ?_;refine oS (S.acc rfl ie rfl (by simp;rfl) rfl (by simp;omega) λv3 H3 Vx=>la (pA (lv:=v3) rfl) ?_);refine Zk ?_;exact⟨_,_,_,by omega,⟨x+1,dp++[(q[x],i+1)],v3,by omega,rfl,rfl,by rw[Je];exact Vx,by simp;omega,by rw[Sc];exact qq⟩,lb,Kb _,wc⟩;have Fb:q[x]=[]:=by simpa using hn
  rw[zp Fb] at qq;refine xa ?_;exact⟨_,_,_,by omega,⟨x+1,dp,v2,by omega,rfl,rfl,ie,by omega,qq⟩,lb,Kb _,wc⟩;have Rn:x=q.length:=by have:=zf hc;omega
  subst Rn;rw[drop_length] at qq;refine Da ?_;exact⟨(dp,v2,H),⟨by simpa [full] using qq,ie⟩,lb,Kb _,wc⟩;rintro⟨dp,v2,H2⟩ ⟨ho,ie⟩ j3 qn;simp only at ho ie;rw[hW,<-Sc,<-ho] at hE;refine Zk ?_;exact⟨_,_,_,by omega,⟨i+1,dp,v2,by omega,rfl,rfl,ie,by rw[<-hE]⟩,lb,Kb _,qn.trans hj⟩
 have Ff:i=(qg 10 s).length:=by have:=zf hc;omega
 subst Ff;rw[drop_length,BD,de] at hE;subst hE;refine fb.sub (d:=3) (v:=v) rfl Ra.sub ?_;refine cW yd ?_;refine wa ?_;exact qb hj (rC (rT (v:=.list _) rfl Nd) rN) rfl
theorem qpZ{p:Wd×Nat}{x:Wd}{r:List (Wd×Nat)}(h:ya p.1=some x):Qe all met (p::r)=if x∈met then (p.2,8) else Qe all (met++[x]) r:=by obtain⟨w,ln⟩:=p;simp only at h;rw[Qe,h]
theorem qqV{p:Wd×Nat}{x:Wd}{r:List (Wd×Nat)}(h:ya p.1=none)(h2:Va p.1=some x):Qe all met (p::r)=if x∈all then Qe all met r else (p.2,7):=by obtain⟨w,ln⟩:=p;simp only at h h2;rw[Qe,h,h2]
theorem qn4{p:Wd×Nat}{r:List (Wd×Nat)}(h:ya p.1=none)(h2:Va p.1=none):Qe all met (p::r)=if dx p.1=true then Qe all met r else (p.2,3):=by obtain⟨w,ln⟩:=p;simp only at h h2;rw[Qe,h,h2]
theorem Yf(l:List (Wd×Nat))(hl:l.length<=1000000000)(hs:∀ p∈l,p.1.length<=1000000000):ca (KC B0 w0) 53 [.list (l.map uj)] [] (Qb (.tuple [int .i64 ((Qe (Ib (ic l)) [] l).1:Nat),int .i64 ((Qe (Ib (ic l)) [] l).2:Nat)])):=by
 have zC:(l.map uj).length=l.length:=Db _;have zb:∀ w,(zeroValue 4).run (KC B0 w0).P w=.ok (.bool false) w:=λw=>(Go.zero_of_info (P:=Tryz.prog) (n:=1) zk).1 w;generalize hR:Qe (Ib (ic l)) [] l=R;refine kb Tryz.func53 rfl (n:=70) rfl rfl rfl ?_;refine Yn ?_;refine oS (S.makeMap λm=>?_);refine xa ?_
 refine oL (λk ls H=>∃ (i:Nat) (es:Array MapEntry) (qa:Nat),i<=l.length/\k=l.length-i/\ls=[(0,.list (l.map uj)),(4,.atom (.map (some m))),(17,.list (l.map uj)),(18,int .i64 l.length),(19,int .i64 (i:Nat))]/\H=[(m,.obj (.map es qa))]/\He es λs=>decide (s∈Ib (ic (l.take i))))
  ⟨_,_,_,⟨0,#[],0,zero_le _,rfl,rfl,rfl,set_nil⟩,lb,Kb _⟩ ?_
 rintro k ls H ⟨i,es,qa,hi,rfl,rfl,rfl,hM⟩ j1 pd;refine Zg ?_;refine Ma (λhc=>?_) λhc=>?_;have Ja:i<l.length:=by have:=zt hc;omega
 have kd:=E0 (B0:=B0) (w0:=w0) l[i] (by have:=hs _ (getElem_mem Ja);omega);have eG:=qqB Ja;refine NE ?_;refine oS (Jd λb6=>?_);refine wa ?_;refine oS (S.Dg [_] rfl kd ?_);rintro lv ⟨s,rfl,Wk⟩;refine xa ?_;refine Ma (λh=>?_) λh=>?_;obtain⟨d,hd⟩:=zR h;obtain rfl:=Wk d hd;refine Bd ?_;refine oS (S.uv (t:=112) (kt:=9) (el:=4) zk zk rfl rfl rfl Od hM λCp Ec mS=>?_);refine Zk ?_;exact⟨_,_,_,by omega,⟨i+1,Cp,Ec,by omega,rfl,rfl,rfl,by rw[eG,lZ hd];exact qqh mS⟩,lb,⟨[_],List.Perm.refl _⟩,pd⟩
 have hn:ya l[i].1=none:=by
  cases ho:ya l[i].1 with
  |none=>rfl
  |some d=>rw[ho] at h;cases h
 refine xa ?_;exact⟨_,_,_,by omega,⟨i+1,es,qa,by omega,rfl,rfl,rfl,by rw[eG,BP hn];exact hM⟩,lb,Pg ob,pd⟩;have Ff:i=l.length:=by have:=zf hc;omega
 subst Ff;rw[take_length] at hM;refine xa ?_;refine oS (S.makeMap λm2=>?_);refine xa ?_;refine oL (λk ls H=>∃ (i:Nat) (BS:Array MapEntry) (Ns:Nat),i<=l.length/\k=l.length-i/\ls=[(4,.atom (.map (some m))),(9,.atom (.map (some m2))),(33,.list (l.map uj)),(34,int .i64 l.length),(35,int .i64 (i:Nat))]/\H=[(m2,.obj (.map BS Ns)),(m,.obj (.map es qa))]/\He BS (λs=>decide (s∈Ib (ic (l.take i))))/\Qe (Ib (ic l)) (Ib (ic (l.take i))) (l.drop i)=R)
  ⟨_,_,_,⟨0,#[],0,zero_le _,rfl,rfl,rfl,set_nil,hR⟩,lb,Kb _⟩ ?_
 rintro k ls H ⟨i,BS,Ns,hi,rfl,rfl,rfl,nW,hE⟩ j2 wc;refine Zg ?_;refine Ma (λhc=>?_) λhc=>?_
 ·have Ja:i<l.length:=by have:=zt hc;omega
  have ou:=hs _ (getElem_mem Ja);have kd:=E0 (B0:=B0) (w0:=w0) l[i] zo;have kr:=qks (B0:=B0) (w0:=w0) l[i] zo;have kc:=qnV (B0:=B0) (w0:=w0) l[i] zo;have eG:=qqB Ja;rw[drop_eq_getElem_cons Ja] at hE;refine NE ?_;refine oS (Jd λb11=>?_);refine wa ?_;refine oS (S.Dg [_] rfl kd ?_);rintro lv ⟨s,rfl,Wk⟩;refine xa ?_;refine Ma (λh=>?_) λh=>?_
  ·obtain⟨d,hd⟩:=zR h;obtain rfl:=Wk d hd;refine Bd ?_;refine la (Pure.vv (t:=112) (kt:=9) (el:=4) zk zk zb rfl rfl Oh nW)<|dd ?_;refine Ma (λh3=>?_) λh3=>?_;have Wf:=zt h3;refine xa ?_;rw[qpZ hd,zp Wf] at hE;exact qb (wc.trans pd) (rC (Fc rfl) (eb rfl)) (by rw[<-hE];rfl);have Wf:=zf h3;refine xa ?_;refine oS (S.uv (t:=112) (kt:=9) (el:=4) zk zk rfl rfl rfl Od nW λCp Ec mS=>?_);refine Zk ?_;exact⟨_,_,_,by omega,⟨i+1,Cp,Ec,by omega,rfl,rfl,rfl,by rw[eG,lZ hd];exact qqh mS,by rw[eG,lZ hd,<-hE,qpZ hd,zn Wf]⟩,lb,⟨[_],Vs _ (cr ..)⟩,wc⟩
  have hn:ya l[i].1=none:=by
   cases ho:ya l[i].1 with
   |none=>rfl
   |some d=>rw[ho] at h;cases h
  refine wa ?_;refine oS (S.Dg [_] rfl kr ?_);rintro lv ⟨s,rfl,CN⟩;refine xa ?_;refine Ma (λh3=>?_) λh3=>?_;obtain⟨d,hd⟩:=zR h3;obtain rfl:=CN d hd;refine Bd ?_;refine la (Pure.vv (t:=112) (kt:=9) (el:=4) zk zk zb rfl rfl sy hM)<|Na ?_;refine Ma (λh4=>?_) λh4=>?_;have Wf:¬ s∈Ib (ic l):=by simpa using h4
  refine xa ?_;rw[qqV hn hd,zn Wf] at hE;exact qb (wc.trans pd) (rC (Fc rfl) (eb rfl)) (by rw[<-hE];rfl);have Wf:s∈Ib (ic l):=by simpa using h4
  refine xa ?_;exact⟨_,_,_,by omega,⟨i+1,BS,Ns,by omega,rfl,rfl,rfl,by rw[eG,BP hn];exact nW,by rw[eG,BP hn,<-hE,qqV hn hd,zp Wf]⟩,lb,Pg ob,wc⟩;have QV:Va l[i].1=none:=by
   cases ho:Va l[i].1 with
   |none=>rfl
   |some d=>rw[ho] at h3;cases h3
  refine wa ?_;refine oS (sF [_] rfl kc ?_);refine Na ?_;refine Ma (λh4=>?_) λh4=>?_;have Wf:¬ dx l[i].1=true:=by simpa using h4
  refine xa ?_;rw[qn4 hn QV,zn Wf] at hE;exact qb (wc.trans pd) (rC (Fc rfl) (eb rfl)) (by rw[<-hE];rfl);have Wf:dx l[i].1=true:=by simpa using h4
  refine xa ?_;exact⟨_,_,_,by omega,⟨i+1,BS,Ns,by omega,rfl,rfl,rfl,by rw[eG,BP hn];exact nW,by rw[eG,BP hn,<-hE,qn4 hn QV,zp Wf]⟩,lb,Pg ob,wc⟩
 have Ff:i=l.length:=by have:=zf hc;omega
 subst Ff;rw[drop_length,Qe] at hE;refine xa ?_;exact qb (wc.trans pd) (rC (Fc rfl) (eb rfl)) (by rw[<-hE];rfl)
def AJ(km:Option Nat)(Hk:Heap)(kn:Wd->Nat):Prop:=(km=none/\Hk=[]/\∀ x,kn x=0)∨∃ b m qa,km=some b/\Hk=[(b,.map (Pe m) qa)]/\∀ x,(GL.wb m x).getD (int .i64 0)=int .i64 (kn x:Nat)
section
variable{C:Ctx}{e:Env}{H:Heap}{dst:Option Nat}{ty:TypeId}{ra:String}{ua:Array Edge}{g:Option (Nat×Bool)}{K:LV->Heap->Prop}{X:List PanicEntry->Heap->Prop}{x y:Operand}
theorem S.known{t kt el:TypeId}(ht:C.P.underlying t=some (.map kt el))(Ah:C.P.underlying kt=some .string)(hz:∀ w,(zeroValue el).run C.P w=.ok (.int .i64 0) w){km:Option Nat}{Hk:Heap}{kn:Wd->Nat}{k:List UInt8}(hK:AJ km Hk kn)(hm:e.ev x=.atom (.map km))(hx:e.ev y=str k)
  (hb:∀ q∈Hk,q∈H) (hk:K (int .i64 (kn k:Nat)) H):Ya C ⟨dst,.lookup t x y false,ty,ra,ua,g⟩ e H K X:=by
 rcases hK with⟨rfl,rfl,h0⟩|⟨b,m,qa,rfl,rfl,hI⟩;refine Pure.step (Pure.uK ht Ah hz hm hx) ?_;rw[h0 k] at hk;exact hk;refine Pure.step (Pure.wb ht Ah hz (zl:=int .i64 0) (λ_ _=>zd) hm hx (hb _ (Mo rfl))) ?_;rw[hI k];exact hk
end
theorem kY{q:Nat×ma}:HSub (a++b) (a++q::b):=⟨[q],List.perm_middle.trans (List.perm_append_singleton _ _).symm⟩
theorem qvS{q:Nat×ma}:HSub (a++b) ((a++[q])++b):=by rw[Sc];exact kY
theorem qyO(a b:Nat):int .i64 ((a+b:Nat):Int)=int .i64 ((a:Int)+(b:Nat)):=Kg zo
theorem qwB{q:Nat×ma}:(a++q::b).Perm (b++(a++[q])):=by have h:=gi (l₁:=a++[q]) (l₂:=b);rw[Sc] at h;exact h
theorem qyX{s:Nat}{v:LV}{es:List LV}{H F:Heap}(h:Acc s v es H F):HSub (a++F) (a++H):=by
 cases h with
 |nil=>exact Kb _
 |row=>exact kY
theorem oY(kn:Wd->Nat)(og:Nat)(l:List Wd)(t:Wd)(ub:List (Wd×Nat))(h:∀ w∈l,w≠[]):t.length<=(l.foldl (Tg kn og) (t,ub)).1.length:=by rw[ZU,aZ kn l t h];omega
theorem qnq(kn:Wd->Nat)(og:Nat):∀ (l:List Wd) (s:Wd×List (Wd×Nat)),s.2.length<=((l.foldl (Tg kn og) s).2).length/\((l.foldl (Tg kn og) s).2).length<=s.2.length+l.length
 |[],s=>by simp
 |w::r,s=>by
  rw[foldl_cons];have:=qnq kn og r (Tg kn og s w);have h2:s.2.length<=(Tg kn og s w).2.length/\(Tg kn og s w).2.length<=s.2.length+1:=by
   unfold Tg;cases ya w with
   |some x=>simp
   |none=>simp
  simp only[La];omega
theorem qvE:Jf []=me 32:=by decide
theorem qtl(hG:GW B0 w0)(l:List (Wd×Nat))(og:Nat)(qR:og<=1000000)(hl:l.length<=1000000000)(hs:∀ p∈l,p.1≠[]/\p.1.length<=1000000000)(kn:Wd->Nat)(yA:∀ x,kn x<=1000000000000)(hL:((ic l).foldl (Tg kn og) ([],[])).1.length<=2000000000)(km:Option Nat)(Hk:Heap)(hK:AJ km Hk kn) :
  ca (KC B0 w0) 54 [.list (l.map uj),int .i64 (og:Nat),.atom (.map km)] Hk (λr H'=>r=.ret (.tuple [str ((ic l).foldl (Tg kn og) ([],[])).1,.list (((ic l).foldl (Tg kn og) ([],[])).2.map uj)])/\H'=Hk):=by
 have zC:(l.map uj).length=l.length:=Db _;have zi:∀ w,(zeroValue 3).run (KC B0 w0).P w=.ok (.int .i64 0) w:=λw=>(Go.zero_of_info (P:=Tryz.prog) (n:=1) zk).1 w
 have uR:∀ i,∀ w∈ic (l.drop i),w≠[]:=λi w hw=>by obtain⟨p,hp,rfl⟩:=Qh hw;exact(hs p (List.mem_of_mem_drop hp)).1
 generalize hR:(ic l).foldl (Tg kn og) ([],[])=R at hL ⊢;refine kb Tryz.func54 rfl (n:=68) rfl rfl rfl ?_;refine Yn ?_;refine oS (Jd λbb=>?_);refine xa ?_;refine oL (λk ls H=>∃ (i:Nat) (t:List UInt8) (ub:List (Wd×Nat)) (v:LV) (last:UInt8) (HB HL:Heap),i<=l.length/\k=l.length-i/\ls=[(1,int .i64 (og:Nat)),(2,.atom (.map km)),(8,ptr bb 0),(9,v),(10,int .u8 last.toNat),(18,.list (l.map uj)),(19,int .i64 l.length),(20,int .i64 (i:Nat))]/\H=HB++HL/\BH bb t HB/\Acc 2 v (ub.map uj) HL Hk/\Jf t=me last/\ub.length<=i/\(ic (l.drop i)).foldl (Tg kn og) (t,ub)=R)
  ⟨_,_,_,⟨0,[],[],Yb,32,[(bb,.cells 92 [.atom (.pointer none),.atom (.slice none 0 0)])],Hk,zero_le _,rfl,rfl,rfl,⟨_,_,[],.inl rfl,bh.nil,rfl⟩,Acc.nil,qvE,zero_le _,hR⟩,lb,Kb _⟩ ?_
 rintro k ls H ⟨i,t,ub,v,last,HB,HL,hi,rfl,rfl,rfl,hB,Ra,GR,aE,hE⟩ j hj;have hol:(ub.map uj).length=ub.length:=Db _;have htR:=oY kn og (ic (l.drop i)) t ub (uR i);rw[hE] at htR;refine Zg ?_;refine Ma (λhc=>?_) λhc=>?_;have Ja:i<l.length:=by have:=zt hc;omega
 obtain⟨Fb,ou⟩:=hs _ (getElem_mem Ja);have kd:=E0 (B0:=B0) (w0:=w0) l[i] zo;have kr:=qks (B0:=B0) (w0:=w0) l[i] zo;have ai:ic (l.drop i)=l[i].1::ic (l.drop (i+1)):=by unfold ic;rw[drop_eq_getElem_cons Ja,jd]
 rw[ai,foldl_cons] at hE;refine NE ?_;refine oS (Jd λIL=>?_);refine wa ?_;refine oS (S.Dg [_] rfl kd ?_);rintro lv ⟨s,rfl,Wk⟩;refine xa ?_;refine Ma (λh=>?_) λh=>?_;obtain⟨d,hd⟩:=zR h;obtain rfl:=Wk d hd;have Kk:Tg kn og (t,ub) l[i].1=(t,ub++[(s,og+t.length)]):=by unfold Tg;rw[hd]
 rw[Kk] at hE;refine qe ?_;refine Xi ?_;refine fi ?_;refine oS (S.Tc (H1:=HB) (F:=(IL,.cells 185 [str l[i].1,int .i64 l[i].2])::HL) [_] rfl List.perm_middle.symm (qkE bb t HB hB) (λv' H' h=>?_) (λch H' h=>by obtain⟨h,_⟩:=h;cases h));obtain⟨hv,rfl⟩:=h;cases hv;refine Na ?_;refine tj ?_;refine oS (sG (H1:=HL) (A:=H'++[(IL,.cells 185 [str l[i].1,int .i64 l[i].2])]) qwB rfl Ra rfl (by simp;rfl) rfl (by simp;omega) λv' H2 ab=>?_);refine gr ?_
 exact⟨_,_,_,by omega,⟨i+1,t,ub++[(s,og+t.length)],v',last,H',H2,by omega,rfl,rfl,rfl,hB,by
  rw[Je];have e1:[uj (s,og+t.length)]=[LV.agg [str s,int .i64 ((og:Int)+(t.length:Nat))]]:=by unfold uj;rw[qyO]
  rw[List.map_singleton,e1];exact ab,GR,by simp;omega,hE⟩,lb,qvS,hj⟩
 have hn:ya l[i].1=none:=by
  cases ho:ya l[i].1 with
  |none=>rfl
  |some d=>rw[ho] at h;cases h
 have Kk:Tg kn og (t,ub) l[i].1=(ze kn t l[i].1,ub):=by unfold Tg;rw[hn]
 obtain⟨WD,XV,lI⟩:=UP kn t l[i].1 hn Fb;have iL:ze kn t l[i].1=t++(if Jf t && Wl (af kn l[i].1) then [32] else [])++af kn l[i].1:=by unfold ze;rw[hn]
 have B3:=oY kn og (ic (l.drop (i+1))) (ze kn t l[i].1) ub (uR (i+1));rw[Kk] at hE;rw[hE] at B3;refine cM (A:=Wd) (λs=>[(1,int .i64 (og:Nat)),(2,.atom (.map km)),(8,ptr bb 0),(9,v),(10,int .u8 last.toNat),(13,str s),(18,.list (l.map uj)),(19,int .i64 l.length),(20,int .i64 (i:Nat))]) (λ_=>(IL,.cells 185 [str l[i].1,int .i64 l[i].2])::(HB++HL)) (λs=>s=af kn l[i].1) ?_ ?_;refine wa ?_;refine oS (S.Dg [_] rfl kr ?_);rintro lv ⟨s,rfl,CN⟩;refine xa ?_;refine Ma (λh3=>?_) λh3=>?_;obtain⟨d,hd⟩:=zR h3;obtain rfl:=CN d hd;refine Bd ?_;refine oS (S.known (t:=119) (kt:=9) (el:=3) zk zk zi hK rfl rfl (λq hq=>Pc _ (List.mem_append_right _ (Ra.iC.mem q hq)))<|oS (sF [_] rfl (Z0 hG (kn s) (yA s)) ?_));refine dd ?_;exact⟨Qp (kn s),(by unfold af;rw[hd]),lb,Kb _,rfl⟩
 have QV:Va l[i].1=none:=by
  cases ho:Va l[i].1 with
  |none=>rfl
  |some d=>rw[ho] at h3;cases h3
 refine Da ?_;exact⟨l[i].1,(by unfold af;rw[QV]),lb,Kb _,rfl⟩;rintro s oq j2 wc;rw[<-oq] at WD XV lI iL;have lG:=WD;have pu:=one_le (me last && Wl s);obtain⟨c,r,CI⟩:=List.exists_cons_of_ne_nil lG;have hfc:Wl s=me c:=by rw[CI];rfl
 rw[GR] at iL lI;refine fb.seq ?_;refine cM (A:=Heap) (λ_=>[(1,int .i64 (og:Nat)),(2,.atom (.map km)),(8,ptr bb 0),(9,v),(10,int .u8 last.toNat),(13,str s),(18,.list (l.map uj)),(19,int .i64 l.length),(20,int .i64 (i:Nat))]) (λUN=>UN++(IL,.cells 185 [str l[i].1,int .i64 l[i].2])::HL) (λUN=>BH bb (t++if (me last && Wl s)=true then [32] else []) UN) ?_ ?_;refine Bd ?_;refine oS (sF [_] rfl (qhi last) ?_);refine fi ?_;refine oB 52 rfl (λh4=>?_) λh4=>?_;have CG:me last=true:=h4;rw[CG,Bool.true_and,hfc];refine fi ?_;refine la (pI (c:=c) rfl rfl zo (by rw[CI];rfl))<|fi ?_;refine oS (sF [_] rfl (qhi c) ?_);refine Da ?_;refine Ma (λh5=>?_) λh5=>?_;refine qe ?_;refine oS (S.Tc (H1:=HB) (F:=(IL,.cells 185 [str l[i].1,int .i64 l[i].2])::HL) [_,_] rfl List.perm_middle.symm (qkT bb t 32 HB hB zo) (λv' H' h=>?_) (λch H' h=>by obtain⟨⟨x,h⟩,_⟩:=h;cases h));refine dd ?_;exact⟨H',by rw[zp h5];exact h.2,lb,Kb _,rfl⟩;refine Da ?_;exact⟨HB,by rw[zn (by rw[h5];decide),de];exact hB,lb,⟨[],by simpa using List.perm_middle.symm⟩,rfl⟩;have CG:me last=false:=h4;rw[CG,Ui];refine Da ?_;refine oC rfl (λh5=>by cases h5) λh5=>?_;refine Da ?_;exact⟨HB,by rw[zn fa,de];exact hB,lb,⟨[],by simpa using List.perm_middle.symm⟩,rfl⟩;rintro UN qW j3 qn;have aaj:=List.length_pos_iff.2 lG
 have Vh:s[((s.length:Int)-1).toNat]? = some (s.getLast lG):=by rw[show((s.length:Int)-1).toNat=s.length-1 by omega,List.getLast_eq_getElem,jh zo]
 have Px:Jf s=me (s.getLast lG):=by unfold Jf;rw[List.getLast?_eq_some_getLast lG]
 have uA:(t++if (me last && Wl s)=true then [32] else []).length+s.length<=2000000000:=by
  have:(t++if (me last && Wl s)=true then [32] else []).length=t.length+one (me last && Wl s):=by rw[Ga];unfold one;split <;> rfl
  omega
 rw[iL] at hE XV;generalize (t++if (me last && Wl s)=true then [32] else [])=t2 at qW uA hE XV;refine Bd ?_;refine oS (S.Tc (H1:=UN) (F:=(IL,.cells 185 [str l[i].1,int .i64 l[i].2])::HL) [_,_] rfl mc (qfm bb t2 s UN qW zo) (λv' H' h=>?_) (λch H' h=>by obtain⟨⟨x,h⟩,_⟩:=h;cases h));obtain⟨⟨x,hx⟩,hB2⟩:=h;refine wa ?_;refine la (pI (c:=s.getLast lG) rfl rfl zo Vh)<|xa ?_;exact⟨_,_,_,by omega,⟨i+1,t2++s,ub,v,s.getLast lG,H',HL,by omega,rfl,rfl,rfl,hB2,Ra,by rw[XV,Px],by omega,hE⟩,lb,kY,qn.trans (wc.trans hj)⟩;have Ff:i=l.length:=by have:=zf hc;omega
 subst Ff;rw[drop_length] at hE;have O5:(t,ub)=R:=hE;subst O5;refine fb.sub (d:=9) (v:=v) rfl Ra.sub ?_;refine cW (qyX Ra) ?_;refine xa ?_;refine oS (S.Tc (H1:=HB) (F:=Hk) [_] rfl mc (G0 bb t HB hB zo) (λv' H' h=>?_) (λch H' h=>by obtain⟨h,_⟩:=h;cases h));obtain⟨hv,rfl⟩:=h;cases hv;refine Na ?_;exact rR hj (rC (Fc rfl) (rC (rT (v:=.list _) rfl Nd) rN)) ob ⟨rfl,by simp⟩
theorem qU:∀ (l:List Wd) (d:Bool),bc d l<=3 * Ef l
 |[],d=>zero_le _
 |w::r,d=>by
  have h1:=one_le d;have h2:=one_le (d && Wl w);rw[bc,Zj];cases ya w with
  |some l=>have:=qU r d;simp only;omega
  |none=>
   cases hr:Va w with
   |some l=>
    have:=qU r true;have na:2<=w.length:=by unfold Va at hr;split at hr;cases hr;rename_i c q;split at hr;rename_i hc;have:=List.length_pos_iff.2 (qwy hc.2);simp only[La];omega;cases hr
    simp only;omega
   |none=>have:=qU r (Jf w);simp only;omega
theorem C9(kn:Wd->Nat)(og M:Nat):∀ (l:List Wd) (s:Wd×List (Wd×Nat)),(∀ w∈l,w≠[])->((l.foldl (Tg kn og) s).1).length<=M->(∀ p∈s.2,p.2<=og+M)->∀ p∈(l.foldl (Tg kn og) s).2,p.2<=og+M
 |[],s,_,_,h=>h
 |w::r,s,hw,hM,h=>by
  rw[foldl_cons] at hM ⊢;refine C9 kn og M r _ (λx hx=>hw x (Pc w hx)) hM ?_;have h1:=oY kn og r (Tg kn og s w).1 (Tg kn og s w).2 λx hx=>hw x (Pc w hx);intro p hp;unfold Tg at hp h1 hM
  cases hd:ya w with
  |none=>rw[hd] at hp;exact h p hp
  |some x=>rw[hd] at hp h1 hM;simp only at hp h1 hM;rcases xj hp with hp|hp;exact h p hp;rw[Vi hp];simp only;omega
def bF(ub:List (Wd×Nat)):KV:=ub.map λp=>(p.1,int .i64 (p.2:Nat))
theorem qm6:∀ (ub:List (Wd×Nat)) (x:Wd),(GL.wb (bF ub) x).getD (int .i64 0)=int .i64 (wo ub x:Nat)
 |[],x=>rfl
 |p::r,x=>by unfold bF wo;rw[jd,GL.wb,List.find?_cons];by_cases h:p.1=x;rw[zp h,Nf h];rfl;rw[zn h,decide_eq_false h];exact qm6 r x
theorem qrk{ub:List (Wd×Nat)}{i:Nat}(h:i<ub.length)(hn:(ub.map (·.1)).Nodup):GL.Ic (bF (ub.take i)) ub[i].1 (int .i64 (ub[i].2:Nat))=bF (ub.take (i+1)):=by
 unfold bF;rw[List.take_succ_eq_append_getElem h,Je];refine NT ?_;rw[map_map];intro hm;have e1:ub.map (·.1)=(ub.take i).map (·.1)++ub[i].1::(ub.drop (i+1)).map (·.1):=by
  conv=>lhs;rw[<-List.take_append_drop i ub,drop_eq_getElem_cons h]
  rw[Je,jd]
 rw[e1,List.nodup_append] at hn;exact hn.2.2 _ hm _ We rfl
theorem qwu{ub:List (Wd×Nat)}{M:Nat}(h:∀ p∈ub,p.2<=M)(x:Wd):wo ub x<=M:=by
 unfold wo;cases hf:ub.find? λp=>decide (p.1=x) with
 |none=>exact zero_le _
 |some p=>exact h p (List.mem_of_find?_eq_some hf)
def Eu:Except (Nat×Nat) (Wd×List (Wd×Nat))->LV
 |.error e=>.tuple [str [],.list [],int .i64 (e.1:Nat),int .i64 (e.2:Nat)]
 |.ok x=>.tuple [str x.1,.list (x.2.map uj),int .i64 0,int .i64 0]
theorem wk(hG:GW B0 w0)(hM:GM w0)(src:List UInt8)(og:Int)(hs:src.length<=300000000):ca (KC B0 w0) 30 [str src,int .i64 og] [] (Qb (Eu (Gh src og))):=by
 have hA:Gh src og=Gh src og:=rfl
 conv at hA=>rhs;unfold Gh
 generalize hR:Gh src og=R at hA ⊢;refine ca.YB Tryz.func30 rfl (n:=65) rfl rfl rfl ?_;refine xa ?_;refine oB 19 rfl (λh1=>?_) λh1=>?_;have vW:og<0:=zt h1;rw[zp (.inl vW)] at hA;subst hA;refine Da ?_;refine oC rfl (λh=>?_) (λh=>by cases h);refine Gj ?_;exact qb rfl (rC (Fc rfl) (rC (rT (v:=Yb) rfl vN) (rC (Fc rfl) (eb rfl)))) rfl;have vW:¬ og<0:=zf h1;refine Na ?_;refine Ma (λh2=>?_) λh2=>?_;have CA:og ≥ 262144:=zt h2;rw[zp (.inr CA)] at hA;subst hA;refine Gj ?_;exact qb rfl (rC (Fc rfl) (rC (rT (v:=Yb) rfl vN) (rC (Fc rfl) (eb rfl)))) rfl;have CA:¬ og ≥ 262144:=zf h2;rw[zn zo] at hA;obtain⟨o,rfl⟩:∃ o:Nat,og=(o:Int):=⟨og.toNat,by omega⟩;rw[Int.toNat_natCast] at hA;have mW:=@PT src;have gW:=aK src;have hwt:=fV src;have FK:=OZ src;have Ge:=qiR src;have Zl:=qU (Nj src) false;have fG:=an hG hM src zo;rw[<-gW] at hwt FK Ge Zl hA mW;rw[Db] at FK;generalize Ku src=l at hwt FK Ge Zl fG hA mW;have Fb:∀ w∈ic l,w≠[]:=λw hw=>(Ge w hw).1
 have ld:∀ p∈l,p.1≠[]/\p.1.length<=1000000000:=λp hp=>by have hm:p.1∈l.map (·.1):=List.mem_map_of_mem hp;have:=M' hm;exact⟨(Ge _ hm).1,by omega⟩
 have Om:=Yf (B0:=B0) (w0:=w0) l zo λp hp=>(ld p hp).2
 have na:∀ kn,((ic l).foldl (Tg kn o) ([],[])).1.length=bc false (ic l):=λkn=>by rw[ZU];exact eZ kn _ Fb
 have hjo:=λkn yA km Hk hK=>qtl hG l o zo zo ld kn yA (by rw[na kn];show bc false (l.map (·.1))<=_;omega) km Hk hK;generalize hE:Qe (Ib (ic l)) [] l=E at Om hA mW;have qq:E=(E.1,E.2):=rfl;refine xa ?_;refine oS (sF [_] rfl fG ?_);refine wa ?_;refine oS (sF [_] rfl Om ?_);refine wa ?_;refine Ma (λh1=>?_) λh1=>?_;have h3:¬ E.2=0:=by simpa using h1
 rw[zp h3] at hA;subst hA;refine xa ?_;exact qb rfl (rC (Fc rfl) (rC (rT (v:=Yb) rfl vN) (rC (Fc rfl) (eb rfl)))) rfl;have h3:E.2=0:=by simpa using h1
 rw[zn zo] at hA;have rh:=(mW h3).1;refine xa ?_;refine oS (S.Tc (H1:=[]) (F:=[]) [_,_,.const (.map none)] rfl mc (hjo (λ_=>0) (λ_=>zero_le _) none [] (.inl ⟨rfl,rfl,λ_=>rfl⟩)) (λv' H' hh=>?_) (λch H' hh=>by obtain⟨h,_⟩:=hh;cases h));obtain⟨hv,rfl⟩:=hh;cases hv;have yC:((ic l).foldl (Tg (λ_=>0) o) ([],[])).2=Lp (λ_=>0) o (l.map (·.1)):=rfl;have hle:∀ p∈((ic l).foldl (Tg (λ_=>0) o) ([],[])).2,p.2<=1000000000000:=λp hp=>by have:=C9 (λ_=>0) o (bc false (ic l)) (ic l) ([],[]) Fb (by rw[na];exact Jb _) (λp hp=>by cases hp) p hp;have h5:bc false (ic l)<=3 * Ef (l.map (·.1)):=Zl;omega
 have Nq:(((ic l).foldl (Tg (λ_=>0) o) ([],[])).2.map (·.1)).Nodup:=by rw[N0];exact rh
 have aE:=(qnq (λ_=>0) o (ic l) ([],[])).2;rw[yC] at hle Nq aE;generalize hLB:Lp (λ_=>0) o (l.map (·.1))=ub at hle Nq aE hA yC;rw[yC];have aas:ub.length<=l.length:=by have:(ic l).length=l.length:=Db _;simp only[oc] at aE;omega
 have uG:(ub.map uj).length=ub.length:=Db _;refine wa ?_;refine oS (S.Al λm=>?_);refine xa ?_;refine oL (λk ls H=>∃ (i:Nat) (qa:Nat),i<=ub.length/\k=ub.length-i/\ls=[(1,int .i64 (o:Nat)),(8,.list (l.map uj)),(13,.atom (.map (some m))),(41,.list (ub.map uj)),(42,int .i64 ub.length),(43,int .i64 (i:Nat))]/\H=[(m,.map (Pe (bF (ub.take i))) qa)])
  ⟨_,_,_,⟨0,0,zero_le _,rfl,rfl,rfl⟩,lb,Kb _⟩ ?_
 rintro k ls H ⟨i,qa,hi,rfl,rfl,rfl⟩ j hj;refine Zg ?_;refine Ma (λhc=>?_) λhc=>?_;have Ja:i<ub.length:=by have:=zt hc;omega
 refine Ti ?_;refine la (xR (ke:=uj ub[i]) (cs:=[_,_]) rfl rfl zo (Ln _ _ _ Ja) rfl rfl)<|Na ?_;refine oS (Jd λb15=>?_);refine wa ?_;refine oS (S.Ic (t:=119) (kt:=9) (el:=3) (m:=bF (ub.take i)) (k:=ub[i].1) (lv:=int .i64 (ub[i].2:Nat)) zk zk rfl rfl rfl Od λEc=>?_);rw[qrk Ja Nq];refine Zk ?_;exact⟨_,_,_,by omega,⟨i+1,Ec,by omega,rfl,rfl,rfl⟩,lb,⟨[_],List.Perm.refl _⟩,hj⟩;have Ff:i=ub.length:=by have:=zf hc;omega
 subst Ff;rw[take_length];have yA:=qwu hle;refine xa ?_;refine oS (S.Tc (H1:=[(m,.map (Pe (bF ub)) qa)]) (F:=[]) [_,_,_] rfl mc (hjo (wo ub) yA (some m) _ (.inr ⟨m,bF ub,qa,rfl,rfl,qm6 ub⟩)) (λv' H' hh=>?_) (λch H' hh=>by obtain⟨h,_⟩:=hh;cases h));obtain⟨hv,rfl⟩:=hh;cases hv;have e1:((ic l).foldl (Tg (wo ub) o) ([],[])).1=ll (wo ub) (l.map (·.1)):=ZU _ _ _ _;have e2:((ic l).foldl (Tg (wo ub) o) ([],[])).2=ub:=by show Lp (wo ub) o (l.map (·.1))=ub;rw[qnZ (wo ub) (λ_=>0) o (l.map (·.1)) Fb];exact hLB
 rw[e1,e2];generalize ll (wo ub) (l.map (·.1))=tx at hA;refine wa ?_;refine Ma (λh2=>?_) λh2=>?_;have h5:40000<tx.length:=by have:=zt h2;omega
 rw[zp h5] at hA;subst hA;refine Gj ?_;exact qb hj (rC (Fc rfl) (rC (rT (v:=Yb) rfl vN) (rC (Fc rfl) (eb rfl)))) rfl;have h5:¬ 40000<tx.length:=by have:=zf h2;omega
 rw[zn h5] at hA;subst hA;refine wa ?_;exact qb hj (rC (Fc rfl) (rC (rT (v:=.list _) rfl Nd) (rC (Fc rfl) (eb rfl)))) rfl
end Go.Proofs.YtmnjklgnhpnckaaGreatDoor.sq
namespace Go.Proofs.YtmnjklgnhpnckaaGreatDoor.Pp
open Go.GL Go.RowKit Go.ia
open sq (rl rl.mk Xp)
variable{n:Int}
attribute [local irreducible] Ea fb Ya ca Go.GL.Pure ve Oe Kd LQ yb nh db
structure GW(B0:Nat)(w0:World):Prop where
 base:Go.Proofs.YtmnjklgnhpnckaaGreatDoor.GW B0 w0
 mx:sq.GM w0
 Fz : ∃ tp p, w0.var? Tryz.prog "strconv.ErrSyntax" = some #[.iface tp p]
variable{B0:Nat}{w0:World}
theorem GW.syn (h : GW B0 w0) {w : World} (hb : Below B0 w0 w) : ∃ tp p, w.var? Tryz.prog "strconv.ErrSyntax" = some #[.iface tp p] := by
 have hg : Tryz.prog.globalNamed "strconv.ErrSyntax" = some 1 := by kernel_rfl
 obtain⟨tp,p,hv⟩:=h.Fz;exact⟨tp,p,var?_below hb hg (Nat.lt_of_lt_of_le fa h.base.zW) hv⟩
theorem GW.range (h : GW B0 w0) {w : World} (hb : Below B0 w0 w) : ∃ tp p, w.var? Tryz.prog "strconv.ErrRange" = some #[.iface tp p] := h.base.err hb
theorem Ce(hG:GW B0 w0)(u:Nat)(hu:u<18446744073709551616):ca (KC B0 w0) 195 [int .u64 u,int .i64 10] [] (Qb (str (Go.Lib.decDigits u))):=Go.Proofs.YtmnjklgnhpnckaaGreatDoor.Ce hG.base u hu
theorem Bf(s p:List UInt8):ca (KC B0 w0) 162 [str s,str p] [] (Qb (.tuple [str (Go.Lib.trimPrefix s p),bool (Go.Lib.hasPrefix s p)])):=sq.Bf s p
theorem Af(s p:List UInt8)(hs:s.length<=1000000000):ca (KC B0 w0) 172 [str s,str p] [] (Qb (.tuple [str (Go.Lib.trimSuffix s p),bool (Go.Lib.hasSuffix s p)])):=sq.Af s p hs
theorem ql7(hG:GW B0 w0)(s:List UInt8)(hs:s.length<=1000000000):ca (KC B0 w0) 194 [str s,int .i64 10,int .i64 32] []
  (Cr λlv=>(∃ u,Go.Lib.parseUintB 32 s=.ok u/\lv=.tuple [int .u64 u,.atom .nilIface])∨((∀ u,Go.Lib.parseUintB 32 s≠.ok u)/\∃ v t p,lv=.tuple [int .u64 v,.atom (.iface t p)])):=by
 have ld:∀ k,1000000000<=k->s.toArray.size<=k:=λk hk=>by simp;omega
 refine ca.mono (ca.fh (vs:=[.string ⟨s.toArray⟩,.int .i64 10,.int .i64 32]) (p:=λus=>(∃ u,Go.Lib.parseUintB 32 s=.ok u/\us=[.int .u64 u,.nilIface])∨((∀ u,Go.Lib.parseUintB 32 s≠.ok u)/\∃ v t p,us=[.int .u64 v,.iface t p])) λw hw=>?_) ?_
 cases h:Go.Lib.parseUintB 32 s with
 |ok u=>
  refine(Tryz.strconv_ParseUint_10_at32_ok ⟨s.toArray⟩ (ld _ fa) u (by simpa using h) w).mono λe w' he=>⟨_,he.1,.inl ⟨u,rfl,rfl⟩,?_⟩;rcases he.2 with h2|h2;rw[h2];exact Below.refl _ _;rw[h2]
  exact⟨rfl,rfl,rfl,by rw[Go.Lib.bytesWorld_size];omega,λk hk=>Go.Lib.bytesWorld_at_old w 5 _ k hk⟩
 |range=>
  obtain⟨tp,p,hv⟩:=hG.range hw;refine(Tryz.strconv_ParseUint_10_at32_range_var ⟨s.toArray⟩ (ld _ fa) (by simpa using h) tp p w hv).mono λe w' he=>?_;obtain⟨N,h1,_,_,h4⟩:=he
  exact⟨_,h1,.inr ⟨(λu hu=>by cases hu),_,_,_,rfl⟩,h4⟩
 |_=>obtain⟨tp,p,hv⟩:=hG.syn hw;refine(Tryz.strconv_ParseUint_10_at32_syntax_var ⟨s.toArray⟩ (ld _ fa) ⟨λu hu=>(by rw[h] at hu;cases hu),λhu=>(by rw[h] at hu;cases hu)⟩ tp p w hv).mono λe w' he=>?_;obtain⟨N,h1,_,_,h4⟩:=he;exact⟨_,h1,.inr ⟨(λu hu=>by cases hu),_,_,_,rfl⟩,h4⟩
 rintro r H ⟨v,rfl,⟨us,XQ,rfl⟩,rfl⟩;refine⟨_,rfl,?_,rfl⟩;rcases XQ with⟨u,h1,rfl⟩|⟨h1,v,t,p,rfl⟩;exact .inl ⟨u,h1,rfl⟩;exact .inr ⟨h1,v,t,p,rfl⟩
theorem quX(s:List UInt8)(hs:s.length<=1000000000):ca (KC B0 w0) 174 [str s,str rH] [] (Qb (str (Go.Lib.trimS s rH))):=
 ca.wm (vs:=[.string ⟨s.toArray⟩,.string ⟨rH.toArray⟩]) λw hw=>(Go.Proofs.Any.strings_Trim_laid Tryz.Ix zk ⟨s.toArray⟩ ⟨rH.toArray⟩ w (by show s.toArray.size<=_;simp;omega) fa (Go.Proofs.ascii_of_all fa))
theorem dY(h:0<=n/\n<=4294967295):IntKind.u32.wrap n=n:=by simp only[IntKind.wrap,IntKind.bits,IntKind.signed,Ui];simp;omega
theorem qxI(h:0<=n/\n<=4294967295):IntKind.u64.wrap n=n:=by simp only[IntKind.wrap,IntKind.bits,IntKind.signed,Ui];simp;omega
theorem RY(n:Int):IntKind.u32.wrap n=n % 4294967296:=by simp only[IntKind.wrap,IntKind.bits,IntKind.signed,Ui];simp
instance:yh Tk 94:=.of zk
theorem vV(s:List UInt8)(hs:s.length<=1000000000):ca (KC B0 w0) 163 [str s] [] (Qb (bool (Ju s))):=by
 have hT:=quX (B0:=B0) (w0:=w0) s hs;have qw:=qv1 s;cases s with
 |nil=>refine kb Tryz.func163 rfl (n:=25) rfl rfl rfl ?_;refine wa ?_;exact qb rfl (eb rfl) rfl
 |cons c r=>
  have hN:Ju (c::r)=(decide ((c::r).length<=40) && tl c && (c::r).all Ni):=rfl;rw[tl] at hN;refine kb Tryz.func163 rfl (n:=25) rfl rfl rfl ?_;refine wa ?_;refine oB 5 rfl (λh1=>?_) (λh1=>absurd h1 (by simp));refine oB 10 rfl (λh2=>?_) λh2=>?_;have CA:(c::r).length<=40:=by have:=zt h2;omega
  rw[Nf CA,Bool.true_and] at hN;refine fi ?_;refine la (pI (c:=c) rfl rfl zo rfl)<|Na ?_;refine oB 15 rfl (λh3=>?_) λh3=>?_;have Hs:decide (97<=cv c)=true:=h3;rw[Hs,Bool.true_and] at hN;refine fi ?_;refine la (pI (c:=c) rfl rfl zo rfl)<|Na ?_;refine oB 20 rfl (λh4=>?_) λh4=>?_;have CG:decide (cv c<=122)=true:=h4;rw[CG,Bool.true_and] at hN;refine fi ?_;refine oS (sF [_,_] rfl hT ?_);refine Da ?_
  exact qb rfl (eb rfl) (xe (by
   rw[hN,Bool.eq_iff_iff,decide_eq_true_iff];exact qw))
  have CG:decide (cv c<=122)=false:=h4;rw[CG,Ui] at hN;refine Da ?_;exact qb rfl (eb rfl) (xe hN.symm);have Hs:decide (97<=cv c)=false:=h3;rw[Hs,Ui,Ui] at hN;refine Da ?_;exact qb rfl (eb rfl) (xe hN.symm);have CA:¬ (c::r).length<=40:=by have:=zf h2;omega
  rw[decide_eq_false CA,Ui,Ui] at hN;refine Da ?_;exact qb rfl (eb rfl) (xe hN.symm)
theorem XM(hG:GW B0 w0)(w:Wd)(hs:w.length<=1000000000):ca (KC B0 w0) 166 [str w] [] (Qb (.tuple [int .u32 ((Eb w).getD 0:Nat),bool (Eb w).isSome])):=by
 have hP:=ql7 hG w hs;refine kb Tryz.func166 rfl (n:=21) rfl rfl rfl ?_;refine di ?_;refine oS (S.Dg [_,_,_] rfl hP ?_);rintro lv (⟨u,hu,rfl⟩|⟨XD,v,t,p,rfl⟩);have Ja:=YX hu;refine wa ?_;refine oS (sF [_,_] rfl (Ce hG u zo) ?_);refine Na ?_;refine Ma (λh=>?_) λh=>?_;have Fb:¬ Go.Lib.decDigits u=w:=by simpa using h
 have hn:Eb w=none:=by unfold Eb;rw[hu];exact zn Fb
 refine Gj ?_;exact qb rfl (rC (Fc rfl) (eb rfl)) (by rw[hn];rfl);have he:Go.Lib.decDigits u=w:=by simpa using h
 have hn:Eb w=some u:=by unfold Eb;rw[hu];exact zp he
 refine wa ?_;exact qb rfl (rC (Fc rfl) (eb rfl)) (by
  rw[hn,dY zo];rfl)
 have hn:Eb w=none:=by unfold Eb;split;rename_i u hu;exact absurd hu (XD u);rfl
 refine wa ?_;refine Ma (λh=>?_) λh=>?_;refine Gj ?_;exact qb rfl (rC (Fc rfl) (eb rfl)) (by rw[hn];rfl);cases h
theorem qgB(w:Wd)(hs:w.length<=1000000000):ca (KC B0 w0) 94 [str w] [] (Cr (rl (Va w))):=by
 obtain⟨r1,r2⟩:=Xp (X7 w);have na:(Go.Lib.trimPrefix w [38]).length<=1000000000:=by unfold Go.Lib.trimPrefix;split;rw[List.length_drop];omega;exact hs
 refine kb Tryz.func94 rfl (n:=17) rfl rfl rfl ?_;refine di ?_;refine oS (sF [_,_] rfl (Bf w [38]) ?_);refine xa ?_;refine oB 13 rfl (λh=>?_) λh=>?_;exact YN;rw[h,Ui] at r1;refine Da ?_;exact Nr rfl (rC (Fc rfl) (eb rfl)) (rl.mk r1 r2)
theorem I1(w:Wd)(hs:w.length<=1000000000):ca (KC B0 w0) 169 [str w] [] (Cr (rl (ya w))):=by
 obtain⟨r1,r2⟩:=Xp (F8 w);have na:(Go.Lib.trimSuffix w [58]).length<=1000000000:=by unfold Go.Lib.trimSuffix;split;rw[List.length_take];omega;exact hs
 refine kb Tryz.func169 rfl (n:=17) rfl rfl rfl ?_;refine di ?_;refine oS (sF [_,_] rfl (Af w [58] hs) ?_);refine xa ?_;refine oB 13 rfl (λh=>?_) λh=>?_;exact YN;rw[h,Ui] at r1;refine Da ?_;exact Nr rfl (rC (Fc rfl) (eb rfl)) (rl.mk r1 r2)
def dn(v:List Wd)(m:Nat):LV:=.agg [.list (v.map str),.atom (.map (some m))]
theorem gn(v:List Wd)(m i:Nat)(hv:v.length<=1000000000):ca (KC B0 w0) 165 [dn v m,int .i64 i] [] (Qb (str (ka v i))):=by
 have zC:(v.map str).length=v.length:=Db _;unfold dn;refine kb Tryz.func165 rfl (n:=15) rfl rfl rfl ?_;refine qe ?_;refine oS (sB (cs:=[.list (v.map str),.atom (.map (some m))]) rfl λb2=>?_);refine wa ?_;refine Ma (λh=>?_) λh=>?_;have Ja:i<v.length:=by have:=zt h;omega
 have hw:ka v i=v[i]:=by unfold ka;rw[jh Ja];rfl
 refine wa ?_;refine la (xR (ke:=str v[i]) (cs:=[str v[i]]) rfl rfl zo (Ln _ _ _ Ja) rfl rfl)<|Na ?_;exact qb rfl (eb rfl) (vP hw.symm);have Pq:v.length<=i:=by have:=zf h;omega
 have hw:ka v i=[]:=by unfold ka;rw[List.getElem?_eq_none Pq];rfl
 refine xa ?_;exact qb rfl (eb rfl) (vP hw.symm)
def Small(v:List Wd):Prop:=v.length<=1000000/\∀ w∈v,w.length<=1000000
theorem Small.at{v:List Wd}(h:Small v)(i:Nat):(ka v i).length<=1000000:=by
 unfold ka;cases hi:v[i]? with
 |none=>exact zero_le _
 |some w=>exact h.2 w (List.mem_of_getElem? hi)
theorem aV(v:List Wd)(m i:Nat)(hv:Small v)(hi:i<=1000):ca (KC B0 w0) 168 [dn v m,int .i64 i] [] (Cr (rl (zm v i))):=by
 have h1:=gn (B0:=B0) (w0:=w0) v m i (by have:=hv.1;omega);have h2:=gn (B0:=B0) (w0:=w0) v m (i+1) (by have:=hv.1;omega);have e2:int .i64 ((i:Int)+1)=int .i64 ((i+1:Nat):Int):=Kg zo;rw[<-e2] at h2;have hl:=hv.at i;have hJ:zm v i=match Va (ka v i) with
  |some l=>if ka v (i+1)=[63] then some l else none
  |none=>none:=rfl
 unfold dn at h1 h2 ⊢;refine kb Tryz.func168 rfl (n:=24) rfl rfl rfl ?_;refine qe ?_;refine oS (sB (cs:=[.list (v.map str),.atom (.map (some m))]) rfl λb2=>?_);refine wa ?_;refine oS (sF [_,_] rfl h1<|oS (S.Dg [_] rfl (qgB _ zo) ?_));rintro lv ⟨s,rfl,hs⟩;refine xa ?_;refine oB 17 rfl (λh=>?_) λh=>?_;obtain⟨l,qp⟩:=zR h;have ou:=hs l qp;rw[qp] at hJ;refine Na ?_;refine oS (sF [_,_] rfl h2 ?_);refine Da ?_
 exact Nr rfl (rC (Fc rfl) (eb rfl)) (rl.mk (by rw[hJ];simp only;split <;> simp_all) (by
  intro l' h';rw[hJ] at h';simp only at h';split at h';injection h' with h';rw[ou,h'];cases h'))
 have hn:Va (ka v i)=none:=by
  cases h3:Va (ka v i) with
  |none=>rfl
  |some l=>rw[h3] at h;cases h
 rw[hn] at hJ;refine Da ?_;exact Nr rfl (rC (Fc rfl) (eb rfl)) (rl.mk (by rw[hJ];rfl) (by
  intro l' h';rw[hJ] at h';cases h'))
theorem CO{a b:Nat}(ha:a<4294967296)(hb:b<4294967296):IntKind.u32.wrap (((BitVec.ofInt IntKind.u32.bits (a:Int) ^^^ BitVec.ofInt IntKind.u32.bits (b:Int)).toNat:Nat):Int)=((a ^^^ b:Nat):Int):=by
 have h1:(BitVec.ofInt 32 (a:Int) ^^^ BitVec.ofInt 32 (b:Int)).toNat=a ^^^ b:=by rw[BitVec.ofInt_natCast,BitVec.ofInt_natCast,BitVec.toNat_xor,BitVec.toNat_ofNat,BitVec.toNat_ofNat,Nat.mod_eq_of_lt ha,Nat.mod_eq_of_lt hb]
 have h2:a ^^^ b<4294967296:=Nat.xor_lt_two_pow (n:=32) ha hb;show IntKind.u32.wrap (((BitVec.ofInt 32 (a:Int) ^^^ BitVec.ofInt 32 (b:Int)).toNat:Nat):Int)=_;rw[h1,dY zo]
theorem Wb(a b:Nat):IntKind.u32.wrap ((a:Int)+b)=(((a+b) % 4294967296:Nat):Int):=by rw[RY];omega
theorem zy{a b:Nat}(hb:b<4294967296):IntKind.u32.wrap ((a:Int)-b)=(((a+4294967296-b) % 4294967296:Nat):Int):=by rw[RY];omega
theorem fc(a b:Nat):IntKind.u32.wrap ((a:Int) * b)=((a * b % 4294967296:Nat):Int):=by rw[RY,Int.natCast_emod,Int.natCast_mul];rfl
theorem Fy{m:Nat}{o:Option Nat}(ho:o=some m)(h:n=(m:Int)):Dh [int .u32 n,bool true]=LV.tuple [int .u32 ((o.getD 0:Nat):Int),bool o.isSome]:=by subst h;subst ho;rfl
theorem qm7(a b:Nat)(op:Wd)(ha:a<4294967296)(hb:b<4294967296):ca (KC B0 w0) 208 [int .u32 a,str op,int .u32 b] [] (Qb (.tuple [int .u32 ((Yo a op b).getD 0:Nat),bool (Yo a op b).isSome])):=by
 have hC:Yo a op b=Yo a op b:=rfl
 conv at hC=>rhs;unfold Yo
 refine kb Tryz.func208 rfl (n:=47) rfl rfl rfl ?_;refine xa ?_;refine Ma (λh1=>?_) λh1=>?_;rw[zp (zt h1)] at hC;refine Bd ?_;refine la (Pure.Fp rfl rfl)<|Da ?_;exact qb rfl (rC (Fc rfl) (eb rfl)) (Fy hC (Wb a b));rw[zn (zf h1)] at hC;refine Rm ?_;refine Ma (λh2=>?_) λh2=>?_;rw[zp (zt h2)] at hC;refine Bd ?_;refine la (Pure.rr rfl rfl)<|Da ?_;exact qb rfl (rC (Fc rfl) (eb rfl)) (Fy hC (zy hb));rw[zn (zf h2)] at hC;refine Rm ?_;refine Ma (λh3=>?_) λh3=>?_;rw[zp (zt h3)] at hC;refine Bd ?_;refine la (Pure.Tv rfl rfl)<|Da ?_;exact qb rfl (rC (Fc rfl) (eb rfl)) (Fy hC (fc a b));rw[zn (zf h3)] at hC;refine Rm ?_;refine Ma (λh4=>?_) λh4=>?_;rw[zp (zt h4)] at hC;refine Bd ?_;refine la (Pure.yy rfl rfl)<|Da ?_;exact qb rfl (rC (Fc rfl) (eb rfl)) (Fy hC (CO ha hb));rw[zn (zf h4)] at hC;refine Rm ?_;refine Ma (λh5=>?_) λh5=>?_;rw[zp (zt h5)] at hC;refine xa ?_;refine Ma (λh6=>?_) λh6=>?_;have Ja:a<b:=by have:=zt h6;omega
 refine xa ?_;exact qb rfl (rC (Fc rfl) (eb rfl)) (by rw[hC,zp Ja];rfl);have Ja:¬ a<b:=by have:=zf h6;omega
 refine xa ?_;exact qb rfl (rC (Fc rfl) (eb rfl)) (by rw[hC,zn Ja];rfl);rw[zn (zf h5)] at hC;refine Rm ?_;refine Sz [(0,int .u32 a),(1,str op),(2,int .u32 b),(34,bool (decide (op=[47]∨op=[37])))] ?_ λj hj=>?_;refine Ma (λh6=>?_) λh6=>?_;refine Da ?_;exact⟨⟨rfl,rfl,rfl,xe (by simp[zt h6]),trivial⟩,rfl,rfl⟩;refine Rm ?_;exact⟨⟨rfl,rfl,rfl,xe (by simp[zf h6]),trivial⟩,rfl,rfl⟩;refine Ma (λh6=>?_) λh6=>?_;have vL:op=[47]∨op=[37]:=zt h6;refine xa ?_;refine Ma (λh7=>?_) λh7=>?_;have Le:b=0:=by have:=zt h7;omega
 have Q5:Yo a op b=none:=by rw[hC];rcases vL with h|h;rw[zp h,zp Le];rw[zn (by rw[h];decide),zp h,zp Le]
 refine xa ?_;exact qb hj (rC (Fc rfl) (eb rfl)) (by rw[Q5];rfl);have Le:¬ b=0:=by have:=zf h7;omega
 refine xa ?_;refine Ma (λh8=>?_) λh8=>?_;rw[zp (zt h8),zn Le] at hC;have hle:a / b<=a:=Nat.div_le_self _ _
 have e1:IntKind.u32.wrap ((a:Int).tdiv (b:Int))=((a / b:Nat):Int):=by rw[Int.tdiv_eq_ediv_of_nonneg zo,<-Int.natCast_ediv];exact dY ⟨Int.natCast_nonneg _,Int.ofNat_le.2 (show a / b<=4294967295 by omega)⟩
 refine Bd ?_;refine la (Pure.WO rfl rfl zo)<|Da ?_;exact qb hj (rC (Fc rfl) (eb rfl)) (Fy hC e1);have h9:op=[37]:=by rcases vL with h|h;exact absurd h (zf h8);exact h
 rw[zn (zf h8),zp h9,zn Le] at hC;have e1:(a:Int).tmod (b:Int)=((a % b:Nat):Int):=by rw[Int.tmod_eq_emod_of_nonneg zo,<-Int.natCast_emod]
 refine xa ?_;refine la (Pure.tJ rfl rfl zo)<|Da ?_;exact qb hj (rC (Fc rfl) (eb rfl)) (Fy hC e1);have vL:¬ (op=[47]∨op=[37]):=zf h6;have Q5:Yo a op b=none:=by rw[hC,zn λh=>vL (.inl h),zn (λh=>vL (.inr h))]
 refine xa ?_;exact qb hj (rC (Fc rfl) (eb rfl)) (by rw[Q5];rfl)
theorem qjI(hG:GW B0 w0)(x op y:Wd)(hx:x.length<=1000000)(hy:y.length<=1000000):ca (KC B0 w0) 164 [str x,str op,str y] [] (Cr (rl (ak x op y))):=by
 have n1:=XM hG x zo;have n2:=XM hG y zo;have hJ:ak x op y=match Eb x,Eb y with
  |some a,some b=>match Yo a op b with
   |some c=>if (Go.Lib.decDigits c).length<=x.length+y.length+1 then some (Go.Lib.decDigits c) else none
   |none=>none
  |_,_=>none:=rfl
 have ha:(Eb x).getD 0<4294967296:=by
  cases h:Eb x with
  |none=>decide
  |some u=>exact HP h
 have hb:(Eb y).getD 0<4294967296:=by
  cases h:Eb y with
  |none=>decide
  |some u=>exact HP h
 have n3:=qm7 (B0:=B0) (w0:=w0) _ _ op ha hb;have hc:(Yo ((Eb x).getD 0) op ((Eb y).getD 0)).getD 0<4294967296:=by
  cases h:Yo ((Eb x).getD 0) op ((Eb y).getD 0) with
  |none=>decide
  |some u=>exact EP ha hb h
 have ot:=rM hc;refine kb Tryz.func164 rfl (n:=54) rfl rfl rfl ?_;refine di ?_;refine oS (sF [_] rfl n1 ?_);refine xa ?_;refine oS (sF [_] rfl n2 ?_);refine xa ?_;refine oS (sF [_,_,_] rfl n3 ?_);refine wa ?_;refine oS (sF [_,_] (show _=[int .u64 (IntKind.u64.wrap (((Yo ((Eb x).getD 0) op ((Eb y).getD 0)).getD 0:Nat):Int)),int .i64 10] from rfl) (by rw[qxI zo];exact Ce hG _ zo) ?_);refine di ?_;refine oB 37 rfl (λh1=>?_) λh1=>?_;obtain⟨a,pq⟩:=zR h1;refine Da ?_;refine oB 40 rfl (λh2=>?_) λh2=>?_;obtain⟨b,Kl⟩:=zR h2;rw[pq,Kl] at hJ;rw[pq,Kl];simp only at hJ;simp only[getD_some];refine Da ?_;refine oB 43 rfl (λh3=>?_) λh3=>?_;obtain⟨c,ef⟩:=zR h3;rw[pq,Kl] at ot;simp only[getD_some] at ot;rw[ef] at hJ ot;rw[ef];simp only[getD_some] at hJ ot ⊢;refine Na ?_
 exact Nr rfl (rC (Fc rfl) (eb rfl)) (rl.mk (by
  rw[hJ];by_cases hle:(Go.Lib.decDigits c).length<=x.length+y.length+1;rw[zp hle,Nf zo];rfl;rw[zn hle,decide_eq_false zo];rfl) (by
  intro l' h';rw[hJ] at h';split at h';injection h';cases h'))
 have hn:Yo a op b=none:=by
  cases h4:Yo a op b with
  |none=>rfl
  |some l=>rw[h4] at h3;cases h3
 rw[hn] at hJ;refine Da ?_;exact Nr rfl (rC (Fc rfl) (eb rfl)) (rl.mk (by rw[hJ];rfl) (by
  intro l' h';rw[hJ] at h';cases h'))
 have hn:Eb y=none:=by
  cases h3:Eb y with
  |none=>rfl
  |some l=>rw[h3] at h2;cases h2
 rw[pq,hn] at hJ;refine Da ?_;exact Nr rfl (rC (Fc rfl) (eb rfl)) (rl.mk (by rw[hJ];rfl) (by
  intro l' h';rw[hJ] at h';cases h'))
 have hn:Eb x=none:=by
  cases h3:Eb x with
  |none=>rfl
  |some l=>rw[h3] at h1;cases h1
 rw[hn] at hJ;refine Da ?_;exact Nr rfl (rC (Fc rfl) (eb rfl)) (rl.mk (by rw[hJ];rfl) (by
  intro l' h';rw[hJ] at h';cases h'))
def fF(r:Dr):LV:=.tuple [int .i64 r.1,.list (r.2.map str)]
theorem qs6(hG:GW B0 w0)(v:List Wd)(m:Nat)(hv:Small v):ca (KC B0 w0) 95 [dn v m] [] (Qb (fF (Oy v))):=by
 have k0:=gn (B0:=B0) (w0:=w0) v m 0 (by have:=hv.1;omega);have k1:=gn (B0:=B0) (w0:=w0) v m 1 (by have:=hv.1;omega);have k2:=gn (B0:=B0) (w0:=w0) v m 2 (by have:=hv.1;omega);have kj:=qjI hG (ka v 0) (ka v 2) (ka v 1) (hv.at 0) (hv.at 1);have hF:Oy v=match ak (ka v 0) (ka v 2) (ka v 1) with
  |some s=>(3,[s])
  |none=>(0,[]):=rfl
 unfold dn at k0 k1 k2 ⊢;generalize ak (ka v 0) (ka v 2) (ka v 1)=o at kj hF;refine kb Tryz.func95 rfl (n:=19) rfl rfl rfl ?_;refine qe ?_;refine oS (sB (cs:=[.list (v.map str),.atom (.map (some m))]) rfl λb1=>?_);refine Da ?_;refine cD (m:=12) rfl [(b1,.cells 193 [.list (v.map str),.atom (.map (some m))])]<|aT 0 rfl rfl (pG (Ob:=[_,_]) rfl nc rfl rfl)<|aT 2 rfl rfl (pG (Ob:=[_,_]) rfl nc rfl rfl)<|aT 4 rfl rfl (pG (Ob:=[_,_]) rfl nc rfl rfl)<|bJ ?_;refine lO 3 (lS (H1:=[]) rfl (.inl rfl) rfl mc ob (sF [_,_] rfl k2 ?_));refine lO 5 (lS (H1:=[]) rfl (.inl rfl) rfl mc ob (sF [_,_] rfl k1 ?_));refine lO 6 (lS (H1:=[]) rfl (.inl rfl) rfl mc ob (S.Dg [_,_,_] rfl kj ?_));rintro lv ⟨s,rfl,hs⟩;refine nh.any [(b1,.cells 193 [.list (v.map str),.atom (.map (some m))])] (λ_ h=>h) ?_;refine aT 7 rfl rfl (pM (lv:=.tuple _) rfl)<|aT 8 rfl rfl (Pure.extract (c:=.atom _) rfl rfl)<|aT 9 rfl rfl (Pure.extract (c:=.atom _) rfl rfl)<|aT 10 rfl rfl (pA (lv:=.atom _) rfl)<|aT 11 rfl rfl (pA (lv:=.atom _) rfl)<|jv ?_;refine Di ?_;refine Ma (λh=>?_) λh=>?_;obtain⟨l,rfl⟩:=zR h;obtain rfl:=hs l rfl;refine Bd ?_;refine tj ?_;refine Na ?_;exact qb rfl (rC (Fc rfl) (rC (rT (v:=.list _) rfl Nd) rN)) (by rw[hF];rfl)
 obtain rfl:o=none:=by
  cases o with
  |none=>rfl
  |some l=>cases h
 refine xa ?_;exact qb rfl (rC (Fc rfl) (rC (rT (v:=Yb) rfl vN) rN)) (by rw[hF];rfl)
theorem qr7(hG:GW B0 w0)(v:List Wd)(m:Nat)(hv:Small v):ca (KC B0 w0) 100 [dn v m] [] (Qb (fF (Py v))):=by
 have k0:=gn (B0:=B0) (w0:=w0) v m 0 (by have:=hv.1;omega);have kn:=XM hG (ka v 0) (by have:=hv.at 0;omega);have kj:=aV (B0:=B0) (w0:=w0) v m 1 hv zo;have hF:Py v=match Eb (ka v 0) with
  |some n=>if n≠0/\(zm v 1).isSome=true then (3,[]) else (0,[])
  |none=>(0,[]):=rfl
 unfold dn at k0 kj ⊢;generalize Eb (ka v 0)=on at kn hF;generalize zm v 1=oj at kj hF;refine kb Tryz.func100 rfl (n:=27) rfl rfl rfl ?_;refine qe ?_;refine oS (sB (cs:=[.list (v.map str),.atom (.map (some m))]) rfl λb1=>?_);refine wa ?_;refine oS (sF [_,_] rfl k0<|oS (sF [_] rfl kn ?_));refine wa ?_;refine oS (S.Dg [_,_] rfl kj ?_);rintro lv ⟨s,rfl,hs⟩;refine xa ?_;refine oB 20 rfl (λh1=>?_) λh1=>?_;rw[h1] at hF
 cases on with
 |none=>
  refine Da ?_;refine Ma (λh=>?_) λh=>?_;cases h
  exact ZI
 |some n=>
  refine Na ?_;refine Ma (λh=>?_) λh=>?_
  have hn:n≠0:=by intro h0;subst h0;exact absurd h fa
  simp only[hn,ne_eq,not_false_eq_true,and_self,if_true] at hF;refine Gj ?_;exact qb rfl (rC (Fc rfl) (rC (rT (v:=Yb) rfl vN) rN)) (by rw[hF];rfl);have hn:n=0:=by
   have h0:¬ ¬ ((n:Int)=0):=by simpa using h
   omega
  subst hn;refine xa ?_;exact qb rfl (rC (Fc rfl) (rC (rT (v:=Yb) rfl vN) rN)) (by rw[hF];rfl)
 rw[h1] at hF;refine Da ?_;refine Ma (λh=>?_) λh=>?_;cases h;refine xa ?_
 exact qb rfl (rC (Fc rfl) (rC (rT (v:=Yb) rfl vN) rN)) (by
  rw[hF];cases on <;> simp <;> rfl)
theorem qpl(v:List Wd)(m:Nat)(hv:Small v){es:Array MapEntry}{qa:Nat}{p:List UInt8->Bool}(hs:He es p):ca (KC B0 w0) 103 [dn v m] [(m,.obj (.map es qa))] (λr H=>r=.ret (fF (Su p v))/\H=[(m,.obj (.map es qa))]):=by
 have k0:=gn (B0:=B0) (w0:=w0) v m 0 (by have:=hv.1;omega);have kd:=I1 (B0:=B0) (w0:=w0) (ka v 0) (by have:=hv.at 0;omega);have hF:Su p v=match ya (ka v 0) with
  |some l=>if p l=true then (0,[]) else (1,[])
  |none=>(0,[]):=rfl
 unfold dn at k0 ⊢;generalize ya (ka v 0)=o at kd hF;refine kb Tryz.func103 rfl (n:=20) rfl rfl rfl ?_;refine qe ?_;refine oS (sB (cs:=[.list (v.map str),.atom (.map (some m))]) rfl λb1=>?_);refine wa ?_;refine oS (sF [_,_] rfl k0<|oS (S.Dg [_] rfl kd ?_));rintro lv ⟨s,rfl,Wk⟩;refine xa ?_;refine oB 13 rfl (λh1=>?_) λh1=>?_;obtain⟨l,rfl⟩:=zR h1;obtain rfl:=Wk l rfl;simp only at hF;refine Da ?_;refine la (Pure.vv (t:=112) (kt:=9) (el:=4) zk zk (λw=>(Go.zero_of_info (P:=Tryz.prog) (n:=1) zk).1 w) rfl rfl Oh hs)<|Na ?_;refine Ma (λh=>?_) λh=>?_;have hp:p s=false:=by simpa using h
 refine Gj ?_;exact rR rfl (rC (Fc rfl) (rC (rT (v:=Yb) rfl vN) rN)) (Pg ob) ⟨by rw[hF,hp];rfl,rfl⟩;have hp:p s=true:=by simpa using h
 refine xa ?_;exact rR rfl (rC (Fc rfl) (rC (rT (v:=Yb) rfl vN) rN)) (Pg ob) ⟨by rw[hF,hp];rfl,rfl⟩;obtain rfl:o=none:=by
  cases o with
  |none=>rfl
  |some l=>cases h1
 refine Da ?_;refine Ma (λh=>?_) λh=>?_;cases h;refine xa ?_;exact rR rfl (rC (Fc rfl) (rC (rT (v:=Yb) rfl vN) rN)) (Pg ob) ⟨by rw[hF];rfl,rfl⟩
def qA(v:List Wd):Nat->List Wd->Bool
 |_,[]=>true
 |i,w::r=>decide (ka v i=w) && qA v (i+1) r
theorem Jt(v:List Wd)(m i:Nat)(ws:List Wd)(hv:Small v)(hi:i<=1000)(hw:ws.length<=1000):ca (KC B0 w0) 167 [dn v m,int .i64 i,.list (ws.map str)] [] (Qb (bool (qA v i ws))):=by
 have zC:(ws.map str).length=ws.length:=Db _;have kw:∀ k,ca (KC B0 w0) 165 [dn v m,int .i64 (k:Nat)] [] (Qb (str (ka v k))):=λk=>gn v m k (by have:=hv.1;omega);unfold dn at kw ⊢;refine kb Tryz.func167 rfl (n:=24) rfl rfl rfl ?_;refine qe ?_;refine oS (sB (cs:=[.list (v.map str),.atom (.map (some m))]) rfl λb3=>?_);refine xa ?_
 refine oL (λk ls H=>∃ j,j<=ws.length/\k=ws.length-j/\ls=[(1,int .i64 i),(3,ptr b3 0),(9,.list (ws.map str)),(10,int .i64 ws.length),(11,int .i64 j)]/\H=[(b3,.cells 193 [.list (v.map str),.atom (.map (some m))])]/\qA v i ws=qA v (i+j) (ws.drop j))
  ⟨_,_,_,⟨0,zero_le _,rfl,rfl,rfl,rfl⟩,lb,Kb _⟩ ?_
 rintro k ls H ⟨j,hj,rfl,rfl,rfl,hE⟩ j1 pd;refine Zg ?_;refine Ma (λhc=>?_) λhc=>?_;have Ja:j<ws.length:=by have:=zt hc;omega
 rw[drop_eq_getElem_cons Ja,qA] at hE;have k1:=kw (i+j);have e1:int .i64 ((i+j:Nat):Int)=int .i64 ((i:Int)+j):=Kg zo;rw[e1] at k1;refine xa ?_;refine la (xR (ke:=str ws[j]) (cs:=[str ws[j]]) rfl rfl zo (Ln _ _ _ Ja) rfl rfl)<|wa ?_;refine oS (sF [_,_] rfl k1 ?_);refine Na ?_;refine Ma (λh=>?_) λh=>?_;have Fb:¬ ka v (i+j)=ws[j]:=by simpa using h
 rw[decide_eq_false Fb,Ui] at hE;refine xa ?_;exact qb pd (eb rfl) (xe hE.symm);have he:ka v (i+j)=ws[j]:=by simpa using h
 rw[Nf he,Bool.true_and] at hE;refine xa ?_;exact⟨_,_,_,by omega,⟨j+1,by omega,rfl,rfl,rfl,by rw[hE,Nat.add_assoc]⟩,lb,Kb _,pd⟩;have GC:j=ws.length:=by have:=zf hc;omega
 subst GC;rw[drop_length,qA] at hE;refine xa ?_;exact qb pd (eb rfl) (xe hE.symm)
theorem qnF(v:List Wd)(m:Nat)(hv:Small v):ca (KC B0 w0) 96 [dn v m] [] (Qb (fF (AB v))):=by
 have k0:=gn (B0:=B0) (w0:=w0) v m 0 (by have:=hv.1;omega);have k1:=gn (B0:=B0) (w0:=w0) v m 1 (by have:=hv.1;omega);have hF:AB v=if ka v 0=[48]/\(ka v 1=[43]∨ka v 1=[45]∨ka v 1=[94])∨ka v 0=[49]/\(ka v 1=[42]∨ka v 1=[47]) then (2,[]) else (0,[]):=rfl
 unfold dn at k0 k1 ⊢;generalize ka v 0=a at k0 hF;generalize ka v 1=b at k1 hF;refine kb Tryz.func96 rfl (n:=36) rfl rfl rfl ?_;refine qe ?_;refine oS (sB (cs:=[.list (v.map str),.atom (.map (some m))]) rfl λb1=>?_);refine Da ?_;refine cD (m:=6) rfl [(b1,.cells 193 [.list (v.map str),.atom (.map (some m))])]<|aT 0 rfl rfl (pG (Ob:=[_,_]) rfl nc rfl rfl)<|aT 2 rfl rfl (pG (Ob:=[_,_]) rfl nc rfl rfl)<|bJ ?_;refine lO 3 (lS (H1:=[]) rfl (.inl rfl) rfl mc ob (sF [_,_] rfl k1 ?_));refine nh.any [(b1,.cells 193 [.list (v.map str),.atom (.map (some m))])] (λ_ h=>h) ?_;refine aT 4 rfl rfl (pA (lv:=.atom _) rfl)<|aT 5 rfl rfl (pA (lv:=.atom _) rfl)<|jv ?_;refine xa ?_;refine Ea.cut [(1,ptr b1 0),(35,bool (decide (a=[48]/\(b=[43]∨b=[45]∨b=[94])∨a=[49]/\(b=[42]∨b=[47]))))] ?_ λj hj=>?_;refine oB 12 rfl (λh1=>?_) λh1=>?_;have e1:a=[48]:=zt h1;have n1:¬ a=[49]:=by rw[e1];decide
 refine Da ?_;refine oB 15 rfl (λh2=>?_) λh2=>?_;have e2:b=[43]:=zt h2;refine Na ?_;exact⟨⟨rfl,xe (by simp[e1,e2]),trivial⟩,rfl,rfl⟩;have e2:¬ b=[43]:=zf h2;refine Da ?_;refine oB 19 rfl (λh3=>?_) λh3=>?_;have e3:b=[45]:=zt h3;refine Na ?_;exact⟨⟨rfl,xe (by simp[e1,e3]),trivial⟩,rfl,rfl⟩;have e3:¬ b=[45]:=zf h3;refine Da ?_;refine oB 24 rfl (λh4=>?_) λh4=>?_;have e4:b=[94]:=zt h4;refine Na ?_;exact⟨⟨rfl,xe (by simp[e1,e4]),trivial⟩,rfl,rfl⟩;have e4:¬ b=[94]:=zf h4;refine Da ?_;refine oB 27 rfl (λh5=>absurd (zt h5) n1) λh5=>?_;refine Na ?_;exact⟨⟨rfl,xe (by simp[e2,e3,e4,n1]),trivial⟩,rfl,rfl⟩;have e1:¬ a=[48]:=zf h1;refine Na ?_;refine oB 27 rfl (λh2=>?_) λh2=>?_;have e2:a=[49]:=zt h2;refine Da ?_;refine oB 30 rfl (λh3=>?_) λh3=>?_;have e3:b=[42]:=zt h3;refine Da ?_;exact⟨⟨rfl,xe (by simp[e2,e3]),trivial⟩,rfl,rfl⟩;have e3:¬ b=[42]:=zf h3;refine Da ?_;exact⟨⟨rfl,xe (by simp[e2,e3]),trivial⟩,rfl,rfl⟩;have e2:¬ a=[49]:=zf h2;refine Na ?_;exact⟨⟨rfl,xe (by simp[e1,e2]),trivial⟩,rfl,rfl⟩;refine Ma (λh=>?_) λh=>?_;rw[zp (zt h)] at hF;refine Gj ?_;exact qb hj (rC (Fc rfl) (rC (rT (v:=Yb) rfl vN) rN)) (by rw[hF];rfl);rw[zn (zf h)] at hF;refine xa ?_;exact qb hj (rC (Fc rfl) (rC (rT (v:=Yb) rfl vN) rN)) (by rw[hF];rfl)
theorem qrN(l:Wd)(v:List Wd)(i:Nat):Gt l (v.drop i)=match ya (ka v i) with
  |some d=>decide (d=l) || Gt l (v.drop (i+1))
  |none=>false:=by
 by_cases h:i<v.length
 ·have e:ka v i=v[i]:=by unfold ka;rw[jh h];rfl
  rw[drop_eq_getElem_cons h,Gt,e];first|done|(cases ya v[i] <;> rfl)
 have e:ka v i=[]:=by unfold ka;rw[List.getElem?_eq_none zo];rfl
 rw[List.drop_eq_nil_of_le zo,e];rfl
theorem qyW{v:List Wd}{i:Nat}{d:Wd}(h:ya (ka v i)=some d):i<v.length:=by
 by_cases hl:i<v.length;exact hl;have e:ka v i=[]:=by unfold ka;rw[List.getElem?_eq_none zo];rfl
 rw[e] at h;cases h
theorem kQ(v:List Wd)(m:Nat)(hv:Small v):ca (KC B0 w0) 101 [dn v m] [] (Qb (fF (Jy v))):=by
 have k0:=gn (B0:=B0) (w0:=w0) v m 0 (by have:=hv.1;omega);have kj:=aV (B0:=B0) (w0:=w0) v m 1 hv zo;have kw:∀ k,ca (KC B0 w0) 165 [dn v m,int .i64 (k:Nat)] [] (Qb (str (ka v k))):=λk=>gn v m k (by have:=hv.1;omega);have kd:∀ k,ca (KC B0 w0) 169 [str (ka v k)] [] (Cr (rl (ya (ka v k)))):=λk=>I1 (ka v k) (by have:=hv.at k;omega)
 have hF:Jy v=match zm v 1 with
  |some l=>if ka v 0=[48]/\Gt l (v.drop 3)=true then (3,[]) else (0,[])
  |none=>(0,[]):=rfl
 unfold dn at k0 kj kw ⊢;generalize zm v 1=oj at kj hF;generalize ka v 0=a at k0 hF;refine kb Tryz.func101 rfl (n:=35) rfl rfl rfl ?_;refine qe ?_;refine oS (sB (cs:=[.list (v.map str),.atom (.map (some m))]) rfl λb1=>?_);refine wa ?_;refine oS (S.Dg [_,_] rfl kj ?_);rintro lv ⟨s,rfl,hs⟩;refine wa ?_;refine oB 16 rfl (λh1=>?_) λh1=>?_
 obtain rfl:oj=none:=by
  cases oj with
  |none=>rfl
  |some l=>cases h1
 refine Da ?_;refine Ma (λh=>?_) λh=>?_;refine Gj ?_;exact qb rfl (rC (Fc rfl) (rC (rT (v:=Yb) rfl vN) rN)) (by rw[hF];rfl);cases h
 obtain⟨l,rfl⟩:∃ l,oj=some l:=by
  cases oj with
  |none=>cases h1
  |some l=>exact⟨l,rfl⟩
 obtain rfl:=hs l rfl;simp only at hF;refine Na ?_;refine oS (sF [_,_] rfl k0 ?_);refine Na ?_;refine Ma (λh=>?_) λh=>?_;have Fb:¬ a=[48]:=by simpa using h
 rw[zn (λhc=>Fb hc.1)] at hF;refine Gj ?_;exact qb rfl (rC (Fc rfl) (rC (rT (v:=Yb) rfl vN) rN)) (by rw[hF];rfl);have he:a=[48]:=by simpa using h
 subst he;simp only[true_and] at hF;refine xa ?_;refine oL (λk ls H=>∃ i,(i<=v.length∨i=3)/\k=v.length+4-i/\ls=[(1,ptr b1 0),(4,str s),(6,int .i64 (i:Nat))]/\H=[(b1,.cells 193 [.list (v.map str),.atom (.map (some m))])]/\Gt s (v.drop 3)=Gt s (v.drop i))
  ⟨_,_,_,⟨3,Or.inr rfl,rfl,rfl,rfl,rfl⟩,lb,Kb _⟩ ?_
 rintro k ls H ⟨i,hi,rfl,rfl,rfl,hE⟩ j1 pd;have hl:=hv.1;rw[qrN s v i] at hE;refine wa ?_;refine oS (sF [_,_] rfl (kw i)<|oS (S.Dg [_] rfl (kd i) ?_));rintro lv ⟨d,rfl,hd⟩;refine wa ?_;refine Ma (λh=>?_) λh=>?_
 have hn:ya (ka v i)=none:=by
  cases ho:ya (ka v i) with
  |none=>rfl
  |some l=>rw[ho] at h;cases h
 rw[hn] at hE;rw[hE] at hF;refine xa ?_;exact qb pd (rC (Fc rfl) (rC (rT (v:=Yb) rfl vN) rN)) (by rw[hF];rfl);obtain⟨e,ho⟩:∃ e,ya (ka v i)=some e:=by
  cases ho:ya (ka v i) with
  |none=>rw[ho] at h;cases h
  |some l=>exact⟨l,rfl⟩
 have Ja:=qyW ho;obtain rfl:=hd e ho;rw[ho] at hE;simp only at hE;refine xa ?_;refine Ma (λh2=>?_) λh2=>?_;have he:d=s:=zt h2;rw[Nf he,Bool.true_or] at hE;rw[hE] at hF;refine xa ?_;exact qb pd (rC (Fc rfl) (rC (rT (v:=Yb) rfl vN) rN)) (by rw[hF];rfl);have he:¬ d=s:=zf h2;rw[decide_eq_false he,Bool.false_or] at hE;refine xa ?_;exact⟨_,_,_,by omega,⟨i+1,Or.inl zo,rfl,rfl,rfl,hE⟩,lb,Kb _,pd⟩
theorem quD(hG:GW B0 w0)(v:List Wd)(m:Nat)(hv:Small v):ca (KC B0 w0) 98 [dn v m] [] (Qb (fF (Wz v))):=by
 have k0:=gn (B0:=B0) (w0:=w0) v m 0 (by have:=hv.1;omega);have kn:=XM hG (ka v 0) (by have:=hv.at 0;omega);have ki:=Jt (B0:=B0) (w0:=w0) v m 1 [[64],ka v 0,[33]] hv zo (by simp only[La,oc];omega);have hF:Wz v=if (Eb (ka v 0)).isSome=true/\qA v 1 [[64],ka v 0,[33]]=true then (4,[]) else (0,[]):=by simp only[Wz,qA,sd,Gg,and_true]
 unfold dn at k0 ki ⊢;generalize Eb (ka v 0)=on at kn hF;generalize qA v 1 [[64],ka v 0,[33]]=q at ki hF;generalize ka v 0=a at k0 kn ki;refine kb Tryz.func98 rfl (n:=20) rfl rfl rfl ?_;refine qe ?_;refine oS (sB (cs:=[.list (v.map str),.atom (.map (some m))]) rfl λb1=>?_);refine wa ?_;refine oS (sF [_,_] rfl k0<|oS (sF [_] rfl kn ?_));refine Da ?_
 cases on with
 |none=>
  refine tO ?_;refine yb.mi (i:=2) rfl rfl rfl rfl zk zk zk rfl<|yO ?_;refine aT 7 rfl rfl (Pure.vl (lv:=.atom _) rfl rfl)<|jv ?_;refine dd ?_;refine Ma (λh=>?_) λh=>?_;cases h
  exact ZI
 |some n=>refine tO ?_;refine yb.qo 2 rfl rfl rfl rfl (pG (Ob:=[_,_]) rfl nc rfl rfl)<|yb.qo 3 rfl rfl rfl rfl (pG (Ob:=[_,_]) rfl nc rfl rfl)<|aL ?_ ob;refine lO 4 (lS (H1:=[]) rfl (.inr ⟨1,true,13,rfl,rfl,rfl⟩) rfl mc ob (sF [_,_] rfl k0 ?_));refine lO 5 (lS (H1:=[]) rfl (.inr ⟨1,true,13,rfl,rfl,rfl⟩) rfl mc ob ?_);refine sL [.const (.string { data:=#[64] }),.tmp 16,.const (.string { data:=#[33] })] rfl (gd rfl rfl (gd rfl rfl (gd rfl rfl Ch))) rfl rfl rfl ?_;refine lO 6 (lS (H1:=[]) rfl (.inr ⟨1,true,13,rfl,rfl,rfl⟩) rfl mc ob (sF [_,_,_] rfl ki ?_));refine nh.any [(b1,.cells 193 [.list (v.map str),.atom (.map (some m))])] (λ_ h=>h) ?_;refine aT 7 rfl rfl (Pure.cp (lv:=.atom _) rfl rfl)<|jv ?_;refine dd ?_;refine Ma (λh=>?_) λh=>?_;have hq:q=true:=h;subst hq;refine Gj ?_;exact qb rfl (rC (Fc rfl) (rC (rT (v:=Yb) rfl vN) rN)) (by rw[hF];rfl);have hq:q=false:=h;subst hq;refine xa ?_;exact qb rfl (rC (Fc rfl) (rC (rT (v:=Yb) rfl vN) rN)) (by rw[hF];rfl)
end Go.Proofs.YtmnjklgnhpnckaaGreatDoor.Pp
