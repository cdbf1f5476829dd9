import Derived.Test.YtmnjklgnhpnckaaGreatDoorBRowLV12
set_option linter.unusedVariables false
set_option linter.unusedSimpArgs false
set_option maxRecDepth 100000
set_option maxHeartbeats 4000000
open List (cons_append mem_append_right take_succ_eq_append_getElem take_length getElem_mem sum_cons length_take map_map length_reverse)
open Nat (zero_le)
namespace Go.Proofs.YtmnjklgnhpnckaaGreatDoor.VI
open Go.GL Go.RowKit Go.ia
open Go.Lib (decDigits itoa join)
variable{c:CC}{env:Bb}{i m:Nat}{op own:Nm}
theorem AU(c:CC):Hb c []=[]:=by rw[Hb]
theorem fQ(c:CC)(x:Ex)(l:List Ex):Hb c (x::l)=Mb c x::Hb c l:=by rw[Hb]
theorem qyB{env:Bb}{name:Nm}{args:List Ex}(h:fg op = -1∨fg op=args.length)(ho:fg op=1):∃ x,args=[x]:=by
 have:args.length=1:=by omega
 exact gv this
theorem qwq{args:List Ex}(h:fg op = -1∨fg op=args.length)(ho:fg op=2):∃ x y,args=[x,y]:=by
 have h2:args.length=2:=by omega
 match args,h2 with
 |[x,y],_=>exact⟨x,y,rfl⟩
def Qk(c:CC)(op:Nm):List Wd:=if op=[62] then Xl c else if op=[60,61] then Xl c++[[49],[94]] else if op=[62,61] then [[60],[49],[94]] else if op=[61,61] then [[94],[49],[60]] else [op]
def Cy(c:CC)(op:Nm)(X Y:List Wd):List Wd:=
 if op=[33,61] then [[48]]++X++[]++Y++[[94],[60]]
 else if op=[38,38] then [[48]]++X++[[60],[48]]++Y++[[60],[42]]
 else if op=[124,124] then [[48],[48]]++X++[[60],[48]]++Y++[[60],[43],[60]]
 else []++X++[]++Y++Qk c op
theorem qx2(c:CC)(num:Nat)(name:Nm)(x y:Ex)(h1:op≠tf)(h2:op≠Uf)(h3:op≠Bj)(h4:op≠eg)(h5:op≠Ag)(h6:op≠jg):Mb c (.mk op num name [x,y])=Cy c op (Mb c x) (Mb c y):=by rw[Mb,fQ,fQ,AU];unfold Iq Cy Qk;rw[zn h1,zn h2,zn h3,zn h4,zn h5,zn h6];simp only[List.headD_cons,List.drop_one,List.tail_cons,List.nil_append,de,Sc,cons_append,List.singleton_append]
attribute [local irreducible] Ea fb Ya ca Go.GL.Pure ve Oe Kd LQ yb nh db LS
variable{B0:Nat}{w0:World}
theorem J0(hG:GW B0 w0){k:TB}(hk:Ts k c own)(ih:wJ B0 w0 k own c env m)(op:Nm)(num:Nat)(name:Nm)(x y:Ex)(ws:List Wd)(n:Nat)(H:Heap)(hx:xl x<=m)(hy:xl y<=m)(nx:Ji x)(ny:Ji y)(ex:yf env x=0)(ey:yf env y=0)(h:Qj k own ws n H)
  (hr:ws.length+(Cy c op (Mb c x) (Mb c y)).length<=1000000000) :
  ca (KC B0 w0) 204 [ptr k.tb 0,Ab (.mk op num name [x,y])] H (Hy (Qj k own (ws++Cy c op (Mb c x) (Mb c y)) n)):=by
 rw[uB];generalize hW:Cy c op (Mb c x) (Mb c y)=W at hr ⊢;unfold Cy at hW;refine kb Tryz.func204 rfl (n:=64) rfl rfl rfl ?_;refine qe ?_;refine oS (sB rfl λb2=>oS (sB rfl λb3=>?_));refine Ea.qc (H':=(b2,.cells 118 [ptr k.tb 0])::Ez b3 op num name [x,y]::H) ⟨[],by rw[de];exact cr _ _ _⟩ ?_;refine wa ?_;have pW:=λ(A B:List Wd) {a b:LV} (ha:GL.elems a=some (A.map str)) (hb:GL.elems b=some (B.map str)) hr=>qnU (B0:=B0) (w0:=w0) ih b2 b3 op num name x y ws n H hx hy nx ny ex ey h A B ha hb hr
 by_cases h1:op=[33,61];rw[zp h1] at hW;refine oC rfl (λ_=>?_) λhc=>absurd h1 (zf hc);refine Bd ?_;refine tm ?_;refine oS (S.Ps (f:=233) (F:=[]) [_,_] rfl rfl yJ (pW [[48]] [] rfl rfl (by rw[<-hW] at hr;simp only[Ga] at hr ⊢;omega)) ?_);rintro H1 ⟨H2,rfl,h2⟩;refine xa ?_;refine ir ?_;refine oS (Ze (H1:=H2) (F:=[_,_]) [_,_] rfl ox (Oi h2 [[94],[60]] rfl (by rw[<-hW] at hr;simp only[Ga] at hr ⊢;omega)) λH3 h3=>?_);refine Da ?_;exact rR rfl rN fH ⟨rfl,by rw[<-hW];simp only[Sc] at h3 ⊢;exact h3⟩;rw[zn h1] at hW;refine oC rfl (λhc=>absurd (zt hc) h1) λ_=>?_;refine Rm ?_
 by_cases h2:op=[38,38];rw[zp h2] at hW;refine oC rfl (λ_=>?_) λhc=>absurd h2 (zf hc);refine Bd ?_;refine tm ?_;refine ir ?_;refine oS (S.Ps (f:=233) (F:=[]) [_,_] rfl rfl yJ (pW [[48]] [[60],[48]] rfl rfl (by rw[<-hW] at hr;simp only[Ga] at hr ⊢;omega)) ?_);rintro H1 ⟨H2,rfl,h2⟩;refine xa ?_;refine ir ?_;refine oS (Ze (H1:=H2) (F:=[_,_]) [_,_] rfl ox (Oi h2 [[60],[42]] rfl (by rw[<-hW] at hr;simp only[Ga] at hr ⊢;omega)) λH3 h3=>?_);refine Da ?_;exact rR rfl rN fH ⟨rfl,by rw[<-hW];simp only[Sc] at h3 ⊢;exact h3⟩;rw[zn h2] at hW;refine oC rfl (λhc=>absurd (zt hc) h2) λ_=>?_;refine Rm ?_
 by_cases h3:op=[124,124];rw[zp h3] at hW;refine oC rfl (λ_=>?_) λhc=>absurd h3 (zf hc);refine Bd ?_;refine ir ?_;refine ir ?_;refine oS (S.Ps (f:=233) (F:=[]) [_,_] rfl rfl yJ (pW [[48],[48]] [[60],[48]] rfl rfl (by rw[<-hW] at hr;simp only[Ga] at hr ⊢;omega)) ?_);rintro H1 ⟨H2,rfl,h2⟩;refine aJ ?_;refine oS (Ze (H1:=H2) (F:=[_,_]) [_,_] rfl ox (Oi h2 [[60],[43],[60]] rfl (by rw[<-hW] at hr;simp only[Ga] at hr ⊢;omega)) λH3 h3=>?_);refine Da ?_;exact rR rfl rN fH ⟨rfl,by rw[<-hW];simp only[Sc] at h3 ⊢;exact h3⟩;rw[zn h3] at hW;refine oC rfl (λhc=>absurd (zt hc) h3) λ_=>?_;refine xa ?_;refine oS (S.Ps (f:=233) (F:=[]) [_,_] rfl rfl yJ (pW [] [] rfl rfl (by rw[<-hW] at hr;simp only[Ga] at hr ⊢;omega)) ?_);rintro H1 ⟨H2,rfl,h2⟩;generalize hX:ws++([]++Mb c x++[]++Mb c y)=wx at h2;have vu:wx++Qk c op=ws++W:=by rw[<-hW,<-hX];simp only[Sc]
 have Zl:=congrArg List.length vu;rw[Ga,Ga] at Zl;unfold Qk at vu Zl;refine wa ?_;by_cases g1:op=[62];rw[zp g1] at vu Zl;refine oC rfl (λ_=>?_) λhc=>absurd g1 (zf hc);refine xa ?_;refine oS (Ze (H1:=H2) (F:=[_,_]) [_] rfl ox (qiP hG hk h2 zo) λH3 h3=>?_);refine Da ?_;exact rO rfl rN fH ⟨rfl,by rw[<-vu];exact h3⟩;rw[zn g1] at vu Zl;refine oC rfl (λhc=>absurd (zt hc) g1) λ_=>?_;refine Rm ?_
 by_cases g2:op=[60,61];rw[zp g2] at vu Zl;rw[Ga] at Zl;refine oC rfl (λ_=>?_) λhc=>absurd g2 (zf hc);refine xa ?_;refine oS (Ze (H1:=H2) (F:=[_,_]) [_] rfl ox (qiP hG hk h2 zo) λH3 h3=>?_);refine xa ?_;refine ir ?_;refine oS (Ze (H1:=H3) (F:=[_,_]) [_,_] rfl ox (Oi h3 [[49],[94]] rfl (by rw[Ga];omega)) λH4 h4=>?_);refine Da ?_;exact rO rfl rN fH ⟨rfl,by rw[<-vu,<-Sc];exact h4⟩;rw[zn g2] at vu Zl;refine oC rfl (λhc=>absurd (zt hc) g2) λ_=>?_;refine Rm ?_
 by_cases g3:op=[62,61];rw[zp g3] at vu Zl;refine oC rfl (λ_=>?_) λhc=>absurd g3 (zf hc);refine aJ ?_;refine oS (Ze (H1:=H2) (F:=[_,_]) [_,_] rfl ox (Oi h2 [[60],[49],[94]] rfl zo) λH3 h3=>?_);refine Da ?_;exact rO rfl rN fH ⟨rfl,by rw[<-vu];exact h3⟩;rw[zn g3] at vu Zl;refine oC rfl (λhc=>absurd (zt hc) g3) λ_=>?_;refine Rm ?_
 by_cases g4:op=[61,61];rw[zp g4] at vu Zl;refine oC rfl (λ_=>?_) λhc=>absurd g4 (zf hc);refine aJ ?_;refine oS (Ze (H1:=H2) (F:=[_,_]) [_,_] rfl ox (Oi h2 [[94],[49],[60]] rfl zo) λH3 h3=>?_);refine Da ?_;exact rO rfl rN fH ⟨rfl,by rw[<-vu];exact h3⟩;rw[zn g4] at vu Zl;refine oC rfl (λhc=>absurd (zt hc) g4) λ_=>?_;refine wa ?_;refine tm ?_;refine oS (Ze (H1:=H2) (F:=[_,_]) [_,_] rfl ox (Oi h2 [op] rfl zo) λH3 h3=>?_);refine Da ?_;exact rO rfl rN fH ⟨rfl,by rw[<-vu];exact h3⟩
theorem SJ(hG:GW B0 w0){k:TB}{own:Nm}{c:CC}(hk:Ts k c own){env:Bb}(hE:Yq env):∀ m:Nat,m<=2000000->wJ B0 w0 k own c env m
 |0,_=>λx ws n H h=>by have:=pU x;omega
 |m+1,hm6=>by
  have ih:=SJ hG hk hE m zo;intro x ws n H rh ec Fl h hr;obtain⟨op,num,name,args⟩:=x;rw[xl] at rh;rw[Ji] at ec;obtain⟨ec,YD⟩:=ec;have uu:=MM args;have Bg:(args.map Ab).length=args.length:=Db _;rw[yf] at Fl;by_cases Xc:fg op = -1∨fg op=args.length;rotate_left;rw[zn Xc] at Fl;cases Fl;rw[zp Xc] at Fl;obtain⟨Ci,AA⟩:=Rc.1 Fl;have hW:Mb c (Ex.mk op num name args)=Iq c op num name (Hb c args):=by rw[Mb]
  have pu:fg op=1->∃ x,args=[x]:=λh1=>qyB (env:=env) (name:=name) Xc h1;rw[uB];refine kb Tryz.func158 rfl (n:=98) rfl rfl rfl ?_;refine qe ?_;refine oS (sB rfl λb3=>?_);refine xa ?_
  by_cases h1:op=[110,117,109];have VC:Mb c (Ex.mk op num name args)=[decDigits num]:=by rw[hW];subst h1;rfl
  rw[VC] at hr ⊢;refine oC rfl (λ_=>?_) λhc=>absurd h1 (zf hc);refine wa ?_;refine oS (sF [_,_] (by show [int .u64 (IntKind.u64.wrap (num:Int)),_]=[int .u64 (num:Nat),int .i64 10];rw[qt4 ec];rfl) (Ce hG num (by have:num<4294967296:=ec;omega)) ?_);refine tm ?_;refine oS (Ze (H1:=H) (F:=[_]) [_,_] rfl qf (Oi h [decDigits num] rfl hr) λH2 h2=>?_);refine Da ?_;exact rO rfl rN Tp ⟨rfl,h2⟩;refine oC rfl (λhc=>absurd (zt hc) h1) λ_=>?_;refine Rm ?_
  by_cases h2:op=[118,97,114];have VC:Mb c (Ex.mk op num name args)=[c.sc name,[64]]:=by rw[hW];subst h2;rfl
  have JK:Zs env name=0:=by rw[<-AA];subst h2;rfl
  have Nq:=hE.sc name JK;rw[VC] at hr ⊢;refine oC rfl (λ_=>?_) λhc=>absurd h2 (zf hc);refine xa ?_;refine oS (S.Hj (H1:=H) (F:=[_]) [_,_] rfl qf (YM hG hk h name zo) λH2 h2=>?_);refine ir ?_;refine oS (Ze (H1:=H2) (F:=[_]) [_,_] rfl qf (Oi h2 [c.sc name,[64]] rfl hr) λH3 h3=>?_);refine Da ?_;exact rO rfl rN Tp ⟨rfl,h3⟩;refine oC rfl (λhc=>absurd (zt hc) h2) λ_=>?_;refine Rm ?_
  by_cases h3:op=[101,108,101,109];obtain⟨x,rfl⟩:=pu (by subst h3;rfl);have VC:Mb c (Ex.mk op num name [x])=[c.ar name]++(Mb c x++[[43],[64]]):=by rw[hW,fQ,AU];subst h3;rfl
  rw[VC] at hr ⊢;simp only[Ga,La,oc] at hr;rw[ig] at Ci;rw[Ck] at YD;rw[Sb] at rh;have hex:=(Rc.1 Ci).1;obtain⟨a,Xx,pq,Bw⟩:=hk.ar name;refine oC rfl (λ_=>?_) λhc=>absurd h3 (zf hc);refine Da ?_;have h0:=h;obtain⟨v,Hv,Ra,rfl⟩:=h;refine cD (m:=11) rfl [Ez b3 op num name [x]]<|dJ ?_;refine aL ?_ qd;refine lO 4 (lH rfl rfl (pL (c:=.atom _) rfl Oh rfl) ?_);refine lO 7 (lH rfl rfl (Pure.AK rfl rfl XN Bw) ?_);refine lO 8 (lS (H1:=[]) rfl (.inl rfl) rfl mc qd (sF [_] rfl (JH hG a zo) ?_));rw[<-pq];refine lO 9 (lS (H1:=[]) rfl (.inl rfl) rfl mc qd (sL [_] rfl (Wu [_]) rfl rfl rfl ?_));refine lO 10 (lS (F:=[Ez b3 op num name [x]]) rfl (.inl rfl) rfl qf ob (Ya.iy [_,_] rfl (Oi h0 [c.ar name] rfl (by simp only[La,oc];omega)) λH2 h2=>?_));refine fq ?_;refine cW qpN ?_;refine qv ?_;refine oS (Ze (H1:=H2) (F:=[_]) [_,_] rfl qf (ih x _ n H2 zo YD.1 hex h2 (by simp only[Ga,La,oc];omega)) λH3 h3=>?_);refine Di ?_;refine ir ?_;refine oS (Ze (H1:=H3) (F:=[_]) [_,_] rfl qf (Oi h3 [[43],[64]] rfl (by simp only[Ga,La,oc];omega)) λH4 h4=>?_);refine Da ?_;exact rO rfl rN Tp ⟨rfl,by rw[Sc,Sc] at h4;exact h4⟩;refine oC rfl (λhc=>absurd (zt hc) h3) λ_=>?_;refine Rm ?_
  by_cases h4:op=[99,97,108,108];have Ge:Lc env name args.length=0:=by rw[<-AA];subst h4;rfl
  have Nq:=hE.call Ge;have VC:Mb c (Ex.mk op num name args)=(Hb c args).flatten++(if name=[105,110] then [[44]] else if name=[111,117,116] then [[46],[48]] else [[38,102,95]++name,[58]]):=by rw[hW];subst h4;rfl
  rw[VC] at hr ⊢;rw[Ga] at hr;refine oC rfl (λ_=>?_) λhc=>absurd h4 (zf hc);refine wa ?_;refine oS (Ze (H1:=H) (F:=[_]) [_,_] rfl qf (XY ih args ws n H zo zo YD Ci h zo) λH2 h2=>?_);rw[<-Sc];generalize hX:ws++(Hb c args).flatten=wx at h2 ⊢;have wC:=congrArg List.length hX;rw[Ga] at wC;refine xa ?_
  by_cases g1:name=[105,110];rw[zp g1] at hr ⊢;refine oC rfl (λ_=>?_) λhc=>absurd g1 (zf hc);refine Bd ?_;refine tm ?_;refine oS (Ze (H1:=H2) (F:=[_]) [_,_] rfl qf (Oi h2 [[44]] rfl zo) λH3 h3=>?_);refine Da ?_;exact rO rfl rN Tp ⟨rfl,h3⟩;rw[zn g1] at hr ⊢;refine oC rfl (λhc=>absurd (zt hc) g1) λ_=>?_;refine Rm ?_
  by_cases g2:name=[111,117,116];rw[zp g2] at hr ⊢;refine oC rfl (λ_=>?_) λhc=>absurd g2 (zf hc);refine Bd ?_;refine ir ?_;refine oS (Ze (H1:=H2) (F:=[_]) [_,_] rfl qf (Oi h2 [[46],[48]] rfl zo) λH3 h3=>?_);refine Da ?_;exact rO rfl rN Tp ⟨rfl,h3⟩;rw[zn g2] at hr ⊢;refine oC rfl (λhc=>absurd (zt hc) g2) λ_=>?_;refine wa ?_;refine ir ?_;refine oS (Ze (H1:=H2) (F:=[_]) [_,_] rfl qf (Oi h2 [[38,102,95]++name,[58]] rfl zo) λH3 h3=>?_);refine Da ?_;exact rO rfl rN Tp ⟨rfl,h3⟩;refine oC rfl (λhc=>absurd (zt hc) h4) λ_=>?_;refine Rm ?_
  by_cases h5:op=[110,101,103];obtain⟨x,rfl⟩:=pu (by subst h5;rfl);have VC:Mb c (Ex.mk op num name [x])=[[48]]++(Mb c x++[[45]]):=by rw[hW,fQ,AU];subst h5;rfl
  rw[VC] at hr ⊢;simp only[Ga,La,oc] at hr;rw[ig] at Ci;rw[Ck] at YD;rw[Sb] at rh;have hex:=(Rc.1 Ci).1;refine oC rfl (λ_=>?_) λhc=>absurd h5 (zf hc);refine Bd ?_;refine tm ?_;refine oS (Ze (H1:=H) (F:=[_]) [_,_] rfl qf (Oi h [[48]] rfl (by simp only[La,oc];omega)) λH2 h2=>?_);refine qv ?_;refine oS (Ze (H1:=H2) (F:=[_]) [_,_] rfl qf (ih x _ n H2 zo YD.1 hex h2 (by simp only[Ga,La,oc];omega)) λH3 h3=>?_);refine Di ?_;refine tm ?_;refine oS (Ze (H1:=H3) (F:=[_]) [_,_] rfl qf (Oi h3 [[45]] rfl (by simp only[Ga,La,oc];omega)) λH4 h4=>?_);refine Da ?_;exact rO rfl rN Tp ⟨rfl,by rw[Sc,Sc] at h4;exact h4⟩;refine oC rfl (λhc=>absurd (zt hc) h5) λ_=>?_;refine Rm ?_
  by_cases h6:op=[110,111,116];obtain⟨x,rfl⟩:=pu (by subst h6;rfl);have VC:Mb c (Ex.mk op num name [x])=Mb c x++[[49],[60]]:=by rw[hW,fQ,AU];subst h6;rfl
  rw[VC] at hr ⊢;simp only[Ga,La,oc] at hr;rw[ig] at Ci;rw[Ck] at YD;rw[Sb] at rh;have hex:=(Rc.1 Ci).1;refine oC rfl (λ_=>?_) λhc=>absurd h6 (zf hc);refine qv ?_;refine oS (Ze (H1:=H) (F:=[_]) [_,_] rfl qf (ih x _ n H zo YD.1 hex h zo) λH3 h3=>?_);refine Di ?_;refine ir ?_;refine oS (Ze (H1:=H3) (F:=[_]) [_,_] rfl qf (Oi h3 [[49],[60]] rfl (by simp only[Ga,La,oc];omega)) λH4 h4=>?_);refine Da ?_;exact rO rfl rN Tp ⟨rfl,by rw[Sc] at h4;exact h4⟩;refine oC rfl (λhc=>absurd (zt hc) h6) λ_=>?_
  have X2:fg op=2:=by
   unfold fg at Xc ⊢;rw[zn λh=>h.elim h1 h2,zn λh=>h.elim h3 λh=>h.elim h5 h6,zn (show ¬ op=eg from h4)] at Xc ⊢;split;rfl
   rename_i hb;rw[zn hb] at Xc;omega
  obtain⟨x,y,rfl⟩:=qwq Xc X2;have vu:=qx2 c num name x y h1 h2 h3 h4 h5 h6;rw[vu] at hr ⊢;simp only[ig] at Ci;simp only[Ck] at YD;simp only[Sb] at rh;have hex:=Rc.1 Ci;refine wa ?_;refine oS (Ze (H1:=H) (F:=[_]) [_,_] rfl qf (J0 hG hk ih op num name x y ws n H zo zo YD.1 YD.2.1 hex.1 (Rc.1 hex.2).1 h hr) λH3 h3=>?_);refine Da ?_;exact rO rfl rN Tp ⟨rfl,h3⟩
mutual
theorem L9(c:CC):∀ (s:Sm) (n:Nat),(vg c n s).2<=n+2 * Yp s
 |.mk kind name index value Ua Cb,n=>by
  have ht:=λn=>bQ c Ua n;have he:=λn=>bQ c Cb n;rw[Yp];unfold vg
  by_cases k1:kind=1;rw[zp k1];simp only;omega;rw[zn k1];by_cases k2:kind=2;rw[zp k2];simp only;omega;rw[zn k2];by_cases k3:kind=3;rw[zp k3];cases Cb with
  |nil=>have:=ht (n+1);simp only;omega
  |cons a r=>have h1:=ht (n+2);have h2:=he (Pa c (n+2) Ua).2;simp only;omega
  rw[zn k3];by_cases k4:kind=4;have h1:=ht (n+2);rw[zp k4];simp only;omega;rw[zn k4];by_cases k5:kind=5;rw[zp k5];simp only;omega;rw[zn k5];by_cases k6:kind=6;rw[zp k6];simp only;omega;rw[zn k6];by_cases k7:kind=7;rw[zp k7];simp only;omega;rw[zn k7];simp only;omega
theorem bQ(c:CC):∀ (l:List Sm) (n:Nat),(Pa c n l).2<=n+2 * Ld l
 |[],n=>by rw[Pa,Ld];simp
 |s::l,n=>by have h1:=L9 c s n;have h2:=bQ c l (vg c n s).2;rw[Pa,Ld];simp only;omega
end
theorem quL(c:CC)(n:Nat)(s:Sm)(l:List Sm):Pa c n (s::l)=((vg c n s).1++(Pa c (vg c n s).2 l).1,(Pa c (vg c n s).2 l).2):=by rw[Pa]
theorem MY(c:CC)(n:Nat):Pa c n []=([],n):=by rw[Pa]
theorem rZ(x:Ex):([x]:List Ex).headD default=x:=rfl
theorem qqX:∀ {l:List Sm} {x:Sm},x∈l->Yp x<=Ld l
 |g::l,f,h=>by rw[Ld];rcases zc.1 h with rfl|h;omega;have:=qqX h;omega
abbrev z7(b:Nat)(kind:Int)(name:Nm)(index value:List Ex)(Ua Cb:List Sm):Nat×ma:=(b,.cells 217 [int .i64 kind,str name,.list (index.map Ab),.list (value.map Ab),.list (Ua.map lc),.list (Cb.map lc)])
def vX(B0:Nat)(w0:World)(k:TB)(own:Nm)(c:CC)(env:Bb)(m:Nat):Prop:=∀ (l:List Sm) (ws:List Wd) (n:Nat) (H:Heap),Ld l<=m->cj l->Th env l=0->Qj k own ws n H->ws.length+(Pa c n l).1.length<=1000000000->n+2 * Ld l<=1000000000->ca (KC B0 w0) 92 [ptr k.tb 0,.list (l.map lc)] H (Hy (Qj k own (ws++(Pa c n l).1) (Pa c n l).2))
theorem qpp(hG:GW B0 w0){k:TB}(hX:wJ B0 w0 k own c env 2000000)(ih:vX B0 w0 k own c env m)(name:Nm)(index:List Ex)(v:Ex)(Ua Cb:List Sm)(ws:List Wd)(n:Nat)(H:Heap)(hv:xl v<=2000000)(hm:Ld Ua+Ld Cb<=m)(h2m:Cb.length<=2000000)
  (nv:Ji v) (nt:cj Ua) (ne:cj Cb) (ev:yf env v=0) (et:Th env Ua=0) (ee:Th env Cb=0) (h:Qj k own ws n H) (hr:ws.length+(vg c n (.mk 3 name index [v] Ua Cb)).1.length<=1000000000) (hN:n+2+2 * (Ld Ua+Ld Cb)<=1000000000) :
  ca (KC B0 w0) 159 [ptr k.tb 0,lc (.mk 3 name index [v] Ua Cb)] H (Hy (Qj k own (ws++(vg c n (.mk 3 name index [v] Ua Cb)).1) (vg c n (.mk 3 name index [v] Ua Cb)).2)):=by
 have Ja:=bQ c Ua (n+2);have uG:∀ i:Nat,i<=1000000001->(za i).length<=11:=λi hi=>vM zo;have hle:(Cb.map lc).length=Cb.length:=Db _;rw[Mv];refine kb Tryz.func159 rfl (n:=65) rfl rfl rfl ?_;refine qe ?_;refine oS (sB rfl λb3=>?_);refine Di ?_;refine oS (S.Hj (H1:=H) (F:=[_]) [_] rfl qf (lV hG h zo) λH1 h1=>?_);have BC:=uG n zo;refine wa ?_
 cases Cb with
 |nil=>
  have hS:vg c n (.mk 3 name index [v] Ua [])=(Mb c v++([38::za n,[63]]++((Pa c (n+1) Ua).1++[za n++[58]])),(Pa c (n+1) Ua).2):=by unfold vg;rw[zn fa,zn fa,zp rfl];simp only[rZ,Sc]
  rw[hS] at hr ⊢;simp only[Ga,La,oc] at hr;refine oC rfl (λ_=>?_) (λhc=>by cases hc);refine fJ ?_;refine oS (Ze (H1:=H1) (F:=[_]) [_,_] rfl qf (hX v ws (n+1) H1 hv nv ev h1 zo) λH2 h2=>?_);refine wa ?_;refine ir ?_;refine oS (Ze (H1:=H2) (F:=[_]) [_,_] rfl qf (Oi h2 [38::za n,[63]] rfl (by simp only[Ga,La,oc];omega)) λH3 h3=>?_);refine wa ?_;refine oS (Ze (H1:=H3) (F:=[_]) [_,_] rfl qf (ih Ua _ (n+1) H3 zo nt et h3 (by simp only[Ga,La,oc];omega) zo) λH4 h4=>?_);refine wa ?_;refine tm ?_;refine oS (Ze (H1:=H4) (F:=[_]) [_,_] rfl qf (Oi h4 [za n++[58]] rfl (by simp only[Ga,La,oc];omega)) λH5 h5=>?_);refine Da ?_
  exact rR rfl rN Tp ⟨rfl,by simp only[Sc] at h5 ⊢;exact h5⟩
 |cons s0 r0=>
  have hS:vg c n (.mk 3 name index [v] Ua (s0::r0))=(Mb c v++([38::za n,[63]]++((Pa c (n+2) Ua).1++([[48],38::za (n+1),[63],za n++[58]]++((Pa c (Pa c (n+2) Ua).2 (s0::r0)).1++[za (n+1)++[58]])))),(Pa c (Pa c (n+2) Ua).2 (s0::r0)).2):=by unfold vg;rw[zn fa,zn fa,zp rfl];simp only[rZ,Sc]
  rw[hS] at hr ⊢;simp only[Ga,La,oc] at hr;have xA:=uG (n+1) zo;generalize V4:s0::r0=Cb at *;have Fb:¬ ((Cb.map lc).length:Int)=0:=by rw[<-V4];simp only[Db,La];omega
  refine oC rfl (λhc=>absurd (zt hc) Fb) λ_=>?_;refine xa ?_;refine oS (S.Hj (H1:=H1) (F:=[_]) [_] rfl qf (lV hG h1 zo) λH1 h1=>?_);refine fJ ?_;refine oS (Ze (H1:=H1) (F:=[_]) [_,_] rfl qf (hX v ws (n+1+1) H1 hv nv ev h1 zo) λH2 h2=>?_);refine wa ?_;refine ir ?_;refine oS (Ze (H1:=H2) (F:=[_]) [_,_] rfl qf (Oi h2 [38::za n,[63]] rfl (by simp only[Ga,La,oc];omega)) λH3 h3=>?_);refine wa ?_;refine oS (Ze (H1:=H3) (F:=[_]) [_,_] rfl qf (ih Ua _ (n+2) H3 zo nt et h3 (by simp only[Ga,La,oc];omega) zo) λH4 h4=>?_);refine wa ?_;refine oS (sL [_,_,_,_] rfl (Wu [_,_,_,_]) rfl rfl rfl<|oS (Ze (H1:=H4) (F:=[_]) [_,_] rfl qf (Oi h4 [[48],38::za (n+1),[63],za n++[58]] rfl (by simp only[Ga,La,oc];omega)) λH5 h5=>?_));refine wa ?_;refine oS (Ze (H1:=H5) (F:=[_]) [_,_] rfl qf (ih Cb _ _ H5 zo ne ee h5 (by simp only[Ga,La,oc];omega) zo) λH6 h6=>?_);refine wa ?_;refine tm ?_;refine oS (Ze (H1:=H6) (F:=[_]) [_,_] rfl qf (Oi h6 [za (n+1)++[58]] rfl (by simp only[Ga,La,oc];omega)) λH7 h7=>?_);refine dd ?_;exact rO rfl rN Tp ⟨rfl,by simp only[Sc] at h7 ⊢;exact h7⟩
theorem quK(hG:GW B0 w0){k:TB}(hX:wJ B0 w0 k own c env 2000000)(ih:vX B0 w0 k own c env m)(name:Nm)(index:List Ex)(v:Ex)(Ua Cb:List Sm)(ws:List Wd)(n:Nat)(H:Heap)(hv:xl v<=2000000)(hm:Ld Ua<=m)
  (nv:Ji v) (nt:cj Ua) (ev:yf env v=0) (et:Th env Ua=0) (h:Qj k own ws n H) (hr:ws.length+(vg c n (.mk 4 name index [v] Ua Cb)).1.length<=1000000000) (hN:n+2+2 * Ld Ua<=1000000000) :
  ca (KC B0 w0) 160 [ptr k.tb 0,lc (.mk 4 name index [v] Ua Cb)] H (Hy (Qj k own (ws++(vg c n (.mk 4 name index [v] Ua Cb)).1) (vg c n (.mk 4 name index [v] Ua Cb)).2)):=by
 have BC:(za n).length<=11:=vM zo;have xA:(za (n+1)).length<=11:=vM zo;have hS:vg c n (.mk 4 name index [v] Ua Cb)=([za n++[58]]++(Mb c v++([38::za (n+1),[63]]++((Pa c (n+2) Ua).1++[[48],38::za n,[63],za (n+1)++[58]]))),(Pa c (n+2) Ua).2):=by unfold vg;rw[zn fa,zn fa,zn fa,zp rfl];simp only[rZ,Sc]
 rw[hS] at hr ⊢;simp only[Ga,La,oc] at hr;rw[Mv];refine kb Tryz.func160 rfl (n:=37) rfl rfl rfl ?_;refine qe ?_;refine oS (sB rfl λb3=>?_);refine Di ?_;refine oS (S.Hj (H1:=H) (F:=[_]) [_] rfl qf (lV hG h zo) λH1 h1=>?_);refine fi ?_;refine oS (S.Hj (H1:=H1) (F:=[_]) [_] rfl qf (lV hG h1 zo) λH1 h1=>?_);refine wa ?_;refine tm ?_;refine oS (Ze (H1:=H1) (F:=[_]) [_,_] rfl qf (Oi h1 [za n++[58]] rfl (by simp only[Ga,La,oc];omega)) λH2 h2=>?_);refine fJ ?_;refine oS (Ze (H1:=H2) (F:=[_]) [_,_] rfl qf (hX v _ (n+1+1) H2 hv nv ev h2 (by simp only[Ga,La,oc];omega)) λH3 h3=>?_);refine wa ?_;refine ir ?_;refine oS (Ze (H1:=H3) (F:=[_]) [_,_] rfl qf (Oi h3 [38::za (n+1),[63]] rfl (by simp only[Ga,La,oc];omega)) λH4 h4=>?_);refine wa ?_;refine oS (Ze (H1:=H4) (F:=[_]) [_,_] rfl qf (ih Ua _ (n+2) H4 zo nt et h4 (by simp only[Ga,La,oc];omega) zo) λH5 h5=>?_);refine wa ?_;refine oS (sL [_,_,_,_] rfl (Wu [_,_,_,_]) rfl rfl rfl<|oS (Ze (H1:=H5) (F:=[_]) [_,_] rfl qf (Oi h5 [[48],38::za n,[63],za (n+1)++[58]] rfl (by simp only[Ga,La,oc];omega)) λH6 h6=>?_));refine dd ?_;exact rO rfl rN Tp ⟨rfl,by simp only[Sc] at h6 ⊢;exact h6⟩
theorem qs2{name:List UInt8}{index value:List Ex}{Ua Cb:List Sm}(h:Jh (.mk 2 name index value Ua Cb)=true):∃ x,index=[x]:=by
 have h1:index.length=1:=by
  simp only[Jh] at h;repeat' (split at h)
  all_goals first
   |(simp only[Gg] at h;omega)
   |cases h
   |contradiction
 exact gv h1
theorem quR{kind:Int}{name:List UInt8}{index value:List Ex}{Ua Cb:List Sm}(h:Jh (.mk kind name index value Ua Cb)=true):kind=1∨kind=2∨kind=3∨kind=4∨kind=5∨kind=6∨kind=7:=by
 simp only[Jh] at h;repeat' (split at h)
 all_goals first
  |omega
  |cases h
theorem mV(hG:GW B0 w0){k:TB}{own:Nm}{c:CC}(hk:Ts k c own){env:Bb}(hE:Yq env):∀ m:Nat,m<=2000000->vX B0 w0 k own c env m
 |0,_=>λl ws n H hm ec Fl h hr hN=>by
  have:l=[]:=by
   cases l with
   |nil=>rfl
   |cons s r=>have:=fY s;rw[Ld] at hm;omega
  subst this;rw[MY];refine kb Tryz.func92 rfl (n:=97) rfl rfl rfl ?_;refine xa ?_;refine oL (λkk ls H'=>kk=0/\ls=[(0,ptr k.tb 0),(6,.list []),(7,int .i64 0),(8,int .i64 0)]/\H'=H) ⟨0,_,_,⟨rfl,rfl,rfl⟩,lb,Kb _⟩ ?_;rintro kk ls H' ⟨rfl,rfl,rfl⟩ j hj;refine Zg ?_;refine oC rfl (λhc=>by cases hc) λhc=>?_;refine Da ?_
  exact rO hj rN ob ⟨rfl,by rw[de];exact h⟩
 |m+1,hm6=>by
  have ih:=mV hG hk hE m zo;have hX:wJ B0 w0 k own c env 2000000:=SJ hG hk hE 2000000 (Jb _);intro l ws n H hm ec Fl h hr hN;have uu:=UJ l;generalize hT:Pa c n l=T at hr ⊢;refine kb Tryz.func92 rfl (n:=97) rfl rfl rfl ?_;refine xa ?_;refine oL (λkk ls H'=>∃ (pre l1:List Sm) (Ym:List Wd) (n':Nat),l=pre++l1/\kk=l1.length/\ls=[(0,ptr k.tb 0),(6,.list (l.map lc)),(7,int .i64 ((l.map lc).length:Int)),(8,int .i64 (pre.length:Int))]/\Qj k own Ym n' H'/\Ym++(Pa c n' l1).1=ws++T.1/\(Pa c n' l1).2=T.2/\n'+2 * Ld l1<=1000000000/\Th env l1=0/\cj l1)
   ⟨l.length,_,_,⟨[],l,ws,n,rfl,rfl,rfl,h,by rw[hT],by rw[hT],hN,Fl,ec⟩,lb,Kb _⟩ ?_
  rintro kk ls H' ⟨pre,l1,Ym,n',Xb,rfl,rfl,zz,hW,hL,XC,Ci,sw⟩ j hj;have Kl:pre.length<=2000000:=by have:=congrArg List.length Xb;rw[Ga] at this;omega
  refine Zg ?_;refine Ma (λhc=>?_) λhc=>?_;rotate_left;have na:=zf hc;rw[Db,Xb,Ga] at na
  obtain rfl:l1=[]:=by
   cases l1 with
   |nil=>rfl
   |cons a l2=>simp at na;omega
  rw[MY,de] at hW;rw[MY] at hL;simp only at hL;refine Da ?_;exact rO hj rN ob ⟨rfl,by rw[<-hW,<-hL];exact zz⟩;have na:=zt hc;rw[Db,Xb,Ga] at na;obtain⟨s,l2,rfl⟩:∃ a l2,l1=a::l2:=by
   cases l1 with
   |nil=>simp at na
   |cons a l2=>exact⟨a,l2,rfl⟩
  have UC:Yp s<=Ld l:=qqX (by rw[Xb];exact mem_append_right _ We);have ou:=L9 c s n';rw[Th] at Ci;rw[cj] at sw;rw[Ld] at XC;obtain⟨NK,tC⟩:=sw;obtain⟨yw,AA⟩:=Rc.1 Ci;rw[quL] at hW hL;simp only at hW hL;rw[<-Sc] at hW;have Zl:=congrArg List.length hW;rw[Ga,Ga,Ga] at Zl;obtain⟨kind,name,index,value,Ua,Cb⟩:=s;rw[Pk] at yw;by_cases hf:Jh (.mk kind name index value Ua Cb)=false;rw[zp hf] at yw;cases yw;rw[zn hf] at yw;rw[Bool.not_eq_false] at hf;obtain⟨e1,yw⟩:=Rc.1 yw;obtain⟨e2,yw⟩:=Rc.1 yw;obtain⟨e3,yw⟩:=Rc.1 yw;obtain⟨e4,e5⟩:=Rc.1 yw;rw[ep] at NK;obtain⟨n1,n2,n3,n4⟩:=NK;rw[Yp] at UC XC ou;have Mm:=UJ Cb;refine Ti ?_;refine la (xR (ke:=.agg [int .i64 kind,str name,.list (index.map Ab),.list (value.map Ab),.list (Ua.map lc),.list (Cb.map lc)]) (cs:=[_,_,_,_,_,_]) rfl rfl zo (by
   have h9:=sj.Td lc pre (Sm.mk kind name index value Ua Cb) l2;rw[Mv] at h9;rw[Xb];exact h9) rfl rfl) ?_
  refine Na ?_;refine oS (Jd λb5=>?_);refine wa ?_;have fin:∀ {e:Env} {Hx:Heap} (W:List Wd) (nx:Nat) (H2:Heap),vg c n' (.mk kind name index value Ua Cb)=(W,nx)->Qj k own (Ym++W) nx H2->HSub H2 Hx->e.ds=j.ds ->
    (e.s 0=ptr k.tb 0/\e.s 6=.list (l.map lc)/\e.s 7=int .i64 ((l.map lc).length:Int)/\e.s 8=int .i64 ((pre.length:Int)+1)) ->
    ∃ k' ls' H3,k'<(Sm.mk kind name index value Ua Cb::l2).length/\(∃ (pre l1:List Sm) (Ym:List Wd) (n':Nat),l=pre++l1/\k'=l1.length/\ls'=[(0,ptr k.tb 0),(6,.list (l.map lc)),(7,int .i64 ((l.map lc).length:Int)),(8,int .i64 (pre.length:Int))]/\Qj k own Ym n' H3/\Ym++(Pa c n' l1).1=ws++T.1/\(Pa c n' l1).2=T.2/\n'+2 * Ld l1<=1000000000/\Th env l1=0/\cj l1)/\sx e ls'/\HSub H3 Hx/\e.ds=[]:=by
   intro e Hx W nx H2 hS iS iC hd hv;rw[hS] at hW hL ou;simp only at hW hL ou;exact⟨l2.length,_,H2,Nat.lt_succ_self _,⟨pre++[Sm.mk kind name index value Ua Cb],l2,Ym++W,nx,by rw[Xb];simp,rfl,rfl,iS,hW,hL,by omega,AA,tC⟩,⟨hv.1,hv.2.1,hv.2.2.1,by rw[hv.2.2.2];exact Kg (by simp),trivial⟩,iC,hd.trans hj⟩
  by_cases k1:kind=1;subst k1;obtain⟨x,rfl⟩:=xi.Ve hf fa;rw[ig] at e1;rw[Ck] at n2;rw[Sb,Sb] at UC XC ou;have hex:=(Rc.1 e1).1;have JK:Zs env name=0:=by rw[zp rfl] at e3;exact e3
  have Nq:=hE.sc name JK;have hS:vg c n' (.mk 1 name index [x] Ua Cb)=(Mb c x++[c.sc name,[33]],n'):=by unfold vg;rw[zp rfl];rfl
  have Qx:=Zl;rw[hS] at Qx;simp only[Ga,La,oc] at Qx;refine oC rfl (λ_=>?_) (λhc=>by cases hc);refine qv ?_;refine oS (Ze (H1:=H') (F:=[_]) [_,_] rfl qf (hX x Ym n' H' zo n2.1 hex zz zo) λH2 h2=>?_);refine xa ?_;refine oS (S.Hj (H1:=H2) (F:=[_]) [_,_] rfl qf (YM hG hk h2 name zo) λH3 h3=>?_);refine ir ?_;refine oS (Ze (H1:=H3) (F:=[_]) [_,_] rfl qf (Oi h3 [c.sc name,[33]] rfl (by simp only[Ga,La,oc];omega)) λH4 h4=>?_);refine Zk ?_;exact fin _ _ H4 hS (by rw[<-Sc];exact h4) Tp rfl ⟨rfl,rfl,rfl,rfl⟩;refine oC rfl (λhc=>absurd (zt hc) k1) λ_=>?_;refine Si ?_
  by_cases k2:kind=2;subst k2;obtain⟨x,rfl⟩:=xi.Ve hf fa;obtain⟨y,rfl⟩:=qs2 hf;rw[ig] at e1 e2;rw[Ck] at n1 n2;rw[Sb,Sb,Sb,Sb] at UC XC ou;have hex:=(Rc.1 e1).1;have hey:=(Rc.1 e2).1;obtain⟨a,Xx,pq,Bw⟩:=hk.ar name;have hS:vg c n' (.mk 2 name [y] [x] Ua Cb)=(Mb c x++([c.ar name]++(Mb c y++[[43],[33]])),n'):=by unfold vg;rw[zn fa,zp rfl];rfl
  have Qx:=Zl;rw[hS] at Qx;simp only[Ga,La,oc] at Qx;refine oC rfl (λ_=>?_) (λhc=>by cases hc);refine qv ?_;refine oS (Ze (H1:=H') (F:=[_]) [_,_] rfl qf (hX x Ym n' H' zo n2.1 hex zz zo) λH2 h2=>?_);refine Da ?_;have h0:=h2;obtain⟨v,Hv,Ra,rfl⟩:=h2;refine cD (m:=11) rfl [z7 b5 2 name [y] [x] Ua Cb]<|dJ ?_;refine aL ?_ rX;refine lO 4 (lH rfl rfl (pL (c:=.atom _) rfl Oh rfl) ?_);refine lO 7 (lH rfl rfl (Pure.AK rfl rfl XN Bw) ?_);refine lO 8 (lS (H1:=[]) rfl (.inl rfl) rfl mc rX (sF [_] rfl (JH hG a zo) ?_));rw[<-pq];refine lO 9 (lS (H1:=[]) rfl (.inl rfl) rfl mc rX (sL [_] rfl (Wu [_]) rfl rfl rfl ?_));refine lO 10 (lS (F:=[z7 b5 2 name [y] [x] Ua Cb]) rfl (.inl rfl) rfl qf ob (Ya.iy [_,_] rfl (Oi h0 [c.ar name] rfl (by simp only[Ga,La,oc];omega)) λH2 h2=>?_));refine fq ?_;refine cW qpN ?_;refine wa ?_;refine la (xR (ke:=Ab y) (cs:=[_,_,_,_]) rfl rfl fa rfl rfl rfl)<|Na ?_;refine oS (Ze (H1:=H2) (F:=[_]) [_,_] rfl qf (hX y _ n' H2 zo n1.1 hey h2 (by simp only[Ga,La,oc];omega)) λH3 h3=>?_);refine Di ?_;refine ir ?_;refine oS (Ze (H1:=H3) (F:=[_]) [_,_] rfl qf (Oi h3 [[43],[33]] rfl (by simp only[Ga,La,oc];omega)) λH4 h4=>?_);refine Zk ?_;exact fin _ _ H4 hS (by simp only[Sc] at h4 ⊢;exact h4) Tp rfl ⟨rfl,rfl,rfl,rfl⟩;refine oC rfl (λhc=>absurd (zt hc) k2) λ_=>?_;refine Si ?_
  by_cases k3:kind=3;subst k3;obtain⟨x,rfl⟩:=xi.Ve hf fa;rw[ig] at e1;rw[Ck] at n2;rw[Sb,Sb] at UC XC ou;have hex:=(Rc.1 e1).1;refine oC rfl (λ_=>?_) (λhc=>by cases hc);refine wa ?_;refine oS (Ze (H1:=H') (F:=[_]) [_,_] (by show [ptr k.tb 0,_]=_;rw[Mv];rfl) qf (qpp hG hX ih name index x Ua Cb Ym n' H' zo zo zo n2.1 n3 n4 hex e4 e5 zz zo zo) λH2 h2=>?_);refine Zk ?_;exact fin _ _ H2 rfl h2 Tp rfl ⟨rfl,rfl,rfl,rfl⟩;refine oC rfl (λhc=>absurd (zt hc) k3) λ_=>?_;refine Si ?_
  by_cases k4:kind=4;subst k4;obtain⟨x,rfl⟩:=xi.Ve hf fa;rw[ig] at e1;rw[Ck] at n2;rw[Sb,Sb] at UC XC ou;have hex:=(Rc.1 e1).1;refine oC rfl (λ_=>?_) (λhc=>by cases hc);refine wa ?_;refine oS (Ze (H1:=H') (F:=[_]) [_,_] (by show [ptr k.tb 0,_]=_;rw[Mv];rfl) qf (quK hG hX ih name index x Ua Cb Ym n' H' zo zo n2.1 n3 hex e4 zz zo zo) λH2 h2=>?_);refine Zk ?_;exact fin _ _ H2 rfl h2 Tp rfl ⟨rfl,rfl,rfl,rfl⟩;refine oC rfl (λhc=>absurd (zt hc) k4) λ_=>?_;refine Si ?_
  by_cases k5:kind=5;subst k5;obtain⟨x,rfl⟩:=xi.Ve hf fa;rw[ig] at e1;rw[Ck] at n2;rw[Sb,Sb] at UC XC ou;have hex:=(Rc.1 e1).1;have hS:vg c n' (.mk 5 name index [x] Ua Cb)=(Mb c x++[[59]],n'):=by unfold vg;rw[zn fa,zn fa,zn fa,zn fa,zp rfl];rfl
  have Qx:=Zl;rw[hS] at Qx;simp only[Ga,La,oc] at Qx;refine oC rfl (λ_=>?_) (λhc=>by cases hc);refine qv ?_;refine oS (Ze (H1:=H') (F:=[_]) [_,_] rfl qf (hX x Ym n' H' zo n2.1 hex zz zo) λH2 h2=>?_);refine Di ?_;refine tm ?_;refine oS (Ze (H1:=H2) (F:=[_]) [_,_] rfl qf (Oi h2 [[59]] rfl (by simp only[Ga,La,oc];omega)) λH4 h4=>?_);refine Zk ?_;exact fin _ _ H4 hS (by rw[<-Sc];exact h4) Tp rfl ⟨rfl,rfl,rfl,rfl⟩;refine oC rfl (λhc=>absurd (zt hc) k5) λ_=>?_;refine Si ?_
  by_cases k6:kind=6;subst k6;obtain⟨x,rfl⟩:=xi.Ve hf fa;rw[ig] at e1;rw[Ck] at n2;rw[Sb,Sb] at UC XC ou;have hex:=(Rc.1 e1).1;have hS:vg c n' (.mk 6 name index [x] Ua Cb)=(Mb c x++[c.t0,[33]],n'):=by unfold vg;rw[zn fa,zn fa,zn fa,zn fa,zn fa,zp rfl];rfl
  have Qx:=Zl;rw[hS] at Qx;simp only[Ga,La,oc] at Qx;refine oC rfl (λ_=>?_) (λhc=>by cases hc);refine qv ?_;refine oS (Ze (H1:=H') (F:=[_]) [_,_] rfl qf (hX x Ym n' H' zo n2.1 hex zz zo) λH2 h2=>?_);refine Di ?_
  refine oS (S.Hj (H1:=H2) (F:=[_]) [_,_] rfl qf (by
   have h9:=zV (B0:=B0) (w0:=w0) hG hk h2 0 fa;rw[Nat.add_zero,<-hk.t0] at h9;exact h9) λH3 h3=>?_)
  refine ir ?_;refine oS (Ze (H1:=H3) (F:=[_]) [_,_] rfl qf (Oi h3 [c.t0,[33]] rfl (by simp only[Ga,La,oc];omega)) λH4 h4=>?_);refine Zk ?_;exact fin _ _ H4 hS (by rw[<-Sc];exact h4) Tp rfl ⟨rfl,rfl,rfl,rfl⟩;refine oC rfl (λhc=>absurd (zt hc) k6) λ_=>?_;refine Si ?_;have k7:kind=7:=by have:=quR hf;omega
  subst k7;have hS:vg c n' (.mk 7 name index value Ua Cb)=([[36]],n'):=by unfold vg;rw[zn fa,zn fa,zn fa,zn fa,zn fa,zn fa,zp rfl]
  have Qx:=Zl;rw[hS] at Qx;simp only[Ga,La,oc] at Qx;refine oC rfl (λ_=>?_) (λhc=>by cases hc);refine Bd ?_;refine tm ?_;refine oS (Ze (H1:=H') (F:=[_]) [_,_] rfl qf (Oi zz [[36]] rfl (by simp only[Ga,La,oc];omega)) λH4 h4=>?_);refine Zk ?_;exact fin _ _ H4 hS h4 Tp rfl ⟨rfl,rfl,rfl,rfl⟩
abbrev Rt(c:CC)(l:List Nm):List Wd:=l.flatMap λp=>[c.sc p,[33]]
theorem qsR(c:CC)(p:Nm)(l:List Nm):Rt c (p::l)=[c.sc p,[33]]++Rt c l:=by unfold Rt;rw[List.flatMap_cons]
theorem qv2(cc:Nm->CC)(n:Nat):Oc cc n []=([],n):=by rw[Oc]
theorem qux(cc:Nm->CC)(n:Nat)(f:Pb)(l:List Pb):Oc cc n (f::l)=((lk (cc f.name) n f).1++(Oc cc (lk (cc f.name) n f).2 l).1,(Oc cc (lk (cc f.name) n f).2 l).2):=by rw[Oc]
theorem qzF(c:CC)(n:Nat)(f:Pb):lk c n f=([[102,95]++f.name++[58]]++(Rt c f.params.reverse++((Pa c n f.body).1++[[48],[59]])),(Pa c n f.body).2):=by unfold lk Rt;simp only[Sc]
theorem qwI{l:List Nm}(h:i<l.length):(l.take (i+1)).reverse=l[i]::(l.take i).reverse:=by rw[take_succ_eq_append_getElem h,List.reverse_append];rfl
structure FnT(k:TB)(cc:Nm->CC)(f:Pb):Prop where
 tb:Ts k (cc f.name) f.name
 name:f.name.length<=24
 params:∀ p∈f.params,p.length<=1000000
 num:cj f.body
 env:∃ env,Yq env/\Th env f.body=0
theorem eK(hG:GW B0 w0){k:TB}{cc:Nm->CC}(fw:k.sc<=1000000000)(vars:List Nm)(ba:List (Nm×Int))(fs:List Pb)(rh:je fs<=2000000)(hf:∀ f∈fs,FnT k cc f){own0:Nm}{c0:CC}(wG:Ts k c0 own0)(H:Heap)(h:Qj k own0 [] 0 H)
  (hr:5+(Oc cc 0 fs).1.length<=1000000000) :
  ca (KC B0 w0) 48 [ptr k.tb 0,sj.vh vars ba fs] H (Hy λH'=>∃ own n,Qj k own ([[38,102,95,109,97,105,110],[58],decDigits k.sc,[33],[36]]++(Oc cc 0 fs).1) n H'):=by
 have uu:=wU fs;have Bg:(fs.map pg).length=fs.length:=Db _;refine kb Tryz.func48 rfl (n:=57) rfl rfl rfl ?_;refine qe ?_;refine oS (sB rfl λb3=>?_);refine Di ?_;refine oS (S.Hj (H1:=H) (F:=[_]) [_,_] rfl qf (by
  have h9:=zV (B0:=B0) (w0:=w0) hG wG h 0 fa;rw[Nat.add_zero] at h9;exact h9) λH1 h1=>?_)
 refine oS (sL [_,_,_,_,_] rfl (Wu [_,_,_,_,_]) rfl rfl rfl<|oS (Ze (H1:=H1) (F:=[_]) [_,_] rfl qf (Oi h1 [[38,102,95,109,97,105,110],[58],decDigits k.sc,[33],[36]] rfl (by simp only[La,oc];omega)) λH2 h2=>?_));rw[List.nil_append] at h2;refine wa ?_;generalize hP:([[38,102,95,109,97,105,110],[58],decDigits k.sc,[33],[36]]:List Wd)=P5 at h2 ⊢;have hP5:P5.length=5:=by rw[<-hP];rfl
 clear hP;generalize hT:Oc cc 0 fs=T at hr ⊢;refine oL (λkk ls H'=>∃ (pre l1:List Pb) (Ym:List Wd) (n':Nat) (own:Nm),fs=pre++l1/\kk=l1.length/\ls=[(0,ptr k.tb 0),(13,.list (fs.map pg)),(14,int .i64 ((fs.map pg).length:Int)),(15,int .i64 (pre.length:Int))]/\Qj k own Ym n' H'/\Ym++(Oc cc n' l1).1=P5++T.1/\n'+2 * je l1<=1000000000)
  ⟨fs.length,_,_,⟨[],fs,P5,0,own0,rfl,rfl,rfl,h2,by rw[hT],by omega⟩,lb,Tp⟩ ?_
 rintro kk ls H' ⟨pre,l1,Ym,n',own,Xb,rfl,rfl,zz,hW,XC⟩ j hj;have Kl:pre.length<=2000000:=by have:=congrArg List.length Xb;rw[Ga] at this;omega
 refine Zg ?_;refine Ma (λhc=>?_) λhc=>?_;rotate_left;have na:=zf hc;rw[Db,Xb,Ga] at na
 obtain rfl:l1=[]:=by
  cases l1 with
  |nil=>rfl
  |cons a l2=>simp at na;omega
 rw[qv2,de] at hW;refine Da ?_;exact rO hj rN ob ⟨rfl,own,n',by rw[<-hW];exact zz⟩;have na:=zt hc;rw[Db,Xb,Ga] at na;obtain⟨f,l2,rfl⟩:∃ a l2,l1=a::l2:=by
  cases l1 with
  |nil=>simp at na
  |cons a l2=>exact⟨a,l2,rfl⟩
 have JN:f∈fs:=by rw[Xb];exact mem_append_right _ We
 have FN:=HU JN;obtain⟨hk,sz,hpm,ec,env,hE,Fl⟩:=hf f JN;rw[je] at XC;have NN:=bQ (cc f.name) f.body n';have Un:(f.params.map str).length=f.params.length:=Db _;unfold Jq at FN XC;rw[qux] at hW;rw[qzF] at hW;simp only at hW;have Zl:=congrArg List.length hW;simp only[Ga,La,oc] at Zl;obtain⟨v,Hv,Ra,rfl⟩:=zz;refine Ti ?_;refine la (xR (ke:=pg f) (cs:=[_,_,_,_]) rfl rfl zo (by rw[Xb];exact sj.Td pg pre f l2) rfl rfl)<|Na ?_;refine oS (Jd λb5=>?_);refine wa ?_;first|(refine oS (sS (Ob:=[_,_,_,_,_,_]) rfl Od rfl rfl rfl rfl rfl ?_))|skip
 refine wa ?_;have h1:Qj k f.name Ym n' ((k.tb,.cells 121 [v,int .i64 (n':Nat),int .i64 (k.sc:Nat),.atom (.map (some k.sm)),.atom (.map (some k.am)),str f.name])::(k.sm,.map (Pe k.S) k.g1)::(k.am,.map (Pe k.A) k.g2)::Hv):=⟨v,Hv,Ra,rfl⟩;refine Ea.qc (H':=(b5,.cells 168 [str f.name,.list (f.params.map str),.list (f.locals.map str),.list (f.body.map lc)])::(k.tb,.cells 121 [v,int .i64 (n':Nat),int .i64 (k.sc:Nat),.atom (.map (some k.sm)),.atom (.map (some k.am)),str f.name])::(k.sm,.map (Pe k.S) k.g1)::(k.am,.map (Pe k.A) k.g2)::Hv) ⟨[],by rw[de];exact cr _ _ _⟩ ?_;generalize ((k.tb,.cells 121 [v,int .i64 (n':Nat),int .i64 (k.sc:Nat),.atom (.map (some k.sm)),.atom (.map (some k.am)),str f.name])::(k.sm,.map (Pe k.S) k.g1)::(k.am,.map (Pe k.A) k.g2)::Hv:Heap)=H1 at h1 ⊢;refine tm ?_;refine oS (Ze (H1:=H1) (F:=[_]) [_,_] rfl qf (Oi h1 [[102,95]++f.name++[58]] rfl (by simp only[La,oc];omega)) λH2 h2=>?_);refine wa ?_
 refine oL (λkk ls H'=>∃ (i:Nat) (mT:List Wd) (H3:Heap),i<=f.params.length/\kk=i/\ls=[(0,ptr k.tb 0),(5,ptr b5 0),(6,int .i64 ((i:Int)-1)),(13,.list (fs.map pg)),(14,int .i64 ((fs.map pg).length:Int)),(15,int .i64 (pre.length:Int))]/\H'=(b5,.cells 168 [str f.name,.list (f.params.map str),.list (f.locals.map str),.list (f.body.map lc)])::H3/\Qj k f.name mT n' H3/\mT++Rt (cc f.name) (f.params.take i).reverse=Ym++[[102,95]++f.name++[58]]++Rt (cc f.name) f.params.reverse)
  ⟨f.params.length,_,_,⟨f.params.length,_,H2,Jb _,rfl,rfl,rfl,h2,by rw[take_length]⟩,⟨rfl,rfl,by rw[<-Un];rfl,rfl,rfl,rfl,trivial⟩,Kb _⟩ ?_
 rintro kk ls H' ⟨i,mT,H3,hi,rfl,rfl,rfl,h3,PN⟩ j2 wc;refine wa ?_;refine Ma (λhc=>?_) λhc=>?_;have Pq:=zt hc;obtain⟨i,rfl⟩:∃ i',kk=i'+1:=⟨kk-1,by omega⟩;have Ja:i<f.params.length:=by omega
 rw[qwI Ja,qsR] at PN;have QK:=congrArg List.length PN;simp only[Ga,La,oc] at QK;have hpi:=hpm _ (getElem_mem Ja);refine wa ?_;refine la (xR (ke:=str f.params[i]) (cs:=[str f.params[i]]) rfl rfl zo (by rw[show(((i+1:Nat):Int)-1).toNat=i by omega,List.getElem?_map,jh Ja];rfl) rfl rfl) ?_;refine Na ?_;refine oS (S.Hj (H1:=H3) (F:=[_]) [_,_] rfl qf (YM hG hk h3 f.params[i] zo) λH4 h4=>?_);refine ir ?_;refine oS (Ze (H1:=H4) (F:=[_]) [_,_] rfl qf (Oi h4 [(cc f.name).sc f.params[i],[33]] rfl (by simp only[La,oc];omega)) λH5 h5=>?_);refine wa ?_;exact⟨i,_,_,Nat.lt_succ_self _,⟨i,_,H5,by omega,rfl,rfl,rfl,h5,by rw[Sc];exact PN⟩,lb,Kb _,wc⟩;have Ja:=zf hc;obtain rfl:kk=0:=by omega
 rw[List.take_zero,List.reverse_nil,show Rt (cc f.name) []=[] from rfl,de] at PN;have QK:=congrArg List.length PN;simp only[Ga,La,oc] at QK;refine wa ?_;refine oS (Ze (H1:=H3) (F:=[_]) [_,_] rfl qf (mV hG hk hE (Ld f.body) zo f.body mT n' H3 (Jb _) ec Fl h3 zo zo) λH4 h4=>?_);refine Di ?_;refine ir ?_;refine oS (Ze (H1:=H4) (F:=[_]) [_,_] rfl qf (Oi h4 [[48],[59]] rfl (by simp only[Ga,La,oc];omega)) λH5 h5=>?_);refine Zk ?_
 exact⟨l2.length,_,_,Nat.lt_succ_self _,⟨pre++[f],l2,_,_,f.name,by rw[Xb];simp,rfl,rfl,h5,by
  rw[PN];simp only[Sc] at hW ⊢;exact hW,by omega⟩,⟨rfl,rfl,rfl,Kg (by simp),trivial⟩,Tp,wc.trans hj⟩
def Br(r:Int×Int):LV:=.agg [int .i64 r.1,int .i64 r.2]
def dB(o:xk):LV:=.agg [int .i64 o.code,int .i64 o.scalars,int .i64 o.ba]
def YL(p:Nm×Int):LV:=.agg [str p.1,int .i64 p.2]
def Nw(n:Int):Prop := -9223372036854775808<=n/\n<9223372036854775808
def EA(n:Int):Prop := -1000000000000<=n/\n<=1000000000000
theorem qpT{l:List Int}(h:i<l.length):(l.take (i+1)).sum=(l.take i).sum+l[i]:=by rw[take_succ_eq_append_getElem h,List.sum_append];simp
theorem ZM:∀ (l:List Int) (i:Nat),(∀ n∈l,0<n)->0<=(l.take i).sum/\(l.take i).sum<=l.sum
 |[],i,_=>by simp
 |a::l,0,h=>by
  have:=ZM l l.length λn hn=>h n (Pc _ hn);have h1:=h a We;rw[take_length] at this;rw[List.take_zero,List.sum_nil,sum_cons]
  omega
 |a::l,i+1,h=>by have:=ZM l i λn hn=>h n (Pc _ hn);have h1:=h a We;rw[List.take_succ_cons,sum_cons,sum_cons];omega
theorem qu1{l:List (Nm×Int)}(h:i<l.length)(a:Int):ug a (l.take (i+1))=ug a (l.take i)++[(l[i].1,a+((l.map (·.2)).take i).sum)]:=by rw[take_succ_eq_append_getElem h,qqs,<-List.map_take];rfl
theorem qpG(r:Int×Int)(h2:EA r.2):ca (KC B0 w0) 85 [Br r] [] (Qb (bool (jH r))):=by
 obtain⟨a,n⟩:=r;unfold EA at h2;simp only at h2;have hI:jH (a,n)=decide (0<=a/\a<=262144-n):=rfl;unfold Br;refine kb Tryz.func85 rfl (n:=14) rfl rfl rfl ?_;refine qe ?_;refine oS (sB rfl λb1=>?_);refine wa ?_;refine oB 6 rfl (λh=>?_) λh=>?_;have h1:a ≥ 0:=zt h;refine Na ?_
 exact qb rfl (eb rfl) (xe (by
  rw[hI,Bool.eq_iff_iff,decide_eq_true_iff,decide_eq_true_iff];omega))
 have h1:¬ a ≥ 0:=zf h;refine Da ?_;exact qb rfl (eb rfl) (xe (by
  rw[hI]
  symm
  exact decide_eq_false zo))
theorem qri(r s:Int×Int)(h1:EA r.1)(h2:EA r.2)(h3:EA s.1)(h4:EA s.2):ca (KC B0 w0) 86 [Br r,Br s] [] (Qb (bool (DJ r s))):=by
 obtain⟨a,n⟩:=r;obtain⟨b,m⟩:=s;unfold EA at h1 h2 h3 h4;simp only at h1 h2 h3 h4;have hI:DJ (a,n) (b,m)=decide (0<n/\0<m/\a<b+m/\b<a+n):=rfl;unfold Br;refine kb Tryz.func86 rfl (n:=33) rfl rfl rfl ?_;refine qe ?_;refine oS (sB rfl λb1=>oS (sB rfl λb2=>?_));refine wa ?_;refine oB 8 rfl (λg1=>?_) λg1=>?_;rotate_left;have jE:¬ n > 0:=zf g1;refine Da ?_;exact qb rfl (eb rfl) (xe (by rw[hI];symm;exact decide_eq_false zo));have jE:n > 0:=zt g1;refine Na ?_;refine oB 13 rfl (λg2=>?_) λg2=>?_;rotate_left;have bD:¬ m > 0:=zf g2;refine Da ?_;exact qb rfl (eb rfl) (xe (by rw[hI];symm;exact decide_eq_false zo));have bD:m > 0:=zt g2;refine Na ?_;refine oB 23 rfl (λg3=>?_) λg3=>?_;rotate_left;have Y5:¬ a<b+m:=zf g3;refine Da ?_;exact qb rfl (eb rfl) (xe (by rw[hI];symm;exact decide_eq_false zo));have Y5:a<b+m:=zt g3;refine Na ?_
 exact qb rfl (eb rfl) (xe (by
  rw[hI,Bool.eq_iff_iff,decide_eq_true_iff,decide_eq_true_iff];omega))
theorem qoG(vars:List Nm)(ba:List (Nm×Int))(fs:List Pb)(o:xk)(hl:ba.length<=2000000)(hp:∀ a∈ba,0<a.2)(h0:0<=o.ba)(h1:o.ba+(ba.map (·.2)).sum<=262144):ca (KC B0 w0) 47 [sj.vh vars ba fs,dB o] [] (Qb (.tuple [.list ((ug o.ba ba).map YL),int .i64 0])):=by
 have uu:(ba.map sj.rc).length=ba.length:=Db _;have Mx:(ba.map (·.2)).length=ba.length:=Db _;have pn:∀ n∈ba.map (·.2),0<n:=λn hn=>by obtain⟨a,ha,rfl⟩:=Qh hn;exact hp a ha
 unfold sj.vh dB;refine kb Tryz.func47 rfl (n:=50) rfl rfl rfl ?_;refine qe ?_;refine oS (sB rfl λb2=>oS (sB rfl λb3=>?_));refine wa ?_
 refine oL (λkk ls H'=>∃ (i:Nat) (v:LV),i<=ba.length/\kk=ba.length-i/\ls=[(6,v),(7,int .i64 (o.ba+((ba.map (·.2)).take i).sum)),(13,.list (ba.map sj.rc)),(14,int .i64 ba.length),(15,int .i64 (i:Nat))]/\GL.Acc 2 v ((ug o.ba (ba.take i)).map YL) H' [])
  ⟨_,_,_,⟨0,Yb,zero_le _,rfl,rfl,Acc.nil⟩,⟨rfl,Kg (by simp),rfl,Kg zo,rfl,trivial⟩,HSub.nil _⟩ ?_
 rintro kk ls H' ⟨i,v,hi,rfl,rfl,Ra⟩ j hj;have nq:=ZM (ba.map (·.2)) i pn;refine Zg ?_;refine Ma (λhc=>?_) λhc=>?_;have Ja:i<ba.length:=by have:=zt hc;omega
 have hpi:=hp _ (getElem_mem Ja);have Kk:=qpT (l:=ba.map (·.2)) (i:=i) zo;rw[List.getElem_map] at Kk;have bR:=ZM (ba.map (·.2)) (i+1) pn;have na:((ug o.ba (ba.take i)).map YL).length=i:=by rw[Db,zY,length_take];omega
 generalize iI:((ba.map (·.2)).take i).sum=si at nq Kk;have hsy:=qu1 Ja o.ba;rw[iI] at hsy;refine Ti ?_;refine la (xR (ke:=sj.rc ba[i]) (cs:=[_,_]) rfl rfl zo (Ln _ _ _ Ja) rfl rfl)<|Na ?_;refine oS (Jd λb9=>?_);refine wa ?_;refine oB 21 rfl (λh=>?_) λ_=>?_;have:=zt h;omega;refine Na ?_;refine oB 25 rfl (λh=>?_) λ_=>?_;have:=zt h;omega;refine Na ?_;refine oB 30 rfl (λh=>?_) λ_=>?_;have:=zt h;omega;refine Na ?_;refine Ma (λh=>?_) λ_=>?_;have:=zt h;omega;refine Ti ?_;refine Xi ?_;refine Na ?_;refine tj ?_;refine oS (S.Jw rfl Ra rfl (by simp;rfl) rfl (by rw[na];simp;omega) λv' H2 ab=>?_);refine gr ?_;exact⟨_,_,_,by omega,⟨i+1,v',by omega,rfl,rfl,by rw[hsy,Je];exact ab⟩,⟨rfl,Kg (by rw[Kk];omega),rfl,rfl,Kg zo,trivial⟩,Pg ob,hj⟩;have Ff:i=ba.length:=by have:=zf hc;omega
 subst Ff;rw[take_length] at Ra;refine fb.sub (d:=6) (v:=v) rfl Ra.sub ?_;refine cW yd ?_;refine wa ?_;exact qb hj (rC (rT (v:=.list _) rfl Nd) (eb rfl)) rfl
theorem qsl(vars:List Nm)(ba:List (Nm×Int))(fs:List Pb)(o:xk)(dC:vars.length<=2000000)(XK:fs.length<=2000000)(hl:ba.length<=2000000)(fw:∀ f∈fs,bT f)(hn:∀ f∈fs,f.name.length<=1000/\∀ x∈f.params++f.locals,x.length<=1000)
  (hp:∀ a∈ba,0<a.2) (ht:(ba.map (·.2)).sum<=150000) (JK:(Vd vars fs).length<=8000) (o1:Nw o.code) (o2:Nw o.scalars) (o3:Nw o.ba) :
  ca (KC B0 w0) 45 [sj.vh vars ba fs,dB o] [] (Qb (bool (zr vars ba fs o))):=by
 have uu:(ba.map sj.rc).length=ba.length:=Db _;have Mx:(ba.map (·.2)).length=ba.length:=Db _;have pn:∀ n∈ba.map (·.2),0<n:=λn hn=>by obtain⟨a,ha,rfl⟩:=Qh hn;exact hp a ha
 have eR:((Vd vars fs).map str).length=(Vd vars fs).length:=Db _;have hS:=sj.Sh (B0:=B0) (w0:=w0) (vars:=vars) (fs:=fs) (.list (ba.map sj.rc)) dC XK fw hn;rw[qyu];unfold sj.vh dB;refine kb Tryz.func45 rfl (n:=63) rfl rfl rfl ?_;refine qe ?_;refine oS (sB rfl λb2=>oS (sB rfl λb3=>?_));refine wa ?_
 refine oL (λkk ls H'=>∃ (i:Nat),i<=ba.length/\kk=ba.length-i/\ls=[(2,ptr b2 0),(3,ptr b3 0),(5,int .i64 (((ba.map (·.2)).take i).sum)),(14,.list (ba.map sj.rc)),(15,int .i64 ba.length),(16,int .i64 (i:Nat))]/\H'=[(b3,.cells 48 [int .i64 o.code,int .i64 o.scalars,int .i64 o.ba]),(b2,.cells 68 [.list (vars.map str),.list (ba.map sj.rc),.list (fs.map pg)])])
  ⟨_,_,_,⟨0,zero_le _,rfl,rfl,rfl⟩,lb,Kb _⟩ ?_
 rintro kk ls H' ⟨i,hi,rfl,rfl,rfl⟩ j hj;have nq:=ZM (ba.map (·.2)) i pn;refine Zg ?_;refine Ma (λhc=>?_) λhc=>?_;have Ja:i<ba.length:=by have:=zt hc;omega
 have hpi:=hp _ (getElem_mem Ja);have Kk:=qpT (l:=ba.map (·.2)) (i:=i) zo;rw[List.getElem_map] at Kk;have bR:=ZM (ba.map (·.2)) (i+1) pn;generalize iI:((ba.map (·.2)).take i).sum=si at nq Kk;refine Ti ?_;refine la (xR (ke:=sj.rc ba[i]) (cs:=[_,_]) rfl rfl zo (Ln _ _ _ Ja) rfl rfl)<|Na ?_;refine oS (Jd λb7=>?_);refine wa ?_;exact⟨_,_,_,by omega,⟨i+1,by omega,rfl,rfl,rfl⟩,⟨rfl,rfl,Kg (by rw[Kk]),rfl,rfl,Kg zo,trivial⟩,Pg ob,hj⟩;have Ff:i=ba.length:=by have:=zf hc;omega
 subst Ff;rw[<-Mx,take_length] at nq ⊢;generalize (ba.map (·.2)).sum=total at nq ht ⊢;generalize (Vd vars fs).length=ns at JK eR ⊢;refine Da ?_;refine cD (m:=16) rfl [(b3,.cells 48 [int .i64 o.code,int .i64 o.scalars,int .i64 o.ba]),(b2,.cells 68 [.list (vars.map str),.list (ba.map sj.rc),.list (fs.map pg)])]<|aT 0 rfl rfl (pF rfl)<|aT 1 rfl rfl (pL (c:=.atom _) rfl nc rfl)<|aT 2 rfl rfl (pG (Ob:=[_,_,_]) rfl Oh rfl rfl)<|aT 7 rfl rfl (pF rfl)<|aT 8 rfl rfl (pL (c:=.atom _) rfl nc rfl)<|aT 9 rfl rfl (pB _ (cs:=[_,_]) rfl)<|aT 10 rfl rfl (pF rfl)<|aT 11 rfl rfl (pL (c:=.atom _) rfl nc rfl)<|aT 12 rfl rfl (pM (lv:=.atom _) rfl)<|aT 13 rfl rfl (pB _ (cs:=[_,_]) rfl)<|aL ?_ ob;refine lO 3 (lS (H1:=[]) rfl (.inl rfl) rfl mc ob (sF [_] rfl hS ?_));refine lO 4 (lH rfl rfl (Pure.kp rfl) ?_);refine lO 5 (lH rfl rfl (Pure.add rfl rfl zo) ?_);refine lO 6 (lH rfl rfl (pB _ (cs:=[_,_]) rfl) ?_);refine lO 14 (lS (H1:=[]) rfl (.inl rfl) rfl mc ob (sL (es:=[LV.agg [int .i64 o.scalars,int .i64 (3+(((Vd vars fs).map str).length:Int))],.agg [int .i64 o.code,int .i64 40000],.agg [int .i64 o.ba,int .i64 total]]) [_,_,_] rfl (gd rfl rfl (gd rfl rfl (gd rfl rfl Ch))) rfl rfl rfl ?_));refine lO 15 (lH rfl rfl (pA (lv:=.list _) rfl) ?_);refine lD zk ?_;have e3:(3:Int)+(((Vd vars fs).map str).length:Int)=3+(ns:Nat):=by rw[eR]
 rw[e3];generalize aq:[(o.scalars,(3:Int)+(ns:Nat)),(o.code,(40000:Int)),(o.ba,total)]=rs;have Cl:([LV.agg [int .i64 o.scalars,int .i64 (3+(ns:Int))],.agg [int .i64 o.code,int .i64 40000],.agg [int .i64 o.ba,int .i64 total]]:List LV)=rs.map Br:=by rw[<-aq];rfl
 rw[Cl];have hlr:rs.length=3:=by rw[<-aq];rfl
 have ld:∀ r∈rs,EA r.2/\0<=r.2:=by rw[<-aq];intro r hr;simp only[zc,List.not_mem_nil,or_false] at hr;unfold EA;rcases hr with rfl|rfl|rfl <;> simp only <;> omega
 have hrm:(rs.map Br).length=rs.length:=Db _;clear Cl aq;generalize hR:aD [] rs=R;refine qN ?_;refine cW yd ?_;refine xa ?_;refine oL (λkk ls H'=>∃ (i:Nat),i<=rs.length/\kk=rs.length-i/\ls=[(8,.list (rs.map Br)),(40,.list (rs.map Br)),(41,int .i64 rs.length),(42,int .i64 (i:Nat))]/\H'=[]/\aD (rs.take i) (rs.drop i)=R/\∀ r∈rs.take i,jH r=true)
  ⟨_,_,_,⟨0,zero_le _,rfl,rfl,rfl,hR,λr hr=>by cases hr⟩,lb,Kb _⟩ ?_
 rintro kk ls H' ⟨i,hi,rfl,rfl,rfl,fE,KR⟩ j1 pd;refine Zg ?_;refine Ma (λhc=>?_) λhc=>?_;rotate_left;have Ff:i=rs.length:=by have:=zf hc;omega
 subst Ff;rw[List.drop_length,aD] at fE;refine xa ?_;exact qb (pd.trans hj) (eb rfl) (xe fE);have Ja:i<rs.length:=by have:=zt hc;omega
 have iI:=ld _ (getElem_mem Ja);rw[List.drop_eq_getElem_cons Ja,aD,<-take_succ_eq_append_getElem Ja] at fE;generalize hgr:rs[i]=r at fE iI;refine xa ?_;refine la (xR (ke:=Br r) (cs:=[_,_]) rfl rfl zo (by rw[<-hgr];exact Ln _ _ _ Ja) rfl rfl)<|Na ?_;refine oS (Jd λF6=>?_);refine wa ?_;refine oS (sF [_] rfl (qpG r iI.1) ?_);refine Na ?_;refine Ma (λh=>?_) λh=>?_;have h':jH r=false:=by simpa using h
 rw[h',Ui,Ui] at fE;refine xa ?_;exact qb (pd.trans hj) (eb rfl) (xe fE);have h':jH r=true:=by simpa using h
 rw[h',Bool.true_and] at fE;have inb:∀ r:Int×Int,EA r.2/\0<=r.2->jH r=true->EA r.1:=λr h1 h2=>by have:0<=r.1/\r.1<=262144-r.2:=zt h2;unfold EA at h1 ⊢;omega
 have hri:=inb r iI h';have uA:(rs.take i).length=i:=by rw[length_take];omega
 have htm:((rs.take i).map Br).length=i:=by rw[Db,uA]
 have OV:((rs.map Br).take i)=(rs.take i).map Br:=List.map_take.symm;refine xa ?_;refine la (Pure.Fx (i:=0) (j:=(i:Nat)) (es:=rs.map Br) (ms:=(rs.take i).map Br) rfl rfl ⟨_,rfl⟩ zo zo zo (λv hv=>by obtain⟨r,_,rfl⟩:=Qh hv;rfl) (by rw[Int.toNat_natCast,<-OV];rfl))<|Da ?_;refine oL (λkk ls H'=>∃ (x:Nat),x<=i/\kk=i-x/\ls=[(8,.list (rs.map Br)),(10,ptr F6 0),(40,.list (rs.map Br)),(41,int .i64 rs.length),(42,int .i64 (i:Nat)),(52,.list ((rs.take i).map Br)),(53,int .i64 i),(54,int .i64 (x:Nat))]/\H'=[(F6,.cells 177 [int .i64 r.1,int .i64 r.2])]/\((((rs.take i).drop x).all λs=>!DJ r s) && aD (rs.take (i+1)) (rs.drop (i+1)))=R)
  ⟨_,_,_,⟨0,zero_le _,rfl,rfl,rfl,by rw[List.drop_zero];exact fE⟩,lb,Kb _⟩ ?_
 rintro kk ls H' ⟨x,hx,rfl,rfl,rfl,Bg⟩ j2 wc;refine Zg ?_;refine Ma (λhc=>?_) λhc=>?_;have wC:x<(rs.take i).length:=by have:=zt hc;omega
 have tz:=getElem_mem wC;have iG:=ld _ (List.mem_of_mem_take tz);have hsn:=inb _ iG (KR _ tz);rw[List.drop_eq_getElem_cons wC,List.all_cons] at Bg;generalize S4:(rs.take i)[x]=s at Bg iG hsn;refine Ti ?_;refine la (xR (ke:=Br s) (cs:=[_,_]) rfl rfl zo (by rw[<-S4];exact Ln _ _ _ wC) rfl rfl)<|Na ?_;refine oS (Jd λIL=>?_);refine wa ?_;refine oS (sF [_,_] rfl (qri r s hri iI.1 hsn iG.1) ?_);refine dd ?_;refine Ma (λh=>?_) λh=>?_;have h2:DJ r s=true:=h;rw[h2] at Bg;refine xa ?_;exact qb (wc.trans (pd.trans hj)) (eb rfl) (xe (by rw[<-Bg];rfl));have h2:DJ r s=false:=h;rw[h2] at Bg;refine xa ?_;exact⟨_,_,_,by omega,⟨x+1,by omega,rfl,rfl,rfl,Bg⟩,lb,Pg ob,wc⟩;have Rn:x=i:=by have:=zf hc;omega
 subst Rn;rw[List.drop_eq_nil_of_le (by rw[uA];exact Jb _)] at Bg;refine xa ?_;exact⟨_,_,_,by omega,⟨x+1,by omega,rfl,rfl,rfl,Bg,λq hq=>by
  rw[take_succ_eq_append_getElem Ja,hgr] at hq;rcases xj hq with hq|hq;exact KR q hq;rw[Vi hq];exact h'⟩,lb,HSub.nil _,wc.trans pd⟩
def mh(S:Int):Nat->List Nm->KV
 |_,[]=>[]
 |i,x::r=>(x,int .i64 (S+3+(i:Nat)))::mh S (i+1) r
theorem qp0(S:Int):∀ (l m:List Nm) (i:Nat),mh S i (l++m)=mh S i l++mh S (i+l.length) m
 |[],m,i=>by simp[mh]
 |x::r,m,i=>by rw[cons_append,mh,qp0 S r m,mh,cons_append,La,Nat.add_right_comm,Nat.add_assoc]
theorem qn3(S:Int):∀ (l:List Nm) (i:Nat),(mh S i l).map (·.1)=l
 |[],i=>rfl
 |x::r,i=>by rw[mh,jd,qn3 S r]
theorem qsK{S:Int}{l:List Nm}(h:i<l.length)(hn:l.Nodup):GL.Ic (mh S 0 (l.take i)) l[i] (int .i64 (S+3+(i:Nat)))=mh S 0 (l.take (i+1)):=by rw[take_succ_eq_append_getElem h,qp0,length_take,Nat.zero_add,Nat.min_eq_left zo];refine NT ?_;rw[qn3];intro hm;rw[<-List.take_append_drop i l,List.drop_eq_getElem_cons h,List.nodup_append] at hn;exact hn.2.2 _ hm _ We rfl
theorem tY(S:Int)(k:Nm):∀ (l:List Nm) (i:Nat),GL.wb (mh S i l) k=if k∈l then some (int .i64 (S+3+((i+l.idxOf k:Nat):Int))) else none
 |[],i=>rfl
 |x::r,i=>by rw[mh,GL.wb];by_cases h:x=k;rw[zp h,zp (by rw[h];exact List.mem_cons_self ..),List.idxOf_cons,h];simp;rw[zn h,tY S k r (i+1)];by_cases hm:k∈r;rw[zp hm,zp (Pc _ hm),List.idxOf_cons,cond_eq_ite,zn (by simpa using h)];congr 4;omega;rw[zn hm,zn (by rw[zc];exact λg=>g.elim (λe=>h e.symm) hm)]
def ao(l:List (Nm×Int)):KV:=l.map λp=>(p.1,int .i64 p.2)
theorem qsu{l:List (Nm×Int)}(h:i<l.length)(hn:(l.map (·.1)).Nodup):GL.Ic (ao (l.take i)) l[i].1 (int .i64 l[i].2)=ao (l.take (i+1)):=by
 unfold ao;rw[take_succ_eq_append_getElem h,Je];refine NT ?_;rw[map_map];intro hm;have e1:l.map (·.1)=(l.take i).map (·.1)++l[i].1::(l.drop (i+1)).map (·.1):=by
  conv=>lhs;rw[<-List.take_append_drop i l,List.drop_eq_getElem_cons h]
  rw[Je,jd]
 rw[e1,List.nodup_append] at hn;exact hn.2.2 _ hm _ We rfl
theorem qqa(name:Nm):∀ (l:List (Nm×Int)) (a:Int),(GL.wb (ao (ug a l)) name).getD (int .i64 0)=int .i64 (qj a l name)
 |[],a=>rfl
 |(x,n)::r,a=>by rw[ug,qj];show(GL.wb ((x,int .i64 a)::ao (ug (a+n) r)) name).getD (int .i64 0)=_;rw[GL.wb];simp only;by_cases h:x=name;rw[zp h,zp h];rfl;rw[zn h,zn h];exact qqa name r (a+n)
def aM:Except Int Wd->LV
 |.error e=>.tuple [str [],int .i64 e]
 |.ok t=>.tuple [str t,int .i64 0]
theorem QO{P:Pr}{o:xk}(hF:Ow P o)(own:Nm)(ho:own.length<=1000000)(b1 b2 b3 g1 g2:Nat):Ts ⟨b1,b2,b3,mh o.scalars 0 (Vd P.vars P.funcs),ao (ug o.ba (sf P)),g1,g2,o.scalars.toNat⟩ (dq P.vars (sf P) P.funcs o own) own:=by
 have s0:=hF.s0;have s1:=hF.s1;have a0:=hF.a0;have a1:=hF.a1;have hp:∀ p∈sf P,0<=p.2:=λp hp=>by obtain⟨a,_,rfl⟩:=Qh hp;exact Int.natCast_nonneg _
 have Un:∀ k,0<=px (Vd P.vars P.funcs) o.scalars k/\px (Vd P.vars P.funcs) o.scalars k<=262144/\(k∈Vd P.vars P.funcs->int .i64 (o.scalars+3+((0+(Vd P.vars P.funcs).idxOf k:Nat):Int))=int .i64 (((px (Vd P.vars P.funcs) o.scalars k).toNat:Nat):Int)):=λk=>by unfold px;by_cases h:k∈Vd P.vars P.funcs;have:=List.idxOf_lt_length_of_mem h;rw[zp h];exact⟨by omega,by omega,λ_=>Kg zo⟩;rw[zn h];exact⟨by omega,by omega,λh2=>absurd h2 h⟩
 refine⟨λname=>?_,λname=>?_,?_,?_,?_,?_,ho⟩;refine⟨(px (Vd P.vars P.funcs) o.scalars (ju (Vd P.vars P.funcs) own name)).toNat,?_,?_,?_⟩;have:=Un (ju (Vd P.vars P.funcs) own name);omega;exact Jv (Un _).1;show(∃ v,GL.wb (mh o.scalars 0 (Vd P.vars P.funcs)) (own++[46]++name)=some v/\_)∨(GL.wb (mh o.scalars 0 (Vd P.vars P.funcs)) (own++[46]++name)=none/\(GL.wb (mh o.scalars 0 (Vd P.vars P.funcs)) name).getD _=_);rw[tY,tY];unfold ju
 by_cases h:own++[46]++name∈Vd P.vars P.funcs;left;rw[zp h,zp h];exact⟨_,rfl,(Un _).2.2 h⟩;right;rw[zn h,zn h];refine⟨rfl,?_⟩;by_cases h2:name∈Vd P.vars P.funcs;rw[zp h2];exact(Un _).2.2 h2;rw[zn h2];unfold px;rw[zn h2];rfl;have h1:=cQ (sf P) o.ba a0 hp name;have h2:=uM (sf P) o.ba a0 hp name;have h3:((sf P).map (·.2)).sum=((Uj P.ba:Nat):Int):=QP P.ba;rw[h3] at h2;refine⟨(qj o.ba (sf P) name).toNat,by omega,Jv h1,?_⟩;show(GL.wb (ao (ug o.ba (sf P))) name).getD _=_;rw[qqa];exact Kg zo;exact Jv s0;show itoa (o.scalars+1)=_;rw[Jv zo];congr 1;show _=o.scalars.toNat+1;omega;show itoa (o.scalars+2)=_;rw[Jv zo];congr 1;show _=o.scalars.toNat+2;omega;show o.scalars.toNat<=_;omega
theorem XT{s:Nm}(h:cf s=true):s.length<=24:=by unfold cf at h;rw[sd,sd,Gg] at h;exact h.1.1
theorem qzK{P:Pr}(hv:Valid P){f:Pb}(hf:f∈P.funcs)(mw:∀ x∈f.params++f.locals,x.length<=24){kn:List fe}(hk:AJ P.funcs kn):Yq (lg P.vars (P.ba.map (·.name)) (P.funcs.map (·.name)) kn f):=by
 have cm:=Nv _ _ hv.names;refine⟨λs hs=>?_,λk Eo=>?_⟩;unfold Zs at hs;split at hs
 rename_i h;rcases h with h|h;exact XT (cm.2 s (List.mem_append_left _ (List.mem_append_left _ h))).2;exact mw s h;split at hs <;> cases hs;obtain⟨g,g1,g2,_⟩:=hk k Eo;rw[<-g2];exact XT (cm.2 _ (mem_append_right _ (List.mem_map_of_mem g1))).2
theorem qnS:∀ (vars ba later:List Nm) (known:List fe) (fs:List Pb),Ys vars ba later known fs=0->∀ f∈fs,∀ x∈f.params++f.locals,x.length<=24
 |_,_,_,_,[],_,f,hf=>(List.not_mem_nil hf).elim
 |vars,ba,later,known,g::l,h,f,hf=>by rw[Ys] at h;obtain⟨h1,h2⟩:=Rc.1 h;rcases zc.1 hf with rfl|hf;unfold Au at h1;intro x hx;exact XT ((Nv _ _ (Rc.1 h1).1).2 x hx).2;exact qnS vars ba later _ l h2 f hf
theorem qAq{t s a b3 b2:Nat×ma}:[t,b3,s,a,b2].Perm ([t,s,a]++[b3,b2]):=Vs _ ((cr _ _ _).trans (Vs _ (cr _ _ _)))
theorem qnD(hG:GW B0 w0)(hM:sq.GM w0)(vars:List Nm)(ba:List (Nm×Int))(fs:List Pb)(o:xk)(dC:vars.length<=2000000)(ON:ba.length<=2000000)(fL:∀ a∈ba,Nw a.2)(rh:je fs<=2000000)(ec:∀ f∈fs,cj f.body)(o1:Nw o.code)(o2:Nw o.scalars)(o3:Nw o.ba) :
  ca (KC B0 w0) 28 [sj.vh vars ba fs,dB o] [] (Qb (aM (pk vars ba fs o))):=by
 have Om:=sj.Yf (B0:=B0) (w0:=w0) vars ba fs dC ON fL rh;have XK:=wU fs;have fw:∀ f∈fs,bT f:=λf hf=>yX (by have:=HU hf;omega);generalize hC:pk vars ba fs o=R;unfold pk at hC;have wW:sj.vh vars ba fs=.agg [.list (vars.map str),.list (ba.map sj.rc),.list (fs.map pg)]:=rfl;have l6:dB o=.agg [int .i64 o.code,int .i64 o.scalars,int .i64 o.ba]:=rfl;rw[wW,l6];refine kb Tryz.func28 rfl (n:=102) rfl rfl rfl ?_;refine qe ?_;refine oS (sB rfl λb2=>oS (sB rfl λb3=>?_));refine wa ?_;refine oS (S.Tc (H1:=[]) (F:=[_,_]) [_] rfl mc Om ?_ (by rintro ch H' ⟨_,nm,h⟩;cases h));rintro lv H' ⟨rfl,nm,h⟩;cases h;refine wa ?_
 by_cases bL:Jr vars ba fs=0;rotate_left;rw[zp bL] at hC;subst hC;refine Ma (λ_=>?_) λhc=>?_;refine xa ?_;exact qb rfl (rC (Fc rfl) (eb rfl)) rfl;have h2:(!decide (Jr vars ba fs=0))=false:=hc;simp at h2;exact absurd h2 bL;refine Ma (λhc=>?_) λ_=>?_;have h2:(!decide (Jr vars ba fs=0))=true:=hc;simp[bL] at h2;rw[zn (by simpa using bL)] at hC;obtain⟨ht,hp,jS,hPc,hV⟩:=qoN bL
 have mw:∀ f∈fs,∀ x∈f.params++f.locals,x.length<=24:=by have h:=bL;unfold Jr at h;exact qnS _ _ _ _ _ (Rc.1 (Rc.1 (Rc.1 h).2).2).1
 have cm:=Nv _ _ hV.names;have Vc:∀ f∈fs,f.name.length<=24:=λf hf=>XT (cm.2 _ (mem_append_right _ (List.mem_map_of_mem hf))).2;have hn:∀ f∈fs,f.name.length<=1000/\∀ x∈f.params++f.locals,x.length<=1000:=λf hf=>⟨by have:=Vc f hf;omega,λx hx=>by have:=mw f hf x hx;omega⟩;have I3:(Vd vars fs).length<=8000:=hV.Dz;have gW:=qsl (B0:=B0) (w0:=w0) vars ba fs o dC zo ON fw hn hp ht I3 o1 o2 o3;rw[wW,l6] at gW;refine wa ?_;refine oS (sF [_,_] rfl gW ?_);refine Na ?_
 by_cases Be:zr vars ba fs o=true;rotate_left;rw[zp (by simpa using Be)] at hC;subst hC;refine Ma (λ_=>?_) λhc=>?_;refine Gj ?_;exact qb rfl (rC (Fc rfl) (eb rfl)) rfl;have h2:(!zr vars ba fs o)=false:=hc;simp at h2;exact absurd h2 Be;refine Ma (λhc=>?_) λ_=>?_;have h2:(!zr vars ba fs o)=true:=hc;rw[Be] at h2;cases h2;rw[zn (by rw[Be];decide)] at hC;have yI:zr (pi vars ba fs).vars (sf (pi vars ba fs)) (pi vars ba fs).funcs o=true:=by rw[jS];exact Be
 have hF:=JD yI;have hS:=sj.Sh (B0:=B0) (w0:=w0) (vars:=vars) (fs:=fs) (.list (ba.map sj.rc)) dC zo fw hn;have hT:=hF.s1;have hS0:=hF.s0;have rW:=hF.a1;have tW:=hF.a0;have HR:(Vd vars fs).Nodup:=hV.keys;have GK:(ba.map (·.2)).sum=((Uj (pi vars ba fs).ba:Nat):Int):=by have:=QP (pi vars ba fs).ba;rw[<-this];congr 2;exact jS.symm
 have hAs:=qoG (B0:=B0) (w0:=w0) vars ba fs o ON hp tW (by rw[GK];omega);rw[wW,l6] at hAs;have iS:o.scalars.toNat+3+(Vd vars fs).length<=262144:=hT;refine xa ?_;refine oS (S.Al λsm=>oS (S.Al λam=>?_));refine Na ?_;refine oS (sB rfl λtb=>?_);refine wa ?_;refine oS (sF [_] rfl hS ?_);have ou:((Vd vars fs).map str).length=(Vd vars fs).length:=Db _;refine Da ?_;generalize dR:Vd vars fs=sl at *
 refine oL (λkk ls H'=>∃ (i g1:Nat),i<=sl.length/\kk=sl.length-i/\ls=[(2,ptr b2 0),(3,ptr b3 0),(8,ptr tb 0),(39,.list (sl.map str)),(40,int .i64 sl.length),(41,int .i64 (i:Nat))]/\H'=[(tb,.cells 121 [Yb,int .i64 0,int .i64 o.scalars,.atom (.map (some sm)),.atom (.map (some am)),str []]),(b3,.cells 48 [int .i64 o.code,int .i64 o.scalars,int .i64 o.ba]),(sm,.map (Pe (mh o.scalars 0 (sl.take i))) g1),(am,.map (Pe []) 0),(b2,.cells 68 [.list (vars.map str),.list (ba.map sj.rc),.list (fs.map pg)])])
  ⟨_,_,_,⟨0,0,zero_le _,rfl,rfl,rfl⟩,lb,tc pH (tc Fi (tc Od ob))⟩ ?_
 rintro kk ls H' ⟨i,g1,hi,rfl,rfl,rfl⟩ j hj;refine Zg ?_;refine Ma (λhc=>?_) λhc=>?_;have Ja:i<sl.length:=by have:=zt hc;omega
 have fG:=qsK (S:=o.scalars) Ja HR;refine xa ?_;refine la (xR (ke:=str sl[i]) (cs:=[str sl[i]]) rfl rfl zo (Ln _ _ _ Ja) rfl rfl)<|Na ?_;refine cD (m:=11) rfl [(tb,.cells 121 [Yb,int .i64 0,int .i64 o.scalars,.atom (.map (some sm)),.atom (.map (some am)),str []]),(b3,.cells 48 [int .i64 o.code,int .i64 o.scalars,int .i64 o.ba])]<|NL ?_;refine aT 3 rfl rfl (pL (c:=.atom _) rfl nc rfl)<|aT 4 rfl rfl (pM (lv:=.atom _) rfl)<|aT 5 rfl rfl (pF rfl)<|aT 6 rfl rfl (pL (c:=.atom _) rfl Oh rfl)<|aT 7 rfl rfl (Pure.add rfl rfl zo)<|aT 8 rfl rfl (pM (lv:=.atom _) rfl)<|aT 9 rfl rfl (Pure.add rfl rfl zo)<|aL ?_ eH;refine lO 10 (lS (H1:=[(sm,.map (Pe (mh o.scalars 0 (sl.take i))) g1)]) rfl (.inl rfl) rfl (show xd _ _ _ from pT Od) eH (S.mn (k:=sl[i]) (lv:=int .i64 (o.scalars+3+(i:Nat))) rfl rfl rfl pH λjE=>?_));rw[fG];refine lD zk ?_;refine Zk ?_;exact⟨_,_,_,by omega,⟨i+1,jE,by omega,rfl,rfl,rfl⟩,lb,tc Od (tc Od ob),hj⟩;have Ff:i=sl.length:=by have:=zf hc;omega
 subst Ff;rw[take_length];have ZF:=zY ba o.ba;have hyn:((ug o.ba ba).map (·.1)).Nodup:=by
  rw[qlH];have h1:=(Xm (Xm cm.1).1).2.1;have e1:(pi vars ba fs).ba.map (·.name)=ba.map (·.1):=by unfold pi;rw[map_map];rfl
  rw[e1] at h1;exact h1
 have hym:((ug o.ba ba).map YL).length=(ug o.ba ba).length:=Db _;refine wa ?_;refine oS (sF [_,_] rfl hAs ?_);refine wa ?_;generalize hyy:ug o.ba ba=ys at *;refine oC rfl (λh=>by cases h) λ_=>?_;refine xa ?_
 refine oL (λkk ls H'=>∃ (i g2:Nat),i<=ys.length/\kk=ys.length-i/\ls=[(2,ptr b2 0),(3,ptr b3 0),(8,ptr tb 0),(66,.list (ys.map YL)),(67,int .i64 ys.length),(68,int .i64 (i:Nat))]/\H'=[(tb,.cells 121 [Yb,int .i64 0,int .i64 o.scalars,.atom (.map (some sm)),.atom (.map (some am)),str []]),(b3,.cells 48 [int .i64 o.code,int .i64 o.scalars,int .i64 o.ba]),(sm,.map (Pe (mh o.scalars 0 sl)) g1),(am,.map (Pe (ao (ys.take i))) g2),(b2,.cells 68 [.list (vars.map str),.list (ba.map sj.rc),.list (fs.map pg)])])
  ⟨_,_,_,⟨0,0,zero_le _,rfl,rfl,rfl⟩,lb,Kb _⟩ ?_
 rintro kk ls H' ⟨i,g2,hi,rfl,rfl,rfl⟩ j2 wc;refine Zg ?_;refine Ma (λhc=>?_) λhc=>?_;have Ja:i<ys.length:=by have:=zt hc;omega
 have fG:=qsu Ja hyn;refine Ti ?_;refine la (xR (ke:=YL ys[i]) (cs:=[_,_]) rfl rfl zo (Ln _ _ _ Ja) rfl rfl)<|Na ?_;refine oS (Jd λSN=>?_);refine Na ?_;refine cD (m:=9) rfl [(SN,.cells 126 [str ys[i].1,int .i64 ys[i].2]),(tb,.cells 121 [Yb,int .i64 0,int .i64 o.scalars,.atom (.map (some sm)),.atom (.map (some am)),str []])]<|oO ?_;refine aT 6 rfl rfl (pF rfl)<|aT 7 rfl rfl (pL (c:=.atom _) rfl nc rfl)<|aL ?_ eH;refine lO 8 (lS (H1:=[(am,.map (Pe (ao (ys.take i))) g2)]) rfl (.inl rfl) rfl (show xd _ _ _ from pT HA) eH (S.mn (k:=ys[i].1) (lv:=int .i64 ys[i].2) rfl rfl rfl pH λbD=>?_));rw[fG];refine lD zk ?_;refine Zk ?_;exact⟨_,_,_,by omega,⟨i+1,bD,by omega,rfl,rfl,rfl⟩,lb,tc Fi (tc Fi (tc Fi (tc pH (Pg ob)))),wc⟩;have Ff:i=ys.length:=by have:=zf hc;omega
 subst Ff;rw[take_length];have A3:=λown ho=>QO (P:=pi vars ba fs) hF own ho tb sm am g1 g2;rw[jS] at A3;have hW:=lY hPc ec yI rh;have hjt:=IM (Ug (pi vars ba fs) o)
 have hwc:Ug (pi vars ba fs) o=EB vars ba fs o:=by unfold Ug;rw[jS];rfl
 rw[hwc] at hW hjt;have Te:dq (pi vars ba fs).vars ba (pi vars ba fs).funcs o=dq vars ba fs o:=rfl;rw[jS,Te] at hW;have FK:=cU (EB vars ba fs o);have FN:je (pi vars ba fs).funcs=je fs:=rfl;rw[FN] at hW;have hpw:EB vars ba fs o=[[38,102,95,109,97,105,110],[58],decDigits o.scalars.toNat,[33],[36]]++(Oc (dq vars ba fs o) 0 fs).1:=by unfold EB;rw[Jv hS0]
 have Un:(EB vars ba fs o).length=5+(Oc (dq vars ba fs o) 0 fs).1.length:=by rw[hpw,Ga];rfl
 have zz:Qj ⟨tb,sm,am,mh o.scalars 0 sl,ao ys,g1,g2,o.scalars.toNat⟩ [] [] 0 [(tb,.cells 121 [Yb,int .i64 0,int .i64 o.scalars,.atom (.map (some sm)),.atom (.map (some am)),str []]),(sm,.map (Pe (mh o.scalars 0 sl)) g1),(am,.map (Pe (ao ys)) g2)]:=⟨Yb,[],Acc.nil,by
  simp only;rw[Int.toNat_of_nonneg hS0];rfl⟩
 have hpg:=eK (B0:=B0) (w0:=w0) hG (k:=⟨tb,sm,am,mh o.scalars 0 sl,ao ys,g1,g2,o.scalars.toNat⟩) (cc:=dq vars ba fs o) (by show o.scalars.toNat<=_;omega) vars ba fs rh (λf hf=>by
  obtain⟨kn,k1,k2⟩:=hV.Gw f hf;refine⟨?_,Vc f hf,λp hp=>by have:=mw f hf p (List.mem_append_left _ hp);omega,ec f hf,_,qzK hV hf (mw f hf) k2,k1⟩;have:=A3 f.name (by have:=Vc f hf;omega);rw[<-dR,<-hyy];exact this) (own0:=[]) (c0:=dq vars ba fs o []) (by
  have:=A3 [] fa;rw[<-dR,<-hyy];exact this) _ zz zo
 rw[wW] at hpg;refine wa ?_;refine oS (Ze (F:=[_,_]) [_,_] rfl qAq hpg λH2 h2=>?_);obtain⟨own,n,h2⟩:=h2;rw[<-hpw] at h2;generalize EB vars ba fs o=W at *;obtain⟨v,Hv,Ra,rfl⟩:=h2;have j0:=sq.qh (B0:=B0) (w0:=w0) [32] W zo zo;have ik:=sq.wk (B0:=B0) (w0:=w0) hG hM (join W [32]) o.code zo;refine xa ?_;refine la (pL (c:=v) rfl sy rfl)<|Ea.sub 87 rfl Ra.sub ?_;refine oS (sF [_,_] rfl j0 ?_);refine xa ?_
 cases hx:Gh (join W [32]) o.code with
 |error e=>
  rw[hx] at ik hC;simp only at hC;subst hC;refine oS (sF [_,_] rfl ik ?_);unfold sq.Eu;refine wa ?_;have he:¬ (e.2:Int)=0:=by have h3:=hF.c1;have h4:=hF.c0;have:=qvD zo hx;omega
  refine Ma (λ_=>?_) λhc=>?_;refine xa ?_;exact qb (wc.trans hj) (rC (Fc rfl) (eb rfl)) rfl;have h2:(!decide ((e.2:Int)=0))=false:=hc;simp at h2
  omega
 |ok x=>rw[hx] at ik hC;simp only at hC;subst hC;refine oS (sF [_,_] rfl ik ?_);unfold sq.Eu;refine wa ?_;refine oC rfl (λhc=>by cases hc) λ_=>?_;refine xa ?_;exact qb (wc.trans hj) (rC (Fc rfl) (eb rfl)) rfl
end Go.Proofs.YtmnjklgnhpnckaaGreatDoor.VI
namespace Go.Proofs.YtmnjklgnhpnckaaGreatDoor.xi
open Go.GL Go.RowKit Go.ia
theorem Bu(p:Pr):Av p=sj.vh p.vars (p.ba.map λa=>(a.name,(a.size:Int))) p.funcs:=by unfold Av sj.vh;rw[map_map];rfl
attribute [local irreducible] Ea fb Ya ca Go.GL.Pure ve Oe Kd LQ yb nh db LS
variable{B0:Nat}{w0:World}
theorem Ll{p:Pr}{n:Nat}(h:NG p n)(hn:n<=2000000):ca (KC B0 w0) 27 [Av p] [] (λr H=>H=[]/\∃ nm,r=.ret (.tuple [str nm,int .i64 (Vp p)])):=by
 rw[Bu];exact sj.Yf _ _ _ (Qf h.vars hn) (by rw[Db];exact Qf h.ba hn) (λa ha=>by
  obtain⟨x,hx,rfl⟩:=Qh ha;have:=h.size x hx;constructor;show(-9223372036854775808:Int)<=(x.size:Int);omega;show(x.size:Int)<9223372036854775808;omega) (Qf h.funcs hn)
end Go.Proofs.YtmnjklgnhpnckaaGreatDoor.xi
namespace Go.Proofs.YtmnjklgnhpnckaaGreatDoor.xi
open Go.GL Go.RowKit Go.ia
@[reducible] def Same(v:LV)(H:Heap):Ie->Heap->Prop:=λr H'=>r=.ret v/\H'=H
section steps
variable{C:Ctx}{n:Nat}{e:Env}{H:Heap}{dst:Option Nat}{ty:TypeId}{ra:String}{ua:Array Edge}{g:Option (Nat×Bool)}{K:LV->Heap->Prop}{X:List PanicEntry->Heap->Prop}
theorem Wo{rs:List ResultVar}{vs:List LV}{lv:LV}{H0:Heap}(hd:e.ds=[])(h:Dm C n e H rs vs)(hv:Dh vs=lv)(hH:HSub H0 H):Kd C n rs (Same lv H0) .ret e H:=
 rR hd h hH ⟨by rw[hv],rfl⟩
end steps
theorem Ir(n:Int):IntKind.u32.wrap n=n % 4294967296:=by simp only[IntKind.wrap,IntKind.bits,IntKind.signed,Ui];rfl
theorem Zy{a:Int}{b:Nat}(h:a=b):int .u32 a=u32 b:=by rw[h]
section
variable{a b:Nat}
theorem cY(ha:a<4294967296)(hb:b<4294967296):IntKind.u32.wrap ((BitVec.ofInt IntKind.u32.bits a ^^^ BitVec.ofInt IntKind.u32.bits b).toNat:Nat)=((a ^^^ b:Nat):Int):=by
 rw[Ir,BitVec.toNat_xor];have h1:∀ n:Nat,n<4294967296->(BitVec.ofInt IntKind.u32.bits (n:Int)).toNat=n:=λn hn=>by rw[BitVec.ofInt_natCast,BitVec.toNat_ofNat];exact Nat.mod_eq_of_lt hn
 rw[h1 a ha,h1 b hb];have:a ^^^ b<4294967296:=Nat.xor_lt_two_pow (n:=32) ha hb;omega
end
section
variable{C:Ctx}{e:Env}{H:Heap}{dst:Option Nat}{ty:TypeId}{ra:String}{ua:Array Edge}{g:Option (Nat×Bool)}{x:Operand}
end
theorem lU(n:Nat):IntKind.u8.wrap (n:Int)=((UInt8.ofNat n).toNat:Int):=by
 have h:IntKind.u8.wrap (n:Int)=(n:Int) % 256:=by simp only[IntKind.wrap,IntKind.bits,IntKind.signed,Ui];rfl
 rw[h];have h2:(UInt8.ofNat n).toNat=n % 256:=by simp
 rw[h2];omega
theorem iY{s:Nat}{v:LV}{es:List LV}{H F:Heap}(h:GL.Acc s v es H F):v.cells? = some [v]/\([v].all yq)=true:=by cases h <;> exact⟨rfl,rfl⟩
theorem db.DB{C:Ctx}{e:Env}{H:Heap}{dst:Option Nat}{ty:TypeId}{ra:String}{ua:Array Edge}{n:Nat}{Sa:Array Oper}{Q:Jc}{HF:Heap}{Aa:Nat}{Ba:Array Bool}{i j d:Nat}{b:Bool}{op:Op}{lv:LV}(hi:Sa[i]? = some ⟨dst,op,ty,ra,ua,some (j,b)⟩)(hj:(Sa[j]?).bind (·.dst)=some d)(hb:e.s d=.atom (.bool b))(hd:Sl n dst)
  (hp:Go.GL.Pure C ⟨dst,op,ty,ra,ua,some (j,b)⟩ e H lv) (k:nh C n Sa Q HF Aa (Ba.setIfInBounds i true) (e.put dst lv) H):db C n Sa Q HF Aa Ba e H i:=λw0 L0 a w L hL hA ld hE hH=>by
 obtain⟨v,hv,Hd⟩:=hp a.eval w L hE.ev hH;unfold wpOp;rw[hi];simp only;rw[zp (by simp[Region.wanted,LH hE hj hb])];refine .inl ?_;unfold Oper.wp;rw[Hd w (uq.refl _ _ _)];exact⟨hA,k w0 L0 _ w L hL hA ld (hE.put hd hv) hH⟩
end Go.Proofs.YtmnjklgnhpnckaaGreatDoor.xi
namespace Go.Proofs.YtmnjklgnhpnckaaGreatDoor.TN
open Go.GL Go.RowKit Go.ia
open xi (u32)
variable{el:Nat}
def us(l:List Nat):List LV:=l.map u32
theorem iB(l:List Nat):(us l).length=l.length:=Db _
theorem qs8(l:List Nat):∀ v∈us l,v.cells.length=1:=λv hv=>by obtain⟨a,_,rfl⟩:=Qh hv;rfl
theorem KP:∀ l:List Nat,(us l).flatMap LV.cells=us l
 |[]=>rfl
 |a::l=>by show(u32 a::us l).flatMap LV.cells=u32 a::us l;rw[List.flatMap_cons,KP l];rfl
theorem dF(l m:List Nat):us (l++m)=us l++us m:=Je
theorem SX{b m cap:Nat}{l:List Nat}{spare:List LV}(hm:l.length=m)(hc:m<=cap)(hl:m+spare.length=cap):Ae el 1 (.slice (some ⟨b,0,none⟩) m cap) (us l) [(b,.cells el (us l++spare))]:=
 Ae.ph (qs8 l) (KP l) (by rw[iB];exact hm) hc hl
theorem nU{s:Nat}{v:Value}{es:List LV}{H:Heap}(h:Ae el s v es H):(LV.atom v).cells? = some [LV.atom v]/\([LV.atom v].all yq)=true:=by cases h <;> exact⟨rfl,rfl⟩
theorem quj{v:Value}{l:List Nat}{H:Heap}(h:Ae el 1 v (us l) H)(Fb:l≠[]):∃ b cap spare,v=.slice (some ⟨b,0,none⟩) l.length cap/\H=[(b,.cells el (us l++spare))]/\l.length<=cap/\l.length+spare.length=cap:=by obtain⟨b,cap,spare,h1,h2,h3,h4⟩:=h.addr (by intro e;exact Fb (List.map_eq_nil_iff.1 e));rw[iB] at h1 h3 h4;rw[KP] at h2;exact⟨b,cap,spare,h1,h2,h3,by omega⟩
structure MF where
 mb:Nat
 vm:Value
 pc:Nat
 vc:Value
 Ia:List Nat
 vo:LV
 digit:Bool
 st:Nat
 stop:Bool
 bm:Nat
def MF.cells(f:MF)(vd:Value):List LV:=[.atom f.vm,u32 f.pc,.atom vd,.atom f.vc,.list (us f.Ia),f.vo,bool f.digit,int .i64 (f.st:Nat),bool f.stop,.atom (.map (some f.bm))]
def DH(f:MF)(data:List Nat)(H:Heap):Prop:=∃ vd HD,Ae 54 1 vd (us data.reverse) HD/\H=(f.mb,.cells 80 (f.cells vd))::HD
def Zw:List PanicEntry:=[{ v:=.iface 139 (.agg #[]),recovered:=false }]
def UX(f:MF)(data:List Nat):Ie->Heap->Prop:=λr H=>match data with
 |[]=>r=.panic Zw/\DH f [] H
 |v::d=>r=.ret (u32 v)/\DH f d H
def FU(f:MF)(data:List Nat)(v:Nat):Ie->Heap->Prop:=λr H=>if data.length<256 then r=.ret (.tuple [])/\DH f (v::data) H else r=.panic Zw/\DH f data H
def BU(f:MF)(data:List Nat):Ie->Heap->Prop:=λr H=>match data with
 |[]=>r=.panic Zw/\DH f [] H
 |v::d=>if v<262144 then r=.ret (u32 v)/\DH f d H else r=.panic Zw/\DH f d H
attribute [local irreducible] Ea fb Ya ca Go.GL.Pure ve Oe Kd LQ yb nh db LS
variable{B0:Nat}{w0:World}
theorem Yf(b:Bool):ca (KC B0 w0) 59 [bool b] [] (λr H'=>H'=[]/\r=if b=true then .ret (.tuple []) else .panic Zw):=by
 refine kb Tryz.func59 rfl (n:=6) rfl rfl rfl ?_;refine wa ?_;refine Ma (λhc=>?_) λhc=>?_;have hb:b=false:=by simpa using hc
 subst hb;refine wa ?_;refine oS (Ya.panic rfl λe' Ka=>?_);exact Kd.panic (Ka.trans rfl) ob ⟨rfl,rfl⟩;have hb:b=true:=by simpa using hc
 subst hb;refine Da ?_;exact rO rfl rN ob ⟨rfl,rfl⟩
section
variable{B0:Nat}{w0:World}{e:Env}{H:Heap}{dst:Option Nat}{ty:TypeId}{ra:String}{ua:Array Edge}{g:Option (Nat×Bool)}{K:LV->Heap->Prop}{X:List PanicEntry->Heap->Prop}
theorem S.check{b:Bool}{o:Operand}{Rd:Array TypeId}(hx:e.ev o=bool b)(hk:b=true->K (.tuple []) H)(hn:b=false->X Zw H):Ya (KC B0 w0) ⟨dst,.call { callee:=.value (.func 59),args:=#[o],argTypes:=Rd },ty,ra,ua,g⟩ e H K X:=by
 refine S.Tc (H1:=[]) (F:=H) [o] (by simp only[jd,List.map_nil,hx]) mc (Yf b) ?_ ?_;rintro v H' ⟨rfl,h⟩;cases b with
 |true=>cases h;exact hk rfl
 |false=>cases h
 rintro ch H' ⟨rfl,h⟩;cases b with
 |true=>cases h
 |false=>cases h;exact hn rfl
end
section
variable{B0:Nat}{w0:World}{f:MF}{data:List Nat}{H:Heap}
theorem qtD(h:DH f data H)(hf:data.length<=256)(v:Nat):ca (KC B0 w0) 113 [ptr f.mb 0,u32 v] H (FU f data v):=by
 obtain⟨vd,HD,hm,rfl⟩:=h;have hl:(us data.reverse).length=data.length:=by rw[iB,length_reverse]
 unfold FU;refine kb Tryz.func113 rfl (n:=21) rfl rfl rfl ?_;refine xa ?_;refine la (Pure.NB rfl hm)<|Da ?_;refine oS (S.check rfl (λhb=>?_) λhb e' Ka=>?_);have Ja:data.length<256:=by have:=zt hb;omega
 simp only[zp Ja];refine xa ?_;refine tj ?_;refine oS (S.LG (HM:=HD) (F:=[_]) rfl (List.perm_append_singleton _ _).symm hm rfl (by simp;rfl) rfl (by simp;omega) λv' H' ZD=>?_);refine Da ?_;refine oS (sS (n:=1) (vs:=[LV.atom v']) (Ob:=[_,_,_,_,_,_,_,_,_,_]) rfl pH (nU ZD).1 rfl rfl (nU ZD).2 rfl ?_);refine dd ?_
 exact rO rfl rN ob ⟨rfl,v',H',by
  rw[List.reverse_cons,dF];exact ZD,rfl⟩
 have Ja:¬ data.length<256:=by have:=zf hb;omega
 simp only[zn Ja];refine Ei ?_;exact Kd.panic (Ka.trans rfl) ob ⟨rfl,vd,HD,hm,rfl⟩
theorem qp4(h:DH f data H)(hf:data.length<=256):ca (KC B0 w0) 115 [ptr f.mb 0] H (UX f data):=by
 obtain⟨vd,HD,hm,rfl⟩:=h;have hl:(us data.reverse).length=data.length:=by rw[iB,length_reverse]
 unfold UX;refine kb Tryz.func115 rfl (n:=32) rfl rfl rfl ?_;refine xa ?_;refine la (Pure.NB rfl hm)<|wa ?_;cases data with
 |nil=>
  refine oS (S.check rfl (λhb=>?_) λhb e' Ka=>?_);cases hb;refine Ei ?_
  exact Kd.panic (Ka.trans rfl) ob ⟨rfl,vd,HD,hm,rfl⟩
 |cons a r=>
  refine oS (S.check rfl (λhb=>?_) λhb=>?_);rotate_left;have:=zf hb;rw[hl,La] at this;omega;obtain⟨b,cap,spare,rfl,rfl,hc,Ue⟩:=quj hm (by rw[List.reverse_cons];simp);rw[List.reverse_cons,dF,Sc] at *;rw[Ga,length_reverse,List.length_singleton] at hc Ue;have ld:(us r.reverse).length=r.length:=by rw[iB,length_reverse]
  have Mm:(r.reverse++[a]).length=r.length+1:=by simp
  rw[La] at hl hf;refine wa ?_;refine la (Pure.Vf (o:=r.length) rfl rfl zo zo zo)<|la (pL (c:=u32 a) rfl Oh (by rw[List.getElem?_append_right zo,ld,Nat.sub_self];rfl)) ?_;refine wa ?_;refine la (Pure.il (n:=r.length) rfl (by exact Kg zo) zo)<|wa ?_;exact rR rfl (eb rfl) ob ⟨rfl,_,_,SX (l:=r.reverse) (spare:=us [a]++spare) (by rw[length_reverse]) zo (by rw[Ga,iB];simp only[List.length_singleton];omega),rfl⟩
theorem Z0(h:DH f data H)(hf:data.length<=256):ca (KC B0 w0) 114 [ptr f.mb 0] H (BU f data):=by
 have hp:=qp4 (B0:=B0) (w0:=w0) h hf;unfold UX at hp;unfold BU;refine kb Tryz.func114 rfl (n:=10) rfl rfl rfl ?_;refine di ?_;cases data with
 |nil=>refine oS (S.Tc (H1:=H) (F:=[]) [_] rfl (by rw[de]) hp ?_ ?_);rintro v H' ⟨h1,_⟩;cases h1;rintro ch H' ⟨h1,h2⟩ e' Ka;cases h1;refine Ei ?_;exact Kd.panic (Ka.trans rfl) ob ⟨rfl,by rw[de];exact h2⟩
 |cons a r=>
  refine oS (S.Tc (H1:=H) (F:=[]) [_] rfl (by rw[de]) hp ?_ ?_);rotate_left;rintro ch H' ⟨h1,_⟩;cases h1;rintro v H' ⟨h1,h2⟩;cases h1;rw[de];refine xa ?_;refine oS (S.check rfl (λhb=>?_) λhb e' Ka=>?_);have Ja:a<262144:=by have:(a:Int)<262144:=zt hb;omega
  simp only[zp Ja];refine xa ?_;exact rR rfl (eb rfl) ob ⟨rfl,h2⟩;have Ja:¬ a<262144:=by have:¬ (a:Int)<262144:=zf hb;omega
  simp only[zn Ja];refine Ei ?_;exact Kd.panic (Ka.trans rfl) ob ⟨rfl,h2⟩
end
open xi (u32 Same Wo Ir Zy cY)
variable{c:Nat}
def yl(f:Nat->Nat):List LV:=(List.range 262144).map λi=>u32 (f i)
theorem XP(f:Nat->Nat):(yl f).length=262144:=by unfold yl;rw[Db,List.length_range]
theorem LP(f:Nat->Nat){a:Nat}(h:a<262144):(yl f)[a]? = some (u32 (f a)):=by unfold yl;rw[List.getElem?_map,List.getElem?_range h];rfl
theorem qnQ(l:List LV):ed l 0 []=l:=by cases l <;> rfl
theorem qqj:∀ (l:List LV) (a:Nat) (v:LV),ed l a [v]=l.set a v
 |[],a,v=>by cases a <;> rfl
 |x::xs,0,v=>by show v::ed xs 0 []=_;rw[qnQ];rfl
 |x::xs,a+1,v=>by show x::ed xs a [v]=_;rw[qqj xs a v];rfl
theorem AY(f:Nat->Nat)(a v:Nat):ed (yl f) a [u32 v]=yl (λi=>if i=a then v else f i):=by
 rw[qqj];refine List.ext_getElem? λi=>?_;rw[List.getElem?_set,XP]
 by_cases h2:i<262144;rw[LP (λi=>if i=a then v else f i) h2,LP f h2];by_cases h:a=i;subst h;simp[h2];have h3:¬ i=a:=λe=>h e.symm;simp[h,h3];have n1:∀ f,(yl f)[i]? = none:=λf=>List.getElem?_eq_none (by rw[XP];omega);rw[n1 f,n1 (λi=>if i=a then v else f i)]
 by_cases h:a=i;subst h;simp[h2];simp[h]
theorem qnb:List.replicate 262144 (LV.atom (.int .u32 0))=yl (λ_=>0):=by unfold yl;rw[List.map_const',List.length_range];rfl
attribute [irreducible] yl
theorem qyI{s s':MS}(h:Ud c s=.run s')(hc:Hn c=true):s'.data≠[]:=by unfold Ud at h;rw[zp hc] at h;unfold XE at h;split at h;split at h;exact qt;cases h;unfold xo at h;split at h;exact qt;cases h
def LI(k:Int)(f:FuncId)(n:Nat):MapEntry:={ key:=.int .u32 k,val:=.func (.func f) #[] #[],born:=n }
def dP:Array MapEntry:=#[LI 43 55 0,LI 45 56 1,LI 42 57 2,LI 47 58 3,LI 37 60 4,LI 94 61 5,LI 60 62 6]
theorem quB(h:¬ (c=43∨c=45∨c=42∨c=47∨c=37∨c=94∨c=60)):Instr.findNow (.int .u32) (.int .u32 (c:Int)) dP.toList 0=some none:=by
 have key:∀ k:Nat,c≠k->((c:Int) == (k:Int))=false:=λk hk=>by rw[beq_eq_false_iff_ne];omega
 have k1:=key 43 zo;have k2:=key 45 zo;have k3:=key 42 zo;have k4:=key 47 zo;have k5:=key 37 zo;have k6:=key 94 zo;have k7:=key 60 zo;simp only[dP,LI,Instr.findNow,Instr.sameNow,if_true];simp only[Int.cast_ofNat_Int] at k1 k2 k3 k4 k5 k6 k7;simp only[k1,k2,k3,k4,k5,k6,k7]
def rJ(o:Option Nat):Ie:=match o with
 |some v=>.ret (u32 v)
 |none=>.panic Zw
section
variable{B0:Nat}{w0:World}{H:Heap}{a b:Nat}
theorem qhC:ca (KC B0 w0) 31 [] [] (λr H=>∃ om,r=.ret (.atom (.map (some om)))/\H=[(om,.obj (.map dP 7))]):=by refine kb Tryz.func31 rfl (n:=3) rfl rfl rfl ?_;refine Yn ?_;refine oS (S.makeMap λom=>?_);refine zQ3 ?_;refine FW ?_;refine oS (S.Ki (kt:=54) (el:=136) (kd:=.u32) zk zk rfl rfl rfl pH rfl rfl ?_);refine Da ?_;exact rR rfl (eb rfl) ob ⟨om,rfl,rfl⟩
theorem qxz(ha:a<4294967296)(hb:b<4294967296):ca (KC B0 w0) 55 [u32 a,u32 b] H (Same (u32 ((a+b) % 4294967296)) H):=by refine kb Tryz.func55 rfl (n:=8) rfl rfl rfl ?_;refine di ?_;refine la (Pure.Fp rfl rfl)<|dd ?_;exact Wo rfl (eb rfl) (Zy (by rw[Ir];omega)) ob
theorem qxQ(ha:a<4294967296)(hb:b<4294967296):ca (KC B0 w0) 56 [u32 a,u32 b] H (Same (u32 ((a+4294967296-b) % 4294967296)) H):=by refine kb Tryz.func56 rfl (n:=8) rfl rfl rfl ?_;refine di ?_;refine la (Pure.rr rfl rfl)<|dd ?_;exact Wo rfl (eb rfl) (Zy (by rw[Ir];omega)) ob
theorem qyK(ha:a<4294967296)(hb:b<4294967296):ca (KC B0 w0) 57 [u32 a,u32 b] H (Same (u32 (a * b % 4294967296)) H):=by refine kb Tryz.func57 rfl (n:=8) rfl rfl rfl ?_;refine di ?_;refine la (Pure.Tv rfl rfl)<|dd ?_;exact Wo rfl (eb rfl) (Zy (by rw[Ir,<-Int.natCast_mul];generalize a * b=q;omega)) ob
theorem qyD(ha:a<4294967296)(hb:b<4294967296):ca (KC B0 w0) 61 [u32 a,u32 b] H (Same (u32 (a ^^^ b)) H):=by refine kb Tryz.func61 rfl (n:=8) rfl rfl rfl ?_;refine di ?_;refine la (Pure.yy rfl rfl)<|dd ?_;exact Wo rfl (eb rfl) (Zy (cY ha hb)) ob
theorem qyJ:ca (KC B0 w0) 62 [u32 a,u32 b] H (Same (u32 (if a<b then 1 else 0)) H):=by
 refine kb Tryz.func62 rfl (n:=8) rfl rfl rfl ?_;refine xa ?_;refine Ma (λhc=>?_) λhc=>?_;have h1:a<b:=by have:=zt hc;omega
 refine Gj ?_;exact Wo rfl (eb rfl) (by rw[zp h1];rfl) ob;have h1:¬ a<b:=by have:=zf hc;omega
 refine xa ?_;exact Wo rfl (eb rfl) (by rw[zn h1];rfl) ob
theorem qyL(ha:a<4294967296):ca (KC B0 w0) 58 [u32 a,u32 b] H (λr H'=>H'=H/\r=rJ (if b=0 then none else some (a / b))):=by refine kb Tryz.func58 rfl (n:=11) rfl rfl rfl ?_;refine wa ?_;by_cases h0:b=0;refine oS (S.check rfl (λhb=>?_) λhb e' Ka=>?_);simp[h0] at hb;refine Ei ?_;exact Kd.panic (Ka.trans rfl) ob ⟨rfl,by rw[zp h0];rfl⟩;refine oS (S.check rfl (λhb=>?_) λhb e' Ka=>?_);rotate_left;simp[h0] at hb;refine Di ?_;refine la (Pure.WO rfl rfl zo)<|dd ?_;refine rR rfl (eb rfl) ob ⟨rfl,?_⟩;rw[zn h0];exact congrArg Ie.ret (Zy (by rw[Ir,Int.tdiv_eq_ediv_of_nonneg zo,<-Int.natCast_ediv];have hq:a / b<4294967296:=Nat.lt_of_le_of_lt (Nat.div_le_self a b) ha;generalize a / b=q at hq ⊢;omega))
theorem qyy(ha:a<4294967296):ca (KC B0 w0) 60 [u32 a,u32 b] H (λr H'=>H'=H/\r=rJ (if b=0 then none else some (a % b))):=by refine kb Tryz.func60 rfl (n:=11) rfl rfl rfl ?_;refine wa ?_;by_cases h0:b=0;refine oS (S.check rfl (λhb=>?_) λhb e' Ka=>?_);simp[h0] at hb;refine Ei ?_;exact Kd.panic (Ka.trans rfl) ob ⟨rfl,by rw[zp h0];rfl⟩;refine oS (S.check rfl (λhb=>?_) λhb e' Ka=>?_);rotate_left;simp[h0] at hb;refine Di ?_;refine la (Pure.tJ rfl rfl zo)<|dd ?_;refine rR rfl (eb rfl) ob ⟨rfl,?_⟩;rw[zn h0];exact congrArg Ie.ret (Zy (by rw[Int.tmod_eq_emod_of_nonneg zo,<-Int.natCast_emod]))
theorem qnm(hc:c=43∨c=45∨c=42∨c=47∨c=37∨c=94∨c=60)(ha:a<4294967296)(hb:b<4294967296):∃ (j:Nat) (f:FuncId),Instr.findNow (.int .u32) (.int .u32 (c:Int)) dP.toList 0=some (some (j,.func (.func f) #[] #[]))/\Tb Tryz.prog f /\
  ∀ H,ca (KC B0 w0) f [u32 a,u32 b] H (λr H'=>H'=H/\r=rJ (ud c a b)):=by
 rcases hc with rfl|rfl|rfl|rfl|rfl|rfl|rfl;exact⟨0,55,rfl,inferInstance,λH=>ca.mono (qxz ha hb) λr H' ⟨h1,h2⟩=>⟨h2,h1⟩⟩;exact⟨1,56,rfl,inferInstance,λH=>ca.mono (qxQ ha hb) λr H' ⟨h1,h2⟩=>⟨h2,h1⟩⟩;exact⟨2,57,rfl,inferInstance,λH=>ca.mono (qyK ha hb) λr H' ⟨h1,h2⟩=>⟨h2,h1⟩⟩;exact⟨3,58,rfl,inferInstance,λH=>qyL ha⟩;exact⟨4,60,rfl,inferInstance,λH=>qyy ha⟩;exact⟨5,61,rfl,inferInstance,λH=>ca.mono (qyD ha hb) λr H' ⟨h1,h2⟩=>⟨h2,h1⟩⟩;exact⟨6,62,rfl,inferInstance,λH=>ca.mono (qyJ) λr H' ⟨h1,h2⟩=>⟨h2,h1⟩⟩
end
end Go.Proofs.YtmnjklgnhpnckaaGreatDoor.TN
