import Derived.Test.YtjolancjacdeaaaGreatDoorBRowRM8
set_option linter.unusedVariables false
set_option linter.unusedSimpArgs false
set_option maxRecDepth 100000
set_option maxHeartbeats 4000000
open List (mem_append_right cons_append take_succ_eq_append_getElem take_length getElem_mem sum_cons length_take map_map length_reverse)
open Nat (lt_succ_self zero_le)
namespace Go.Proofs.YtjolancjacdeaaaGreatDoor.DE
open Go.GL Go.RowKit Go.Ba
open Go.Lib (decDigits itoa join)
variable{c:CC}{env:wb}{i m:Nat}{op own:Nm}
structure Jm(env:wb):Prop where
 sc:∀ s,wu env s=0->s.length<=24
 fn:∀ k∈env.funcs,k.name.length<=24
theorem Jm.call(h:Jm env){name:Nm}(hc:Df env name m=0):name.length<=24:=by
 unfold Df at hc;split at hc;rename_i e;rw[e];decide;split at hc;rename_i e;rw[e];decide;unfold wb.fn at hc;cases hf:env.funcs.find? λf=>decide (f.name=name) with
 |none=>rw[hf] at hc;simp only at hc;split at hc <;> cases hc
 |some k=>have e:k.name=name:=zt (List.find?_some (p:=λg:De=>decide (g.name=name)) hf);rw[<-e];exact h.fn k (List.mem_of_find?_eq_some hf)
section
variable{C:Ctx}{e:Env}{H:Heap}{dst:Option Nat}{ty:TypeId}{la:String}{ma:Array Edge}{g:Option (Nat×Bool)}{K:LV->Heap->Prop}{X:List PanicEntry->Heap->Prop}
theorem Ja.Ts{f:FuncId} [fb C.P f](args:List Operand){xe:Array TypeId}{Wb:List LV}{P:Heap->Prop}(has:args.map e.ev=Wb)(hc:aa C f Wb H (xt P))(hk:∀ H',P H'->K (.tuple []) H') :
  Ja C ⟨dst,.call { callee:=.value (.func f),args:=args.toArray,argTypes:=xe },ty,la,ma,g⟩ e H K X:=
 Ja.qc (Zd (F:=[]) (K:=λlv H'=>K lv H') (X:=X) args has (by rw[Qb]) hc λH' h=>hk H' h) λlv H' h=>⟨lv,H',vR _,kb _,h⟩
end
attribute [local irreducible] ea Ga Ja aa Go.GL.Pure Bc Tc oc LQ Pa Td Lf LS
variable{B0:Nat}{w0:World}
abbrev fG(b:Nat)(op:Nm)(num:Nat)(name:Nm)(args:List Ex):Nat×da:=(b,.cells 217 [str op,int .u32 (num:Int),str name,.list (args.map Va)])
def lC(B0:Nat)(w0:World)(k:TB)(own:Nm)(c:CC)(env:wb)(m:Nat):Prop:=∀ (x:Ex) (ws:List Wd) (n:Nat) (H:Heap),Hi x<=m->wj x->Og env x=0->Ch k own ws n H->ws.length+(Ke c x).length<=1000000000->aa (KC B0 w0) 156 [ptr k.tb 0,Va x] H (xt (Ch k own (ws++Ke c x) n))
theorem YO{k:TB}(ih:lC B0 w0 k own c env m)(l:List Ex)(ws:List Wd)(n:Nat)(H:Heap)(hm:ob l<=m)(hl:l.length<=2000000)(pg:Jk l)(he:Bi env l=0)(h:Ch k own ws n H)(hr:ws.length+(tg c l).flatten.length<=1000000000) :
  aa (KC B0 w0) 213 [ptr k.tb 0,.list (l.map Va)] H (xt (Ch k own (ws++(tg c l).flatten) n)):=by
 have bc:(l.map Va).length=l.length:=Ua _;refine cJ Tryz.func213 (n:=16) ?_;refine ia ?_;refine oL (λkk ls H'=>∃ (pre l1:List Ex) (Lj:List Wd),l=pre++l1/\kk=l1.length/\ls=[(0,ptr k.tb 0),(6,.list (l.map Va)),(7,int .i64 ((l.map Va).length:Int)),(8,int .i64 (pre.length:Int))]/\Ch k own Lj n H'/\Lj++(tg c l1).flatten=ws++(tg c l).flatten/\Bi env l1=0/\Jk l1)
  ⟨l.length,_,_,⟨[],l,ws,rfl,rfl,rfl,h,rfl,he,pg⟩,Qa,kb _⟩ ?_
 rintro kk ls H' ⟨pre,l1,Lj,xb,rfl,rfl,hT,hW,Ep,Ap⟩ j hj;have Dj:pre.length<=2000000:=by have:=congrArg List.length xb;rw[ua] at this;omega
 refine Nd ?_;refine sa (λhc=>?_) λhc=>?_;have fa:=zt hc;rw[Ua,xb,ua] at fa
 obtain⟨a,l2,rfl⟩:∃ a l2,l1=a::l2:=by
  cases l1 with
  |nil=>simp at fa
  |cons a l2=>exact⟨a,l2,rfl⟩
 have yw:Hi a<=ob l:=ZO (by rw[xb];exact mem_append_right _ rf);rw[Bi] at Ep;rw[Jk] at Ap;rw[tg,List.flatten_cons,<-Xc] at hW;obtain⟨h1,h2⟩:=Xf.1 Ep;have Vj:=congrArg List.length hW;rw[ua,ua,ua] at Vj;refine Af ?_;refine ca (xR (ad:=Va a) (cs:=[_,_,_,_]) rfl rfl zo (by rw[xb];exact Zg.Wc Va pre a l2) rfl rfl)<|za ?_;refine oS (yc λb8=>?_);refine ja ?_;refine oS (Zd (H1:=H') (F:=[_]) [_,_] rfl ke (ih a Lj n H' zo Ap.1 h1 hT zo) λH2 TJ=>?_);refine Mh ?_;exact⟨l2.length,_,_,lt_succ_self _,⟨pre++[a],l2,Lj++Ke c a,by rw[xb];simp,rfl,rfl,TJ,hW,h2,Ap.2⟩,⟨rfl,rfl,rfl,bf (by simp),trivial⟩,Gl,hj⟩;have fa:=zf hc;rw[Ua,xb,ua] at fa
 obtain rfl:l1=[]:=by
  cases l1 with
  |nil=>rfl
  |cons a l2=>simp at fa;omega
 rw[tg,List.flatten_nil,Qb] at hW;refine oa ?_;exact rO hj rN Ma ⟨rfl,by rw[<-hW];exact hT⟩
theorem qmo{k:TB}(ih:lC B0 w0 k own c env m)(b2 b3:Nat)(op:Nm)(num:Nat)(name:Nm)(x y:Ex)(ws:List Wd)(n:Nat)(H:Heap)(hx:Hi x<=m)(hy:Hi y<=m)(nx:wj x)(ny:wj y)(ex:Og env x=0)(ey:Og env y=0)(h:Ch k own ws n H)
  (A B:List Wd) {a b:LV} (ha:GL.elems a=some (A.map str)) (hb:GL.elems b=some (B.map str)) (hr:ws.length+(A++Ke c x++B++Ke c y).length<=1000000000) :
  aa (KC B0 w0) 246 [a,b,ptr b2 0,ptr b3 0] ((b2,.cells 94 [ptr k.tb 0])::fG b3 op num name [x,y]::H)
   (xt λH'=>∃ H2,H'=(b2,.cells 94 [ptr k.tb 0])::fG b3 op num name [x,y]::H2/\Ch k own (ws++(A++Ke c x++B++Ke c y)) n H2):=by
 simp only[ua] at hr;refine cJ Tryz.func246 (n:=24) ?_;refine ia ?_;refine ca (pM (lv:=a) rfl)<|oS (Zd (H1:=H) (F:=[_,_]) [_,_] rfl Ur (Fg h A ha zo) λH2 h2=>?_);refine oa ?_;refine KG ?_;refine Pa.take (i:=3) lA rfl zk zk zk rfl (xR (ad:=Va x) (cs:=[_,_,_,_]) rfl rfl ra rfl rfl rfl)<|aT 4 rfl rfl (pR (Ya:=[_,_,_,_]) rfl rfl rfl)<|aL ?_ lA;refine lO 5 (lS (H1:=H2) (F:=[_,_]) rfl (.inl rfl) rfl Ur Ma (Ja.Ts [_,_] rfl (ih x _ n H2 hx nx ex h2 (by rw[ua];omega)) λH3 h3=>?_));refine Zj ?_;refine cW dX ?_;refine ia ?_;refine ca (pM (lv:=b) rfl)<|oS (Zd (H1:=H3) (F:=[_,_]) [_,_] rfl Ur (Fg h3 B hb (by simp only[ua];omega)) λH4 h4=>?_);refine ig ?_;refine KG ?_;refine Pa.take (i:=3) lA rfl zk zk zk rfl (xR (ad:=Va y) (cs:=[_,_,_,_]) rfl rfl ra rfl rfl rfl)<|aT 4 rfl rfl (pR (Ya:=[_,_,_,_]) rfl rfl rfl)<|aL ?_ lA;refine lO 5 (lS (H1:=H4) (F:=[_,_]) rfl (.inl rfl) rfl Ur Ma (Ja.Ts [_,_] rfl (ih y _ n H4 hy ny ey h4 (by simp only[ua];omega)) λH5 h5=>?_));refine lD zk ?_
 exact rO rfl rN dX ⟨rfl,H5,rfl,by
  simp only[Xc] at h5 ⊢;exact h5⟩
theorem DL(c:CC):tg c []=[]:=by rw[tg]
theorem iI(c:CC)(x:Ex)(l:List Ex):tg c (x::l)=Ke c x::tg c l:=by rw[tg]
theorem C5{env:wb}{name:Nm}{args:List Ex}(h:Xh op = -1∨Xh op=args.length)(ho:Xh op=1):∃ x,args=[x]:=by
 have:args.length=1:=by omega
 exact List.length_eq_one_iff.1 this
theorem p8{args:List Ex}(h:Xh op = -1∨Xh op=args.length)(ho:Xh op=2):∃ x y,args=[x,y]:=by
 have h2:args.length=2:=by omega
 match args,h2 with
 |[x,y],_=>exact⟨x,y,rfl⟩
def Lz(c:CC)(op:Nm):List Wd:=if op=[62] then Ev c else if op=[60,61] then Ev c++[[49],[94]] else if op=[62,61] then [[60],[49],[94]] else if op=[61,61] then [[94],[49],[60]] else [op]
def jt(c:CC)(op:Nm)(X Y:List Wd):List Wd:=
 if op=[33,61] then [[48]]++X++[]++Y++[[94],[60]]
 else if op=[38,38] then [[48]]++X++[[60],[48]]++Y++[[60],[42]]
 else if op=[124,124] then [[48],[48]]++X++[[60],[48]]++Y++[[60],[43],[60]]
 else []++X++[]++Y++Lz c op
theorem F6(c:CC)(num:Nat)(name:Nm)(x y:Ex)(h1:op≠Mq)(h2:op≠pn)(h3:op≠Dy)(h4:op≠Ek)(h5:op≠Nq)(h6:op≠Yo):Ke c (.mk op num name [x,y])=jt c op (Ke c x) (Ke c y):=by rw[Ke,iI,iI,DL];unfold BI jt Lz;rw[zn h1,zn h2,zn h3,zn h4,zn h5,zn h6];simp only[List.headD_cons,List.drop_one,List.tail_cons,List.nil_append,Qb,Xc,cons_append,List.singleton_append]
theorem OQ(hG:GW B0 w0){k:TB}(hk:Wn k c own)(ih:lC B0 w0 k own c env m)(op:Nm)(num:Nat)(name:Nm)(x y:Ex)(ws:List Wd)(n:Nat)(H:Heap)(hx:Hi x<=m)(hy:Hi y<=m)(nx:wj x)(ny:wj y)(ex:Og env x=0)(ey:Og env y=0)(h:Ch k own ws n H)
  (hr:ws.length+(jt c op (Ke c x) (Ke c y)).length<=1000000000) :
  aa (KC B0 w0) 214 [ptr k.tb 0,Va (.mk op num name [x,y])] H (xt (Ch k own (ws++jt c op (Ke c x) (Ke c y)) n)):=by
 rw[Av];generalize hW:jt c op (Ke c x) (Ke c y)=W at hr ⊢;unfold jt at hW;refine cJ Tryz.func214 (n:=64) ?_;refine Pc ?_;refine oS (sB rfl λb2=>oS (sB rfl λb3=>?_));refine ea.db (H':=(b2,.cells 94 [ptr k.tb 0])::fG b3 op num name [x,y]::H) ⟨[],by rw[Qb];exact Km _ _ _⟩ ?_;refine ja ?_;have ZM:=λ(A B:List Wd) {a b:LV} (ha:GL.elems a=some (A.map str)) (hb:GL.elems b=some (B.map str)) hr=>qmo (B0:=B0) (w0:=w0) ih b2 b3 op num name x y ws n H hx hy nx ny ex ey h A B ha hb hr
 by_cases h1:op=[33,61];rw[zp h1] at hW;refine oC rfl (λ_=>?_) λhc=>absurd h1 (zf hc);refine Dc ?_;refine ij ?_;refine oS (S.Un (f:=246) (F:=[]) [_,_] rfl rfl nC (ZM [[48]] [] rfl rfl (by rw[<-hW] at hr;simp only[ua] at hr ⊢;omega)) ?_);rintro H1 ⟨H2,rfl,h2⟩;refine ia ?_;refine Lm ?_;refine oS (Zd (H1:=H2) (F:=[_,_]) [_,_] rfl Ur (Fg h2 [[94],[60]] rfl (by rw[<-hW] at hr;simp only[ua] at hr ⊢;omega)) λH3 h3=>?_);refine oa ?_;exact rR rfl rN mA ⟨rfl,by rw[<-hW];simp only[Xc] at h3 ⊢;exact h3⟩;rw[zn h1] at hW;refine oC rfl (λhc=>absurd (zt hc) h1) λ_=>?_;refine Gj ?_
 by_cases h2:op=[38,38];rw[zp h2] at hW;refine oC rfl (λ_=>?_) λhc=>absurd h2 (zf hc);refine Dc ?_;refine ij ?_;refine Lm ?_;refine oS (S.Un (f:=246) (F:=[]) [_,_] rfl rfl nC (ZM [[48]] [[60],[48]] rfl rfl (by rw[<-hW] at hr;simp only[ua] at hr ⊢;omega)) ?_);rintro H1 ⟨H2,rfl,h2⟩;refine ia ?_;refine Lm ?_;refine oS (Zd (H1:=H2) (F:=[_,_]) [_,_] rfl Ur (Fg h2 [[60],[42]] rfl (by rw[<-hW] at hr;simp only[ua] at hr ⊢;omega)) λH3 h3=>?_);refine oa ?_;exact rR rfl rN mA ⟨rfl,by rw[<-hW];simp only[Xc] at h3 ⊢;exact h3⟩;rw[zn h2] at hW;refine oC rfl (λhc=>absurd (zt hc) h2) λ_=>?_;refine Gj ?_
 by_cases h3:op=[124,124];rw[zp h3] at hW;refine oC rfl (λ_=>?_) λhc=>absurd h3 (zf hc);refine Dc ?_;refine Lm ?_;refine Lm ?_;refine oS (S.Un (f:=246) (F:=[]) [_,_] rfl rfl nC (ZM [[48],[48]] [[60],[48]] rfl rfl (by rw[<-hW] at hr;simp only[ua] at hr ⊢;omega)) ?_);rintro H1 ⟨H2,rfl,h2⟩;refine JB ?_;refine oS (Zd (H1:=H2) (F:=[_,_]) [_,_] rfl Ur (Fg h2 [[60],[43],[60]] rfl (by rw[<-hW] at hr;simp only[ua] at hr ⊢;omega)) λH3 h3=>?_);refine oa ?_;exact rR rfl rN mA ⟨rfl,by rw[<-hW];simp only[Xc] at h3 ⊢;exact h3⟩;rw[zn h3] at hW;refine oC rfl (λhc=>absurd (zt hc) h3) λ_=>?_;refine ia ?_;refine oS (S.Un (f:=246) (F:=[]) [_,_] rfl rfl nC (ZM [] [] rfl rfl (by rw[<-hW] at hr;simp only[ua] at hr ⊢;omega)) ?_);rintro H1 ⟨H2,rfl,h2⟩;generalize hX:ws++([]++Ke c x++[]++Ke c y)=wx at h2;have Hp:wx++Lz c op=ws++W:=by rw[<-hW,<-hX];simp only[Xc]
 have Vj:=congrArg List.length Hp;rw[ua,ua] at Vj;unfold Lz at Hp Vj;refine ja ?_;by_cases g1:op=[62];rw[zp g1] at Hp Vj;refine oC rfl (λ_=>?_) λhc=>absurd g1 (zf hc);refine ia ?_;refine oS (Zd (H1:=H2) (F:=[_,_]) [_] rfl Ur (zZ hG hk h2 zo) λH3 h3=>?_);refine oa ?_;exact rO rfl rN mA ⟨rfl,by rw[<-Hp];exact h3⟩;rw[zn g1] at Hp Vj;refine oC rfl (λhc=>absurd (zt hc) g1) λ_=>?_;refine Gj ?_
 by_cases g2:op=[60,61];rw[zp g2] at Hp Vj;rw[ua] at Vj;refine oC rfl (λ_=>?_) λhc=>absurd g2 (zf hc);refine ia ?_;refine oS (Zd (H1:=H2) (F:=[_,_]) [_] rfl Ur (zZ hG hk h2 zo) λH3 h3=>?_);refine ia ?_;refine Lm ?_;refine oS (Zd (H1:=H3) (F:=[_,_]) [_,_] rfl Ur (Fg h3 [[49],[94]] rfl (by rw[ua];omega)) λH4 h4=>?_);refine oa ?_;exact rO rfl rN mA ⟨rfl,by rw[<-Hp,<-Xc];exact h4⟩;rw[zn g2] at Hp Vj;refine oC rfl (λhc=>absurd (zt hc) g2) λ_=>?_;refine Gj ?_
 by_cases g3:op=[62,61];rw[zp g3] at Hp Vj;refine oC rfl (λ_=>?_) λhc=>absurd g3 (zf hc);refine JB ?_;refine oS (Zd (H1:=H2) (F:=[_,_]) [_,_] rfl Ur (Fg h2 [[60],[49],[94]] rfl zo) λH3 h3=>?_);refine oa ?_;exact rO rfl rN mA ⟨rfl,by rw[<-Hp];exact h3⟩;rw[zn g3] at Hp Vj;refine oC rfl (λhc=>absurd (zt hc) g3) λ_=>?_;refine Gj ?_
 by_cases g4:op=[61,61];rw[zp g4] at Hp Vj;refine oC rfl (λ_=>?_) λhc=>absurd g4 (zf hc);refine JB ?_;refine oS (Zd (H1:=H2) (F:=[_,_]) [_,_] rfl Ur (Fg h2 [[94],[49],[60]] rfl zo) λH3 h3=>?_);refine oa ?_;exact rO rfl rN mA ⟨rfl,by rw[<-Hp];exact h3⟩;rw[zn g4] at Hp Vj;refine oC rfl (λhc=>absurd (zt hc) g4) λ_=>?_;refine ja ?_;refine ij ?_;refine oS (Zd (H1:=H2) (F:=[_,_]) [_,_] rfl Ur (Fg h2 [op] rfl zo) λH3 h3=>?_);refine oa ?_;exact rO rfl rN mA ⟨rfl,by rw[<-Hp];exact h3⟩
theorem PC(hG:GW B0 w0){k:TB}{own:Nm}{c:CC}(hk:Wn k c own){env:wb}(hE:Jm env):∀ m:Nat,m<=2000000->lC B0 w0 k own c env m
 |0,_=>λx ws n H h=>by have:=bL x;omega
 |m+1,hm6=>by
  have ih:=PC hG hk hE m zo;intro x ws n H Vg pg Wl h hr;obtain⟨op,num,name,args⟩:=x;rw[Hi] at Vg;rw[wj] at pg;obtain⟨pg,ux⟩:=pg;have zw:=jF args;have bc:(args.map Va).length=args.length:=Ua _;rw[Og] at Wl;by_cases Zf:Xh op = -1∨Xh op=args.length;rotate_left;rw[zn Zf] at Wl;cases Wl;rw[zp Zf] at Wl;obtain⟨Ep,UM⟩:=Xf.1 Wl;have hW:Ke c (Ex.mk op num name args)=BI c op num name (tg c args):=by rw[Ke]
  have vz:Xh op=1->∃ x,args=[x]:=λh1=>C5 (env:=env) (name:=name) Zf h1;rw[Av];refine cJ Tryz.func156 (n:=98) ?_;refine Pc ?_;refine oS (sB rfl λb3=>?_);refine ia ?_
  by_cases h1:op=[110,117,109];have Aw:Ke c (Ex.mk op num name args)=[decDigits num]:=by rw[hW];subst h1;rfl
  rw[Aw] at hr ⊢;refine oC rfl (λ_=>?_) λhc=>absurd h1 (zf hc);refine ja ?_;refine oS (sF [_,_] (by show [int .u64 (IntKind.u64.wrap (num:Int)),_]=[int .u64 (num:Nat),int .i64 10];rw[P' pg];rfl) (yd hG num (by have:num<4294967296:=pg;omega)) ?_);refine ij ?_;refine oS (Zd (H1:=H) (F:=[_]) [_,_] rfl ke (Fg h [decDigits num] rfl hr) λH2 h2=>?_);refine oa ?_;exact rO rfl rN Gl ⟨rfl,h2⟩;refine oC rfl (λhc=>absurd (zt hc) h1) λ_=>?_;refine Gj ?_
  by_cases h2:op=[118,97,114];have Aw:Ke c (Ex.mk op num name args)=[c.sc name,[64]]:=by rw[hW];subst h2;rfl
  have ZI:wu env name=0:=by rw[<-UM];subst h2;rfl
  have ir:=hE.sc name ZI;rw[Aw] at hr ⊢;refine oC rfl (λ_=>?_) λhc=>absurd h2 (zf hc);refine ia ?_;refine oS (S.uh (H1:=H) (F:=[_]) [_,_] rfl ke (EF hG hk h name zo) λH2 h2=>?_);refine Lm ?_;refine oS (Zd (H1:=H2) (F:=[_]) [_,_] rfl ke (Fg h2 [c.sc name,[64]] rfl hr) λH3 h3=>?_);refine oa ?_;exact rO rfl rN Gl ⟨rfl,h3⟩;refine oC rfl (λhc=>absurd (zt hc) h2) λ_=>?_;refine Gj ?_
  by_cases h3:op=[101,108,101,109];obtain⟨x,rfl⟩:=vz (by subst h3;rfl);have Aw:Ke c (Ex.mk op num name [x])=[c.ar name]++(Ke c x++[[43],[64]]):=by rw[hW,iI,DL];subst h3;rfl
  rw[Aw] at hr ⊢;simp only[ua,Oa,Eb] at hr;rw[Bi] at Ep;rw[Jk] at ux;rw[ob] at Vg;have hex:=(Xf.1 Ep).1;obtain⟨a,Mu,Gm,tr⟩:=hk.ar name;refine oC rfl (λ_=>?_) λhc=>absurd h3 (zf hc);refine oa ?_;have h0:=h;obtain⟨v,Hv,Ta,rfl⟩:=h;refine cD (m:=11) rfl [fG b3 op num name [x]]<|Sz ?_;refine dy ?_;refine aL ?_ dc;refine lO 4 (lH rfl rfl (pL (c:=.atom _) rfl Ff rfl) ?_);refine lO 7 (lH rfl rfl (Pure.vD rfl rfl Ru tr) ?_);refine lO 8 (lS (H1:=[]) rfl (.inl rfl) rfl qb dc (sF [_] rfl (Iv hG a zo) ?_));rw[<-Gm];refine lO 9 (lS (H1:=[]) rfl (.inl rfl) rfl qb dc (sL [_] rfl (Lq [_]) rfl rfl rfl ?_));refine lO 10 (lS (F:=[fG b3 op num name [x]]) rfl (.inl rfl) rfl ke Ma (Ja.Ts [_,_] rfl (Fg h0 [c.ar name] rfl (by simp only[Oa,Eb];omega)) λH2 h2=>?_));refine Zj ?_;refine cW qX ?_;refine sq ?_;refine oS (Zd (H1:=H2) (F:=[_]) [_,_] rfl ke (ih x _ n H2 zo ux.1 hex h2 (by simp only[ua,Oa,Eb];omega)) λH3 h3=>?_);refine qg ?_;refine Lm ?_;refine oS (Zd (H1:=H3) (F:=[_]) [_,_] rfl ke (Fg h3 [[43],[64]] rfl (by simp only[ua,Oa,Eb];omega)) λH4 h4=>?_);refine oa ?_;exact rO rfl rN Gl ⟨rfl,by rw[Xc,Xc] at h4;exact h4⟩;refine oC rfl (λhc=>absurd (zt hc) h3) λ_=>?_;refine Gj ?_
  by_cases h4:op=[99,97,108,108];have Qf:Df env name args.length=0:=by rw[<-UM];subst h4;rfl
  have ir:=hE.call Qf;have Aw:Ke c (Ex.mk op num name args)=(tg c args).flatten++(if name=[105,110] then [[44]] else if name=[111,117,116] then [[46],[48]] else [[38,102,95]++name,[58]]):=by rw[hW];subst h4;rfl
  rw[Aw] at hr ⊢;rw[ua] at hr;refine oC rfl (λ_=>?_) λhc=>absurd h4 (zf hc);refine ja ?_;refine oS (Zd (H1:=H) (F:=[_]) [_,_] rfl ke (YO ih args ws n H zo zo ux Ep h zo) λH2 h2=>?_);rw[<-Xc];generalize hX:ws++(tg c args).flatten=wx at h2 ⊢;have tB:=congrArg List.length hX;rw[ua] at tB;refine ia ?_
  by_cases g1:name=[105,110];rw[zp g1] at hr ⊢;refine oC rfl (λ_=>?_) λhc=>absurd g1 (zf hc);refine Dc ?_;refine ij ?_;refine oS (Zd (H1:=H2) (F:=[_]) [_,_] rfl ke (Fg h2 [[44]] rfl zo) λH3 h3=>?_);refine oa ?_;exact rO rfl rN Gl ⟨rfl,h3⟩;rw[zn g1] at hr ⊢;refine oC rfl (λhc=>absurd (zt hc) g1) λ_=>?_;refine Gj ?_
  by_cases g2:name=[111,117,116];rw[zp g2] at hr ⊢;refine oC rfl (λ_=>?_) λhc=>absurd g2 (zf hc);refine Dc ?_;refine Lm ?_;refine oS (Zd (H1:=H2) (F:=[_]) [_,_] rfl ke (Fg h2 [[46],[48]] rfl zo) λH3 h3=>?_);refine oa ?_;exact rO rfl rN Gl ⟨rfl,h3⟩;rw[zn g2] at hr ⊢;refine oC rfl (λhc=>absurd (zt hc) g2) λ_=>?_;refine ja ?_;refine Lm ?_;refine oS (Zd (H1:=H2) (F:=[_]) [_,_] rfl ke (Fg h2 [[38,102,95]++name,[58]] rfl zo) λH3 h3=>?_);refine oa ?_;exact rO rfl rN Gl ⟨rfl,h3⟩;refine oC rfl (λhc=>absurd (zt hc) h4) λ_=>?_;refine Gj ?_
  by_cases h5:op=[110,101,103];obtain⟨x,rfl⟩:=vz (by subst h5;rfl);have Aw:Ke c (Ex.mk op num name [x])=[[48]]++(Ke c x++[[45]]):=by rw[hW,iI,DL];subst h5;rfl
  rw[Aw] at hr ⊢;simp only[ua,Oa,Eb] at hr;rw[Bi] at Ep;rw[Jk] at ux;rw[ob] at Vg;have hex:=(Xf.1 Ep).1;refine oC rfl (λ_=>?_) λhc=>absurd h5 (zf hc);refine Dc ?_;refine ij ?_;refine oS (Zd (H1:=H) (F:=[_]) [_,_] rfl ke (Fg h [[48]] rfl (by simp only[Oa,Eb];omega)) λH2 h2=>?_);refine sq ?_;refine oS (Zd (H1:=H2) (F:=[_]) [_,_] rfl ke (ih x _ n H2 zo ux.1 hex h2 (by simp only[ua,Oa,Eb];omega)) λH3 h3=>?_);refine qg ?_;refine ij ?_;refine oS (Zd (H1:=H3) (F:=[_]) [_,_] rfl ke (Fg h3 [[45]] rfl (by simp only[ua,Oa,Eb];omega)) λH4 h4=>?_);refine oa ?_;exact rO rfl rN Gl ⟨rfl,by rw[Xc,Xc] at h4;exact h4⟩;refine oC rfl (λhc=>absurd (zt hc) h5) λ_=>?_;refine Gj ?_
  by_cases h6:op=[110,111,116];obtain⟨x,rfl⟩:=vz (by subst h6;rfl);have Aw:Ke c (Ex.mk op num name [x])=Ke c x++[[49],[60]]:=by rw[hW,iI,DL];subst h6;rfl
  rw[Aw] at hr ⊢;simp only[ua,Oa,Eb] at hr;rw[Bi] at Ep;rw[Jk] at ux;rw[ob] at Vg;have hex:=(Xf.1 Ep).1;refine oC rfl (λ_=>?_) λhc=>absurd h6 (zf hc);refine sq ?_;refine oS (Zd (H1:=H) (F:=[_]) [_,_] rfl ke (ih x _ n H zo ux.1 hex h zo) λH3 h3=>?_);refine qg ?_;refine Lm ?_;refine oS (Zd (H1:=H3) (F:=[_]) [_,_] rfl ke (Fg h3 [[49],[60]] rfl (by simp only[ua,Oa,Eb];omega)) λH4 h4=>?_);refine oa ?_;exact rO rfl rN Gl ⟨rfl,by rw[Xc] at h4;exact h4⟩;refine oC rfl (λhc=>absurd (zt hc) h6) λ_=>?_
  have RR:Xh op=2:=by
   unfold Xh at Zf ⊢;rw[zn λh=>h.elim h1 h2,zn λh=>h.elim h3 λh=>h.elim h5 h6,zn (show ¬ op=Ek from h4)] at Zf ⊢;split;rfl
   rename_i hb;rw[zn hb] at Zf;omega
  obtain⟨x,y,rfl⟩:=p8 Zf RR;have Hp:=F6 c num name x y h1 h2 h3 h4 h5 h6;rw[Hp] at hr ⊢;simp only[Bi] at Ep;simp only[Jk] at ux;simp only[ob] at Vg;have hex:=Xf.1 Ep;refine ja ?_;refine oS (Zd (H1:=H) (F:=[_]) [_,_] rfl ke (OQ hG hk ih op num name x y ws n H zo zo ux.1 ux.2.1 hex.1 (Xf.1 hex.2).1 h hr) λH3 h3=>?_);refine oa ?_;exact rO rfl rN Gl ⟨rfl,h3⟩
mutual
theorem FV(c:CC):∀ (s:Sm) (n:Nat),(Qg c n s).2<=n+2 * Kl s
 |.mk kind name index value lb Db,n=>by
  have ht:=λn=>RH c lb n;have he:=λn=>RH c Db n;rw[Kl];unfold Qg
  by_cases k1:kind=1;rw[zp k1];simp only;omega;rw[zn k1];by_cases k2:kind=2;rw[zp k2];simp only;omega;rw[zn k2];by_cases k3:kind=3;rw[zp k3];cases Db with
  |nil=>have:=ht (n+1);simp only;omega
  |cons a r=>have h1:=ht (n+2);have h2:=he (jc c (n+2) lb).2;simp only;omega
  rw[zn k3];by_cases k4:kind=4;have h1:=ht (n+2);rw[zp k4];simp only;omega;rw[zn k4];by_cases k5:kind=5;rw[zp k5];simp only;omega;rw[zn k5];by_cases k6:kind=6;rw[zp k6];simp only;omega;rw[zn k6];by_cases k7:kind=7;rw[zp k7];simp only;omega;rw[zn k7];simp only;omega
theorem RH(c:CC):∀ (l:List Sm) (n:Nat),(jc c n l).2<=n+2 * Nc l
 |[],n=>by rw[jc,Nc];simp
 |s::l,n=>by have h1:=FV c s n;have h2:=RH c l (Qg c n s).2;rw[jc,Nc];simp only;omega
end
theorem M9(c:CC)(n:Nat)(s:Sm)(l:List Sm):jc c n (s::l)=((Qg c n s).1++(jc c (Qg c n s).2 l).1,(jc c (Qg c n s).2 l).2):=by rw[jc]
theorem XO(c:CC)(n:Nat):jc c n []=([],n):=by rw[jc]
theorem cQ(x:Ex):([x]:List Ex).headD default=x:=rfl
theorem jX:∀ {l:List Sm} {x:Sm},x∈l->Kl x<=Nc l
 |g::l,f,h=>by rw[Nc];rcases Mc.1 h with rfl|h;omega;have:=jX h;omega
abbrev tU(b:Nat)(kind:Int)(name:Nm)(index value:List Ex)(lb Db:List Sm):Nat×da:=(b,.cells 214 [int .i64 kind,str name,.list (index.map Va),.list (value.map Va),.list (lb.map Hb),.list (Db.map Hb)])
def jO(B0:Nat)(w0:World)(k:TB)(own:Nm)(c:CC)(env:wb)(m:Nat):Prop:=∀ (l:List Sm) (ws:List Wd) (n:Nat) (H:Heap),Nc l<=m->qm l->pj env l=0->Ch k own ws n H->ws.length+(jc c n l).1.length<=1000000000->n+2 * Nc l<=1000000000->aa (KC B0 w0) 83 [ptr k.tb 0,.list (l.map Hb)] H (xt (Ch k own (ws++(jc c n l).1) (jc c n l).2))
theorem qnO(hG:GW B0 w0){k:TB}(hX:lC B0 w0 k own c env 2000000)(ih:jO B0 w0 k own c env m)(name:Nm)(index:List Ex)(v:Ex)(lb Db:List Sm)(ws:List Wd)(n:Nat)(H:Heap)(hv:Hi v<=2000000)(hm:Nc lb+Nc Db<=m)(h2m:Db.length<=2000000)
  (nv:wj v) (nt:qm lb) (ne:qm Db) (ev:Og env v=0) (et:pj env lb=0) (ee:pj env Db=0) (h:Ch k own ws n H) (hr:ws.length+(Qg c n (.mk 3 name index [v] lb Db)).1.length<=1000000000) (hN:n+2+2 * (Nc lb+Nc Db)<=1000000000) :
  aa (KC B0 w0) 157 [ptr k.tb 0,Hb (.mk 3 name index [v] lb Db)] H (xt (Ch k own (ws++(Qg c n (.mk 3 name index [v] lb Db)).1) (Qg c n (.mk 3 name index [v] lb Db)).2)):=by
 have wa:=RH c lb (n+2);have RD:∀ i:Nat,i<=1000000001->(gd i).length<=11:=λi hi=>LH zo;have hle:(Db.map Hb).length=Db.length:=Ua _;rw[Iq];refine cJ Tryz.func157 (n:=65) ?_;refine Pc ?_;refine oS (sB rfl λb3=>?_);refine qg ?_;refine oS (S.uh (H1:=H) (F:=[_]) [_] rfl ke (WL hG h zo) λH1 h1=>?_);have Ju:=RD n zo;refine ja ?_
 cases Db with
 |nil=>
  have hS:Qg c n (.mk 3 name index [v] lb [])=(Ke c v++([38::gd n,[63]]++((jc c (n+1) lb).1++[gd n++[58]])),(jc c (n+1) lb).2):=by unfold Qg;rw[zn ra,zn ra,zp rfl];simp only[cQ,Xc]
  rw[hS] at hr ⊢;simp only[ua,Oa,Eb] at hr;refine oC rfl (λ_=>?_) (λhc=>by cases hc);refine PB ?_;refine oS (Zd (H1:=H1) (F:=[_]) [_,_] rfl ke (hX v ws (n+1) H1 hv nv ev h1 zo) λH2 h2=>?_);refine ja ?_;refine Lm ?_;refine oS (Zd (H1:=H2) (F:=[_]) [_,_] rfl ke (Fg h2 [38::gd n,[63]] rfl (by simp only[ua,Oa,Eb];omega)) λH3 h3=>?_);refine ja ?_;refine oS (Zd (H1:=H3) (F:=[_]) [_,_] rfl ke (ih lb _ (n+1) H3 zo nt et h3 (by simp only[ua,Oa,Eb];omega) zo) λH4 h4=>?_);refine ja ?_;refine ij ?_;refine oS (Zd (H1:=H4) (F:=[_]) [_,_] rfl ke (Fg h4 [gd n++[58]] rfl (by simp only[ua,Oa,Eb];omega)) λH5 h5=>?_);refine oa ?_
  exact rR rfl rN Gl ⟨rfl,by simp only[Xc] at h5 ⊢;exact h5⟩
 |cons s0 r0=>
  have hS:Qg c n (.mk 3 name index [v] lb (s0::r0))=(Ke c v++([38::gd n,[63]]++((jc c (n+2) lb).1++([[48],38::gd (n+1),[63],gd n++[58]]++((jc c (jc c (n+2) lb).2 (s0::r0)).1++[gd (n+1)++[58]])))),(jc c (jc c (n+2) lb).2 (s0::r0)).2):=by unfold Qg;rw[zn ra,zn ra,zp rfl];simp only[cQ,Xc]
  rw[hS] at hr ⊢;simp only[ua,Oa,Eb] at hr;have Vt:=RD (n+1) zo;generalize YS:s0::r0=Db at *;have eb:¬ ((Db.map Hb).length:Int)=0:=by rw[<-YS];simp only[Ua,Oa];omega
  refine oC rfl (λhc=>absurd (zt hc) eb) λ_=>?_;refine ia ?_;refine oS (S.uh (H1:=H1) (F:=[_]) [_] rfl ke (WL hG h1 zo) λH1 h1=>?_);refine PB ?_;refine oS (Zd (H1:=H1) (F:=[_]) [_,_] rfl ke (hX v ws (n+1+1) H1 hv nv ev h1 zo) λH2 h2=>?_);refine ja ?_;refine Lm ?_;refine oS (Zd (H1:=H2) (F:=[_]) [_,_] rfl ke (Fg h2 [38::gd n,[63]] rfl (by simp only[ua,Oa,Eb];omega)) λH3 h3=>?_);refine ja ?_;refine oS (Zd (H1:=H3) (F:=[_]) [_,_] rfl ke (ih lb _ (n+2) H3 zo nt et h3 (by simp only[ua,Oa,Eb];omega) zo) λH4 h4=>?_);refine ja ?_;refine oS (sL [_,_,_,_] rfl (Lq [_,_,_,_]) rfl rfl rfl<|oS (Zd (H1:=H4) (F:=[_]) [_,_] rfl ke (Fg h4 [[48],38::gd (n+1),[63],gd n++[58]] rfl (by simp only[ua,Oa,Eb];omega)) λH5 h5=>?_));refine ja ?_;refine oS (Zd (H1:=H5) (F:=[_]) [_,_] rfl ke (ih Db _ _ H5 zo ne ee h5 (by simp only[ua,Oa,Eb];omega) zo) λH6 h6=>?_);refine ja ?_;refine ij ?_;refine oS (Zd (H1:=H6) (F:=[_]) [_,_] rfl ke (Fg h6 [gd (n+1)++[58]] rfl (by simp only[ua,Oa,Eb];omega)) λH7 h7=>?_);refine ig ?_;exact rO rfl rN Gl ⟨rfl,by simp only[Xc] at h7 ⊢;exact h7⟩
theorem N9(hG:GW B0 w0){k:TB}(hX:lC B0 w0 k own c env 2000000)(ih:jO B0 w0 k own c env m)(name:Nm)(index:List Ex)(v:Ex)(lb Db:List Sm)(ws:List Wd)(n:Nat)(H:Heap)(hv:Hi v<=2000000)(hm:Nc lb<=m)
  (nv:wj v) (nt:qm lb) (ev:Og env v=0) (et:pj env lb=0) (h:Ch k own ws n H) (hr:ws.length+(Qg c n (.mk 4 name index [v] lb Db)).1.length<=1000000000) (hN:n+2+2 * Nc lb<=1000000000) :
  aa (KC B0 w0) 158 [ptr k.tb 0,Hb (.mk 4 name index [v] lb Db)] H (xt (Ch k own (ws++(Qg c n (.mk 4 name index [v] lb Db)).1) (Qg c n (.mk 4 name index [v] lb Db)).2)):=by
 have Ju:(gd n).length<=11:=LH zo;have Vt:(gd (n+1)).length<=11:=LH zo;have hS:Qg c n (.mk 4 name index [v] lb Db)=([gd n++[58]]++(Ke c v++([38::gd (n+1),[63]]++((jc c (n+2) lb).1++[[48],38::gd n,[63],gd (n+1)++[58]]))),(jc c (n+2) lb).2):=by unfold Qg;rw[zn ra,zn ra,zn ra,zp rfl];simp only[cQ,Xc]
 rw[hS] at hr ⊢;simp only[ua,Oa,Eb] at hr;rw[Iq];refine cJ Tryz.func158 (n:=37) ?_;refine Pc ?_;refine oS (sB rfl λb3=>?_);refine qg ?_;refine oS (S.uh (H1:=H) (F:=[_]) [_] rfl ke (WL hG h zo) λH1 h1=>?_);refine Dg ?_;refine oS (S.uh (H1:=H1) (F:=[_]) [_] rfl ke (WL hG h1 zo) λH1 h1=>?_);refine ja ?_;refine ij ?_;refine oS (Zd (H1:=H1) (F:=[_]) [_,_] rfl ke (Fg h1 [gd n++[58]] rfl (by simp only[ua,Oa,Eb];omega)) λH2 h2=>?_);refine PB ?_;refine oS (Zd (H1:=H2) (F:=[_]) [_,_] rfl ke (hX v _ (n+1+1) H2 hv nv ev h2 (by simp only[ua,Oa,Eb];omega)) λH3 h3=>?_);refine ja ?_;refine Lm ?_;refine oS (Zd (H1:=H3) (F:=[_]) [_,_] rfl ke (Fg h3 [38::gd (n+1),[63]] rfl (by simp only[ua,Oa,Eb];omega)) λH4 h4=>?_);refine ja ?_;refine oS (Zd (H1:=H4) (F:=[_]) [_,_] rfl ke (ih lb _ (n+2) H4 zo nt et h4 (by simp only[ua,Oa,Eb];omega) zo) λH5 h5=>?_);refine ja ?_;refine oS (sL [_,_,_,_] rfl (Lq [_,_,_,_]) rfl rfl rfl<|oS (Zd (H1:=H5) (F:=[_]) [_,_] rfl ke (Fg h5 [[48],38::gd n,[63],gd (n+1)++[58]] rfl (by simp only[ua,Oa,Eb];omega)) λH6 h6=>?_));refine ig ?_;exact rO rfl rN Gl ⟨rfl,by simp only[Xc] at h6 ⊢;exact h6⟩
theorem qqY{name:List UInt8}{index value:List Ex}{lb Db:List Sm}(h:Kg (.mk 2 name index value lb Db)=true):∃ x,index=[x]:=by
 have h1:index.length=1:=by
  simp only[Kg] at h;repeat' (split at h)
  all_goals first
   |(simp only[sf] at h;omega)
   |cases h
   |contradiction
 exact List.length_eq_one_iff.1 h1
theorem I9{kind:Int}{name:List UInt8}{index value:List Ex}{lb Db:List Sm}(h:Kg (.mk kind name index value lb Db)=true):kind=1∨kind=2∨kind=3∨kind=4∨kind=5∨kind=6∨kind=7:=by
 simp only[Kg] at h;repeat' (split at h)
 all_goals first
  |omega
  |cases h
theorem XL(hG:GW B0 w0){k:TB}{own:Nm}{c:CC}(hk:Wn k c own){env:wb}(hE:Jm env):∀ m:Nat,m<=2000000->jO B0 w0 k own c env m
 |0,_=>λl ws n H hm pg Wl h hr hN=>by
  have:l=[]:=by
   cases l with
   |nil=>rfl
   |cons s r=>have:=vO s;rw[Nc] at hm;omega
  subst this;rw[XO];refine cJ Tryz.func83 (n:=97) ?_;refine ia ?_;refine oL (λkk ls H'=>kk=0/\ls=[(0,ptr k.tb 0),(6,.list []),(7,int .i64 0),(8,int .i64 0)]/\H'=H) ⟨0,_,_,⟨rfl,rfl,rfl⟩,Qa,kb _⟩ ?_;rintro kk ls H' ⟨rfl,rfl,rfl⟩ j hj;refine Nd ?_;refine oC rfl (λhc=>by cases hc) λhc=>?_;refine oa ?_
  exact rO hj rN Ma ⟨rfl,by rw[Qb];exact h⟩
 |m+1,hm6=>by
  have ih:=XL hG hk hE m zo;have hX:lC B0 w0 k own c env 2000000:=PC hG hk hE 2000000 (mc _);intro l ws n H hm pg Wl h hr hN;have zw:=LC l;generalize hT:jc c n l=T at hr ⊢;refine cJ Tryz.func83 (n:=97) ?_;refine ia ?_;refine oL (λkk ls H'=>∃ (pre l1:List Sm) (Lj:List Wd) (n':Nat),l=pre++l1/\kk=l1.length/\ls=[(0,ptr k.tb 0),(6,.list (l.map Hb)),(7,int .i64 ((l.map Hb).length:Int)),(8,int .i64 (pre.length:Int))]/\Ch k own Lj n' H'/\Lj++(jc c n' l1).1=ws++T.1/\(jc c n' l1).2=T.2/\n'+2 * Nc l1<=1000000000/\pj env l1=0/\qm l1)
   ⟨l.length,_,_,⟨[],l,ws,n,rfl,rfl,rfl,h,by rw[hT],by rw[hT],hN,Wl,pg⟩,Qa,kb _⟩ ?_
  rintro kk ls H' ⟨pre,l1,Lj,n',xb,rfl,rfl,cu,hW,hL,Cw,Ep,Ap⟩ j hj;have Dj:pre.length<=2000000:=by have:=congrArg List.length xb;rw[ua] at this;omega
  refine Nd ?_;refine sa (λhc=>?_) λhc=>?_;rotate_left;have fa:=zf hc;rw[Ua,xb,ua] at fa
  obtain rfl:l1=[]:=by
   cases l1 with
   |nil=>rfl
   |cons a l2=>simp at fa;omega
  rw[XO,Qb] at hW;rw[XO] at hL;simp only at hL;refine oa ?_;exact rO hj rN Ma ⟨rfl,by rw[<-hW,<-hL];exact cu⟩;have fa:=zt hc;rw[Ua,xb,ua] at fa;obtain⟨s,l2,rfl⟩:∃ a l2,l1=a::l2:=by
   cases l1 with
   |nil=>simp at fa
   |cons a l2=>exact⟨a,l2,rfl⟩
  have yw:Kl s<=Nc l:=jX (by rw[xb];exact mem_append_right _ rf);have Mk:=FV c s n';rw[pj] at Ep;rw[qm] at Ap;rw[Nc] at Cw;obtain⟨ND,qB⟩:=Ap;obtain⟨Nk,UM⟩:=Xf.1 Ep;rw[M9] at hW hL;simp only at hW hL;rw[<-Xc] at hW;have Vj:=congrArg List.length hW;rw[ua,ua,ua] at Vj;obtain⟨kind,name,index,value,lb,Db⟩:=s;rw[xr] at Nk;by_cases hf:Kg (.mk kind name index value lb Db)=false;rw[zp hf] at Nk;cases Nk;rw[zn hf] at Nk;rw[Bool.not_eq_false] at hf;obtain⟨e1,Nk⟩:=Xf.1 Nk;obtain⟨e2,Nk⟩:=Xf.1 Nk;obtain⟨e3,Nk⟩:=Xf.1 Nk;obtain⟨e4,e5⟩:=Xf.1 Nk;rw[Mt] at ND;obtain⟨n1,n2,n3,n4⟩:=ND;rw[Kl] at yw Cw Mk;have nr:=LC Db;refine Af ?_;refine ca (xR (ad:=.agg [int .i64 kind,str name,.list (index.map Va),.list (value.map Va),.list (lb.map Hb),.list (Db.map Hb)]) (cs:=[_,_,_,_,_,_]) rfl rfl zo (by
   have h9:=Zg.Wc Hb pre (Sm.mk kind name index value lb Db) l2;rw[Iq] at h9;rw[xb];exact h9) rfl rfl) ?_
  refine za ?_;refine oS (yc λb5=>?_);refine ja ?_;have fin:∀ {e:Env} {Hx:Heap} (W:List Wd) (nx:Nat) (H2:Heap),Qg c n' (.mk kind name index value lb Db)=(W,nx)->Ch k own (Lj++W) nx H2->HSub H2 Hx->e.ds=j.ds ->
    (e.s 0=ptr k.tb 0/\e.s 6=.list (l.map Hb)/\e.s 7=int .i64 ((l.map Hb).length:Int)/\e.s 8=int .i64 ((pre.length:Int)+1)) ->
    ∃ k' F0 H3,k'<(Sm.mk kind name index value lb Db::l2).length/\(∃ (pre l1:List Sm) (Lj:List Wd) (n':Nat),l=pre++l1/\k'=l1.length/\F0=[(0,ptr k.tb 0),(6,.list (l.map Hb)),(7,int .i64 ((l.map Hb).length:Int)),(8,int .i64 (pre.length:Int))]/\Ch k own Lj n' H3/\Lj++(jc c n' l1).1=ws++T.1/\(jc c n' l1).2=T.2/\n'+2 * Nc l1<=1000000000/\pj env l1=0/\qm l1)/\As e F0/\HSub H3 Hx/\e.ds=[]:=by
   intro e Hx W nx H2 hS TJ xp hd hv;rw[hS] at hW hL Mk;simp only at hW hL Mk;exact⟨l2.length,_,H2,lt_succ_self _,⟨pre++[Sm.mk kind name index value lb Db],l2,Lj++W,nx,by rw[xb];simp,rfl,rfl,TJ,hW,hL,by omega,UM,qB⟩,⟨hv.1,hv.2.1,hv.2.2.1,by rw[hv.2.2.2];exact bf (by simp),trivial⟩,xp,hd.trans hj⟩
  by_cases k1:kind=1;subst k1;obtain⟨x,rfl⟩:=Nh.Sd hf ra;rw[Bi] at e1;rw[Jk] at n2;rw[ob,ob] at yw Cw Mk;have hex:=(Xf.1 e1).1;have ZI:wu env name=0:=by rw[zp rfl] at e3;exact e3
  have ir:=hE.sc name ZI;have hS:Qg c n' (.mk 1 name index [x] lb Db)=(Ke c x++[c.sc name,[33]],n'):=by unfold Qg;rw[zp rfl];rfl
  have Is:=Vj;rw[hS] at Is;simp only[ua,Oa,Eb] at Is;refine oC rfl (λ_=>?_) (λhc=>by cases hc);refine sq ?_;refine oS (Zd (H1:=H') (F:=[_]) [_,_] rfl ke (hX x Lj n' H' zo n2.1 hex cu zo) λH2 h2=>?_);refine ia ?_;refine oS (S.uh (H1:=H2) (F:=[_]) [_,_] rfl ke (EF hG hk h2 name zo) λH3 h3=>?_);refine Lm ?_;refine oS (Zd (H1:=H3) (F:=[_]) [_,_] rfl ke (Fg h3 [c.sc name,[33]] rfl (by simp only[ua,Oa,Eb];omega)) λH4 h4=>?_);refine Mh ?_;exact fin _ _ H4 hS (by rw[<-Xc];exact h4) Gl rfl ⟨rfl,rfl,rfl,rfl⟩;refine oC rfl (λhc=>absurd (zt hc) k1) λ_=>?_;refine Yg ?_
  by_cases k2:kind=2;subst k2;obtain⟨x,rfl⟩:=Nh.Sd hf ra;obtain⟨y,rfl⟩:=qqY hf;rw[Bi] at e1 e2;rw[Jk] at n1 n2;rw[ob,ob,ob,ob] at yw Cw Mk;have hex:=(Xf.1 e1).1;have hey:=(Xf.1 e2).1;obtain⟨a,Mu,Gm,tr⟩:=hk.ar name;have hS:Qg c n' (.mk 2 name [y] [x] lb Db)=(Ke c x++([c.ar name]++(Ke c y++[[43],[33]])),n'):=by unfold Qg;rw[zn ra,zp rfl];rfl
  have Is:=Vj;rw[hS] at Is;simp only[ua,Oa,Eb] at Is;refine oC rfl (λ_=>?_) (λhc=>by cases hc);refine sq ?_;refine oS (Zd (H1:=H') (F:=[_]) [_,_] rfl ke (hX x Lj n' H' zo n2.1 hex cu zo) λH2 h2=>?_);refine oa ?_;have h0:=h2;obtain⟨v,Hv,Ta,rfl⟩:=h2;refine cD (m:=11) rfl [tU b5 2 name [y] [x] lb Db]<|Sz ?_;refine dy ?_;refine aL ?_ aO;refine lO 4 (lH rfl rfl (pL (c:=.atom _) rfl Ff rfl) ?_);refine lO 7 (lH rfl rfl (Pure.vD rfl rfl Ru tr) ?_);refine lO 8 (lS (H1:=[]) rfl (.inl rfl) rfl qb aO (sF [_] rfl (Iv hG a zo) ?_));rw[<-Gm];refine lO 9 (lS (H1:=[]) rfl (.inl rfl) rfl qb aO (sL [_] rfl (Lq [_]) rfl rfl rfl ?_));refine lO 10 (lS (F:=[tU b5 2 name [y] [x] lb Db]) rfl (.inl rfl) rfl ke Ma (Ja.Ts [_,_] rfl (Fg h0 [c.ar name] rfl (by simp only[ua,Oa,Eb];omega)) λH2 h2=>?_));refine Zj ?_;refine cW qX ?_;refine ja ?_;refine ca (xR (ad:=Va y) (cs:=[_,_,_,_]) rfl rfl ra rfl rfl rfl)<|za ?_;refine oS (Zd (H1:=H2) (F:=[_]) [_,_] rfl ke (hX y _ n' H2 zo n1.1 hey h2 (by simp only[ua,Oa,Eb];omega)) λH3 h3=>?_);refine qg ?_;refine Lm ?_;refine oS (Zd (H1:=H3) (F:=[_]) [_,_] rfl ke (Fg h3 [[43],[33]] rfl (by simp only[ua,Oa,Eb];omega)) λH4 h4=>?_);refine Mh ?_;exact fin _ _ H4 hS (by simp only[Xc] at h4 ⊢;exact h4) Gl rfl ⟨rfl,rfl,rfl,rfl⟩;refine oC rfl (λhc=>absurd (zt hc) k2) λ_=>?_;refine Yg ?_
  by_cases k3:kind=3;subst k3;obtain⟨x,rfl⟩:=Nh.Sd hf ra;rw[Bi] at e1;rw[Jk] at n2;rw[ob,ob] at yw Cw Mk;have hex:=(Xf.1 e1).1;refine oC rfl (λ_=>?_) (λhc=>by cases hc);refine ja ?_;refine oS (Zd (H1:=H') (F:=[_]) [_,_] (by show [ptr k.tb 0,_]=_;rw[Iq];rfl) ke (qnO hG hX ih name index x lb Db Lj n' H' zo zo zo n2.1 n3 n4 hex e4 e5 cu zo zo) λH2 h2=>?_);refine Mh ?_;exact fin _ _ H2 rfl h2 Gl rfl ⟨rfl,rfl,rfl,rfl⟩;refine oC rfl (λhc=>absurd (zt hc) k3) λ_=>?_;refine Yg ?_
  by_cases k4:kind=4;subst k4;obtain⟨x,rfl⟩:=Nh.Sd hf ra;rw[Bi] at e1;rw[Jk] at n2;rw[ob,ob] at yw Cw Mk;have hex:=(Xf.1 e1).1;refine oC rfl (λ_=>?_) (λhc=>by cases hc);refine ja ?_;refine oS (Zd (H1:=H') (F:=[_]) [_,_] (by show [ptr k.tb 0,_]=_;rw[Iq];rfl) ke (N9 hG hX ih name index x lb Db Lj n' H' zo zo n2.1 n3 hex e4 cu zo zo) λH2 h2=>?_);refine Mh ?_;exact fin _ _ H2 rfl h2 Gl rfl ⟨rfl,rfl,rfl,rfl⟩;refine oC rfl (λhc=>absurd (zt hc) k4) λ_=>?_;refine Yg ?_
  by_cases k5:kind=5;subst k5;obtain⟨x,rfl⟩:=Nh.Sd hf ra;rw[Bi] at e1;rw[Jk] at n2;rw[ob,ob] at yw Cw Mk;have hex:=(Xf.1 e1).1;have hS:Qg c n' (.mk 5 name index [x] lb Db)=(Ke c x++[[59]],n'):=by unfold Qg;rw[zn ra,zn ra,zn ra,zn ra,zp rfl];rfl
  have Is:=Vj;rw[hS] at Is;simp only[ua,Oa,Eb] at Is;refine oC rfl (λ_=>?_) (λhc=>by cases hc);refine sq ?_;refine oS (Zd (H1:=H') (F:=[_]) [_,_] rfl ke (hX x Lj n' H' zo n2.1 hex cu zo) λH2 h2=>?_);refine qg ?_;refine ij ?_;refine oS (Zd (H1:=H2) (F:=[_]) [_,_] rfl ke (Fg h2 [[59]] rfl (by simp only[ua,Oa,Eb];omega)) λH4 h4=>?_);refine Mh ?_;exact fin _ _ H4 hS (by rw[<-Xc];exact h4) Gl rfl ⟨rfl,rfl,rfl,rfl⟩;refine oC rfl (λhc=>absurd (zt hc) k5) λ_=>?_;refine Yg ?_
  by_cases k6:kind=6;subst k6;obtain⟨x,rfl⟩:=Nh.Sd hf ra;rw[Bi] at e1;rw[Jk] at n2;rw[ob,ob] at yw Cw Mk;have hex:=(Xf.1 e1).1;have hS:Qg c n' (.mk 6 name index [x] lb Db)=(Ke c x++[c.t0,[33]],n'):=by unfold Qg;rw[zn ra,zn ra,zn ra,zn ra,zn ra,zp rfl];rfl
  have Is:=Vj;rw[hS] at Is;simp only[ua,Oa,Eb] at Is;refine oC rfl (λ_=>?_) (λhc=>by cases hc);refine sq ?_;refine oS (Zd (H1:=H') (F:=[_]) [_,_] rfl ke (hX x Lj n' H' zo n2.1 hex cu zo) λH2 h2=>?_);refine qg ?_
  refine oS (S.uh (H1:=H2) (F:=[_]) [_,_] rfl ke (by
   have h9:=uM (B0:=B0) (w0:=w0) hG hk h2 0 ra;rw[Nat.add_zero,<-hk.t0] at h9;exact h9) λH3 h3=>?_)
  refine Lm ?_;refine oS (Zd (H1:=H3) (F:=[_]) [_,_] rfl ke (Fg h3 [c.t0,[33]] rfl (by simp only[ua,Oa,Eb];omega)) λH4 h4=>?_);refine Mh ?_;exact fin _ _ H4 hS (by rw[<-Xc];exact h4) Gl rfl ⟨rfl,rfl,rfl,rfl⟩;refine oC rfl (λhc=>absurd (zt hc) k6) λ_=>?_;refine Yg ?_;have k7:kind=7:=by have:=I9 hf;omega
  subst k7;have hS:Qg c n' (.mk 7 name index value lb Db)=([[36]],n'):=by unfold Qg;rw[zn ra,zn ra,zn ra,zn ra,zn ra,zn ra,zp rfl]
  have Is:=Vj;rw[hS] at Is;simp only[ua,Oa,Eb] at Is;refine oC rfl (λ_=>?_) (λhc=>by cases hc);refine Dc ?_;refine ij ?_;refine oS (Zd (H1:=H') (F:=[_]) [_,_] rfl ke (Fg cu [[36]] rfl (by simp only[ua,Oa,Eb];omega)) λH4 h4=>?_);refine Mh ?_;exact fin _ _ H4 hS h4 Gl rfl ⟨rfl,rfl,rfl,rfl⟩
abbrev Wo(c:CC)(l:List Nm):List Wd:=l.flatMap λp=>[c.sc p,[33]]
theorem qqU(c:CC)(p:Nm)(l:List Nm):Wo c (p::l)=[c.sc p,[33]]++Wo c l:=by unfold Wo;rw[List.flatMap_cons]
theorem I8(cc:Nm->CC)(n:Nat):sg cc n []=([],n):=by rw[sg]
theorem X8(cc:Nm->CC)(n:Nat)(f:od)(l:List od):sg cc n (f::l)=((Ps (cc f.name) n f).1++(sg cc (Ps (cc f.name) n f).2 l).1,(sg cc (Ps (cc f.name) n f).2 l).2):=by rw[sg]
theorem Y3(c:CC)(n:Nat)(f:od):Ps c n f=([[102,95]++f.name++[58]]++(Wo c f.params.reverse++((jc c n f.body).1++[[48],[59]])),(jc c n f.body).2):=by unfold Ps Wo;simp only[Xc]
theorem M8{l:List Nm}(h:i<l.length):(l.take (i+1)).reverse=l[i]::(l.take i).reverse:=by rw[take_succ_eq_append_getElem h,List.reverse_append];rfl
structure FnT(k:TB)(cc:Nm->CC)(f:od):Prop where
 tb:Wn k (cc f.name) f.name
 name:f.name.length<=24
 params:∀ p∈f.params,p.length<=1000000
 num:qm f.body
 env:∃ env,Jm env/\pj env f.body=0
theorem yI(hG:GW B0 w0){k:TB}{cc:Nm->CC}(qo:k.sc<=1000000000)(vars:List Nm)(ba:List (Nm×Int))(fs:List od)(Vg:ud fs<=2000000)(hf:∀ f∈fs,FnT k cc f){own0:Nm}{c0:CC}(QS:Wn k c0 own0)(H:Heap)(h:Ch k own0 [] 0 H)
  (hr:5+(sg cc 0 fs).1.length<=1000000000) :
  aa (KC B0 w0) 32 [ptr k.tb 0,Zg.Bf vars ba fs] H (xt λH'=>∃ own n,Ch k own ([[38,102,95,109,97,105,110],[58],decDigits k.sc,[33],[36]]++(sg cc 0 fs).1) n H'):=by
 have zw:=yL fs;have bc:(fs.map Me).length=fs.length:=Ua _;refine cJ Tryz.func32 (n:=57) ?_;refine Pc ?_;refine oS (sB rfl λb3=>?_);refine qg ?_;refine oS (S.uh (H1:=H) (F:=[_]) [_,_] rfl ke (by
  have h9:=uM (B0:=B0) (w0:=w0) hG QS h 0 ra;rw[Nat.add_zero] at h9;exact h9) λH1 h1=>?_)
 refine oS (sL [_,_,_,_,_] rfl (Lq [_,_,_,_,_]) rfl rfl rfl<|oS (Zd (H1:=H1) (F:=[_]) [_,_] rfl ke (Fg h1 [[38,102,95,109,97,105,110],[58],decDigits k.sc,[33],[36]] rfl (by simp only[Oa,Eb];omega)) λH2 h2=>?_));rw[List.nil_append] at h2;refine ja ?_;generalize hP:([[38,102,95,109,97,105,110],[58],decDigits k.sc,[33],[36]]:List Wd)=P5 at h2 ⊢;have hP5:P5.length=5:=by rw[<-hP];rfl
 clear hP;generalize hT:sg cc 0 fs=T at hr ⊢;refine oL (λkk ls H'=>∃ (pre l1:List od) (Lj:List Wd) (n':Nat) (own:Nm),fs=pre++l1/\kk=l1.length/\ls=[(0,ptr k.tb 0),(13,.list (fs.map Me)),(14,int .i64 ((fs.map Me).length:Int)),(15,int .i64 (pre.length:Int))]/\Ch k own Lj n' H'/\Lj++(sg cc n' l1).1=P5++T.1/\n'+2 * ud l1<=1000000000)
  ⟨fs.length,_,_,⟨[],fs,P5,0,own0,rfl,rfl,rfl,h2,by rw[hT],by omega⟩,Qa,Gl⟩ ?_
 rintro kk ls H' ⟨pre,l1,Lj,n',own,xb,rfl,rfl,cu,hW,Cw⟩ j hj;have Dj:pre.length<=2000000:=by have:=congrArg List.length xb;rw[ua] at this;omega
 refine Nd ?_;refine sa (λhc=>?_) λhc=>?_;rotate_left;have fa:=zf hc;rw[Ua,xb,ua] at fa
 obtain rfl:l1=[]:=by
  cases l1 with
  |nil=>rfl
  |cons a l2=>simp at fa;omega
 rw[I8,Qb] at hW;refine oa ?_;exact rO hj rN Ma ⟨rfl,own,n',by rw[<-hW];exact cu⟩;have fa:=zt hc;rw[Ua,xb,ua] at fa;obtain⟨f,l2,rfl⟩:∃ a l2,l1=a::l2:=by
  cases l1 with
  |nil=>simp at fa
  |cons a l2=>exact⟨a,l2,rfl⟩
 have YF:f∈fs:=by rw[xb];exact mem_append_right _ rf
 have VF:=wL YF;obtain⟨hk,yz,hpm,pg,env,hE,Wl⟩:=hf f YF;rw[ud] at Cw;have tw:=RH (cc f.name) f.body n';have Ul:(f.params.map str).length=f.params.length:=Ua _;unfold zm at VF Cw;rw[X8] at hW;rw[Y3] at hW;simp only at hW;have Vj:=congrArg List.length hW;simp only[ua,Oa,Eb] at Vj;obtain⟨v,Hv,Ta,rfl⟩:=cu;refine Af ?_;refine ca (xR (ad:=Me f) (cs:=[_,_,_,_]) rfl rfl zo (by rw[xb];exact Zg.Wc Me pre f l2) rfl rfl)<|za ?_;refine oS (yc λb5=>?_);refine ja ?_;first|(refine oS (sS (Ya:=[_,_,_,_,_,_]) rfl uc rfl rfl rfl rfl rfl ?_))|skip
 refine ja ?_;have h1:Ch k f.name Lj n' ((k.tb,.cells 97 [v,int .i64 (n':Nat),int .i64 (k.sc:Nat),.atom (.map (some k.sm)),.atom (.map (some k.am)),str f.name])::(k.sm,.map (Gd k.S) k.g1)::(k.am,.map (Gd k.A) k.g2)::Hv):=⟨v,Hv,Ta,rfl⟩;refine ea.db (H':=(b5,.cells 149 [str f.name,.list (f.params.map str),.list (f.locals.map str),.list (f.body.map Hb)])::(k.tb,.cells 97 [v,int .i64 (n':Nat),int .i64 (k.sc:Nat),.atom (.map (some k.sm)),.atom (.map (some k.am)),str f.name])::(k.sm,.map (Gd k.S) k.g1)::(k.am,.map (Gd k.A) k.g2)::Hv) ⟨[],by rw[Qb];exact Km _ _ _⟩ ?_;generalize ((k.tb,.cells 97 [v,int .i64 (n':Nat),int .i64 (k.sc:Nat),.atom (.map (some k.sm)),.atom (.map (some k.am)),str f.name])::(k.sm,.map (Gd k.S) k.g1)::(k.am,.map (Gd k.A) k.g2)::Hv:Heap)=H1 at h1 ⊢;refine ij ?_;refine oS (Zd (H1:=H1) (F:=[_]) [_,_] rfl ke (Fg h1 [[102,95]++f.name++[58]] rfl (by simp only[Oa,Eb];omega)) λH2 h2=>?_);refine ja ?_
 refine oL (λkk ls H'=>∃ (i:Nat) (yK:List Wd) (H3:Heap),i<=f.params.length/\kk=i/\ls=[(0,ptr k.tb 0),(5,ptr b5 0),(6,int .i64 ((i:Int)-1)),(13,.list (fs.map Me)),(14,int .i64 ((fs.map Me).length:Int)),(15,int .i64 (pre.length:Int))]/\H'=(b5,.cells 149 [str f.name,.list (f.params.map str),.list (f.locals.map str),.list (f.body.map Hb)])::H3/\Ch k f.name yK n' H3/\yK++Wo (cc f.name) (f.params.take i).reverse=Lj++[[102,95]++f.name++[58]]++Wo (cc f.name) f.params.reverse)
  ⟨f.params.length,_,_,⟨f.params.length,_,H2,mc _,rfl,rfl,rfl,h2,by rw[take_length]⟩,⟨rfl,rfl,by rw[<-Ul];rfl,rfl,rfl,rfl,trivial⟩,kb _⟩ ?_
 rintro kk ls H' ⟨i,yK,H3,hi,rfl,rfl,rfl,h3,cG⟩ j2 Ub;refine ja ?_;refine sa (λhc=>?_) λhc=>?_;have Fm:=zt hc;obtain⟨i,rfl⟩:∃ i',kk=i'+1:=⟨kk-1,by omega⟩;have wa:i<f.params.length:=by omega
 rw[M8 wa,qqU] at cG;have QD:=congrArg List.length cG;simp only[ua,Oa,Eb] at QD;have Z0:=hpm _ (getElem_mem wa);refine ja ?_;refine ca (xR (ad:=str f.params[i]) (cs:=[str f.params[i]]) rfl rfl zo (by rw[show(((i+1:Nat):Int)-1).toNat=i by omega,List.getElem?_map,dh wa];rfl) rfl rfl) ?_;refine za ?_;refine oS (S.uh (H1:=H3) (F:=[_]) [_,_] rfl ke (EF hG hk h3 f.params[i] zo) λH4 h4=>?_);refine Lm ?_;refine oS (Zd (H1:=H4) (F:=[_]) [_,_] rfl ke (Fg h4 [(cc f.name).sc f.params[i],[33]] rfl (by simp only[Oa,Eb];omega)) λH5 h5=>?_);refine ja ?_;exact⟨i,_,_,lt_succ_self _,⟨i,_,H5,by omega,rfl,rfl,rfl,h5,by rw[Xc];exact cG⟩,Qa,kb _,Ub⟩;have wa:=zf hc;obtain rfl:kk=0:=by omega
 rw[List.take_zero,List.reverse_nil,show Wo (cc f.name) []=[] from rfl,Qb] at cG;have QD:=congrArg List.length cG;simp only[ua,Oa,Eb] at QD;refine ja ?_;refine oS (Zd (H1:=H3) (F:=[_]) [_,_] rfl ke (XL hG hk hE (Nc f.body) zo f.body yK n' H3 (mc _) pg Wl h3 zo zo) λH4 h4=>?_);refine qg ?_;refine Lm ?_;refine oS (Zd (H1:=H4) (F:=[_]) [_,_] rfl ke (Fg h4 [[48],[59]] rfl (by simp only[ua,Oa,Eb];omega)) λH5 h5=>?_);refine Mh ?_
 exact⟨l2.length,_,_,lt_succ_self _,⟨pre++[f],l2,_,_,f.name,by rw[xb];simp,rfl,rfl,h5,by
  rw[cG];simp only[Xc] at hW ⊢;exact hW,by omega⟩,⟨rfl,rfl,rfl,bf (by simp),trivial⟩,Gl,Ub.trans hj⟩
def gn(r:Int×Int):LV:=.agg [int .i64 r.1,int .i64 r.2]
def qv(o:Zl):LV:=.agg [int .i64 o.code,int .i64 o.scalars,int .i64 o.ba]
def PE(p:Nm×Int):LV:=.agg [str p.1,int .i64 p.2]
def Gr(n:Int):Prop := -9223372036854775808<=n/\n<9223372036854775808
def Ou(n:Int):Prop := -1000000000000<=n/\n<=1000000000000
theorem oX{l:List Int}(h:i<l.length):(l.take (i+1)).sum=(l.take i).sum+l[i]:=by rw[take_succ_eq_append_getElem h,List.sum_append];simp
theorem GF:∀ (l:List Int) (i:Nat),(∀ n∈l,0<n)->0<=(l.take i).sum/\(l.take i).sum<=l.sum
 |[],i,_=>by simp
 |a::l,0,h=>by
  have:=GF l l.length λn hn=>h n (Sc _ hn);have h1:=h a rf;rw[take_length] at this;rw[List.take_zero,List.sum_nil,sum_cons]
  omega
 |a::l,i+1,h=>by have:=GF l i λn hn=>h n (Sc _ hn);have h1:=h a rf;rw[List.take_succ_cons,sum_cons,sum_cons];omega
theorem G9{l:List (Nm×Int)}(h:i<l.length)(a:Int):Pe a (l.take (i+1))=Pe a (l.take i)++[(l[i].1,a+((l.map (·.2)).take i).sum)]:=by rw[take_succ_eq_append_getElem h,gW,<-List.map_take];rfl
theorem qnZ(r:Int×Int)(h2:Ou r.2):aa (KC B0 w0) 76 [gn r] [] (gb (bool (DA r))):=by
 obtain⟨a,n⟩:=r;unfold Ou at h2;simp only at h2;have hI:DA (a,n)=decide (0<=a/\a<=262144-n):=rfl;unfold gn;refine cJ Tryz.func76 (n:=14) ?_;refine Pc ?_;refine oS (sB rfl λb1=>?_);refine ja ?_;refine oB 6 rfl (λh=>?_) λh=>?_;have h1:a ≥ 0:=zt h;refine za ?_
 exact Na rfl (va rfl) (Ed (by
  rw[hI,Bool.eq_iff_iff,decide_eq_true_iff,decide_eq_true_iff];omega))
 have h1:¬ a ≥ 0:=zf h;refine oa ?_;exact Na rfl (va rfl) (Ed (by
  rw[hI]
  symm
  exact decide_eq_false zo))
theorem qpm(r s:Int×Int)(h1:Ou r.1)(h2:Ou r.2)(h3:Ou s.1)(h4:Ou s.2):aa (KC B0 w0) 77 [gn r,gn s] [] (gb (bool (qC r s))):=by
 obtain⟨a,n⟩:=r;obtain⟨b,m⟩:=s;unfold Ou at h1 h2 h3 h4;simp only at h1 h2 h3 h4;have hI:qC (a,n) (b,m)=decide (0<n/\0<m/\a<b+m/\b<a+n):=rfl;unfold gn;refine cJ Tryz.func77 (n:=33) ?_;refine Pc ?_;refine oS (sB rfl λb1=>oS (sB rfl λb2=>?_));refine ja ?_;refine oB 8 rfl (λg1=>?_) λg1=>?_;rotate_left;have Ix:¬ n > 0:=zf g1;refine oa ?_;exact Na rfl (va rfl) (Ed (by rw[hI];symm;exact decide_eq_false zo));have Ix:n > 0:=zt g1;refine za ?_;refine oB 13 rfl (λg2=>?_) λg2=>?_;rotate_left;have Ns:¬ m > 0:=zf g2;refine oa ?_;exact Na rfl (va rfl) (Ed (by rw[hI];symm;exact decide_eq_false zo));have Ns:m > 0:=zt g2;refine Oi ?_;refine oB 23 rfl (λg3=>?_) λg3=>?_;rotate_left;have DT:¬ a<b+m:=zf g3;refine oa ?_;exact Na rfl (va rfl) (Ed (by rw[hI];symm;exact decide_eq_false zo));have DT:a<b+m:=zt g3;refine Oi ?_
 exact Na rfl (va rfl) (Ed (by
  rw[hI,Bool.eq_iff_iff,decide_eq_true_iff,decide_eq_true_iff];omega))
theorem qm6(vars:List Nm)(ba:List (Nm×Int))(fs:List od)(o:Zl)(hl:ba.length<=2000000)(hp:∀ a∈ba,0<a.2)(h0:0<=o.ba)(h1:o.ba+(ba.map (·.2)).sum<=262144):aa (KC B0 w0) 31 [Zg.Bf vars ba fs,qv o] [] (gb (.tuple [.list ((Pe o.ba ba).map PE),int .i64 0])):=by
 have zw:(ba.map Zg.Kb).length=ba.length:=Ua _;have Hn:(ba.map (·.2)).length=ba.length:=Ua _;have ql:∀ n∈ba.map (·.2),0<n:=λn hn=>by obtain⟨a,ha,rfl⟩:=vi hn;exact hp a ha
 unfold Zg.Bf qv;refine cJ Tryz.func31 (n:=50) ?_;refine Pc ?_;refine oS (sB rfl λb2=>oS (sB rfl λb3=>?_));refine ja ?_
 refine oL (λkk ls H'=>∃ (i:Nat) (v:LV),i<=ba.length/\kk=ba.length-i/\ls=[(6,v),(7,int .i64 (o.ba+((ba.map (·.2)).take i).sum)),(13,.list (ba.map Zg.Kb)),(14,int .i64 ba.length),(15,int .i64 (i:Nat))]/\GL.Acc 2 v ((Pe o.ba (ba.take i)).map PE) H' [])
  ⟨_,_,_,⟨0,Ea,zero_le _,rfl,rfl,Acc.nil⟩,⟨rfl,bf (by simp),rfl,bf zo,rfl,trivial⟩,HSub.nil _⟩ ?_
 rintro kk ls H' ⟨i,v,hi,rfl,rfl,Ta⟩ j hj;have Bj:=GF (ba.map (·.2)) i ql;refine Nd ?_;refine sa (λhc=>?_) λhc=>?_;have wa:i<ba.length:=by have:=zt hc;omega
 have Z0:=hp _ (getElem_mem wa);have Ug:=oX (l:=ba.map (·.2)) (i:=i) zo;rw[List.getElem_map] at Ug;have TI:=GF (ba.map (·.2)) (i+1) ql;have fa:((Pe o.ba (ba.take i)).map PE).length=i:=by rw[Ua,xP,length_take];omega
 generalize lB:((ba.map (·.2)).take i).sum=si at Bj Ug;have U0:=G9 wa o.ba;rw[lB] at U0;refine Af ?_;refine ca (xR (ad:=Zg.Kb ba[i]) (cs:=[_,_]) rfl rfl zo (Hh _ _ _ wa) rfl rfl)<|za ?_;refine oS (yc λb9=>?_);refine ja ?_;refine oB 21 rfl (λh=>?_) λ_=>?_;have:=zt h;omega;refine za ?_;refine oB 25 rfl (λh=>?_) λ_=>?_;have:=zt h;omega;refine Oi ?_;refine oB 30 rfl (λh=>?_) λ_=>?_;have:=zt h;omega;refine za ?_;refine sa (λh=>?_) λ_=>?_;have:=zt h;omega;refine Af ?_;refine eh ?_;refine za ?_;refine fh ?_;refine oS (S.Cr rfl Ta rfl (by simp;rfl) rfl (by rw[fa];simp;omega) λv' H2 Ra=>?_);refine Wh ?_;refine ia ?_;exact⟨_,_,_,by omega,⟨i+1,v',by omega,rfl,rfl,by rw[U0,Od];exact Ra⟩,⟨rfl,bf (by rw[Ug];omega),rfl,rfl,bf zo,trivial⟩,fe Ma,hj⟩;have ae:i=ba.length:=by have:=zf hc;omega
 subst ae;rw[take_length] at Ta;refine Ga.sub (d:=6) (v:=v) rfl Ta.sub ?_;refine cW Fc ?_;refine ia ?_;exact Na hj (rC (rT (v:=.list _) rfl fc) (va rfl)) rfl
theorem qqx(vars:List Nm)(ba:List (Nm×Int))(fs:List od)(o:Zl)(Yv:vars.length<=2000000)(XD:fs.length<=2000000)(hl:ba.length<=2000000)(qo:∀ f∈fs,pK f)(hn:∀ f∈fs,f.name.length<=1000/\∀ x∈f.params++f.locals,x.length<=1000)
  (hp:∀ a∈ba,0<a.2) (ht:(ba.map (·.2)).sum<=150000) (ZI:(Gf vars fs).length<=8000) (o1:Gr o.code) (o2:Gr o.scalars) (o3:Gr o.ba) :
  aa (KC B0 w0) 29 [Zg.Bf vars ba fs,qv o] [] (gb (bool (qu vars ba fs o))):=by
 have zw:(ba.map Zg.Kb).length=ba.length:=Ua _;have Hn:(ba.map (·.2)).length=ba.length:=Ua _;have ql:∀ n∈ba.map (·.2),0<n:=λn hn=>by obtain⟨a,ha,rfl⟩:=vi hn;exact hp a ha
 have YI:((Gf vars fs).map str).length=(Gf vars fs).length:=Ua _;have hS:=Zg.Wf (B0:=B0) (w0:=w0) (vars:=vars) (fs:=fs) (.list (ba.map Zg.Kb)) Yv XD qo hn;rw[G5];unfold Zg.Bf qv;refine cJ Tryz.func29 (n:=63) ?_;refine Pc ?_;refine oS (sB rfl λb2=>oS (sB rfl λb3=>?_));refine ja ?_
 refine oL (λkk ls H'=>∃ (i:Nat),i<=ba.length/\kk=ba.length-i/\ls=[(2,ptr b2 0),(3,ptr b3 0),(5,int .i64 (((ba.map (·.2)).take i).sum)),(14,.list (ba.map Zg.Kb)),(15,int .i64 ba.length),(16,int .i64 (i:Nat))]/\H'=[(b3,.cells 49 [int .i64 o.code,int .i64 o.scalars,int .i64 o.ba]),(b2,.cells 45 [.list (vars.map str),.list (ba.map Zg.Kb),.list (fs.map Me)])])
  ⟨_,_,_,⟨0,zero_le _,rfl,rfl,rfl⟩,Qa,kb _⟩ ?_
 rintro kk ls H' ⟨i,hi,rfl,rfl,rfl⟩ j hj;have Bj:=GF (ba.map (·.2)) i ql;refine Nd ?_;refine sa (λhc=>?_) λhc=>?_;have wa:i<ba.length:=by have:=zt hc;omega
 have Z0:=hp _ (getElem_mem wa);have Ug:=oX (l:=ba.map (·.2)) (i:=i) zo;rw[List.getElem_map] at Ug;have TI:=GF (ba.map (·.2)) (i+1) ql;generalize lB:((ba.map (·.2)).take i).sum=si at Bj Ug;refine Af ?_;refine ca (xR (ad:=Zg.Kb ba[i]) (cs:=[_,_]) rfl rfl zo (Hh _ _ _ wa) rfl rfl)<|za ?_;refine oS (yc λb7=>?_);refine ja ?_;exact⟨_,_,_,by omega,⟨i+1,by omega,rfl,rfl,rfl⟩,⟨rfl,rfl,bf (by rw[Ug]),rfl,rfl,bf zo,trivial⟩,fe Ma,hj⟩;have ae:i=ba.length:=by have:=zf hc;omega
 subst ae;rw[<-Hn,take_length] at Bj ⊢;generalize (ba.map (·.2)).sum=total at Bj ht ⊢;generalize (Gf vars fs).length=ns at ZI YI ⊢;refine oa ?_;refine cD (m:=16) rfl [(b3,.cells 49 [int .i64 o.code,int .i64 o.scalars,int .i64 o.ba]),(b2,.cells 45 [.list (vars.map str),.list (ba.map Zg.Kb),.list (fs.map Me)])]<|LB ?_;refine aT 2 rfl rfl (pG (Ya:=[_,_,_]) rfl Ff rfl rfl)<|aT 7 rfl rfl (pF rfl)<|aT 8 rfl rfl (pL (c:=.atom _) rfl yb rfl)<|aT 9 rfl rfl (pB _ (cs:=[_,_]) rfl)<|aT 10 rfl rfl (pF rfl)<|aT 11 rfl rfl (pL (c:=.atom _) rfl yb rfl)<|aT 12 rfl rfl (pM (lv:=.atom _) rfl)<|aT 13 rfl rfl (pB _ (cs:=[_,_]) rfl)<|aL ?_ Ma;refine lO 3 (lS (H1:=[]) rfl (.inl rfl) rfl qb Ma (sF [_] rfl hS ?_));refine lO 4 (lH rfl rfl (Pure.jl rfl) ?_);refine lO 5 (lH rfl rfl (Pure.add rfl rfl zo) ?_);refine lO 6 (lH rfl rfl (pB _ (cs:=[_,_]) rfl) ?_);refine lO 14 (lS (H1:=[]) rfl (.inl rfl) rfl qb Ma (sL (es:=[LV.agg [int .i64 o.scalars,int .i64 (3+(((Gf vars fs).map str).length:Int))],.agg [int .i64 o.code,int .i64 40000],.agg [int .i64 o.ba,int .i64 total]]) [_,_,_] rfl (rc rfl rfl (rc rfl rfl (rc rfl rfl Tf))) rfl rfl rfl ?_));refine lO 15 (lH rfl rfl (pA (lv:=.list _) rfl) ?_);refine lD zk ?_;have e3:(3:Int)+(((Gf vars fs).map str).length:Int)=3+(ns:Nat):=by rw[YI]
 rw[e3];generalize rk:[(o.scalars,(3:Int)+(ns:Nat)),(o.code,(40000:Int)),(o.ba,total)]=rs;have Rh:([LV.agg [int .i64 o.scalars,int .i64 (3+(ns:Int))],.agg [int .i64 o.code,int .i64 40000],.agg [int .i64 o.ba,int .i64 total]]:List LV)=rs.map gn:=by rw[<-rk];rfl
 rw[Rh];have hlr:rs.length=3:=by rw[<-rk];rfl
 have ld:∀ r∈rs,Ou r.2/\0<=r.2:=by rw[<-rk];intro r hr;simp only[Mc,List.not_mem_nil,or_false] at hr;unfold Ou;rcases hr with rfl|rfl|rfl <;> simp only <;> omega
 have bJ:(rs.map gn).length=rs.length:=Ua _;clear Rh rk;generalize hR:Hw [] rs=R;refine qN ?_;refine cW Fc ?_;refine ia ?_;refine oL (λkk ls H'=>∃ (i:Nat),i<=rs.length/\kk=rs.length-i/\ls=[(8,.list (rs.map gn)),(40,.list (rs.map gn)),(41,int .i64 rs.length),(42,int .i64 (i:Nat))]/\H'=[]/\Hw (rs.take i) (rs.drop i)=R/\∀ r∈rs.take i,DA r=true)
  ⟨_,_,_,⟨0,zero_le _,rfl,rfl,rfl,hR,λr hr=>by cases hr⟩,Qa,kb _⟩ ?_
 rintro kk ls H' ⟨i,hi,rfl,rfl,rfl,vB,yJ⟩ j1 Pb;refine Nd ?_;refine sa (λhc=>?_) λhc=>?_;rotate_left;have ae:i=rs.length:=by have:=zf hc;omega
 subst ae;rw[List.drop_length,Hw] at vB;refine ia ?_;exact Na (Pb.trans hj) (va rfl) (Ed vB);have wa:i<rs.length:=by have:=zt hc;omega
 have lB:=ld _ (getElem_mem wa);rw[List.drop_eq_getElem_cons wa,Hw,<-take_succ_eq_append_getElem wa] at vB;generalize Q1:rs[i]=r at vB lB;refine ia ?_;refine ca (xR (ad:=gn r) (cs:=[_,_]) rfl rfl zo (by rw[<-Q1];exact Hh _ _ _ wa) rfl rfl)<|za ?_;refine oS (yc λjN=>?_);refine ja ?_;refine oS (sF [_] rfl (qnZ r lB.1) ?_);refine za ?_;refine sa (λh=>?_) λh=>?_;have h':DA r=false:=by simpa using h
 rw[h',Pg,Pg] at vB;refine Hj ?_;exact Na (Pb.trans hj) (va rfl) (Ed vB);have h':DA r=true:=by simpa using h
 rw[h',Bool.true_and] at vB;have G0:∀ r:Int×Int,Ou r.2/\0<=r.2->DA r=true->Ou r.1:=λr h1 h2=>by have:0<=r.1/\r.1<=262144-r.2:=zt h2;unfold Ou at h1 ⊢;omega
 have X0:=G0 r lB h';have Cm:(rs.take i).length=i:=by rw[length_take];omega
 have S0:((rs.take i).map gn).length=i:=by rw[Ua,Cm]
 have hts:((rs.map gn).take i)=(rs.take i).map gn:=List.map_take.symm;refine ia ?_;refine ca (Pure.rn (i:=0) (j:=(i:Nat)) (es:=rs.map gn) (ms:=(rs.take i).map gn) rfl rfl ⟨_,rfl⟩ zo zo zo (λv hv=>by obtain⟨r,_,rfl⟩:=vi hv;rfl) (by rw[Int.toNat_natCast,<-hts];rfl))<|oa ?_;refine oL (λkk ls H'=>∃ (x:Nat),x<=i/\kk=i-x/\ls=[(8,.list (rs.map gn)),(10,ptr jN 0),(40,.list (rs.map gn)),(41,int .i64 rs.length),(42,int .i64 (i:Nat)),(52,.list ((rs.take i).map gn)),(53,int .i64 i),(54,int .i64 (x:Nat))]/\H'=[(jN,.cells 161 [int .i64 r.1,int .i64 r.2])]/\((((rs.take i).drop x).all λs=>!qC r s) && Hw (rs.take (i+1)) (rs.drop (i+1)))=R)
  ⟨_,_,_,⟨0,zero_le _,rfl,rfl,rfl,by rw[List.drop_zero];exact vB⟩,Qa,kb _⟩ ?_
 rintro kk ls H' ⟨x,hx,rfl,rfl,rfl,bc⟩ j2 Ub;refine Nd ?_;refine sa (λhc=>?_) λhc=>?_;have tB:x<(rs.take i).length:=by have:=zt hc;omega
 have J1:=getElem_mem tB;have UI:=ld _ (List.mem_of_mem_take J1);have V0:=G0 _ UI (yJ _ J1);rw[List.drop_eq_getElem_cons tB,List.all_cons] at bc;generalize CJ:(rs.take i)[x]=s at bc UI V0;refine Af ?_;refine ca (xR (ad:=gn s) (cs:=[_,_]) rfl rfl zo (by rw[<-CJ];exact Hh _ _ _ tB) rfl rfl)<|za ?_;refine oS (yc λzE=>?_);refine ja ?_;refine oS (sF [_,_] rfl (qpm r s X0 lB.1 V0 UI.1) ?_);refine ig ?_;refine sa (λh=>?_) λh=>?_;have h2:qC r s=true:=h;rw[h2] at bc;refine Hj ?_;exact Na (Ub.trans (Pb.trans hj)) (va rfl) (Ed (by rw[<-bc];rfl));have h2:qC r s=false:=h;rw[h2] at bc;refine ia ?_;exact⟨_,_,_,by omega,⟨x+1,by omega,rfl,rfl,rfl,bc⟩,Qa,fe Ma,Ub⟩;have Kh:x=i:=by have:=zf hc;omega
 subst Kh;rw[List.drop_eq_nil_of_le (by rw[Cm];exact mc _)] at bc;refine ia ?_;exact⟨_,_,_,by omega,⟨x+1,by omega,rfl,rfl,rfl,bc,λq hq=>by
  rw[take_succ_eq_append_getElem wa,Q1] at hq;rcases Kj hq with hq|hq;exact yJ q hq;rw[wh hq];exact h'⟩,Qa,HSub.nil _,Ub.trans Pb⟩
def uf(S:Int):Nat->List Nm->KV
 |_,[]=>[]
 |i,x::r=>(x,int .i64 (S+3+(i:Nat)))::uf S (i+1) r
theorem FW(S:Int):∀ (l m:List Nm) (i:Nat),uf S i (l++m)=uf S i l++uf S (i+l.length) m
 |[],m,i=>by simp[uf]
 |x::r,m,i=>by rw[cons_append,uf,FW S r m,uf,cons_append,Oa,Nat.add_right_comm,Nat.add_assoc]
theorem RX(S:Int):∀ (l:List Nm) (i:Nat),(uf S i l).map (·.1)=l
 |[],i=>rfl
 |x::r,i=>by rw[uf,Tb,RX S r]
theorem qqS{S:Int}{l:List Nm}(h:i<l.length)(hn:l.Nodup):GL.Zb (uf S 0 (l.take i)) l[i] (int .i64 (S+3+(i:Nat)))=uf S 0 (l.take (i+1)):=by rw[take_succ_eq_append_getElem h,FW,length_take,Nat.zero_add,Nat.min_eq_left zo];refine KK ?_;rw[RX];intro hm;rw[<-List.take_append_drop i l,List.drop_eq_getElem_cons h,List.nodup_append] at hn;exact hn.2.2 _ hm _ rf rfl
theorem BP(S:Int)(k:Nm):∀ (l:List Nm) (i:Nat),GL.Sa (uf S i l) k=if k∈l then some (int .i64 (S+3+((i+l.idxOf k:Nat):Int))) else none
 |[],i=>rfl
 |x::r,i=>by rw[uf,GL.Sa];by_cases h:x=k;rw[zp h,zp (by rw[h];exact List.mem_cons_self ..),List.idxOf_cons,h];simp;rw[zn h,BP S k r (i+1)];by_cases hm:k∈r;rw[zp hm,zp (Sc _ hm),List.idxOf_cons,cond_eq_ite,zn (by simpa using h)];congr 4;omega;rw[zn hm,zn (by rw[Mc];exact λg=>g.elim (λe=>h e.symm) hm)]
def wk(l:List (Nm×Int)):KV:=l.map λp=>(p.1,int .i64 p.2)
theorem qqG{l:List (Nm×Int)}(h:i<l.length)(hn:(l.map (·.1)).Nodup):GL.Zb (wk (l.take i)) l[i].1 (int .i64 l[i].2)=wk (l.take (i+1)):=by
 unfold wk;rw[take_succ_eq_append_getElem h,Od];refine KK ?_;rw[map_map];intro hm;have e1:l.map (·.1)=(l.take i).map (·.1)++l[i].1::(l.drop (i+1)).map (·.1):=by
  conv=>lhs;rw[<-List.take_append_drop i l,List.drop_eq_getElem_cons h]
  rw[Od,Tb]
 rw[e1,List.nodup_append] at hn;exact hn.2.2 _ hm _ rf rfl
theorem vW(name:Nm):∀ (l:List (Nm×Int)) (a:Int),(GL.Sa (wk (Pe a l)) name).getD (int .i64 0)=int .i64 (yl a l name)
 |[],a=>rfl
 |(x,n)::r,a=>by rw[Pe,yl];show(GL.Sa ((x,int .i64 a)::wk (Pe (a+n) r)) name).getD (int .i64 0)=_;rw[GL.Sa];simp only;by_cases h:x=name;rw[zp h,zp h];rfl;rw[zn h,zn h];exact vW name r (a+n)
def nH:Except Int Wd->LV
 |.error e=>.tuple [str [],int .i64 e]
 |.ok t=>.tuple [str t,int .i64 0]
theorem ZG{P:Pr}{o:Zl}(hF:CE P o)(own:Nm)(ho:own.length<=1000000)(b1 b2 b3 g1 g2:Nat):Wn ⟨b1,b2,b3,uf o.scalars 0 (Gf P.vars P.funcs),wk (Pe o.ba (Ci P)),g1,g2,o.scalars.toNat⟩ (Ow P.vars (Ci P) P.funcs o own) own:=by
 have s0:=hF.s0;have s1:=hF.s1;have a0:=hF.a0;have a1:=hF.a1;have hp:∀ p∈Ci P,0<=p.2:=λp hp=>by obtain⟨a,_,rfl⟩:=vi hp;exact Int.natCast_nonneg _
 have Ul:∀ k,0<=Ly (Gf P.vars P.funcs) o.scalars k/\Ly (Gf P.vars P.funcs) o.scalars k<=262144/\(k∈Gf P.vars P.funcs->int .i64 (o.scalars+3+((0+(Gf P.vars P.funcs).idxOf k:Nat):Int))=int .i64 (((Ly (Gf P.vars P.funcs) o.scalars k).toNat:Nat):Int)):=λk=>by unfold Ly;by_cases h:k∈Gf P.vars P.funcs;have:=List.idxOf_lt_length_of_mem h;rw[zp h];exact⟨by omega,by omega,λ_=>bf zo⟩;rw[zn h];exact⟨by omega,by omega,λh2=>absurd h2 h⟩
 refine⟨λname=>?_,λname=>?_,?_,?_,?_,?_,ho⟩;refine⟨(Ly (Gf P.vars P.funcs) o.scalars (lz (Gf P.vars P.funcs) own name)).toNat,?_,?_,?_⟩;have:=Ul (lz (Gf P.vars P.funcs) own name);omega;exact FC (Ul _).1;show(∃ v,GL.Sa (uf o.scalars 0 (Gf P.vars P.funcs)) (own++[46]++name)=some v/\_)∨(GL.Sa (uf o.scalars 0 (Gf P.vars P.funcs)) (own++[46]++name)=none/\(GL.Sa (uf o.scalars 0 (Gf P.vars P.funcs)) name).getD _=_);rw[BP,BP];unfold lz
 by_cases h:own++[46]++name∈Gf P.vars P.funcs;left;rw[zp h,zp h];exact⟨_,rfl,(Ul _).2.2 h⟩;right;rw[zn h,zn h];refine⟨rfl,?_⟩;by_cases h2:name∈Gf P.vars P.funcs;rw[zp h2];exact(Ul _).2.2 h2;rw[zn h2];unfold Ly;rw[zn h2];rfl;have h1:=mP (Ci P) o.ba a0 hp name;have h2:=wO (Ci P) o.ba a0 hp name;have h3:((Ci P).map (·.2)).sum=((Sk P.ba:Nat):Int):=JL P.ba;rw[h3] at h2;refine⟨(yl o.ba (Ci P) name).toNat,by omega,FC h1,?_⟩;show(GL.Sa (wk (Pe o.ba (Ci P))) name).getD _=_;rw[vW];exact bf zo;exact FC s0;show itoa (o.scalars+1)=_;rw[FC zo];congr 1;show _=o.scalars.toNat+1;omega;show itoa (o.scalars+2)=_;rw[FC zo];congr 1;show _=o.scalars.toNat+2;omega;show o.scalars.toNat<=_;omega
theorem GK{s:Nm}(h:Mf s=true):s.length<=24:=by unfold Mf at h;rw[Le,Le,sf] at h;exact h.1.1
theorem U3{P:Pr}(hv:Valid P){f:od}(hf:f∈P.funcs)(br:∀ x∈f.params++f.locals,x.length<=24){kn:List De}(hk:dC P.funcs kn):Jm (vg P.vars (P.ba.map (·.name)) (P.funcs.map (·.name)) kn f):=by
 have Dp:=VC _ _ hv.names;refine⟨λs hs=>?_,λk ow=>?_⟩;unfold wu at hs;split at hs
 rename_i h;rcases h with h|h;exact GK (Dp.2 s (List.mem_append_left _ (List.mem_append_left _ h))).2;exact br s h;split at hs <;> cases hs;obtain⟨g,g1,g2,_⟩:=hk k ow;rw[<-g2];exact GK (Dp.2 _ (mem_append_right _ (List.mem_map_of_mem g1))).2
theorem BX:∀ (vars ba later:List Nm) (known:List De) (fs:List od),Jr vars ba later known fs=0->∀ f∈fs,∀ x∈f.params++f.locals,x.length<=24
 |_,_,_,_,[],_,f,hf=>(List.not_mem_nil hf).elim
 |vars,ba,later,known,g::l,h,f,hf=>by rw[Jr] at h;obtain⟨h1,h2⟩:=Xf.1 h;rcases Mc.1 hf with rfl|hf;unfold Lp at h1;intro x hx;exact GK ((VC _ _ (Xf.1 h1).1).2 x hx).2;exact BX vars ba later _ l h2 f hf
theorem R4{t s a b3 b2:Nat×da}:[t,b3,s,a,b2].Perm ([t,s,a]++[b3,b2]):=dm _ ((Km _ _ _).trans (dm _ (Km _ _ _)))
theorem ql2(hG:GW B0 w0)(hM:Rk.GM w0)(vars:List Nm)(ba:List (Nm×Int))(fs:List od)(o:Zl)(Yv:vars.length<=2000000)(bG:ba.length<=2000000)(SJ:∀ a∈ba,Gr a.2)(Vg:ud fs<=2000000)(pg:∀ f∈fs,qm f.body)(o1:Gr o.code)(o2:Gr o.scalars)(o3:Gr o.ba) :
  aa (KC B0 w0) 13 [Zg.Bf vars ba fs,qv o] [] (gb (nH (Sp vars ba fs o))):=by
 have Lu:=Zg.Cf (B0:=B0) (w0:=w0) vars ba fs Yv bG SJ Vg;have XD:=yL fs;have qo:∀ f∈fs,pK f:=λf hf=>iO (by have:=wL hf;omega);generalize hC:Sp vars ba fs o=R;unfold Sp at hC;have fN:Zg.Bf vars ba fs=.agg [.list (vars.map str),.list (ba.map Zg.Kb),.list (fs.map Me)]:=rfl;have HT:qv o=.agg [int .i64 o.code,int .i64 o.scalars,int .i64 o.ba]:=rfl;rw[fN,HT];refine cJ Tryz.func13 (n:=102) ?_;refine Pc ?_;refine oS (sB rfl λb2=>oS (sB rfl λb3=>?_));refine ja ?_;refine oS (S.Bb (H1:=[]) (F:=[_,_]) [_] rfl qb Lu ?_ (by rintro ch H' ⟨_,nm,h⟩;cases h));rintro lv H' ⟨rfl,nm,h⟩;cases h;refine ja ?_
 by_cases bE:dq vars ba fs=0;rotate_left;rw[zp bE] at hC;subst hC;refine sa (λ_=>?_) λhc=>?_;refine ia ?_;exact Na rfl (rC (ib rfl) (va rfl)) rfl;have h2:(!decide (dq vars ba fs=0))=false:=hc;simp at h2;exact absurd h2 bE;refine sa (λhc=>?_) λ_=>?_;have h2:(!decide (dq vars ba fs=0))=true:=hc;simp[bE] at h2;rw[zn (by simpa using bE)] at hC;obtain⟨ht,hp,iE,hPc,hV⟩:=qne bE
 have br:∀ f∈fs,∀ x∈f.params++f.locals,x.length<=24:=by have h:=bE;unfold dq at h;exact BX _ _ _ _ _ (Xf.1 (Xf.1 (Xf.1 h).2).2).1
 have Dp:=VC _ _ hV.names;have Ni:∀ f∈fs,f.name.length<=24:=λf hf=>GK (Dp.2 _ (mem_append_right _ (List.mem_map_of_mem hf))).2;have hn:∀ f∈fs,f.name.length<=1000/\∀ x∈f.params++f.locals,x.length<=1000:=λf hf=>⟨by have:=Ni f hf;omega,λx hx=>by have:=br f hf x hx;omega⟩;have cS:(Gf vars fs).length<=8000:=hV.eu;have RM:=qqx (B0:=B0) (w0:=w0) vars ba fs o Yv zo bG qo hn hp ht cS o1 o2 o3;rw[fN,HT] at RM;refine ja ?_;refine oS (sF [_,_] rfl RM ?_);refine za ?_
 by_cases Ln:qu vars ba fs o=true;rotate_left;rw[zp (by simpa using Ln)] at hC;subst hC;refine sa (λ_=>?_) λhc=>?_;refine Oe ?_;exact Na rfl (rC (ib rfl) (va rfl)) rfl;have h2:(!qu vars ba fs o)=false:=hc;simp at h2;exact absurd h2 Ln;refine sa (λhc=>?_) λ_=>?_;have h2:(!qu vars ba fs o)=true:=hc;rw[Ln] at h2;cases h2;rw[zn (by rw[Ln];decide)] at hC;have yB:qu (kg vars ba fs).vars (Ci (kg vars ba fs)) (kg vars ba fs).funcs o=true:=by rw[iE];exact Ln
 have hF:=kV yB;have hS:=Zg.Wf (B0:=B0) (w0:=w0) (vars:=vars) (fs:=fs) (.list (ba.map Zg.Kb)) Yv zo qo hn;have hT:=hF.s1;have I2:=hF.s0;have tT:=hF.a1;have bN:=hF.a0;have vJ:(Gf vars fs).Nodup:=hV.keys;have St:(ba.map (·.2)).sum=((Sk (kg vars ba fs).ba:Nat):Int):=by have:=JL (kg vars ba fs).ba;rw[<-this];congr 2;exact iE.symm
 have V2:=qm6 (B0:=B0) (w0:=w0) vars ba fs o bG hp bN (by rw[St];omega);rw[fN,HT] at V2;have TJ:o.scalars.toNat+3+(Gf vars fs).length<=262144:=hT;refine ia ?_;refine oS (S.Ji λsm=>oS (S.Ji λam=>?_));refine za ?_;refine oS (sB rfl λtb=>?_);refine ja ?_;refine oS (sF [_] rfl hS ?_);have Mk:((Gf vars fs).map str).length=(Gf vars fs).length:=Ua _;refine oa ?_;generalize JD:Gf vars fs=sl at *
 refine oL (λkk ls H'=>∃ (i g1:Nat),i<=sl.length/\kk=sl.length-i/\ls=[(2,ptr b2 0),(3,ptr b3 0),(8,ptr tb 0),(39,.list (sl.map str)),(40,int .i64 sl.length),(41,int .i64 (i:Nat))]/\H'=[(tb,.cells 97 [Ea,int .i64 0,int .i64 o.scalars,.atom (.map (some sm)),.atom (.map (some am)),str []]),(b3,.cells 49 [int .i64 o.code,int .i64 o.scalars,int .i64 o.ba]),(sm,.map (Gd (uf o.scalars 0 (sl.take i))) g1),(am,.map (Gd []) 0),(b2,.cells 45 [.list (vars.map str),.list (ba.map Zg.Kb),.list (fs.map Me)])])
  ⟨_,_,_,⟨0,0,zero_le _,rfl,rfl,rfl⟩,Qa,Ab pH (Ab Ig (Ab uc Ma))⟩ ?_
 rintro kk ls H' ⟨i,g1,hi,rfl,rfl,rfl⟩ j hj;refine Nd ?_;refine sa (λhc=>?_) λhc=>?_;have wa:i<sl.length:=by have:=zt hc;omega
 have Hs:=qqS (S:=o.scalars) wa vJ;refine ia ?_;refine ca (xR (ad:=str sl[i]) (cs:=[str sl[i]]) rfl rfl zo (Hh _ _ _ wa) rfl rfl)<|za ?_;refine cD (m:=11) rfl [(tb,.cells 97 [Ea,int .i64 0,int .i64 o.scalars,.atom (.map (some sm)),.atom (.map (some am)),str []]),(b3,.cells 49 [int .i64 o.code,int .i64 o.scalars,int .i64 o.ba])]<|ft ?_;refine aT 3 rfl rfl (pL (c:=.atom _) rfl yb rfl)<|aT 4 rfl rfl (pM (lv:=.atom _) rfl)<|aT 5 rfl rfl (pF rfl)<|aT 6 rfl rfl (pL (c:=.atom _) rfl Ff rfl)<|aT 7 rfl rfl (Pure.add rfl rfl zo)<|aT 8 rfl rfl (pM (lv:=.atom _) rfl)<|aT 9 rfl rfl (Pure.add rfl rfl zo)<|aL ?_ lA;refine lO 10 (lS (H1:=[(sm,.map (Gd (uf o.scalars 0 (sl.take i))) g1)]) rfl (.inl rfl) rfl (show Ec _ _ _ from pT uc) lA (S.Uj (k:=sl[i]) (lv:=int .i64 (o.scalars+3+(i:Nat))) rfl rfl rfl pH λIx=>?_));rw[Hs];refine lD zk ?_;refine Mh ?_;exact⟨_,_,_,by omega,⟨i+1,Ix,by omega,rfl,rfl,rfl⟩,Qa,Ab uc (Ab uc Ma),hj⟩;have ae:i=sl.length:=by have:=zf hc;omega
 subst ae;rw[take_length];have ZA:=xP ba o.ba;have hyn:((Pe o.ba ba).map (·.1)).Nodup:=by
  rw[xY];have h1:=(ct (ct Dp.1).1).2.1;have e1:(kg vars ba fs).ba.map (·.name)=ba.map (·.1):=by unfold kg;rw[map_map];rfl
  rw[e1] at h1;exact h1
 have hym:((Pe o.ba ba).map PE).length=(Pe o.ba ba).length:=Ua _;refine ja ?_;refine oS (sF [_,_] rfl V2 ?_);refine ja ?_;generalize K0:Pe o.ba ba=ys at *;refine oC rfl (λh=>by cases h) λ_=>?_;refine ia ?_
 refine oL (λkk ls H'=>∃ (i g2:Nat),i<=ys.length/\kk=ys.length-i/\ls=[(2,ptr b2 0),(3,ptr b3 0),(8,ptr tb 0),(66,.list (ys.map PE)),(67,int .i64 ys.length),(68,int .i64 (i:Nat))]/\H'=[(tb,.cells 97 [Ea,int .i64 0,int .i64 o.scalars,.atom (.map (some sm)),.atom (.map (some am)),str []]),(b3,.cells 49 [int .i64 o.code,int .i64 o.scalars,int .i64 o.ba]),(sm,.map (Gd (uf o.scalars 0 sl)) g1),(am,.map (Gd (wk (ys.take i))) g2),(b2,.cells 45 [.list (vars.map str),.list (ba.map Zg.Kb),.list (fs.map Me)])])
  ⟨_,_,_,⟨0,0,zero_le _,rfl,rfl,rfl⟩,Qa,kb _⟩ ?_
 rintro kk ls H' ⟨i,g2,hi,rfl,rfl,rfl⟩ j2 Ub;refine Nd ?_;refine sa (λhc=>?_) λhc=>?_;have wa:i<ys.length:=by have:=zt hc;omega
 have Hs:=qqG wa hyn;refine Af ?_;refine ca (xR (ad:=PE ys[i]) (cs:=[_,_]) rfl rfl zo (Hh _ _ _ wa) rfl rfl)<|za ?_;refine oS (yc λgG=>?_);refine za ?_;refine cD (m:=9) rfl [(gG,.cells 102 [str ys[i].1,int .i64 ys[i].2]),(tb,.cells 97 [Ea,int .i64 0,int .i64 o.scalars,.atom (.map (some sm)),.atom (.map (some am)),str []])]<|DG ?_;refine aT 6 rfl rfl (pF rfl)<|aT 7 rfl rfl (pL (c:=.atom _) rfl yb rfl)<|aL ?_ lA;refine lO 8 (lS (H1:=[(am,.map (Gd (wk (ys.take i))) g2)]) rfl (.inl rfl) rfl (show Ec _ _ _ from pT pu) lA (S.Uj (k:=ys[i].1) (lv:=int .i64 ys[i].2) rfl rfl rfl pH λNs=>?_));rw[Hs];refine lD zk ?_;refine Mh ?_;exact⟨_,_,_,by omega,⟨i+1,Ns,by omega,rfl,rfl,rfl⟩,Qa,Ab Ig (Ab Ig (Ab Ig (Ab pH (fe Ma)))),Ub⟩;have ae:i=ys.length:=by have:=zf hc;omega
 subst ae;rw[take_length];have UR:=λown ho=>ZG (P:=kg vars ba fs) hF own ho tb sm am g1 g2;rw[iE] at UR;have hW:=I6 hPc pg yB Vg;have M1:=zL (TE (kg vars ba fs) o)
 have FD:TE (kg vars ba fs) o=Lv vars ba fs o:=by unfold TE;rw[iE];rfl
 rw[FD] at hW M1;have ji:Ow (kg vars ba fs).vars ba (kg vars ba fs).funcs o=Ow vars ba fs o:=rfl;rw[iE,ji] at hW;have QF:=WK (Lv vars ba fs o);have VF:ud (kg vars ba fs).funcs=ud fs:=rfl;rw[VF] at hW;have Y0:Lv vars ba fs o=[[38,102,95,109,97,105,110],[58],decDigits o.scalars.toNat,[33],[36]]++(sg (Ow vars ba fs o) 0 fs).1:=by unfold Lv;rw[FC I2]
 have Ul:(Lv vars ba fs o).length=5+(sg (Ow vars ba fs o) 0 fs).1.length:=by rw[Y0,ua];rfl
 have cu:Ch ⟨tb,sm,am,uf o.scalars 0 sl,wk ys,g1,g2,o.scalars.toNat⟩ [] [] 0 [(tb,.cells 97 [Ea,int .i64 0,int .i64 o.scalars,.atom (.map (some sm)),.atom (.map (some am)),str []]),(sm,.map (Gd (uf o.scalars 0 sl)) g1),(am,.map (Gd (wk ys)) g2)]:=⟨Ea,[],Acc.nil,by
  simp only;rw[Int.toNat_of_nonneg I2];rfl⟩
 have y1:=yI (B0:=B0) (w0:=w0) hG (k:=⟨tb,sm,am,uf o.scalars 0 sl,wk ys,g1,g2,o.scalars.toNat⟩) (cc:=Ow vars ba fs o) (by show o.scalars.toNat<=_;omega) vars ba fs Vg (λf hf=>by
  obtain⟨kn,k1,k2⟩:=hV.Qw f hf;refine⟨?_,Ni f hf,λp hp=>by have:=br f hf p (List.mem_append_left _ hp);omega,pg f hf,_,U3 hV hf (br f hf) k2,k1⟩;have:=UR f.name (by have:=Ni f hf;omega);rw[<-JD,<-K0];exact this) (own0:=[]) (c0:=Ow vars ba fs o []) (by
  have:=UR [] ra;rw[<-JD,<-K0];exact this) _ cu zo
 rw[fN] at y1;refine ja ?_;refine oS (Zd (F:=[_,_]) [_,_] rfl R4 y1 λH2 h2=>?_);obtain⟨own,n,h2⟩:=h2;rw[<-Y0] at h2;generalize Lv vars ba fs o=W at *;obtain⟨v,Hv,Ta,rfl⟩:=h2;have j0:=Rk.xf (B0:=B0) (w0:=w0) [32] W zo zo;have Fz:=Rk.Uh (B0:=B0) (w0:=w0) hG hM (join W [32]) o.code zo;refine ia ?_;refine ca (pL (c:=v) rfl Hr rfl)<|ea.sub 87 rfl Ta.sub ?_;refine oS (sF [_,_] rfl j0 ?_);refine ia ?_
 cases hx:Ti (join W [32]) o.code with
 |error e=>
  rw[hx] at Fz hC;simp only at hC;subst hC;refine oS (sF [_,_] rfl Fz ?_);unfold Rk.Vp;refine ja ?_;have he:¬ (e.2:Int)=0:=by have h3:=hF.c1;have h4:=hF.c0;have:=R7 zo hx;omega
  refine sa (λ_=>?_) λhc=>?_;refine ia ?_;exact Na (Ub.trans hj) (rC (ib rfl) (va rfl)) rfl;have h2:(!decide ((e.2:Int)=0))=false:=hc;simp at h2
  omega
 |ok x=>rw[hx] at Fz hC;simp only at hC;subst hC;refine oS (sF [_,_] rfl Fz ?_);unfold Rk.Vp;refine ja ?_;refine oC rfl (λhc=>by cases hc) λ_=>?_;refine ia ?_;exact Na (Ub.trans hj) (rC (ib rfl) (va rfl)) rfl
end Go.Proofs.YtjolancjacdeaaaGreatDoor.DE
namespace Go.Proofs.YtjolancjacdeaaaGreatDoor.Nh
open Go.GL Go.RowKit Go.Ba
theorem Kw(p:Pr):Bt p=Zg.Bf p.vars (p.ba.map λa=>(a.name,(a.size:Int))) p.funcs:=by unfold Bt Zg.Bf;rw[map_map];rfl
attribute [local irreducible] ea Ga Ja aa Go.GL.Pure Bc Tc oc LQ Pa Td Lf LS
variable{B0:Nat}{w0:World}
end Go.Proofs.YtjolancjacdeaaaGreatDoor.Nh
namespace Go.Proofs.YtjolancjacdeaaaGreatDoor.Nh
open Go.GL Go.RowKit Go.Ba
@[reducible] def Same(v:LV)(H:Heap):Lc->Heap->Prop:=λr H'=>r=.ret v/\H'=H
section steps
variable{C:Ctx}{n:Nat}{e:Env}{H:Heap}{dst:Option Nat}{ty:TypeId}{la:String}{ma:Array Edge}{g:Option (Nat×Bool)}{K:LV->Heap->Prop}{X:List PanicEntry->Heap->Prop}
theorem Zk{rs:List ResultVar}{vs:List LV}{lv:LV}{H0:Heap}(hd:e.ds=[])(h:Eh C n e H rs vs)(hv:Ge vs=lv)(hH:HSub H0 H):oc C n rs (Same lv H0) .ret e H:=
 rR hd h hH ⟨by rw[hv],rfl⟩
end steps
theorem Aq(n:Int):IntKind.u32.wrap n=n % 4294967296:=by simp only[IntKind.wrap,IntKind.bits,IntKind.signed,Pg];rfl
theorem My{a:Int}{b:Nat}(h:a=b):int .u32 a=u32 b:=by rw[h]
section
variable{a b:Nat}
theorem IV(ha:a<4294967296)(hb:b<4294967296):IntKind.u32.wrap ((BitVec.ofInt IntKind.u32.bits a ^^^ BitVec.ofInt IntKind.u32.bits b).toNat:Nat)=((a ^^^ b:Nat):Int):=by
 rw[Aq,BitVec.toNat_xor];have h1:∀ n:Nat,n<4294967296->(BitVec.ofInt IntKind.u32.bits (n:Int)).toNat=n:=λn hn=>by rw[BitVec.ofInt_natCast,BitVec.toNat_ofNat];exact Nat.mod_eq_of_lt hn
 rw[h1 a ha,h1 b hb];have:a ^^^ b<4294967296:=Nat.xor_lt_two_pow (n:=32) ha hb;omega
end
section
variable{C:Ctx}{e:Env}{H:Heap}{dst:Option Nat}{ty:TypeId}{la:String}{ma:Array Edge}{g:Option (Nat×Bool)}{x:Operand}
end
theorem CO(n:Nat):IntKind.u8.wrap (n:Int)=((UInt8.ofNat n).toNat:Int):=by
 have h:IntKind.u8.wrap (n:Int)=(n:Int) % 256:=by simp only[IntKind.wrap,IntKind.bits,IntKind.signed,Pg];rfl
 rw[h];have h2:(UInt8.ofNat n).toNat=n % 256:=by simp
 rw[h2];omega
theorem xO{s:Nat}{v:LV}{es:List LV}{H F:Heap}(h:GL.Acc s v es H F):v.cells? = some [v]/\([v].all bj)=true:=by cases h <;> exact⟨rfl,rfl⟩
end Go.Proofs.YtjolancjacdeaaaGreatDoor.Nh
namespace Go.Proofs.YtjolancjacdeaaaGreatDoor.qK
open Go.GL Go.RowKit Go.Ba
open Nh (u32)
variable{el:Nat}
def us(l:List Nat):List LV:=l.map u32
theorem tv(l:List Nat):(us l).length=l.length:=Ua _
theorem fW(l:List Nat):∀ v∈us l,v.cells.length=1:=λv hv=>by obtain⟨a,_,rfl⟩:=vi hv;rfl
theorem JH:∀ l:List Nat,(us l).flatMap LV.cells=us l
 |[]=>rfl
 |a::l=>by show(u32 a::us l).flatMap LV.cells=u32 a::us l;rw[List.flatMap_cons,JH l];rfl
theorem Hy(l m:List Nat):us (l++m)=us l++us m:=Od
theorem FO{b m cap:Nat}{l:List Nat}{spare:List LV}(hm:l.length=m)(hc:m<=cap)(hl:m+spare.length=cap):jb el 1 (.slice (some ⟨b,0,none⟩) m cap) (us l) [(b,.cells el (us l++spare))]:=
 jb.pd (fW l) (JH l) (by rw[tv];exact hm) hc hl
theorem TK{s:Nat}{v:Value}{es:List LV}{H:Heap}(h:jb el s v es H):(LV.atom v).cells? = some [LV.atom v]/\([LV.atom v].all bj)=true:=by cases h <;> exact⟨rfl,rfl⟩
theorem s9{v:Value}{l:List Nat}{H:Heap}(h:jb el 1 v (us l) H)(eb:l≠[]):∃ b cap spare,v=.slice (some ⟨b,0,none⟩) l.length cap/\H=[(b,.cells el (us l++spare))]/\l.length<=cap/\l.length+spare.length=cap:=by obtain⟨b,cap,spare,h1,h2,h3,h4⟩:=h.addr (by intro e;exact eb (List.map_eq_nil_iff.1 e));rw[tv] at h1 h3 h4;rw[JH] at h2;exact⟨b,cap,spare,h1,h2,h3,by omega⟩
structure MF where
 mb:Nat
 vm:Value
 pc:Nat
 vc:Value
 we:List Nat
 vo:LV
 digit:Bool
 st:Nat
 stop:Bool
 bm:Nat
def MF.cells(f:MF)(vd:Value):List LV:=[.atom f.vm,u32 f.pc,.atom vd,.atom f.vc,.list (us f.we),f.vo,bool f.digit,int .i64 (f.st:Nat),bool f.stop,.atom (.map (some f.bm))]
def DH(f:MF)(data:List Nat)(H:Heap):Prop:=∃ vd HD,jb 33 1 vd (us data.reverse) HD/\H=(f.mb,.cells 62 (f.cells vd))::HD
def Mr:List PanicEntry:=[{ v:=.iface 116 (.agg #[]),recovered:=false }]
def GO(f:MF)(data:List Nat):Lc->Heap->Prop:=λr H=>match data with
 |[]=>r=.panic Mr/\DH f [] H
 |v::d=>r=.ret (u32 v)/\DH f d H
def vL(f:MF)(data:List Nat)(v:Nat):Lc->Heap->Prop:=λr H=>if data.length<256 then r=.ret (.tuple [])/\DH f (v::data) H else r=.panic Mr/\DH f data H
def IL(f:MF)(data:List Nat):Lc->Heap->Prop:=λr H=>match data with
 |[]=>r=.panic Mr/\DH f [] H
 |v::d=>if v<262144 then r=.ret (u32 v)/\DH f d H else r=.panic Mr/\DH f d H
attribute [local irreducible] ea Ga Ja aa Go.GL.Pure Bc Tc oc LQ Pa Td Lf LS
variable{B0:Nat}{w0:World}
theorem Cf(b:Bool):aa (KC B0 w0) 44 [bool b] [] (λr H'=>H'=[]/\r=if b=true then .ret (.tuple []) else .panic Mr):=by
 refine cJ Tryz.func44 (n:=6) ?_;refine ja ?_;refine sa (λhc=>?_) λhc=>?_;have hb:b=false:=by simpa using hc
 subst hb;refine ja ?_;refine oS (Ja.panic rfl λe' ya=>?_);exact oc.panic (ya.trans rfl) Ma ⟨rfl,rfl⟩;have hb:b=true:=by simpa using hc
 subst hb;refine oa ?_;exact rO rfl rN Ma ⟨rfl,rfl⟩
section
variable{B0:Nat}{w0:World}{e:Env}{H:Heap}{dst:Option Nat}{ty:TypeId}{la:String}{ma:Array Edge}{g:Option (Nat×Bool)}{K:LV->Heap->Prop}{X:List PanicEntry->Heap->Prop}
theorem S.check{b:Bool}{o:Operand}{xe:Array TypeId}(hx:e.ev o=bool b)(hk:b=true->K (.tuple []) H)(hn:b=false->X Mr H):Ja (KC B0 w0) ⟨dst,.call { callee:=.value (.func 44),args:=#[o],argTypes:=xe },ty,la,ma,g⟩ e H K X:=by
 refine S.Bb (H1:=[]) (F:=H) [o] (by simp only[Tb,List.map_nil,hx]) qb (Cf b) ?_ ?_;rintro v H' ⟨rfl,h⟩;cases b with
 |true=>cases h;exact hk rfl
 |false=>cases h
 rintro ch H' ⟨rfl,h⟩;cases b with
 |true=>cases h
 |false=>cases h;exact hn rfl
end
section
variable{B0:Nat}{w0:World}{f:MF}{data:List Nat}{H:Heap}
theorem g'(h:DH f data H)(hf:data.length<=256)(v:Nat):aa (KC B0 w0) 103 [ptr f.mb 0,u32 v] H (vL f data v):=by
 obtain⟨vd,HD,hm,rfl⟩:=h;have hl:(us data.reverse).length=data.length:=by rw[tv,length_reverse]
 unfold vL;refine cJ Tryz.func103 (n:=21) ?_;refine ia ?_;refine ca (Pure.qn rfl hm)<|oa ?_;refine oS (S.check rfl (λhb=>?_) λhb e' ya=>?_);have wa:data.length<256:=by have:=zt hb;omega
 simp only[zp wa];refine ia ?_;refine fh ?_;refine oS (S.Xl (HM:=HD) (F:=[_]) rfl (List.perm_append_singleton _ _).symm hm rfl (by simp;rfl) rfl (by simp;omega) λv' H' Wg=>?_);refine oa ?_;refine oS (sS (n:=1) (vs:=[LV.atom v']) (Ya:=[_,_,_,_,_,_,_,_,_,_]) rfl pH (TK Wg).1 rfl rfl (TK Wg).2 rfl ?_);refine ig ?_
 exact rO rfl rN Ma ⟨rfl,v',H',by
  rw[List.reverse_cons,Hy];exact Wg,rfl⟩
 have wa:¬ data.length<256:=by have:=zf hb;omega
 simp only[zn wa];refine zg ?_;exact oc.panic (ya.trans rfl) Ma ⟨rfl,vd,HD,hm,rfl⟩
theorem BW(h:DH f data H)(hf:data.length<=256):aa (KC B0 w0) 105 [ptr f.mb 0] H (GO f data):=by
 obtain⟨vd,HD,hm,rfl⟩:=h;have hl:(us data.reverse).length=data.length:=by rw[tv,length_reverse]
 unfold GO;refine cJ Tryz.func105 (n:=32) ?_;refine ia ?_;refine ca (Pure.qn rfl hm)<|ja ?_;cases data with
 |nil=>
  refine oS (S.check rfl (λhb=>?_) λhb e' ya=>?_);cases hb;refine zg ?_
  exact oc.panic (ya.trans rfl) Ma ⟨rfl,vd,HD,hm,rfl⟩
 |cons a r=>
  refine oS (S.check rfl (λhb=>?_) λhb=>?_);rotate_left;have:=zf hb;rw[hl,Oa] at this;omega;obtain⟨b,cap,spare,rfl,rfl,hc,Kc⟩:=s9 hm (by rw[List.reverse_cons];simp);rw[List.reverse_cons,Hy,Xc] at *;rw[ua,length_reverse,List.length_singleton] at hc Kc;have ld:(us r.reverse).length=r.length:=by rw[tv,length_reverse]
  have nr:(r.reverse++[a]).length=r.length+1:=by simp
  rw[Oa] at hl hf;refine ja ?_;refine ca (Pure.vb (o:=r.length) rfl rfl zo zo zo)<|ca (pL (c:=u32 a) rfl Ff (by rw[List.getElem?_append_right zo,ld,Nat.sub_self];rfl)) ?_;refine ja ?_;refine ca (Pure.mh (n:=r.length) rfl (by exact bf zo) zo)<|ja ?_;exact rR rfl (va rfl) Ma ⟨rfl,_,_,FO (l:=r.reverse) (spare:=us [a]++spare) (by rw[length_reverse]) zo (by rw[ua,tv];simp only[List.length_singleton];omega),rfl⟩
theorem dR(h:DH f data H)(hf:data.length<=256):aa (KC B0 w0) 104 [ptr f.mb 0] H (IL f data):=by
 have hp:=BW (B0:=B0) (w0:=w0) h hf;unfold GO at hp;unfold IL;refine cJ Tryz.func104 (n:=10) ?_;refine fg ?_;cases data with
 |nil=>refine oS (S.Bb (H1:=H) (F:=[]) [_] rfl (by rw[Qb]) hp ?_ ?_);rintro v H' ⟨h1,_⟩;cases h1;rintro ch H' ⟨h1,h2⟩ e' ya;cases h1;refine zg ?_;exact oc.panic (ya.trans rfl) Ma ⟨rfl,by rw[Qb];exact h2⟩
 |cons a r=>
  refine oS (S.Bb (H1:=H) (F:=[]) [_] rfl (by rw[Qb]) hp ?_ ?_);rotate_left;rintro ch H' ⟨h1,_⟩;cases h1;rintro v H' ⟨h1,h2⟩;cases h1;rw[Qb];refine ia ?_;refine oS (S.check rfl (λhb=>?_) λhb e' ya=>?_);have wa:a<262144:=by have:(a:Int)<262144:=zt hb;omega
  simp only[zp wa];refine ia ?_;exact rR rfl (va rfl) Ma ⟨rfl,h2⟩;have wa:¬ a<262144:=by have:¬ (a:Int)<262144:=zf hb;omega
  simp only[zn wa];refine zg ?_;exact oc.panic (ya.trans rfl) Ma ⟨rfl,h2⟩
end
open Nh (u32 Same Zk Aq My IV)
variable{c:Nat}
def Ii(f:Nat->Nat):List LV:=(List.range 262144).map λi=>u32 (f i)
theorem VH(f:Nat->Nat):(Ii f).length=262144:=by unfold Ii;rw[Ua,List.length_range]
theorem NH(f:Nat->Nat){a:Nat}(h:a<262144):(Ii f)[a]? = some (u32 (f a)):=by unfold Ii;rw[List.getElem?_map,List.getElem?_range h];rfl
theorem DX(l:List LV):Zc l 0 []=l:=by cases l <;> rfl
theorem FL:∀ (l:List LV) (a:Nat) (v:LV),Zc l a [v]=l.set a v
 |[],a,v=>by cases a <;> rfl
 |x::xs,0,v=>by show v::Zc xs 0 []=_;rw[DX];rfl
 |x::xs,a+1,v=>by show x::Zc xs a [v]=_;rw[FL xs a v];rfl
theorem yP(f:Nat->Nat)(a v:Nat):Zc (Ii f) a [u32 v]=Ii (λi=>if i=a then v else f i):=by
 rw[FL];refine List.ext_getElem? λi=>?_;rw[List.getElem?_set,VH]
 by_cases h2:i<262144;rw[NH (λi=>if i=a then v else f i) h2,NH f h2];by_cases h:a=i;subst h;simp[h2];have h3:¬ i=a:=λe=>h e.symm;simp[h,h3];have n1:∀ f,(Ii f)[i]? = none:=λf=>List.getElem?_eq_none (by rw[VH];omega);rw[n1 f,n1 (λi=>if i=a then v else f i)]
 by_cases h:a=i;subst h;simp[h2];simp[h]
theorem lY:List.replicate 262144 (LV.atom (.int .u32 0))=Ii (λ_=>0):=by unfold Ii;rw[List.map_const',List.length_range];rfl
attribute [irreducible] Ii
theorem l5{s s':MS}(h:Qi c s=.run s')(hc:Po c=true):s'.data≠[]:=by unfold Qi at h;rw[zp hc] at h;unfold jC at h;split at h;split at h;exact uo;cases h;unfold um at h;split at h;exact uo;cases h
def BB(k:Int)(f:FuncId)(n:Nat):MapEntry:={ key:=.int .u32 k,val:=.func (.func f) #[] #[],born:=n }
def rH:Array MapEntry:=#[BB 43 40 0,BB 45 41 1,BB 42 42 2,BB 47 43 3,BB 37 45 4,BB 94 46 5,BB 60 47 6]
theorem W8(h:¬ (c=43∨c=45∨c=42∨c=47∨c=37∨c=94∨c=60)):Instr.findNow (.int .u32) (.int .u32 (c:Int)) rH.toList 0=some none:=by
 have key:∀ k:Nat,c≠k->((c:Int) == (k:Int))=false:=λk hk=>by rw[beq_eq_false_iff_ne];omega
 have k1:=key 43 zo;have k2:=key 45 zo;have k3:=key 42 zo;have k4:=key 47 zo;have k5:=key 37 zo;have k6:=key 94 zo;have k7:=key 60 zo;simp only[rH,BB,Instr.findNow,Instr.sameNow,if_true];simp only[Int.cast_ofNat_Int] at k1 k2 k3 k4 k5 k6 k7;simp only[k1,k2,k3,k4,k5,k6,k7]
def aC(o:Option Nat):Lc:=match o with
 |some v=>.ret (u32 v)
 |none=>.panic Mr
section
variable{B0:Nat}{w0:World}{H:Heap}{a b:Nat}
theorem PZ:aa (KC B0 w0) 17 [] [] (λr H=>∃ om,r=.ret (.atom (.map (some om)))/\H=[(om,.obj (.map rH 7))]):=by refine cJ Tryz.func17 (n:=3) ?_;refine Xj ?_;refine oS (S.makeMap λom=>?_);refine C3 ?_;refine oN ?_;refine oS (S.Pf (kt:=33) (el:=113) (kd:=.u32) zk zk rfl rfl rfl pH rfl rfl ?_);refine oa ?_;exact rR rfl (va rfl) Ma ⟨om,rfl,rfl⟩
theorem X6(ha:a<4294967296)(hb:b<4294967296):aa (KC B0 w0) 40 [u32 a,u32 b] H (Same (u32 ((a+b) % 4294967296)) H):=by refine cJ Tryz.func40 (n:=8) ?_;refine fg ?_;refine ca (Pure.Tw rfl rfl)<|qh ?_;exact Zk rfl (va rfl) (My (by rw[Aq];omega)) Ma
theorem N6(ha:a<4294967296)(hb:b<4294967296):aa (KC B0 w0) 41 [u32 a,u32 b] H (Same (u32 ((a+4294967296-b) % 4294967296)) H):=by refine cJ Tryz.func41 (n:=8) ?_;refine fg ?_;refine ca (Pure.Zu rfl rfl)<|qh ?_;exact Zk rfl (va rfl) (My (by rw[Aq];omega)) Ma
theorem Y4(ha:a<4294967296)(hb:b<4294967296):aa (KC B0 w0) 42 [u32 a,u32 b] H (Same (u32 (a * b % 4294967296)) H):=by refine cJ Tryz.func42 (n:=8) ?_;refine fg ?_;refine ca (Pure.pD rfl rfl)<|qh ?_;exact Zk rfl (va rfl) (My (by rw[Aq,<-Int.natCast_mul];generalize a * b=q;omega)) Ma
theorem y5(ha:a<4294967296)(hb:b<4294967296):aa (KC B0 w0) 46 [u32 a,u32 b] H (Same (u32 (a ^^^ b)) H):=by refine cJ Tryz.func46 (n:=8) ?_;refine fg ?_;refine ca (Pure.SG rfl rfl)<|qh ?_;exact Zk rfl (va rfl) (My (IV ha hb)) Ma
theorem Z4:aa (KC B0 w0) 47 [u32 a,u32 b] H (Same (u32 (if a<b then 1 else 0)) H):=by
 refine cJ Tryz.func47 (n:=8) ?_;refine ia ?_;refine sa (λhc=>?_) λhc=>?_;have h1:a<b:=by have:=zt hc;omega
 refine Oe ?_;exact Zk rfl (va rfl) (by rw[zp h1];rfl) Ma;have h1:¬ a<b:=by have:=zf hc;omega
 refine ia ?_;exact Zk rfl (va rfl) (by rw[zn h1];rfl) Ma
theorem x6(ha:a<4294967296):aa (KC B0 w0) 43 [u32 a,u32 b] H (λr H'=>H'=H/\r=aC (if b=0 then none else some (a / b))):=by refine cJ Tryz.func43 (n:=11) ?_;refine ja ?_;by_cases h0:b=0;refine oS (S.check rfl (λhb=>?_) λhb e' ya=>?_);simp[h0] at hb;refine zg ?_;exact oc.panic (ya.trans rfl) Ma ⟨rfl,by rw[zp h0];rfl⟩;refine oS (S.check rfl (λhb=>?_) λhb e' ya=>?_);rotate_left;simp[h0] at hb;refine qg ?_;refine ca (Pure.kH rfl rfl zo)<|qh ?_;refine rR rfl (va rfl) Ma ⟨rfl,?_⟩;rw[zn h0];exact congrArg Lc.ret (My (by rw[Aq,Int.tdiv_eq_ediv_of_nonneg zo,<-Int.natCast_ediv];have hq:a / b<4294967296:=Nat.lt_of_le_of_lt (Nat.div_le_self a b) ha;generalize a / b=q at hq ⊢;omega))
theorem D5(ha:a<4294967296):aa (KC B0 w0) 45 [u32 a,u32 b] H (λr H'=>H'=H/\r=aC (if b=0 then none else some (a % b))):=by refine cJ Tryz.func45 (n:=11) ?_;refine ja ?_;by_cases h0:b=0;refine oS (S.check rfl (λhb=>?_) λhb e' ya=>?_);simp[h0] at hb;refine zg ?_;exact oc.panic (ya.trans rfl) Ma ⟨rfl,by rw[zp h0];rfl⟩;refine oS (S.check rfl (λhb=>?_) λhb e' ya=>?_);rotate_left;simp[h0] at hb;refine qg ?_;refine ca (Pure.iH rfl rfl zo)<|qh ?_;refine rR rfl (va rfl) Ma ⟨rfl,?_⟩;rw[zn h0];exact congrArg Lc.ret (My (by rw[Int.tmod_eq_emod_of_nonneg zo,<-Int.natCast_emod]))
theorem fY(hc:c=43∨c=45∨c=42∨c=47∨c=37∨c=94∨c=60)(ha:a<4294967296)(hb:b<4294967296):∃ (j:Nat) (f:FuncId),Instr.findNow (.int .u32) (.int .u32 (c:Int)) rH.toList 0=some (some (j,.func (.func f) #[] #[]))/\fb Tryz.prog f /\
  ∀ H,aa (KC B0 w0) f [u32 a,u32 b] H (λr H'=>H'=H/\r=aC (zr c a b)):=by
 rcases hc with rfl|rfl|rfl|rfl|rfl|rfl|rfl;exact⟨0,40,rfl,inferInstance,λH=>aa.mono (X6 ha hb) λr H' ⟨h1,h2⟩=>⟨h2,h1⟩⟩;exact⟨1,41,rfl,inferInstance,λH=>aa.mono (N6 ha hb) λr H' ⟨h1,h2⟩=>⟨h2,h1⟩⟩;exact⟨2,42,rfl,inferInstance,λH=>aa.mono (Y4 ha hb) λr H' ⟨h1,h2⟩=>⟨h2,h1⟩⟩;exact⟨3,43,rfl,inferInstance,λH=>x6 ha⟩;exact⟨4,45,rfl,inferInstance,λH=>D5 ha⟩;exact⟨5,46,rfl,inferInstance,λH=>aa.mono (y5 ha hb) λr H' ⟨h1,h2⟩=>⟨h2,h1⟩⟩;exact⟨6,47,rfl,inferInstance,λH=>aa.mono (Z4) λr H' ⟨h1,h2⟩=>⟨h2,h1⟩⟩
end
end Go.Proofs.YtjolancjacdeaaaGreatDoor.qK
