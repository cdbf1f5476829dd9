import Derived.Test.YtkihibnffkpnkaaGreatDoorBRowLR12
set_option linter.unusedVariables false
set_option linter.unusedSimpArgs false
set_option maxRecDepth 100000
set_option maxHeartbeats 4000000
open Go.GL (zk)
open List (cons_append mem_append_right take_succ_eq_append_getElem take_length getElem_mem sum_cons length_take map_map length_reverse)
open Nat (zero_le)
namespace Go.Proofs.YtkihibnffkpnkaaGreatDoor.Cmp
open Go.GL Go.RowKit Go.Stele
open Go.Lib (decDigits itoa join)
theorem qiS(c:CC):exWl c []=[]:=by rw[exWl]
theorem qfz(c:CC)(x:Ex)(l:List Ex):exWl c (x::l)=exW c x::exWl c l:=by rw[exWl]
theorem qwt{env:CEnv}{op name:Nm}{args:List Ex}(h:qbw op = -1∨qbw op=args.length)(ho:qbw op=1):∃ x,args=[x]:=by
 have:args.length=1:=by omega
 exact List.length_eq_one_iff.1 this
theorem quH{op:Nm}{args:List Ex}(h:qbw op = -1∨qbw op=args.length)(ho:qbw op=2):∃ x y,args=[x,y]:=by
 have h2:args.length=2:=by omega
 match args,h2 with
 |[x,y],_=>exact⟨x,y,rfl⟩
def binW(c:CC)(op:Nm):List Wd:=if op=[62] then qa0 c else if op=[60,61] then qa0 c++[[49],[94]] else if op=[62,61] then [[60],[49],[94]] else if op=[61,61] then [[94],[49],[60]] else [op]
def twoW(c:CC)(op:Nm)(X Y:List Wd):List Wd:=
 if op=[33,61] then [[48]]++X++[]++Y++[[94],[60]]
 else if op=[38,38] then [[48]]++X++[[60],[48]]++Y++[[60],[42]]
 else if op=[124,124] then [[48],[48]]++X++[[60],[48]]++Y++[[60],[43],[60]]
 else []++X++[]++Y++binW c op
theorem qv2(c:CC){op:Nm}(num:Nat)(name:Nm)(x y:Ex)(h1:op≠nNum)(h2:op≠nVar)(h3:op≠qeh)(h4:op≠qbB)(h5:op≠nNeg)(h6:op≠nNot):exW c (.mk op num name [x,y])=twoW c op (exW c x) (exW c y):=by
 rw[exW,qfz,qfz,qiS];unfold opW twoW binW;rw[zn h1,zn h2,zn h3,zn h4,zn h5,zn h6];simp only[List.headD_cons,List.drop_one,List.tail_cons,List.nil_append,zLz,zAs,cons_append,List.singleton_append]
attribute [local irreducible] LOps qag qae LCalls Go.GL.Pure qaz qam qad LQ LAny qaI qan LS
section
variable{B0:Nat}{w0:World}
theorem qgC(hG:GW B0 w0){k:TB}{own:Nm}{c:CC}(hk:TBok k c own){env:CEnv}{m:Nat}(ih:qnv B0 w0 k own c env m)(op:Nm)(num:Nat)(name:Nm)(x y:Ex)(ws:List Wd)(n:Nat)(H:Heap)(hx:ndE x<=m)(hy:ndE y<=m)(nx:numE x)(ny:numE y)(ex:errE env x=0)(ey:errE env y=0)(h:TrH k own ws n H)
  (hr:ws.length+(twoW c op (exW c x) (exW c y)).length<=1000000000) :
  LCalls (KC B0 w0) 206 [ptr k.tb 0,encE (.mk op num name [x,y])] H (qhV (TrH k own (ws++twoW c op (exW c x) (exW c y)) n)):=by
 rw[qd5];generalize hW:twoW c op (exW c x) (exW c y)=W at hr ⊢;unfold twoW at hW;refine zcI Tryz.func206 rfl (n:=64) rfl rfl rfl ?_;refine gah ?_;refine oS (zsB rfl λb2=>oS (zsB rfl λb3=>?_) rfl) rfl;refine LOps.weak (H':=(b2,.cells 129 [ptr k.tb 0])::exB b3 op num name [x,y]::H) ⟨[],by rw[zLz];exact List.Perm.swap _ _ _⟩ ?_;refine gaa ?_;have hBT:=λ(A B:List Wd) {a b:LV} (ha:GL.elems a=some (A.map str)) (hb:GL.elems b=some (B.map str)) hr=>qm2 (B0:=B0) (w0:=w0) ih b2 b3 op num name x y ws n H hx hy nx ny ex ey h A B ha hb hr
 by_cases h1:op=[33,61]
 rw[zp h1] at hW;refine zoC rfl (λ_=>?_) (λhc=>absurd h1 (zf hc));refine gag ?_;refine zQ11 ?_;refine oS (S.callTV (f:=241) (F:=[]) [_,_] rfl rfl qnB (hBT [[48]] [] rfl rfl (by rw[<-hW] at hr;simp only[zLa] at hr ⊢;omega)) ?_) rfl;rintro H1 ⟨H2,rfl,h2⟩;refine gac ?_;refine zQ5 ?_;refine oS (zsT (H1:=H2) (F:=[_,_]) [_,_] rfl qew (qaC h2 [[94],[60]] rfl (by rw[<-hW] at hr;simp only[zLa] at hr ⊢;omega)) λH3 h3=>?_) rfl;refine gab ?_;exact rR rfl rN qiw ⟨rfl,by rw[<-hW];simp only[zAs] at h3 ⊢;exact h3⟩;rw[zn h1] at hW;refine zoC rfl (λhc=>absurd (zt hc) h1) (λ_=>?_);refine gas ?_
 by_cases h2:op=[38,38]
 rw[zp h2] at hW;refine zoC rfl (λ_=>?_) (λhc=>absurd h2 (zf hc));refine gag ?_;refine zQ11 ?_;refine zQ5 ?_;refine oS (S.callTV (f:=241) (F:=[]) [_,_] rfl rfl qnB (hBT [[48]] [[60],[48]] rfl rfl (by rw[<-hW] at hr;simp only[zLa] at hr ⊢;omega)) ?_) rfl;rintro H1 ⟨H2,rfl,h2⟩;refine gac ?_;refine zQ5 ?_;refine oS (zsT (H1:=H2) (F:=[_,_]) [_,_] rfl qew (qaC h2 [[60],[42]] rfl (by rw[<-hW] at hr;simp only[zLa] at hr ⊢;omega)) λH3 h3=>?_) rfl;refine gab ?_;exact rR rfl rN qiw ⟨rfl,by rw[<-hW];simp only[zAs] at h3 ⊢;exact h3⟩;rw[zn h2] at hW;refine zoC rfl (λhc=>absurd (zt hc) h2) (λ_=>?_);refine gas ?_
 by_cases h3:op=[124,124]
 rw[zp h3] at hW;refine zoC rfl (λ_=>?_) (λhc=>absurd h3 (zf hc));refine gag ?_;refine zQ5 ?_;refine zQ5 ?_;refine oS (S.callTV (f:=241) (F:=[]) [_,_] rfl rfl qnB (hBT [[48],[48]] [[60],[48]] rfl rfl (by rw[<-hW] at hr;simp only[zLa] at hr ⊢;omega)) ?_) rfl;rintro H1 ⟨H2,rfl,h2⟩;refine zQ53 ?_;refine oS (zsT (H1:=H2) (F:=[_,_]) [_,_] rfl qew (qaC h2 [[60],[43],[60]] rfl (by rw[<-hW] at hr;simp only[zLa] at hr ⊢;omega)) λH3 h3=>?_) rfl;refine gab ?_;exact rR rfl rN qiw ⟨rfl,by rw[<-hW];simp only[zAs] at h3 ⊢;exact h3⟩;rw[zn h3] at hW;refine zoC rfl (λhc=>absurd (zt hc) h3) (λ_=>?_);refine gac ?_;refine oS (S.callTV (f:=241) (F:=[]) [_,_] rfl rfl qnB (hBT [] [] rfl rfl (by rw[<-hW] at hr;simp only[zLa] at hr ⊢;omega)) ?_) rfl;rintro H1 ⟨H2,rfl,h2⟩;generalize hX:ws++([]++exW c x++[]++exW c y)=wx at h2;have hW2:wx++binW c op=ws++W:=by rw[<-hW,<-hX];simp only[zAs]
 have hlw:=congrArg List.length hW2;rw[zLa,zLa] at hlw;unfold binW at hW2 hlw;refine gaa ?_
 by_cases g1:op=[62]
 rw[zp g1] at hW2 hlw;refine zoC rfl (λ_=>?_) (λhc=>absurd g1 (zf hc));refine gac ?_;refine oS (zsT (H1:=H2) (F:=[_,_]) [_] rfl qew (qig hG hk h2 zo) λH3 h3=>?_) rfl;refine gab ?_;exact rO rfl rN qiw ⟨rfl,by rw[<-hW2];exact h3⟩;rw[zn g1] at hW2 hlw;refine zoC rfl (λhc=>absurd (zt hc) g1) (λ_=>?_);refine gas ?_
 by_cases g2:op=[60,61]
 rw[zp g2] at hW2 hlw;rw[zLa] at hlw;refine zoC rfl (λ_=>?_) (λhc=>absurd g2 (zf hc));refine gac ?_;refine oS (zsT (H1:=H2) (F:=[_,_]) [_] rfl qew (qig hG hk h2 zo) λH3 h3=>?_) rfl;refine gac ?_;refine zQ5 ?_;refine oS (zsT (H1:=H3) (F:=[_,_]) [_,_] rfl qew (qaC h3 [[49],[94]] rfl (by rw[zLa];omega)) λH4 h4=>?_) rfl;refine gab ?_;exact rO rfl rN qiw ⟨rfl,by rw[<-hW2,<-zAs];exact h4⟩;rw[zn g2] at hW2 hlw;refine zoC rfl (λhc=>absurd (zt hc) g2) (λ_=>?_);refine gas ?_
 by_cases g3:op=[62,61]
 rw[zp g3] at hW2 hlw;refine zoC rfl (λ_=>?_) (λhc=>absurd g3 (zf hc));refine zQ53 ?_;refine oS (zsT (H1:=H2) (F:=[_,_]) [_,_] rfl qew (qaC h2 [[60],[49],[94]] rfl zo) λH3 h3=>?_) rfl;refine gab ?_;exact rO rfl rN qiw ⟨rfl,by rw[<-hW2];exact h3⟩;rw[zn g3] at hW2 hlw;refine zoC rfl (λhc=>absurd (zt hc) g3) (λ_=>?_);refine gas ?_
 by_cases g4:op=[61,61]
 rw[zp g4] at hW2 hlw;refine zoC rfl (λ_=>?_) (λhc=>absurd g4 (zf hc));refine zQ53 ?_;refine oS (zsT (H1:=H2) (F:=[_,_]) [_,_] rfl qew (qaC h2 [[94],[49],[60]] rfl zo) λH3 h3=>?_) rfl;refine gab ?_;exact rO rfl rN qiw ⟨rfl,by rw[<-hW2];exact h3⟩;rw[zn g4] at hW2 hlw;refine zoC rfl (λhc=>absurd (zt hc) g4) (λ_=>?_);refine gaa ?_;refine zQ11 ?_;refine oS (zsT (H1:=H2) (F:=[_,_]) [_,_] rfl qew (qaC h2 [op] rfl zo) λH3 h3=>?_) rfl;refine gab ?_;exact rO rfl rN qiw ⟨rfl,by rw[<-hW2];exact h3⟩
theorem qec(hG:GW B0 w0){k:TB}{own:Nm}{c:CC}(hk:TBok k c own){env:CEnv}(hE:EnvOk env):∀ m:Nat,m<=2000000->qnv B0 w0 k own c env m
 |0,_=>λx ws n H h=>by have:=qlw x;omega
 |m+1,hm6=>by
  have ih:=qec hG hk hE m zo;intro x ws n H hnd hnum herr h hr;obtain⟨op,num,name,args⟩:=x;rw[ndE] at hnd;rw[numE] at hnum;obtain⟨hnum,hna⟩:=hnum;have hal:=qf9 args;have hall:(args.map encE).length=args.length:=zLm _;rw[errE] at herr
  by_cases hop:qbw op = -1∨qbw op=args.length
  rotate_left;rw[zn hop] at herr;cases herr;rw[zp hop] at herr;obtain⟨he1,he2⟩:=qah.1 herr;have hW:exW c (Ex.mk op num name args)=opW c op num name (exWl c args):=by rw[exW]
  have hone:qbw op=1->∃ x,args=[x]:=λh1=>qwt (env:=env) (name:=name) hop h1;rw[qd5];refine zcI Tryz.func178 rfl (n:=98) rfl rfl rfl ?_;refine gah ?_;refine oS (zsB rfl λb3=>?_) rfl;refine gac ?_
  by_cases h1:op=[110,117,109]
  have hW1:exW c (Ex.mk op num name args)=[decDigits num]:=by rw[hW];subst h1;rfl
  rw[hW1] at hr ⊢;refine zoC rfl (λ_=>?_) (λhc=>absurd h1 (zf hc));refine gaa ?_;refine oS (sF [_,_] (by show [int .u64 (IntKind.u64.wrap (num:Int)),_]=[int .u64 (num:Nat),int .i64 10];rw[qsF hnum];rfl) (fmtUint_spec hG num (by have:num<4294967296:=hnum;omega)) ?_) rfl;refine zQ11 ?_;refine oS (zsT (H1:=H) (F:=[_]) [_,_] rfl qa7 (qaC h [decDigits num] rfl hr) λH2 h2=>?_) rfl;refine gab ?_;exact rO rfl rN qcz ⟨rfl,h2⟩;refine zoC rfl (λhc=>absurd (zt hc) h1) (λ_=>?_);refine gas ?_
  by_cases h2:op=[118,97,114]
  have hW1:exW c (Ex.mk op num name args)=[c.sc name,[64]]:=by rw[hW];subst h2;rfl
  have hsc:qcg env name=0:=by rw[<-he2];subst h2;rfl
  have hnl:=hE.sc name hsc;rw[hW1] at hr ⊢;refine zoC rfl (λ_=>?_) (λhc=>absurd h2 (zf hc));refine gac ?_;refine oS (S.callS (H1:=H) (F:=[_]) [_,_] rfl qa7 (qde hG hk h name zo) λH2 h2=>?_) rfl;refine zQ5 ?_;refine oS (zsT (H1:=H2) (F:=[_]) [_,_] rfl qa7 (qaC h2 [c.sc name,[64]] rfl hr) λH3 h3=>?_) rfl;refine gab ?_;exact rO rfl rN qcz ⟨rfl,h3⟩;refine zoC rfl (λhc=>absurd (zt hc) h2) (λ_=>?_);refine gas ?_
  by_cases h3:op=[101,108,101,109]
  obtain⟨x,rfl⟩:=hone (by subst h3;rfl);have hW1:exW c (Ex.mk op num name [x])=[c.ar name]++(exW c x++[[43],[64]]):=by rw[hW,qfz,qiS];subst h3;rfl
  rw[hW1] at hr ⊢;simp only[zLa,zLc,zLn] at hr;rw[qbs] at he1;rw[qcX] at hna;rw[ndEs] at hnd;have hex:=(qah.1 he1).1;obtain⟨a,ha1,ha2,ha3⟩:=hk.ar name;refine zoC rfl (λ_=>?_) (λhc=>absurd h3 (zf hc));refine gab ?_;have h0:=h;obtain⟨v,Hv,hacc,rfl⟩:=h;refine cD (m:=11) rfl [exB b3 op num name [x]]<|zQ38 ?_;refine aL ?_ zhp;refine lO 4 (lH rfl rfl (pL (c:=.atom _) rfl zm1 rfl) ?_);refine lO 7 (lH rfl rfl (Pure.kvOr rfl rfl zm3 ha3) ?_);refine lO 8 (lS (H1:=[]) rfl (.inl rfl) rfl zpr zhp (sF [_] rfl (qdr hG a zo) ?_));rw[<-ha2];refine lO 9 (lS (H1:=[]) rfl (.inl rfl) rfl zpr zhp (sL [_] rfl (qaY [_]) rfl rfl rfl ?_));refine lO 10 (lS (F:=[exB b3 op num name [x]]) rfl (.inl rfl) rfl qa7 zhr (qae.callT [_,_] rfl (qaC h0 [c.ar name] rfl (by simp only[zLc,zLn];omega)) λH2 h2=>?_));refine lD zk ?_;refine qN ?_;refine cW qoA ?_;refine zQ10 ?_;refine oS (zsT (H1:=H2) (F:=[_]) [_,_] rfl qa7 (ih x _ n H2 zo hna.1 hex h2 (by simp only[zLa,zLc,zLn];omega)) λH3 h3=>?_) rfl;refine gam ?_;refine zQ5 ?_;refine oS (zsT (H1:=H3) (F:=[_]) [_,_] rfl qa7 (qaC h3 [[43],[64]] rfl (by simp only[zLa,zLc,zLn];omega)) λH4 h4=>?_) rfl;refine gab ?_;exact rO rfl rN qcz ⟨rfl,by rw[zAs,zAs] at h4;exact h4⟩;refine zoC rfl (λhc=>absurd (zt hc) h3) (λ_=>?_);refine gas ?_
  by_cases h4:op=[99,97,108,108]
  have hcl:callE env name args.length=0:=by rw[<-he2];subst h4;rfl
  have hnl:=hE.call hcl;have hW1:exW c (Ex.mk op num name args)=(exWl c args).flatten++(if name=[105,110] then [[44]] else if name=[111,117,116] then [[46],[48]] else [[38,102,95]++name,[58]]):=by rw[hW];subst h4;rfl
  rw[hW1] at hr ⊢;rw[zLa] at hr;refine zoC rfl (λ_=>?_) (λhc=>absurd h4 (zf hc));refine gaa ?_;refine oS (zsT (H1:=H) (F:=[_]) [_,_] rfl qa7 (qln ih args ws n H zo zo hna he1 h zo) λH2 h2=>?_) rfl;rw[<-zAs];generalize hX:ws++(exWl c args).flatten=wx at h2 ⊢;have hlx:=congrArg List.length hX;rw[zLa] at hlx;refine gac ?_
  by_cases g1:name=[105,110]
  rw[zp g1] at hr ⊢;refine zoC rfl (λ_=>?_) (λhc=>absurd g1 (zf hc));refine gag ?_;refine zQ11 ?_;refine oS (zsT (H1:=H2) (F:=[_]) [_,_] rfl qa7 (qaC h2 [[44]] rfl zo) λH3 h3=>?_) rfl;refine gab ?_;exact rO rfl rN qcz ⟨rfl,h3⟩;rw[zn g1] at hr ⊢;refine zoC rfl (λhc=>absurd (zt hc) g1) (λ_=>?_);refine gas ?_
  by_cases g2:name=[111,117,116]
  rw[zp g2] at hr ⊢;refine zoC rfl (λ_=>?_) (λhc=>absurd g2 (zf hc));refine gag ?_;refine zQ5 ?_;refine oS (zsT (H1:=H2) (F:=[_]) [_,_] rfl qa7 (qaC h2 [[46],[48]] rfl zo) λH3 h3=>?_) rfl;refine gab ?_;exact rO rfl rN qcz ⟨rfl,h3⟩;rw[zn g2] at hr ⊢;refine zoC rfl (λhc=>absurd (zt hc) g2) (λ_=>?_);refine gaa ?_;refine zQ5 ?_;refine oS (zsT (H1:=H2) (F:=[_]) [_,_] rfl qa7 (qaC h2 [[38,102,95]++name,[58]] rfl zo) λH3 h3=>?_) rfl;refine gab ?_;exact rO rfl rN qcz ⟨rfl,h3⟩;refine zoC rfl (λhc=>absurd (zt hc) h4) (λ_=>?_);refine gas ?_
  by_cases h5:op=[110,101,103]
  obtain⟨x,rfl⟩:=hone (by subst h5;rfl);have hW1:exW c (Ex.mk op num name [x])=[[48]]++(exW c x++[[45]]):=by rw[hW,qfz,qiS];subst h5;rfl
  rw[hW1] at hr ⊢;simp only[zLa,zLc,zLn] at hr;rw[qbs] at he1;rw[qcX] at hna;rw[ndEs] at hnd;have hex:=(qah.1 he1).1;refine zoC rfl (λ_=>?_) (λhc=>absurd h5 (zf hc));refine gag ?_;refine zQ11 ?_;refine oS (zsT (H1:=H) (F:=[_]) [_,_] rfl qa7 (qaC h [[48]] rfl (by simp only[zLc,zLn];omega)) λH2 h2=>?_) rfl;refine zQ10 ?_;refine oS (zsT (H1:=H2) (F:=[_]) [_,_] rfl qa7 (ih x _ n H2 zo hna.1 hex h2 (by simp only[zLa,zLc,zLn];omega)) λH3 h3=>?_) rfl;refine gam ?_;refine zQ11 ?_;refine oS (zsT (H1:=H3) (F:=[_]) [_,_] rfl qa7 (qaC h3 [[45]] rfl (by simp only[zLa,zLc,zLn];omega)) λH4 h4=>?_) rfl;refine gab ?_;exact rO rfl rN qcz ⟨rfl,by rw[zAs,zAs] at h4;exact h4⟩;refine zoC rfl (λhc=>absurd (zt hc) h5) (λ_=>?_);refine gas ?_
  by_cases h6:op=[110,111,116]
  obtain⟨x,rfl⟩:=hone (by subst h6;rfl);have hW1:exW c (Ex.mk op num name [x])=exW c x++[[49],[60]]:=by rw[hW,qfz,qiS];subst h6;rfl
  rw[hW1] at hr ⊢;simp only[zLa,zLc,zLn] at hr;rw[qbs] at he1;rw[qcX] at hna;rw[ndEs] at hnd;have hex:=(qah.1 he1).1;refine zoC rfl (λ_=>?_) (λhc=>absurd h6 (zf hc));refine zQ10 ?_;refine oS (zsT (H1:=H) (F:=[_]) [_,_] rfl qa7 (ih x _ n H zo hna.1 hex h zo) λH3 h3=>?_) rfl;refine gam ?_;refine zQ5 ?_;refine oS (zsT (H1:=H3) (F:=[_]) [_,_] rfl qa7 (qaC h3 [[49],[60]] rfl (by simp only[zLa,zLc,zLn];omega)) λH4 h4=>?_) rfl;refine gab ?_;exact rO rfl rN qcz ⟨rfl,by rw[zAs] at h4;exact h4⟩;refine zoC rfl (λhc=>absurd (zt hc) h6) (λ_=>?_)
  have htwo:qbw op=2:=by
   unfold qbw at hop ⊢;rw[zn (λh=>h.elim h1 h2),zn (λh=>h.elim h3 (λh=>h.elim h5 h6)),zn (show ¬ op=qbB from h4)] at hop ⊢;split;rfl
   rename_i hb
   rw[zn hb] at hop;omega
  obtain⟨x,y,rfl⟩:=quH hop htwo;have hW2:=qv2 c num name x y h1 h2 h3 h4 h5 h6;rw[hW2] at hr ⊢;simp only[qbs] at he1;simp only[qcX] at hna;simp only[ndEs] at hnd;have hex:=qah.1 he1;refine gaa ?_;refine oS (zsT (H1:=H) (F:=[_]) [_,_] rfl qa7 (qgC hG hk ih op num name x y ws n H zo zo hna.1 hna.2.1 hex.1 (qah.1 hex.2).1 h hr) λH3 h3=>?_) rfl;refine gab ?_;exact rO rfl rN qcz ⟨rfl,h3⟩
end
mutual
theorem qts(c:CC):∀ (s:Sm) (n:Nat),(stW c n s).2<=n+2 * ndS s
 |.mk kind name index value thn els,n=>by
  have ht:=λn=>qgR c thn n;have he:=λn=>qgR c els n;rw[ndS];unfold stW
  by_cases k1:kind=1
  rw[zp k1];simp only;omega;rw[zn k1]
  by_cases k2:kind=2
  rw[zp k2];simp only;omega;rw[zn k2]
  by_cases k3:kind=3
  rw[zp k3]
  cases els with
  |nil=>have:=ht (n+1);simp only;omega
  |cons a r=>have h1:=ht (n+2);have h2:=he (stWs c (n+2) thn).2;simp only;omega
  rw[zn k3]
  by_cases k4:kind=4
  have h1:=ht (n+2);rw[zp k4];simp only;omega;rw[zn k4]
  by_cases k5:kind=5
  rw[zp k5];simp only;omega;rw[zn k5]
  by_cases k6:kind=6
  rw[zp k6];simp only;omega;rw[zn k6]
  by_cases k7:kind=7
  rw[zp k7];simp only;omega;rw[zn k7];simp only;omega
theorem qgR(c:CC):∀ (l:List Sm) (n:Nat),(stWs c n l).2<=n+2 * ndSs l
 |[],n=>by rw[stWs,ndSs];simp
 |s::l,n=>by
  have h1:=qts c s n;have h2:=qgR c l (stW c n s).2;rw[stWs,ndSs];simp only;omega
end
theorem qtg(c:CC)(n:Nat)(s:Sm)(l:List Sm):stWs c n (s::l)=((stW c n s).1++(stWs c (stW c n s).2 l).1,(stWs c (stW c n s).2 l).2):=by rw[stWs]
theorem qlV(c:CC)(n:Nat):stWs c n []=([],n):=by rw[stWs]
theorem qi2(x:Ex):([x]:List Ex).headD default=x:=rfl
theorem qpJ:∀ {l:List Sm} {x:Sm},x∈l->ndS x<=ndSs l
 |g::l,f,h=>by
  rw[ndSs];rcases zMi.1 h with rfl|h;omega;have:=qpJ h;omega
abbrev stB(b:Nat)(kind:Int)(name:Nm)(index value:List Ex)(thn els:List Sm):Nat×LObj:=(b,.cells 193 [int .i64 kind,str name,.list (index.map encE),.list (value.map encE),.list (thn.map encS),.list (els.map encS)])
section
variable{B0:Nat}{w0:World}
def qsM(B0:Nat)(w0:World)(k:TB)(own:Nm)(c:CC)(env:CEnv)(m:Nat):Prop:=∀ (l:List Sm) (ws:List Wd) (n:Nat) (H:Heap),ndSs l<=m->qcu l->qb1 env l=0->TrH k own ws n H->ws.length+(stWs c n l).1.length<=1000000000->n+2 * ndSs l<=1000000000->LCalls (KC B0 w0) 142 [ptr k.tb 0,.list (l.map encS)] H (qhV (TrH k own (ws++(stWs c n l).1) (stWs c n l).2))
theorem qoi(hG:GW B0 w0){k:TB}{own:Nm}{c:CC}{env:CEnv}(hX:qnv B0 w0 k own c env 2000000){m:Nat}(ih:qsM B0 w0 k own c env m)(name:Nm)(index:List Ex)(v:Ex)(thn els:List Sm)(ws:List Wd)(n:Nat)(H:Heap)(hv:ndE v<=2000000)(hm:ndSs thn+ndSs els<=m)(h2m:els.length<=2000000)
  (nv:numE v) (nt:qcu thn) (ne:qcu els) (ev:errE env v=0) (et:qb1 env thn=0) (ee:qb1 env els=0) (h:TrH k own ws n H) (hr:ws.length+(stW c n (.mk 3 name index [v] thn els)).1.length<=1000000000) (hN:n+2+2 * (ndSs thn+ndSs els)<=1000000000) :
  LCalls (KC B0 w0) 179 [ptr k.tb 0,encS (.mk 3 name index [v] thn els)] H (qhV (TrH k own (ws++(stW c n (.mk 3 name index [v] thn els)).1) (stW c n (.mk 3 name index [v] thn els)).2)):=by
 have hlt:=qgR c thn (n+2);have hlab:∀ i:Nat,i<=1000000001->(labW i).length<=11:=λi hi=>qjj zo;have hle:(els.map encS).length=els.length:=zLm _;rw[qcJ];refine zcI Tryz.func179 rfl (n:=65) rfl rfl rfl ?_;refine gah ?_;refine oS (zsB rfl λb3=>?_) rfl;refine gam ?_;refine oS (S.callS (H1:=H) (F:=[_]) [_] rfl qa7 (qf6 hG h zo) λH1 h1=>?_) rfl;have hl0:=hlab n zo;refine gaa ?_
 cases els with
 |nil=>
  have hS:stW c n (.mk 3 name index [v] thn [])=(exW c v++([38::labW n,[63]]++((stWs c (n+1) thn).1++[labW n++[58]])),(stWs c (n+1) thn).2):=by
   unfold stW;rw[zn zDd,zn zDd,zp rfl];simp only[qi2,zAs]
  rw[hS] at hr ⊢;simp only[zLa,zLc,zLn] at hr;refine zoC rfl (λ_=>?_) (λhc=>by cases hc);refine zQ36 ?_;refine oS (zsT (H1:=H1) (F:=[_]) [_,_] rfl qa7 (hX v ws (n+1) H1 hv nv ev h1 zo) λH2 h2=>?_) rfl;refine gaa ?_;refine zQ5 ?_;refine oS (zsT (H1:=H2) (F:=[_]) [_,_] rfl qa7 (qaC h2 [38::labW n,[63]] rfl (by simp only[zLa,zLc,zLn];omega)) λH3 h3=>?_) rfl;refine gaa ?_;refine oS (zsT (H1:=H3) (F:=[_]) [_,_] rfl qa7 (ih thn _ (n+1) H3 zo nt et h3 (by simp only[zLa,zLc,zLn];omega) zo) λH4 h4=>?_) rfl;refine gaa ?_;refine zQ11 ?_;refine oS (zsT (H1:=H4) (F:=[_]) [_,_] rfl qa7 (qaC h4 [labW n++[58]] rfl (by simp only[zLa,zLc,zLn];omega)) λH5 h5=>?_) rfl;refine gab ?_
  exact rR rfl rN qcz ⟨rfl,by simp only[zAs] at h5 ⊢;exact h5⟩
 |cons s0 r0=>
  have hS:stW c n (.mk 3 name index [v] thn (s0::r0))=(exW c v++([38::labW n,[63]]++((stWs c (n+2) thn).1++([[48],38::labW (n+1),[63],labW n++[58]]++((stWs c (stWs c (n+2) thn).2 (s0::r0)).1++[labW (n+1)++[58]])))),(stWs c (stWs c (n+2) thn).2 (s0::r0)).2):=by
   unfold stW;rw[zn zDd,zn zDd,zp rfl];simp only[qi2,zAs]
  rw[hS] at hr ⊢;simp only[zLa,zLc,zLn] at hr;have hl1:=hlab (n+1) zo;generalize hels:s0::r0=els at *
  have hne:¬ ((els.map encS).length:Int)=0:=by
   rw[<-hels];simp only[zLm,zLc];omega
  refine zoC rfl (λhc=>absurd (zt hc) hne) (λ_=>?_);refine gac ?_;refine oS (S.callS (H1:=H1) (F:=[_]) [_] rfl qa7 (qf6 hG h1 zo) λH1 h1=>?_) rfl;refine zQ36 ?_;refine oS (zsT (H1:=H1) (F:=[_]) [_,_] rfl qa7 (hX v ws (n+1+1) H1 hv nv ev h1 zo) λH2 h2=>?_) rfl;refine gaa ?_;refine zQ5 ?_;refine oS (zsT (H1:=H2) (F:=[_]) [_,_] rfl qa7 (qaC h2 [38::labW n,[63]] rfl (by simp only[zLa,zLc,zLn];omega)) λH3 h3=>?_) rfl;refine gaa ?_;refine oS (zsT (H1:=H3) (F:=[_]) [_,_] rfl qa7 (ih thn _ (n+2) H3 zo nt et h3 (by simp only[zLa,zLc,zLn];omega) zo) λH4 h4=>?_) rfl;refine gaa ?_;refine oS (sL [_,_,_,_] rfl (qaY [_,_,_,_]) rfl rfl rfl<|oS (zsT (H1:=H4) (F:=[_]) [_,_] rfl qa7 (qaC h4 [[48],38::labW (n+1),[63],labW n++[58]] rfl (by simp only[zLa,zLc,zLn];omega)) λH5 h5=>?_) rfl) rfl;refine gaa ?_;refine oS (zsT (H1:=H5) (F:=[_]) [_,_] rfl qa7 (ih els _ _ H5 zo ne ee h5 (by simp only[zLa,zLc,zLn];omega) zo) λH6 h6=>?_) rfl;refine gaa ?_;refine zQ11 ?_;refine oS (zsT (H1:=H6) (F:=[_]) [_,_] rfl qa7 (qaC h6 [labW (n+1)++[58]] rfl (by simp only[zLa,zLc,zLn];omega)) λH7 h7=>?_) rfl;refine gaf ?_;exact rO rfl rN qcz ⟨rfl,by simp only[zAs] at h7 ⊢;exact h7⟩
theorem qtf(hG:GW B0 w0){k:TB}{own:Nm}{c:CC}{env:CEnv}(hX:qnv B0 w0 k own c env 2000000){m:Nat}(ih:qsM B0 w0 k own c env m)(name:Nm)(index:List Ex)(v:Ex)(thn els:List Sm)(ws:List Wd)(n:Nat)(H:Heap)(hv:ndE v<=2000000)(hm:ndSs thn<=m)
  (nv:numE v) (nt:qcu thn) (ev:errE env v=0) (et:qb1 env thn=0) (h:TrH k own ws n H) (hr:ws.length+(stW c n (.mk 4 name index [v] thn els)).1.length<=1000000000) (hN:n+2+2 * ndSs thn<=1000000000) :
  LCalls (KC B0 w0) 180 [ptr k.tb 0,encS (.mk 4 name index [v] thn els)] H (qhV (TrH k own (ws++(stW c n (.mk 4 name index [v] thn els)).1) (stW c n (.mk 4 name index [v] thn els)).2)):=by
 have hl0:(labW n).length<=11:=qjj zo;have hl1:(labW (n+1)).length<=11:=qjj zo
 have hS:stW c n (.mk 4 name index [v] thn els)=([labW n++[58]]++(exW c v++([38::labW (n+1),[63]]++((stWs c (n+2) thn).1++[[48],38::labW n,[63],labW (n+1)++[58]]))),(stWs c (n+2) thn).2):=by
  unfold stW;rw[zn zDd,zn zDd,zn zDd,zp rfl];simp only[qi2,zAs]
 rw[hS] at hr ⊢;simp only[zLa,zLc,zLn] at hr;rw[qcJ];refine zcI Tryz.func180 rfl (n:=37) rfl rfl rfl ?_;refine gah ?_;refine oS (zsB rfl λb3=>?_) rfl;refine gam ?_;refine oS (S.callS (H1:=H) (F:=[_]) [_] rfl qa7 (qf6 hG h zo) λH1 h1=>?_) rfl;refine gaj ?_;refine oS (S.callS (H1:=H1) (F:=[_]) [_] rfl qa7 (qf6 hG h1 zo) λH1 h1=>?_) rfl;refine gaa ?_;refine zQ11 ?_;refine oS (zsT (H1:=H1) (F:=[_]) [_,_] rfl qa7 (qaC h1 [labW n++[58]] rfl (by simp only[zLa,zLc,zLn];omega)) λH2 h2=>?_) rfl;refine zQ36 ?_;refine oS (zsT (H1:=H2) (F:=[_]) [_,_] rfl qa7 (hX v _ (n+1+1) H2 hv nv ev h2 (by simp only[zLa,zLc,zLn];omega)) λH3 h3=>?_) rfl;refine gaa ?_;refine zQ5 ?_;refine oS (zsT (H1:=H3) (F:=[_]) [_,_] rfl qa7 (qaC h3 [38::labW (n+1),[63]] rfl (by simp only[zLa,zLc,zLn];omega)) λH4 h4=>?_) rfl;refine gaa ?_;refine oS (zsT (H1:=H4) (F:=[_]) [_,_] rfl qa7 (ih thn _ (n+2) H4 zo nt et h4 (by simp only[zLa,zLc,zLn];omega) zo) λH5 h5=>?_) rfl;refine gaa ?_;refine oS (sL [_,_,_,_] rfl (qaY [_,_,_,_]) rfl rfl rfl<|oS (zsT (H1:=H5) (F:=[_]) [_,_] rfl qa7 (qaC h5 [[48],38::labW n,[63],labW (n+1)++[58]] rfl (by simp only[zLa,zLc,zLn];omega)) λH6 h6=>?_) rfl) rfl;refine gaf ?_;exact rO rfl rN qcz ⟨rfl,by simp only[zAs] at h6 ⊢;exact h6⟩
end
theorem qrL{name:List UInt8}{index value:List Ex}{thn els:List Sm}(h:qbR (.mk 2 name index value thn els)=true):∃ x,index=[x]:=by
 have h1:index.length=1:=by
  simp only[qbR] at h
  repeat' (split at h)
  all_goals first
   |(simp only[zDe] at h;omega)
   |cases h
   |contradiction
 exact List.length_eq_one_iff.1 h1
theorem qtl{kind:Int}{name:List UInt8}{index value:List Ex}{thn els:List Sm}(h:qbR (.mk kind name index value thn els)=true):kind=1∨kind=2∨kind=3∨kind=4∨kind=5∨kind=6∨kind=7:=by
 simp only[qbR] at h
 repeat' (split at h)
 all_goals first
  |omega
  |cases h
section
variable{B0:Nat}{w0:World}
theorem qf4(hG:GW B0 w0){k:TB}{own:Nm}{c:CC}(hk:TBok k c own){env:CEnv}(hE:EnvOk env):∀ m:Nat,m<=2000000->qsM B0 w0 k own c env m
 |0,_=>λl ws n H hm hnum herr h hr hN=>by
  have:l=[]:=by
   cases l with
   |nil=>rfl
   |cons s r=>have:=qnR s;rw[ndSs] at hm;omega
  subst this;rw[qlV];refine zcI Tryz.func142 rfl (n:=97) rfl rfl rfl ?_;refine gaa ?_;refine zoL (λkk ls H'=>kk=0/\ls=[(0,ptr k.tb 0),(6,.list []),(7,int .i64 0),(8,int .i64 0)]/\H'=H) ⟨0,_,_,⟨rfl,rfl,rfl⟩,⟨rfl,rfl,rfl,rfl,trivial⟩,zhR _⟩ ?_;rintro kk ls H' ⟨rfl,rfl,rfl⟩ j hj;refine gai ?_;refine zoC rfl (λhc=>by cases hc) (λhc=>?_);refine gab ?_
  exact rO hj rN zhr ⟨rfl,by rw[zLz];exact h⟩
 |m+1,hm6=>by
  have ih:=qf4 hG hk hE m zo;have hX:qnv B0 w0 k own c env 2000000:=qec hG hk hE 2000000 (zNr _);intro l ws n H hm hnum herr h hr hN;have hal:=qfa l;generalize hT:stWs c n l=T at hr ⊢;refine zcI Tryz.func142 rfl (n:=97) rfl rfl rfl ?_;refine gaa ?_
  refine zoL (λkk ls H'=>∃ (pre l1:List Sm) (ws':List Wd) (n':Nat),l=pre++l1/\kk=l1.length/\ls=[(0,ptr k.tb 0),(6,.list (l.map encS)),(7,int .i64 ((l.map encS).length:Int)),(8,int .i64 (pre.length:Int))]/\TrH k own ws' n' H'/\ws'++(stWs c n' l1).1=ws++T.1/\(stWs c n' l1).2=T.2/\n'+2 * ndSs l1<=1000000000/\qb1 env l1=0/\qcu l1)
   ⟨l.length,_,_,⟨[],l,ws,n,rfl,rfl,rfl,h,by rw[hT],by rw[hT],hN,herr,hnum⟩,⟨rfl,rfl,rfl,rfl,trivial⟩,zhR _⟩ ?_
  rintro kk ls H' ⟨pre,l1,ws',n',hLe,rfl,rfl,hTr,hW,hL,hN1,he1,hn1⟩ j hj
  have hb2:pre.length<=2000000:=by
   have:=congrArg List.length hLe;rw[zLa] at this;omega
  refine gai ?_;refine zoC rfl (λhc=>?_) (λhc=>?_);rotate_left;have hlen:=zf hc;rw[zLm,hLe,zLa] at hlen
  obtain rfl:l1=[]:=by
   cases l1 with
   |nil=>rfl
   |cons a l2=>simp at hlen;omega
  rw[qlV,zLz] at hW;rw[qlV] at hL;simp only at hL;refine gab ?_;exact rO hj rN zhr ⟨rfl,by rw[<-hW,<-hL];exact hTr⟩;have hlen:=zt hc;rw[zLm,hLe,zLa] at hlen
  obtain⟨s,l2,rfl⟩:∃ a l2,l1=a::l2:=by
   cases l1 with
   |nil=>simp at hlen
   |cons a l2=>exact⟨a,l2,rfl⟩
  have ham:ndS s<=ndSs l:=qpJ (by rw[hLe];exact mem_append_right _ zMs);have hsl:=qts c s n';rw[qb1] at he1;rw[qcu] at hn1;rw[ndSs] at hN1;obtain⟨hns,hn2⟩:=hn1;obtain⟨hes,he2⟩:=qah.1 he1;rw[qtg] at hW hL;simp only at hW hL;rw[<-zAs] at hW;have hlw:=congrArg List.length hW;rw[zLa,zLa,zLa] at hlw;obtain⟨kind,name,index,value,thn,els⟩:=s;rw[errS] at hes
  by_cases hf:qbR (.mk kind name index value thn els)=false
  rw[zp hf] at hes;cases hes;rw[zn hf] at hes;rw[Bool.not_eq_false] at hf;obtain⟨e1,hes⟩:=qah.1 hes;obtain⟨e2,hes⟩:=qah.1 hes;obtain⟨e3,hes⟩:=qah.1 hes;obtain⟨e4,e5⟩:=qah.1 hes;rw[numS] at hns;obtain⟨n1,n2,n3,n4⟩:=hns;rw[ndS] at ham hN1 hsl;have hel:=qfa els;refine gak ?_
  refine oP (xR (el':=.agg [int .i64 kind,str name,.list (index.map encE),.list (value.map encE),.list (thn.map encS),.list (els.map encS)]) (cs:=[_,_,_,_,_,_]) rfl rfl zo (by
   have h9:=Chk.get_mid encS pre (Sm.mk kind name index value thn els) l2;rw[qcJ] at h9;rw[hLe]
   exact h9) rfl rfl) rfl ?_
  refine gad ?_;refine oS (zsA λb5=>?_) rfl;refine gaa ?_
  have fin:∀ {e:Env} {Hx:Heap} (W:List Wd) (nx:Nat) (H2:Heap),stW c n' (.mk kind name index value thn els)=(W,nx)->TrH k own (ws'++W) nx H2->HSub H2 Hx->e.ds=j.ds ->
    (e.s 0=ptr k.tb 0/\e.s 6=.list (l.map encS)/\e.s 7=int .i64 ((l.map encS).length:Int)/\e.s 8=int .i64 ((pre.length:Int)+1)) ->
    ∃ k' ls' H3,k'<(Sm.mk kind name index value thn els::l2).length/\(∃ (pre l1:List Sm) (ws':List Wd) (n':Nat),l=pre++l1/\k'=l1.length/\ls'=[(0,ptr k.tb 0),(6,.list (l.map encS)),(7,int .i64 ((l.map encS).length:Int)),(8,int .i64 (pre.length:Int))]/\TrH k own ws' n' H3/\ws'++(stWs c n' l1).1=ws++T.1/\(stWs c n' l1).2=T.2/\n'+2 * ndSs l1<=1000000000/\qb1 env l1=0/\qcu l1)/\qcH e ls'/\HSub H3 Hx/\e.ds=[]:=by
   intro e Hx W nx H2 hS hT2 hsub hd hv;rw[hS] at hW hL hsl;simp only at hW hL hsl;exact⟨l2.length,_,H2,Nat.lt_succ_self _,⟨pre++[Sm.mk kind name index value thn els],l2,ws'++W,nx,by rw[hLe];simp,rfl,rfl,hT2,hW,hL,by omega,he2,hn2⟩,⟨hv.1,hv.2.1,hv.2.2.1,by rw[hv.2.2.2];exact qap (by simp),trivial⟩,hsub,hd.trans hj⟩
  by_cases k1:kind=1
  subst k1;obtain⟨x,rfl⟩:=Inp.form_value hf zDd;rw[qbs] at e1;rw[qcX] at n2;rw[ndEs,ndEs] at ham hN1 hsl;have hex:=(qah.1 e1).1;have hsc:qcg env name=0:=by rw[zp rfl] at e3;exact e3
  have hnl:=hE.sc name hsc;have hS:stW c n' (.mk 1 name index [x] thn els)=(exW c x++[c.sc name,[33]],n'):=by unfold stW;rw[zp rfl];rfl
  have hlS:=hlw;rw[hS] at hlS;simp only[zLa,zLc,zLn] at hlS;refine zoC rfl (λ_=>?_) (λhc=>by cases hc);refine zQ10 ?_;refine oS (zsT (H1:=H') (F:=[_]) [_,_] rfl qa7 (hX x ws' n' H' zo n2.1 hex hTr zo) λH2 h2=>?_) rfl;refine gac ?_;refine oS (S.callS (H1:=H2) (F:=[_]) [_,_] rfl qa7 (qde hG hk h2 name zo) λH3 h3=>?_) rfl;refine zQ5 ?_;refine oS (zsT (H1:=H3) (F:=[_]) [_,_] rfl qa7 (qaC h3 [c.sc name,[33]] rfl (by simp only[zLa,zLc,zLn];omega)) λH4 h4=>?_) rfl;refine gaq ?_;exact fin _ _ H4 hS (by rw[<-zAs];exact h4) qcz rfl ⟨rfl,rfl,rfl,rfl⟩;refine zoC rfl (λhc=>absurd (zt hc) k1) (λ_=>?_);refine gan ?_
  by_cases k2:kind=2
  subst k2;obtain⟨x,rfl⟩:=Inp.form_value hf zDd;obtain⟨y,rfl⟩:=qrL hf;rw[qbs] at e1 e2;rw[qcX] at n1 n2;rw[ndEs,ndEs,ndEs,ndEs] at ham hN1 hsl;have hex:=(qah.1 e1).1;have hey:=(qah.1 e2).1;obtain⟨a,ha1,ha2,ha3⟩:=hk.ar name;have hS:stW c n' (.mk 2 name [y] [x] thn els)=(exW c x++([c.ar name]++(exW c y++[[43],[33]])),n'):=by unfold stW;rw[zn zDd,zp rfl];rfl
  have hlS:=hlw;rw[hS] at hlS;simp only[zLa,zLc,zLn] at hlS;refine zoC rfl (λ_=>?_) (λhc=>by cases hc);refine zQ10 ?_;refine oS (zsT (H1:=H') (F:=[_]) [_,_] rfl qa7 (hX x ws' n' H' zo n2.1 hex hTr zo) λH2 h2=>?_) rfl;refine gab ?_;have h0:=h2;obtain⟨v,Hv,hacc,rfl⟩:=h2;refine cD (m:=11) rfl [stB b5 2 name [y] [x] thn els]<|zQ38 ?_;refine aL ?_ qsR;refine lO 4 (lH rfl rfl (pL (c:=.atom _) rfl zm1 rfl) ?_);refine lO 7 (lH rfl rfl (Pure.kvOr rfl rfl zm3 ha3) ?_);refine lO 8 (lS (H1:=[]) rfl (.inl rfl) rfl zpr qsR (sF [_] rfl (qdr hG a zo) ?_));rw[<-ha2];refine lO 9 (lS (H1:=[]) rfl (.inl rfl) rfl zpr qsR (sL [_] rfl (qaY [_]) rfl rfl rfl ?_));refine lO 10 (lS (F:=[stB b5 2 name [y] [x] thn els]) rfl (.inl rfl) rfl qa7 zhr (qae.callT [_,_] rfl (qaC h0 [c.ar name] rfl (by simp only[zLa,zLc,zLn];omega)) λH2 h2=>?_));refine lD zk ?_;refine qN ?_;refine cW qoA ?_;refine gaa ?_;refine oP (xR (el':=encE y) (cs:=[_,_,_,_]) rfl rfl zDd rfl rfl rfl) rfl<|gad ?_;refine oS (zsT (H1:=H2) (F:=[_]) [_,_] rfl qa7 (hX y _ n' H2 zo n1.1 hey h2 (by simp only[zLa,zLc,zLn];omega)) λH3 h3=>?_) rfl;refine gam ?_;refine zQ5 ?_;refine oS (zsT (H1:=H3) (F:=[_]) [_,_] rfl qa7 (qaC h3 [[43],[33]] rfl (by simp only[zLa,zLc,zLn];omega)) λH4 h4=>?_) rfl;refine gaq ?_;exact fin _ _ H4 hS (by simp only[zAs] at h4 ⊢;exact h4) qcz rfl ⟨rfl,rfl,rfl,rfl⟩;refine zoC rfl (λhc=>absurd (zt hc) k2) (λ_=>?_);refine gan ?_
  by_cases k3:kind=3
  subst k3;obtain⟨x,rfl⟩:=Inp.form_value hf zDd;rw[qbs] at e1;rw[qcX] at n2;rw[ndEs,ndEs] at ham hN1 hsl;have hex:=(qah.1 e1).1;refine zoC rfl (λ_=>?_) (λhc=>by cases hc);refine gaa ?_;refine oS (zsT (H1:=H') (F:=[_]) [_,_] (by show [ptr k.tb 0,_]=_;rw[qcJ];rfl) qa7 (qoi hG hX ih name index x thn els ws' n' H' zo zo zo n2.1 n3 n4 hex e4 e5 hTr zo zo) λH2 h2=>?_) rfl;refine gaq ?_;exact fin _ _ H2 rfl h2 qcz rfl ⟨rfl,rfl,rfl,rfl⟩;refine zoC rfl (λhc=>absurd (zt hc) k3) (λ_=>?_);refine gan ?_
  by_cases k4:kind=4
  subst k4;obtain⟨x,rfl⟩:=Inp.form_value hf zDd;rw[qbs] at e1;rw[qcX] at n2;rw[ndEs,ndEs] at ham hN1 hsl;have hex:=(qah.1 e1).1;refine zoC rfl (λ_=>?_) (λhc=>by cases hc);refine gaa ?_;refine oS (zsT (H1:=H') (F:=[_]) [_,_] (by show [ptr k.tb 0,_]=_;rw[qcJ];rfl) qa7 (qtf hG hX ih name index x thn els ws' n' H' zo zo n2.1 n3 hex e4 hTr zo zo) λH2 h2=>?_) rfl;refine gaq ?_;exact fin _ _ H2 rfl h2 qcz rfl ⟨rfl,rfl,rfl,rfl⟩;refine zoC rfl (λhc=>absurd (zt hc) k4) (λ_=>?_);refine gan ?_
  by_cases k5:kind=5
  subst k5;obtain⟨x,rfl⟩:=Inp.form_value hf zDd;rw[qbs] at e1;rw[qcX] at n2;rw[ndEs,ndEs] at ham hN1 hsl;have hex:=(qah.1 e1).1;have hS:stW c n' (.mk 5 name index [x] thn els)=(exW c x++[[59]],n'):=by unfold stW;rw[zn zDd,zn zDd,zn zDd,zn zDd,zp rfl];rfl
  have hlS:=hlw;rw[hS] at hlS;simp only[zLa,zLc,zLn] at hlS;refine zoC rfl (λ_=>?_) (λhc=>by cases hc);refine zQ10 ?_;refine oS (zsT (H1:=H') (F:=[_]) [_,_] rfl qa7 (hX x ws' n' H' zo n2.1 hex hTr zo) λH2 h2=>?_) rfl;refine gam ?_;refine zQ11 ?_;refine oS (zsT (H1:=H2) (F:=[_]) [_,_] rfl qa7 (qaC h2 [[59]] rfl (by simp only[zLa,zLc,zLn];omega)) λH4 h4=>?_) rfl;refine gaq ?_;exact fin _ _ H4 hS (by rw[<-zAs];exact h4) qcz rfl ⟨rfl,rfl,rfl,rfl⟩;refine zoC rfl (λhc=>absurd (zt hc) k5) (λ_=>?_);refine gan ?_
  by_cases k6:kind=6
  subst k6;obtain⟨x,rfl⟩:=Inp.form_value hf zDd;rw[qbs] at e1;rw[qcX] at n2;rw[ndEs,ndEs] at ham hN1 hsl;have hex:=(qah.1 e1).1;have hS:stW c n' (.mk 6 name index [x] thn els)=(exW c x++[c.t0,[33]],n'):=by unfold stW;rw[zn zDd,zn zDd,zn zDd,zn zDd,zn zDd,zp rfl];rfl
  have hlS:=hlw;rw[hS] at hlS;simp only[zLa,zLc,zLn] at hlS;refine zoC rfl (λ_=>?_) (λhc=>by cases hc);refine zQ10 ?_;refine oS (zsT (H1:=H') (F:=[_]) [_,_] rfl qa7 (hX x ws' n' H' zo n2.1 hex hTr zo) λH2 h2=>?_) rfl;refine gam ?_
  refine oS (S.callS (H1:=H2) (F:=[_]) [_,_] rfl qa7 (by
   have h9:=qdl (B0:=B0) (w0:=w0) hG hk h2 0 zDd;rw[Nat.add_zero,<-hk.t0] at h9
   exact h9) λH3 h3=>?_) rfl
  refine zQ5 ?_;refine oS (zsT (H1:=H3) (F:=[_]) [_,_] rfl qa7 (qaC h3 [c.t0,[33]] rfl (by simp only[zLa,zLc,zLn];omega)) λH4 h4=>?_) rfl;refine gaq ?_;exact fin _ _ H4 hS (by rw[<-zAs];exact h4) qcz rfl ⟨rfl,rfl,rfl,rfl⟩;refine zoC rfl (λhc=>absurd (zt hc) k6) (λ_=>?_);refine gan ?_;have k7:kind=7:=by have:=qtl hf;omega
  subst k7;have hS:stW c n' (.mk 7 name index value thn els)=([[36]],n'):=by unfold stW;rw[zn zDd,zn zDd,zn zDd,zn zDd,zn zDd,zn zDd,zp rfl]
  have hlS:=hlw;rw[hS] at hlS;simp only[zLa,zLc,zLn] at hlS;refine zoC rfl (λ_=>?_) (λhc=>by cases hc);refine gag ?_;refine zQ11 ?_;refine oS (zsT (H1:=H') (F:=[_]) [_,_] rfl qa7 (qaC hTr [[36]] rfl (by simp only[zLa,zLc,zLn];omega)) λH4 h4=>?_) rfl;refine gaq ?_;exact fin _ _ H4 hS h4 qcz rfl ⟨rfl,rfl,rfl,rfl⟩
end
abbrev parW(c:CC)(l:List Nm):List Wd:=l.flatMap λp=>[c.sc p,[33]]
theorem qrC(c:CC)(p:Nm)(l:List Nm):parW c (p::l)=[c.sc p,[33]]++parW c l:=by
 unfold parW;rw[List.flatMap_cons]
theorem qum(cc:Nm->CC)(n:Nat):fnWs cc n []=([],n):=by rw[fnWs]
theorem qs5(cc:Nm->CC)(n:Nat)(f:FnD)(l:List FnD):fnWs cc n (f::l)=((fnW (cc f.name) n f).1++(fnWs cc (fnW (cc f.name) n f).2 l).1,(fnWs cc (fnW (cc f.name) n f).2 l).2):=by rw[fnWs]
theorem qxx(c:CC)(n:Nat)(f:FnD):fnW c n f=([[102,95]++f.name++[58]]++(parW c f.params.reverse++((stWs c n f.body).1++[[48],[59]])),(stWs c n f.body).2):=by
 unfold fnW parW;simp only[zAs]
theorem quY{l:List Nm}{i:Nat}(h:i<l.length):(l.take (i+1)).reverse=l[i]::(l.take i).reverse:=by
 rw[take_succ_eq_append_getElem h,List.reverse_append];rfl
structure FnT(k:TB)(cc:Nm->CC)(f:FnD):Prop where
 tb:TBok k (cc f.name) f.name
 name:f.name.length<=24
 params:∀ p∈f.params,p.length<=1000000
 num:qcu f.body
 env:∃ env,EnvOk env/\qb1 env f.body=0
section
variable{B0:Nat}{w0:World}
theorem qb4(hG:GW B0 w0){k:TB}{cc:Nm->CC}(hsm:k.sc<=1000000000)(vars:List Nm)(arrays:List (Nm×Int))(fs:List FnD)(hnd:ndFs fs<=2000000)(hf:∀ f∈fs,FnT k cc f){own0:Nm}{c0:CC}(hk0:TBok k c0 own0)(H:Heap)(h:TrH k own0 [] 0 H)
  (hr:5+(fnWs cc 0 fs).1.length<=1000000000) :
  LCalls (KC B0 w0) 82 [ptr k.tb 0,Chk.encPrG vars arrays fs] H (qhV (λH'=>∃ own n,TrH k own ([[38,102,95,109,97,105,110],[58],decDigits k.sc,[33],[36]]++(fnWs cc 0 fs).1) n H')):=by
 have hal:=qiX fs;have hall:(fs.map qbm).length=fs.length:=zLm _;refine zcI Tryz.func82 rfl (n:=57) rfl rfl rfl ?_;refine gah ?_;refine oS (zsB rfl λb3=>?_) rfl;refine gam ?_
 refine oS (S.callS (H1:=H) (F:=[_]) [_,_] rfl qa7 (by
  have h9:=qdl (B0:=B0) (w0:=w0) hG hk0 h 0 zDd;rw[Nat.add_zero] at h9
  exact h9) λH1 h1=>?_) rfl
 refine oS (sL [_,_,_,_,_] rfl (qaY [_,_,_,_,_]) rfl rfl rfl<|oS (zsT (H1:=H1) (F:=[_]) [_,_] rfl qa7 (qaC h1 [[38,102,95,109,97,105,110],[58],decDigits k.sc,[33],[36]] rfl (by simp only[zLc,zLn];omega)) λH2 h2=>?_) rfl) rfl;rw[List.nil_append] at h2;refine gaa ?_;generalize hP:([[38,102,95,109,97,105,110],[58],decDigits k.sc,[33],[36]]:List Wd)=P5 at h2 ⊢;have hP5:P5.length=5:=by rw[<-hP];rfl
 clear hP;generalize hT:fnWs cc 0 fs=T at hr ⊢
 refine zoL (λkk ls H'=>∃ (pre l1:List FnD) (ws':List Wd) (n':Nat) (own:Nm),fs=pre++l1/\kk=l1.length/\ls=[(0,ptr k.tb 0),(13,.list (fs.map qbm)),(14,int .i64 ((fs.map qbm).length:Int)),(15,int .i64 (pre.length:Int))]/\TrH k own ws' n' H'/\ws'++(fnWs cc n' l1).1=P5++T.1/\n'+2 * ndFs l1<=1000000000)
  ⟨fs.length,_,_,⟨[],fs,P5,0,own0,rfl,rfl,rfl,h2,by rw[hT],by omega⟩,⟨rfl,rfl,rfl,rfl,trivial⟩,qcz⟩ ?_
 rintro kk ls H' ⟨pre,l1,ws',n',own,hLe,rfl,rfl,hTr,hW,hN1⟩ j hj
 have hb2:pre.length<=2000000:=by
  have:=congrArg List.length hLe;rw[zLa] at this;omega
 refine gai ?_;refine zoC rfl (λhc=>?_) (λhc=>?_);rotate_left;have hlen:=zf hc;rw[zLm,hLe,zLa] at hlen
 obtain rfl:l1=[]:=by
  cases l1 with
  |nil=>rfl
  |cons a l2=>simp at hlen;omega
 rw[qum,zLz] at hW;refine gab ?_;exact rO hj rN zhr ⟨rfl,own,n',by rw[<-hW];exact hTr⟩;have hlen:=zt hc;rw[zLm,hLe,zLa] at hlen
 obtain⟨f,l2,rfl⟩:∃ a l2,l1=a::l2:=by
  cases l1 with
  |nil=>simp at hlen
  |cons a l2=>exact⟨a,l2,rfl⟩
 have hfm:f∈fs:=by rw[hLe];exact mem_append_right _ zMs
 have hnf:=qiK hfm;obtain⟨hk,hnm,hpm,hnum,env,hE,herr⟩:=hf f hfm;rw[ndFs] at hN1;have hbl:=qgR (cc f.name) f.body n';have hpl:(f.params.map str).length=f.params.length:=zLm _;unfold ndF at hnf hN1;rw[qs5] at hW;rw[qxx] at hW;simp only at hW;have hlw:=congrArg List.length hW;simp only[zLa,zLc,zLn] at hlw;obtain⟨v,Hv,hacc,rfl⟩:=hTr;refine gak ?_;refine oP (xR (el':=qbm f) (cs:=[_,_,_,_]) rfl rfl zo (by rw[hLe];exact Chk.get_mid qbm pre f l2) rfl rfl) rfl<|gad ?_;refine oS (zsA λb5=>?_) rfl;refine gaa ?_
 first|(refine oS (sS (cs':=[_,_,_,_,_,_]) rfl zp1 rfl rfl rfl rfl rfl ?_) rfl)|skip
 refine gaa ?_;have h1:TrH k f.name ws' n' ((k.tb,.cells 132 [v,int .i64 (n':Nat),int .i64 (k.sc:Nat),.atom (.map (some k.sm)),.atom (.map (some k.am)),str f.name])::(k.sm,.map (kvs k.S) k.g1)::(k.am,.map (kvs k.A) k.g2)::Hv):=⟨v,Hv,hacc,rfl⟩;refine LOps.weak (H':=(b5,.cells 110 [str f.name,.list (f.params.map str),.list (f.locals.map str),.list (f.body.map encS)])::(k.tb,.cells 132 [v,int .i64 (n':Nat),int .i64 (k.sc:Nat),.atom (.map (some k.sm)),.atom (.map (some k.am)),str f.name])::(k.sm,.map (kvs k.S) k.g1)::(k.am,.map (kvs k.A) k.g2)::Hv) ⟨[],by rw[zLz];exact List.Perm.swap _ _ _⟩ ?_;generalize ((k.tb,.cells 132 [v,int .i64 (n':Nat),int .i64 (k.sc:Nat),.atom (.map (some k.sm)),.atom (.map (some k.am)),str f.name])::(k.sm,.map (kvs k.S) k.g1)::(k.am,.map (kvs k.A) k.g2)::Hv:Heap)=H1 at h1 ⊢;refine zQ11 ?_;refine oS (zsT (H1:=H1) (F:=[_]) [_,_] rfl qa7 (qaC h1 [[102,95]++f.name++[58]] rfl (by simp only[zLc,zLn];omega)) λH2 h2=>?_) rfl;refine gaa ?_
 refine zoL (λkk ls H'=>∃ (i:Nat) (ws2:List Wd) (H3:Heap),i<=f.params.length/\kk=i/\ls=[(0,ptr k.tb 0),(5,ptr b5 0),(6,int .i64 ((i:Int)-1)),(13,.list (fs.map qbm)),(14,int .i64 ((fs.map qbm).length:Int)),(15,int .i64 (pre.length:Int))]/\H'=(b5,.cells 110 [str f.name,.list (f.params.map str),.list (f.locals.map str),.list (f.body.map encS)])::H3/\TrH k f.name ws2 n' H3/\ws2++parW (cc f.name) (f.params.take i).reverse=ws'++[[102,95]++f.name++[58]]++parW (cc f.name) f.params.reverse)
  ⟨f.params.length,_,_,⟨f.params.length,_,H2,zNr _,rfl,rfl,rfl,h2,by rw[take_length]⟩,⟨rfl,rfl,by rw[<-hpl];rfl,rfl,rfl,rfl,trivial⟩,zhR _⟩ ?_
 rintro kk ls H' ⟨i,ws2,H3,hi,rfl,rfl,rfl,h3,hW3⟩ j2 hj2;refine gaa ?_;refine zoC rfl (λhc=>?_) (λhc=>?_);have hge:=zt hc;obtain⟨i,rfl⟩:∃ i',kk=i'+1:=⟨kk-1,by omega⟩;have hlt:i<f.params.length:=by omega
 rw[quY hlt,qrC] at hW3;have hlw3:=congrArg List.length hW3;simp only[zLa,zLc,zLn] at hlw3;have hpi:=hpm _ (getElem_mem hlt);refine gaa ?_;refine oP (xR (el':=str f.params[i]) (cs:=[str f.params[i]]) rfl rfl zo (by rw[show(((i+1:Nat):Int)-1).toNat=i by omega,List.getElem?_map,List.getElem?_eq_getElem hlt];rfl) rfl rfl) rfl ?_;refine gad ?_;refine oS (S.callS (H1:=H3) (F:=[_]) [_,_] rfl qa7 (qde hG hk h3 f.params[i] zo) λH4 h4=>?_) rfl;refine zQ5 ?_;refine oS (zsT (H1:=H4) (F:=[_]) [_,_] rfl qa7 (qaC h4 [(cc f.name).sc f.params[i],[33]] rfl (by simp only[zLc,zLn];omega)) λH5 h5=>?_) rfl;refine gaa ?_;exact⟨i,_,_,Nat.lt_succ_self _,⟨i,_,H5,by omega,rfl,rfl,rfl,h5,by rw[zAs];exact hW3⟩,⟨rfl,rfl,qap zo,rfl,rfl,rfl,trivial⟩,zhR _,hj2⟩;have hlt:=zf hc;obtain rfl:kk=0:=by omega
 rw[List.take_zero,List.reverse_nil,show parW (cc f.name) []=[] from rfl,zLz] at hW3;have hlw3:=congrArg List.length hW3;simp only[zLa,zLc,zLn] at hlw3;refine gaa ?_;refine oS (zsT (H1:=H3) (F:=[_]) [_,_] rfl qa7 (qf4 hG hk hE (ndSs f.body) zo f.body ws2 n' H3 (zNr _) hnum herr h3 zo zo) λH4 h4=>?_) rfl;refine gam ?_;refine zQ5 ?_;refine oS (zsT (H1:=H4) (F:=[_]) [_,_] rfl qa7 (qaC h4 [[48],[59]] rfl (by simp only[zLa,zLc,zLn];omega)) λH5 h5=>?_) rfl;refine gaq ?_
 exact⟨l2.length,_,_,Nat.lt_succ_self _,⟨pre++[f],l2,_,_,f.name,by rw[hLe];simp,rfl,rfl,h5,by
  rw[hW3];simp only[zAs] at hW ⊢
  exact hW,by omega⟩,⟨rfl,rfl,rfl,qap (by simp),trivial⟩,qcz,hj2.trans hj⟩
end
def qfc(r:Int×Int):LV:=.agg [int .i64 r.1,int .i64 r.2]
def qkh(o:Org):LV:=.agg [int .i64 o.code,int .i64 o.scalars,int .i64 o.arrays]
def qpX(p:Nm×Int):LV:=.agg [str p.1,int .i64 p.2]
def I64(n:Int):Prop := -9223372036854775808<=n/\n<9223372036854775808
def SmI(n:Int):Prop := -1000000000000<=n/\n<=1000000000000
theorem qoH{l:List Int}{i:Nat}(h:i<l.length):(l.take (i+1)).sum=(l.take i).sum+l[i]:=by
 rw[take_succ_eq_append_getElem h,List.sum_append]
 simp
theorem qc7:∀ (l:List Int) (i:Nat),(∀ n∈l,0<n)->0<=(l.take i).sum/\(l.take i).sum<=l.sum
 |[],i,_=>by simp
 |a::l,0,h=>by
  have:=qc7 l l.length λn hn=>h n (zMo _ hn);have h1:=h a zMs;rw[take_length] at this;rw[List.take_zero,List.sum_nil,sum_cons]
  omega
 |a::l,i+1,h=>by
  have:=qc7 l i λn hn=>h n (zMo _ hn);have h1:=h a zMs;rw[List.take_succ_cons,sum_cons,sum_cons];omega
theorem qtq{l:List (Nm×Int)}{i:Nat}(h:i<l.length)(a:Int):symA a (l.take (i+1))=symA a (l.take i)++[(l[i].1,a+((l.map (·.2)).take i).sum)]:=by
 rw[take_succ_eq_append_getElem h,qpd,<-List.map_take];rfl
section
variable{B0:Nat}{w0:World}
theorem qow(r:Int×Int)(h2:SmI r.2):LCalls (KC B0 w0) 135 [qfc r] [] (Ret (bool (qfx r))):=by
 obtain⟨a,n⟩:=r;unfold SmI at h2;simp only at h2;have hI:qfx (a,n)=decide (0<=a/\a<=262144-n):=rfl;unfold qfc;refine zcI Tryz.func135 rfl (n:=14) rfl rfl rfl ?_;refine gah ?_;refine oS (zsB rfl λb1=>?_) rfl;refine gaa ?_;refine zoB 6 rfl (λh=>?_) (λh=>?_);have h1:a ≥ 0:=zt h;refine gad ?_
 exact qac rfl (zra rfl) (qau (by
  rw[hI,Bool.eq_iff_iff,decide_eq_true_iff,decide_eq_true_iff]
  omega))
 have h1:¬ a ≥ 0:=zf h;refine gab ?_
 exact qac rfl (zra rfl) (qau (by
  rw[hI]
  symm
  exact decide_eq_false zo))
theorem qp4(r s:Int×Int)(h1:SmI r.1)(h2:SmI r.2)(h3:SmI s.1)(h4:SmI s.2):LCalls (KC B0 w0) 136 [qfc r,qfc s] [] (Ret (bool (qjg r s))):=by
 obtain⟨a,n⟩:=r;obtain⟨b,m⟩:=s;unfold SmI at h1 h2 h3 h4;simp only at h1 h2 h3 h4;have hI:qjg (a,n) (b,m)=decide (0<n/\0<m/\a<b+m/\b<a+n):=rfl;unfold qfc;refine zcI Tryz.func136 rfl (n:=33) rfl rfl rfl ?_;refine gah ?_;refine oS (zsB rfl λb1=>oS (zsB rfl λb2=>?_) rfl) rfl;refine gaa ?_;refine zoB 8 rfl (λg1=>?_) (λg1=>?_);rotate_left;have g1':¬ n > 0:=zf g1;refine gab ?_;exact qac rfl (zra rfl) (qau (by rw[hI];symm;exact decide_eq_false zo));have g1':n > 0:=zt g1;refine gad ?_;refine zoB 13 rfl (λg2=>?_) (λg2=>?_);rotate_left;have g2':¬ m > 0:=zf g2;refine gab ?_;exact qac rfl (zra rfl) (qau (by rw[hI];symm;exact decide_eq_false zo));have g2':m > 0:=zt g2;refine gad ?_;refine zoB 23 rfl (λg3=>?_) (λg3=>?_);rotate_left;have g3':¬ a<b+m:=zf g3;refine gab ?_;exact qac rfl (zra rfl) (qau (by rw[hI];symm;exact decide_eq_false zo));have g3':a<b+m:=zt g3;refine gad ?_
 exact qac rfl (zra rfl) (qau (by
  rw[hI,Bool.eq_iff_iff,decide_eq_true_iff,decide_eq_true_iff]
  omega))
theorem qnG(vars:List Nm)(arrays:List (Nm×Int))(fs:List FnD)(o:Org)(hl:arrays.length<=2000000)(hp:∀ a∈arrays,0<a.2)(h0:0<=o.arrays)(h1:o.arrays+(arrays.map (·.2)).sum<=262144):LCalls (KC B0 w0) 81 [Chk.encPrG vars arrays fs,qkh o] [] (Ret (.tuple [.list ((symA o.arrays arrays).map qpX),int .i64 0])):=by
 have hal:(arrays.map Chk.encArG).length=arrays.length:=zLm _;have hml:(arrays.map (·.2)).length=arrays.length:=zLm _
 have hps:∀ n∈arrays.map (·.2),0<n:=λn hn=>by
  obtain⟨a,ha,rfl⟩:=List.mem_map.1 hn;exact hp a ha
 unfold Chk.encPrG qkh;refine zcI Tryz.func81 rfl (n:=50) rfl rfl rfl ?_;refine gah ?_;refine oS (zsB rfl λb2=>oS (zsB rfl λb3=>?_) rfl) rfl;refine gaa ?_
 refine zoL (λkk ls H'=>∃ (i:Nat) (v:LV),i<=arrays.length/\kk=arrays.length-i/\ls=[(6,v),(7,int .i64 (o.arrays+((arrays.map (·.2)).take i).sum)),(13,.list (arrays.map Chk.encArG)),(14,int .i64 arrays.length),(15,int .i64 (i:Nat))]/\GL.Acc 2 v ((symA o.arrays (arrays.take i)).map qpX) H' [])
  ⟨_,_,_,⟨0,qab,zero_le _,rfl,rfl,Acc.nil⟩,⟨rfl,qap (by simp),rfl,qap zo,rfl,trivial⟩,HSub.nil _⟩ ?_
 rintro kk ls H' ⟨i,v,hi,rfl,rfl,hacc⟩ j hj;have hsum:=qc7 (arrays.map (·.2)) i hps;refine gai ?_;refine zoC rfl (λhc=>?_) (λhc=>?_);have hlt:i<arrays.length:=by have:=zt hc;omega
 have hpi:=hp _ (getElem_mem hlt);have hst:=qoH (l:=arrays.map (·.2)) (i:=i) zo;rw[List.getElem_map] at hst;have hsum2:=qc7 (arrays.map (·.2)) (i+1) hps
 have hlen:((symA o.arrays (arrays.take i)).map qpX).length=i:=by
  rw[zLm,qly,length_take];omega
 generalize hsi:((arrays.map (·.2)).take i).sum=si at hsum hst;have hsy:=qtq hlt o.arrays;rw[hsi] at hsy;refine gak ?_;refine oP (xR (el':=Chk.encArG arrays[i]) (cs:=[_,_]) rfl rfl zo (qbj _ _ _ hlt) rfl rfl) rfl<|gad ?_;refine oS (zsA λb9=>?_) rfl;refine gaa ?_;refine zoB 21 rfl (λh=>?_) (λ_=>?_);have:=zt h;omega;refine gad ?_;refine zoB 25 rfl (λh=>?_) (λ_=>?_);have:=zt h;omega;refine gad ?_;refine zoB 30 rfl (λh=>?_) (λ_=>?_);have:=zt h;omega;refine gad ?_;refine zoC rfl (λh=>?_) (λ_=>?_);have:=zt h;omega;refine gak ?_;refine zQ14 ?_;refine gad ?_;refine zQ0 ?_;refine oS (S.acc1 rfl hacc rfl (by simp;rfl) rfl (by rw[hlen];simp;omega) λv' H2 hacc'=>?_) rfl;refine zQ19 ?_;refine gac ?_;exact⟨_,_,_,by omega,⟨i+1,v',by omega,rfl,rfl,by rw[hsy,zMa];exact hacc'⟩,⟨rfl,qap (by rw[hst];omega),rfl,rfl,qap zo,trivial⟩,zhD zhr,hj⟩;have hi':i=arrays.length:=by have:=zf hc;omega
 subst hi';rw[take_length] at hacc;refine qag.sub (d:=6) (v:=v) rfl hacc.sub ?_;refine cW zhn ?_;refine gaa ?_;exact qac hj (rC (rT (v:=.list _) rfl zsr) (zra rfl)) rfl
theorem qq8(vars:List Nm)(arrays:List (Nm×Int))(fs:List FnD)(o:Org)(hv6:vars.length<=2000000)(hf6:fs.length<=2000000)(hl:arrays.length<=2000000)(hsm:∀ f∈fs,SmF f)(hn:∀ f∈fs,f.name.length<=1000/\∀ x∈f.params++f.locals,x.length<=1000)
  (hp:∀ a∈arrays,0<a.2) (ht:(arrays.map (·.2)).sum<=150000) (hsc:(qai vars fs).length<=8000) (o1:I64 o.code) (o2:I64 o.scalars) (o3:I64 o.arrays) :
  LCalls (KC B0 w0) 79 [Chk.encPrG vars arrays fs,qkh o] [] (Ret (bool (qfr vars arrays fs o))):=by
 have hal:(arrays.map Chk.encArG).length=arrays.length:=zLm _;have hml:(arrays.map (·.2)).length=arrays.length:=zLm _
 have hps:∀ n∈arrays.map (·.2),0<n:=λn hn=>by
  obtain⟨a,ha,rfl⟩:=List.mem_map.1 hn;exact hp a ha
 have hscl:((qai vars fs).map str).length=(qai vars fs).length:=zLm _;have hS:=Chk.scalars_specG (B0:=B0) (w0:=w0) (vars:=vars) (fs:=fs) (.list (arrays.map Chk.encArG)) hv6 hf6 hsm hn;rw[qwo];unfold Chk.encPrG qkh;refine zcI Tryz.func79 rfl (n:=63) rfl rfl rfl ?_;refine gah ?_;refine oS (zsB rfl λb2=>oS (zsB rfl λb3=>?_) rfl) rfl;refine gaa ?_
 refine zoL (λkk ls H'=>∃ (i:Nat),i<=arrays.length/\kk=arrays.length-i/\ls=[(2,ptr b2 0),(3,ptr b3 0),(5,int .i64 (((arrays.map (·.2)).take i).sum)),(14,.list (arrays.map Chk.encArG)),(15,int .i64 arrays.length),(16,int .i64 (i:Nat))]/\H'=[(b3,.cells 56 [int .i64 o.code,int .i64 o.scalars,int .i64 o.arrays]),(b2,.cells 43 [.list (vars.map str),.list (arrays.map Chk.encArG),.list (fs.map qbm)])])
  ⟨_,_,_,⟨0,zero_le _,rfl,rfl,rfl⟩,⟨rfl,rfl,rfl,rfl,qap zo,rfl,trivial⟩,zhR _⟩ ?_
 rintro kk ls H' ⟨i,hi,rfl,rfl,rfl⟩ j hj;have hsum:=qc7 (arrays.map (·.2)) i hps;refine gai ?_;refine zoC rfl (λhc=>?_) (λhc=>?_);have hlt:i<arrays.length:=by have:=zt hc;omega
 have hpi:=hp _ (getElem_mem hlt);have hst:=qoH (l:=arrays.map (·.2)) (i:=i) zo;rw[List.getElem_map] at hst;have hsum2:=qc7 (arrays.map (·.2)) (i+1) hps;generalize hsi:((arrays.map (·.2)).take i).sum=si at hsum hst;refine gak ?_;refine oP (xR (el':=Chk.encArG arrays[i]) (cs:=[_,_]) rfl rfl zo (qbj _ _ _ hlt) rfl rfl) rfl<|gad ?_;refine oS (zsA λb7=>?_) rfl;refine gaa ?_;exact⟨_,_,_,by omega,⟨i+1,by omega,rfl,rfl,rfl⟩,⟨rfl,rfl,qap (by rw[hst]),rfl,rfl,qap zo,trivial⟩,zhD zhr,hj⟩;have hi':i=arrays.length:=by have:=zf hc;omega
 subst hi';rw[<-hml,take_length] at hsum ⊢;generalize (arrays.map (·.2)).sum=total at hsum ht ⊢;generalize (qai vars fs).length=ns at hsc hscl ⊢;refine gab ?_;refine cD (m:=16) rfl [(b3,.cells 56 [int .i64 o.code,int .i64 o.scalars,int .i64 o.arrays]),(b2,.cells 43 [.list (vars.map str),.list (arrays.map Chk.encArG),.list (fs.map qbm)])]<|aT 0 rfl rfl (pF rfl)<|aT 1 rfl rfl (pL (c:=.atom _) rfl zm0 rfl)<|aT 2 rfl rfl (pG (cs':=[_,_,_]) rfl zm1 rfl rfl)<|aT 7 rfl rfl (pF rfl)<|aT 8 rfl rfl (pL (c:=.atom _) rfl zm0 rfl)<|aT 9 rfl rfl (pB _ (cs:=[_,_]) rfl)<|aT 10 rfl rfl (pF rfl)<|aT 11 rfl rfl (pL (c:=.atom _) rfl zm0 rfl)<|aT 12 rfl rfl (pM (lv:=.atom _) rfl)<|aT 13 rfl rfl (pB _ (cs:=[_,_]) rfl)<|aL ?_ zhr;refine lO 3 (lS (H1:=[]) rfl (.inl rfl) rfl zpr zhr (sF [_] rfl hS ?_));refine lO 4 (lH rfl rfl (Pure.llen rfl) ?_);refine lO 5 (lH rfl rfl (Pure.add rfl rfl zo) ?_);refine lO 6 (lH rfl rfl (pB _ (cs:=[_,_]) rfl) ?_);refine lO 14 (lS (H1:=[]) rfl (.inl rfl) rfl zpr zhr (sL (es:=[LV.agg [int .i64 o.scalars,int .i64 (3+(((qai vars fs).map str).length:Int))],.agg [int .i64 o.code,int .i64 40000],.agg [int .i64 o.arrays,int .i64 total]]) [_,_,_] rfl (eC rfl rfl (eC rfl rfl (eC rfl rfl eN))) rfl rfl rfl ?_));refine lO 15 (lH rfl rfl (pA (lv:=.list _) rfl) ?_);refine lD zk ?_;have e3:(3:Int)+(((qai vars fs).map str).length:Int)=3+(ns:Nat):=by rw[hscl]
 rw[e3];generalize hrs:[(o.scalars,(3:Int)+(ns:Nat)),(o.code,(40000:Int)),(o.arrays,total)]=rs;have hrl:([LV.agg [int .i64 o.scalars,int .i64 (3+(ns:Int))],.agg [int .i64 o.code,int .i64 40000],.agg [int .i64 o.arrays,int .i64 total]]:List LV)=rs.map qfc:=by rw[<-hrs];rfl
 rw[hrl];have hlr:rs.length=3:=by rw[<-hrs];rfl
 have hsz:∀ r∈rs,SmI r.2/\0<=r.2:=by
  rw[<-hrs];intro r hr;simp only[zMi,List.not_mem_nil,or_false] at hr;unfold SmI;rcases hr with rfl|rfl|rfl <;> simp only <;> omega
 have hrm:(rs.map qfc).length=rs.length:=zLm _;clear hrl hrs;generalize hR:goR [] rs=R;refine qN ?_;refine cW zhn ?_;refine gaa ?_
 refine zoL (λkk ls H'=>∃ (i:Nat),i<=rs.length/\kk=rs.length-i/\ls=[(8,.list (rs.map qfc)),(40,.list (rs.map qfc)),(41,int .i64 rs.length),(42,int .i64 (i:Nat))]/\H'=[]/\goR (rs.take i) (rs.drop i)=R/\∀ r∈rs.take i,qfx r=true)
  ⟨_,_,_,⟨0,zero_le _,rfl,rfl,rfl,hR,λr hr=>by cases hr⟩,⟨rfl,rfl,qap zo,rfl,trivial⟩,zhR _⟩ ?_
 rintro kk ls H' ⟨i,hi,rfl,rfl,rfl,hgo,hins⟩ j1 hj1;refine gai ?_;refine zoC rfl (λhc=>?_) (λhc=>?_);rotate_left;have hi':i=rs.length:=by have:=zf hc;omega
 subst hi';rw[List.drop_length,goR] at hgo;refine gac ?_;exact qac (hj1.trans hj) (zra rfl) (qau hgo);have hlt:i<rs.length:=by have:=zt hc;omega
 have hsi:=hsz _ (getElem_mem hlt);rw[List.drop_eq_getElem_cons hlt,goR,<-take_succ_eq_append_getElem hlt] at hgo;generalize hgr:rs[i]=r at hgo hsi;refine gac ?_;refine oP (xR (el':=qfc r) (cs:=[_,_]) rfl rfl zo (by rw[<-hgr];exact qbj _ _ _ hlt) rfl rfl) rfl<|gad ?_;refine oS (zsA λb10=>?_) rfl;refine gaa ?_;refine oS (sF [_] rfl (qow r hsi.1) ?_) rfl;refine gad ?_;refine zoC rfl (λh=>?_) (λh=>?_);have h':qfx r=false:=by simpa using h
 rw[h',Bool.false_and,Bool.false_and] at hgo;refine gac ?_;exact qac (hj1.trans hj) (zra rfl) (qau hgo);have h':qfx r=true:=by simpa using h
 rw[h',Bool.true_and] at hgo
 have inb:∀ r:Int×Int,SmI r.2/\0<=r.2->qfx r=true->SmI r.1:=λr h1 h2=>by
  have:0<=r.1/\r.1<=262144-r.2:=zt h2;unfold SmI at h1 ⊢;omega
 have hri:=inb r hsi h';have htl:(rs.take i).length=i:=by rw[length_take];omega
 have htm:((rs.take i).map qfc).length=i:=by rw[zLm,htl]
 have hts:((rs.map qfc).take i)=(rs.take i).map qfc:=List.map_take.symm;refine gac ?_;refine oP (Pure.lsliceE (i:=0) (j:=(i:Nat)) (es:=rs.map qfc) (ms:=(rs.take i).map qfc) rfl rfl ⟨_,rfl⟩ zo zo zo (λv hv=>by obtain⟨r,_,rfl⟩:=List.mem_map.1 hv;rfl) (by rw[Int.toNat_natCast,<-hts];rfl)) rfl<|gad ?_
 refine zoL (λkk ls H'=>∃ (x:Nat),x<=i/\kk=i-x/\ls=[(8,.list (rs.map qfc)),(10,ptr b10 0),(40,.list (rs.map qfc)),(41,int .i64 rs.length),(42,int .i64 (i:Nat)),(52,.list ((rs.take i).map qfc)),(53,int .i64 i),(54,int .i64 (x:Nat))]/\H'=[(b10,.cells 162 [int .i64 r.1,int .i64 r.2])]/\((((rs.take i).drop x).all λs=>!qjg r s) && goR (rs.take (i+1)) (rs.drop (i+1)))=R)
  ⟨_,_,_,⟨0,zero_le _,rfl,rfl,rfl,by rw[List.drop_zero];exact hgo⟩,⟨rfl,rfl,rfl,rfl,rfl,rfl,qap zo,rfl,trivial⟩,zhR _⟩ ?_
 rintro kk ls H' ⟨x,hx,rfl,rfl,rfl,hall⟩ j2 hj2;refine gai ?_;refine zoC rfl (λhc=>?_) (λhc=>?_);have hlx:x<(rs.take i).length:=by have:=zt hc;omega
 have hm1:=getElem_mem hlx;have hss:=hsz _ (List.mem_of_mem_take hm1);have hsn:=inb _ hss (hins _ hm1);rw[List.drop_eq_getElem_cons hlx,List.all_cons] at hall;generalize hgs:(rs.take i)[x]=s at hall hss hsn;refine gak ?_;refine oP (xR (el':=qfc s) (cs:=[_,_]) rfl rfl zo (by rw[<-hgs];exact qbj _ _ _ hlx) rfl rfl) rfl<|gad ?_;refine oS (zsA λb12=>?_) rfl;refine gaa ?_;refine oS (sF [_,_] rfl (qp4 r s hri hsi.1 hsn hss.1) ?_) rfl;refine gaf ?_;refine zoC rfl (λh=>?_) (λh=>?_);have h2:qjg r s=true:=h;rw[h2] at hall;refine gac ?_;exact qac (hj2.trans (hj1.trans hj)) (zra rfl) (qau (by rw[<-hall];rfl));have h2:qjg r s=false:=h;rw[h2] at hall;refine gac ?_;exact⟨_,_,_,by omega,⟨x+1,by omega,rfl,rfl,rfl,hall⟩,⟨rfl,rfl,rfl,rfl,rfl,rfl,rfl,qap zo,trivial⟩,zhD zhr,hj2⟩;have hx':x=i:=by have:=zf hc;omega
 subst hx';rw[List.drop_eq_nil_of_le (by rw[htl];exact zNr _)] at hall;refine gac ?_
 exact⟨_,_,_,by omega,⟨x+1,by omega,rfl,rfl,rfl,hall,λq hq=>by
  rw[take_succ_eq_append_getElem hlt,hgr] at hq;rcases List.mem_append.1 hq with hq|hq;exact hins q hq
  rw[List.mem_singleton.1 hq];exact h'⟩,⟨rfl,rfl,rfl,qap zo,trivial⟩,HSub.nil _,hj2.trans hj1⟩
end
def scKV(S:Int):Nat->List Nm->KV
 |_,[]=>[]
 |i,x::r=>(x,int .i64 (S+3+(i:Nat)))::scKV S (i+1) r
theorem qoM(S:Int):∀ (l m:List Nm) (i:Nat),scKV S i (l++m)=scKV S i l++scKV S (i+l.length) m
 |[],m,i=>by simp[scKV]
 |x::r,m,i=>by
  rw[cons_append,scKV,qoM S r m,scKV,cons_append,zLc,Nat.add_right_comm,Nat.add_assoc]
theorem qnb(S:Int):∀ (l:List Nm) (i:Nat),(scKV S i l).map (·.1)=l
 |[],i=>rfl
 |x::r,i=>by rw[scKV,zMc,qnb S r]
theorem qrv{S:Int}{l:List Nm}{i:Nat}(h:i<l.length)(hn:l.Nodup):GL.kvPut (scKV S 0 (l.take i)) l[i] (int .i64 (S+3+(i:Nat)))=scKV S 0 (l.take (i+1)):=by
 rw[take_succ_eq_append_getElem h,qoM,length_take,Nat.zero_add,Nat.min_eq_left zo];refine qpj ?_;rw[qnb];intro hm;rw[<-List.take_append_drop i l,List.drop_eq_getElem_cons h,List.nodup_append] at hn;exact hn.2.2 _ hm _ zMs rfl
theorem qlR(S:Int)(k:Nm):∀ (l:List Nm) (i:Nat),GL.kvGet (scKV S i l) k=if k∈l then some (int .i64 (S+3+((i+l.idxOf k:Nat):Int))) else none
 |[],i=>rfl
 |x::r,i=>by
  rw[scKV,GL.kvGet]
  by_cases h:x=k
  rw[zp h,zp (by rw[h];exact List.mem_cons_self ..),List.idxOf_cons,h]
  simp
  rw[zn h,qlR S k r (i+1)]
  by_cases hm:k∈r
  rw[zp hm,zp (zMo _ hm),List.idxOf_cons,cond_eq_ite,zn (by simpa using h)];congr 4;omega;rw[zn hm,zn (by rw[zMi];exact λg=>g.elim (λe=>h e.symm) hm)]
def arKV(l:List (Nm×Int)):KV:=l.map λp=>(p.1,int .i64 p.2)
theorem qrf{l:List (Nm×Int)}{i:Nat}(h:i<l.length)(hn:(l.map (·.1)).Nodup):GL.kvPut (arKV (l.take i)) l[i].1 (int .i64 l[i].2)=arKV (l.take (i+1)):=by
 unfold arKV;rw[take_succ_eq_append_getElem h,zMa];refine qpj ?_;rw[map_map];intro hm
 have e1:l.map (·.1)=(l.take i).map (·.1)++l[i].1::(l.drop (i+1)).map (·.1):=by
  conv=>lhs;rw[<-List.take_append_drop i l,List.drop_eq_getElem_cons h]
  rw[zMa,zMc]
 rw[e1,List.nodup_append] at hn;exact hn.2.2 _ hm _ zMs rfl
theorem qoV(name:Nm):∀ (l:List (Nm×Int)) (a:Int),(GL.kvGet (arKV (symA a l)) name).getD (int .i64 0)=int .i64 (arrA a l name)
 |[],a=>rfl
 |(x,n)::r,a=>by
  rw[symA,arrA];show(GL.kvGet ((x,int .i64 a)::arKV (symA (a+n) r)) name).getD (int .i64 0)=_;rw[GL.kvGet];simp only
  by_cases h:x=name
  rw[zp h,zp h];rfl;rw[zn h,zn h];exact qoV name r (a+n)
def qqQ:Except Int Wd->LV
 |.error e=>.tuple [str [],int .i64 e]
 |.ok t=>.tuple [str t,int .i64 0]
theorem tb_ok{P:Pr}{o:Org}(hF:FitN P o)(own:Nm)(ho:own.length<=1000000)(b1 b2 b3 g1 g2:Nat):TBok ⟨b1,b2,b3,scKV o.scalars 0 (qai P.vars P.funcs),arKV (symA o.arrays (qbd P)),g1,g2,o.scalars.toNat⟩ (ccF P.vars (qbd P) P.funcs o own) own:=by
 have s0:=hF.s0;have s1:=hF.s1;have a0:=hF.a0;have a1:=hF.a1
 have hp:∀ p∈qbd P,0<=p.2:=λp hp=>by
  obtain⟨a,_,rfl⟩:=List.mem_map.1 hp;exact Int.natCast_nonneg _
 have hpl:∀ k,0<=qeu (qai P.vars P.funcs) o.scalars k/\qeu (qai P.vars P.funcs) o.scalars k<=262144/\(k∈qai P.vars P.funcs->int .i64 (o.scalars+3+((0+(qai P.vars P.funcs).idxOf k:Nat):Int))=int .i64 (((qeu (qai P.vars P.funcs) o.scalars k).toNat:Nat):Int)):=λk=>by
  unfold qeu
  by_cases h:k∈qai P.vars P.funcs
  have:=List.idxOf_lt_length_of_mem h;rw[zp h];exact⟨by omega,by omega,λ_=>qap zo⟩;rw[zn h];exact⟨by omega,by omega,λh2=>absurd h2 h⟩
 refine⟨λname=>?_,λname=>?_,?_,?_,?_,?_,ho⟩;refine⟨(qeu (qai P.vars P.funcs) o.scalars (keyC (qai P.vars P.funcs) own name)).toNat,?_,?_,?_⟩;have:=hpl (keyC (qai P.vars P.funcs) own name);omega;exact qca (hpl _).1;show(∃ v,GL.kvGet (scKV o.scalars 0 (qai P.vars P.funcs)) (own++[46]++name)=some v/\_)∨(GL.kvGet (scKV o.scalars 0 (qai P.vars P.funcs)) (own++[46]++name)=none/\(GL.kvGet (scKV o.scalars 0 (qai P.vars P.funcs)) name).getD _=_);rw[qlR,qlR];unfold keyC
 by_cases h:own++[46]++name∈qai P.vars P.funcs
 left;rw[zp h,zp h];exact⟨_,rfl,(hpl _).2.2 h⟩;right;rw[zn h,zn h];refine⟨rfl,?_⟩
 by_cases h2:name∈qai P.vars P.funcs
 rw[zp h2];exact(hpl _).2.2 h2;rw[zn h2];unfold qeu;rw[zn h2];rfl;have h1:=qgQ (qbd P) o.arrays a0 hp name;have h2:=qhS (qbd P) o.arrays a0 hp name;have h3:((qbd P).map (·.2)).sum=((totA P.arrays:Nat):Int):=qg8 P.arrays;rw[h3] at h2;refine⟨(arrA o.arrays (qbd P) name).toNat,by omega,qca h1,?_⟩;show(GL.kvGet (arKV (symA o.arrays (qbd P))) name).getD _=_;rw[qoV];exact qap zo;exact qca s0;show itoa (o.scalars+1)=_;rw[qca zo];congr 1;show _=o.scalars.toNat+1;omega;show itoa (o.scalars+2)=_;rw[qca zo];congr 1;show _=o.scalars.toNat+2;omega;show o.scalars.toNat<=_;omega
theorem qoO{s:Nm}(h:isNm s=true):s.length<=24:=by
 unfold isNm at h;rw[zBa,zBa,zDe] at h;exact h.1.1
theorem qxB{P:Pr}(hv:Valid P){f:FnD}(hf:f∈P.funcs)(hown:∀ x∈f.params++f.locals,x.length<=24){kn:List FSum}(hk:qn4 P.funcs kn):EnvOk (envF P.vars (P.arrays.map (·.name)) (P.funcs.map (·.name)) kn f):=by
 have hfr:=qbA _ _ hv.names;refine⟨λs hs=>?_,λk hk'=>?_⟩;unfold qcg at hs;split at hs
 rename_i h
 rcases h with h|h;exact qoO (hfr.2 s (List.mem_append_left _ (List.mem_append_left _ h))).2;exact hown s h;split at hs <;> cases hs;obtain⟨g,g1,g2,_⟩:=hk k hk';rw[<-g2];exact qoO (hfr.2 _ (mem_append_right _ (List.mem_map_of_mem g1))).2
theorem qm0:∀ (vars arrays later:List Nm) (known:List FSum) (fs:List FnD),qfO vars arrays later known fs=0->∀ f∈fs,∀ x∈f.params++f.locals,x.length<=24
 |_,_,_,_,[],_,f,hf=>(List.not_mem_nil hf).elim
 |vars,arrays,later,known,g::l,h,f,hf=>by
  rw[qfO] at h;obtain⟨h1,h2⟩:=qah.1 h;rcases zMi.1 hf with rfl|hf;unfold errF at h1;intro x hx;exact qoO ((qbA _ _ (qah.1 h1).1).2 x hx).2;exact qm0 vars arrays later _ l h2 f hf
theorem qyl{t s a b3 b2:Nat×LObj}:[t,b3,s,a,b2].Perm ([t,s,a]++[b3,b2]):=List.Perm.cons _ ((List.Perm.swap _ _ _).trans (List.Perm.cons _ (List.Perm.swap _ _ _)))
section
variable{B0:Nat}{w0:World}
theorem qmM(hG:GW B0 w0)(hM:Asm.GM w0)(vars:List Nm)(arrays:List (Nm×Int))(fs:List FnD)(o:Org)(hv6:vars.length<=2000000)(ha6:arrays.length<=2000000)(har:∀ a∈arrays,I64 a.2)(hnd:ndFs fs<=2000000)(hnum:∀ f∈fs,qcu f.body)(o1:I64 o.code)(o2:I64 o.scalars)(o3:I64 o.arrays) :
  LCalls (KC B0 w0) 37 [Chk.encPrG vars arrays fs,qkh o] [] (Ret (qqQ (cmpP vars arrays fs o))):=by
 have hck:=Chk.check_spec (B0:=B0) (w0:=w0) vars arrays fs hv6 ha6 har hnd;have hf6:=qiX fs;have hsm:∀ f∈fs,SmF f:=λf hf=>qsu (by have:=qiK hf;omega);generalize hC:cmpP vars arrays fs o=R;unfold cmpP at hC;have ePr:Chk.encPrG vars arrays fs=.agg [.list (vars.map str),.list (arrays.map Chk.encArG),.list (fs.map qbm)]:=rfl;have eOr:qkh o=.agg [int .i64 o.code,int .i64 o.scalars,int .i64 o.arrays]:=rfl;rw[ePr,eOr];refine zcI Tryz.func37 rfl (n:=102) rfl rfl rfl ?_;refine gah ?_;refine oS (zsB rfl λb2=>oS (zsB rfl λb3=>?_) rfl) rfl;refine gaa ?_;refine oS (S.callH (H1:=[]) (F:=[_,_]) [_] rfl zpr hck ?_ (by rintro ch H' ⟨_,nm,h⟩;cases h)) rfl;rintro lv H' ⟨rfl,nm,h⟩;cases h;refine gaa ?_
 by_cases hc0:qc3 vars arrays fs=0
 rotate_left;rw[zp hc0] at hC;subst hC;refine zoC rfl (λ_=>?_) (λhc=>?_);refine gac ?_;exact qac rfl (rC (zrt rfl) (zra rfl)) rfl;have h2:(!decide (qc3 vars arrays fs=0))=false:=hc;simp at h2;exact absurd h2 hc0;refine zoC rfl (λhc=>?_) (λ_=>?_);have h2:(!decide (qc3 vars arrays fs=0))=true:=hc;simp[hc0] at h2;rw[zn (by simpa using hc0)] at hC;obtain⟨ht,hp,hPa,hPc,hV⟩:=qnO hc0
 have hown:∀ f∈fs,∀ x∈f.params++f.locals,x.length<=24:=by
  have h:=hc0;unfold qc3 at h;exact qm0 _ _ _ _ _ (qah.1 (qah.1 (qah.1 h).2).2).1
 have hfr:=qbA _ _ hV.names;have hfn:∀ f∈fs,f.name.length<=24:=λf hf=>qoO (hfr.2 _ (mem_append_right _ (List.mem_map_of_mem hf))).2;have hn:∀ f∈fs,f.name.length<=1000/\∀ x∈f.params++f.locals,x.length<=1000:=λf hf=>⟨by have:=hfn f hf;omega,λx hx=>by have:=hown f hf x hx;omega⟩;have hsc8:(qai vars fs).length<=8000:=hV.few;have hft:=qq8 (B0:=B0) (w0:=w0) vars arrays fs o hv6 zo ha6 hsm hn hp ht hsc8 o1 o2 o3;rw[ePr,eOr] at hft;refine gaa ?_;refine oS (sF [_,_] rfl hft ?_) rfl;refine gad ?_
 by_cases hfit:qfr vars arrays fs o=true
 rotate_left;rw[zp (by simpa using hfit)] at hC;subst hC;refine zoC rfl (λ_=>?_) (λhc=>?_);refine gap ?_;exact qac rfl (rC (zrt rfl) (zra rfl)) rfl;have h2:(!qfr vars arrays fs o)=false:=hc;simp at h2;exact absurd h2 hfit;refine zoC rfl (λhc=>?_) (λ_=>?_);have h2:(!qfr vars arrays fs o)=true:=hc;rw[hfit] at h2;cases h2;rw[zn (by rw[hfit];decide)] at hC;have hfitP:qfr (prOf vars arrays fs).vars (qbd (prOf vars arrays fs)) (prOf vars arrays fs).funcs o=true:=by rw[hPa];exact hfit
 have hF:=qhd hfitP;have hS:=Chk.scalars_specG (B0:=B0) (w0:=w0) (vars:=vars) (fs:=fs) (.list (arrays.map Chk.encArG)) hv6 zo hsm hn;have hT:=hF.s1;have hS0:=hF.s0;have hA1:=hF.a1;have hA0:=hF.a0;have hkeys:(qai vars fs).Nodup:=hV.keys
 have htot:(arrays.map (·.2)).sum=((totA (prOf vars arrays fs).arrays:Nat):Int):=by
  have:=qg8 (prOf vars arrays fs).arrays;rw[<-this];congr 2;exact hPa.symm
 have hAs:=qnG (B0:=B0) (w0:=w0) vars arrays fs o ha6 hp hA0 (by rw[htot];omega);rw[ePr,eOr] at hAs;have hT2:o.scalars.toNat+3+(qai vars fs).length<=262144:=hT;refine gac ?_;refine oS (S.kvNew λsm=>oS (S.kvNew λam=>?_) rfl) rfl;refine gad ?_;refine oS (zsB rfl λtb=>?_) rfl;refine gaa ?_;refine oS (sF [_] rfl hS ?_) rfl;have hsl:((qai vars fs).map str).length=(qai vars fs).length:=zLm _;refine gad ?_;generalize hsl2:qai vars fs=sl at *
 refine zoL (λkk ls H'=>∃ (i g1:Nat),i<=sl.length/\kk=sl.length-i/\ls=[(2,ptr b2 0),(3,ptr b3 0),(8,ptr tb 0),(39,.list (sl.map str)),(40,int .i64 sl.length),(41,int .i64 (i:Nat))]/\H'=[(tb,.cells 132 [qab,int .i64 0,int .i64 o.scalars,.atom (.map (some sm)),.atom (.map (some am)),str []]),(b3,.cells 56 [int .i64 o.code,int .i64 o.scalars,int .i64 o.arrays]),(sm,.map (kvs (scKV o.scalars 0 (sl.take i))) g1),(am,.map (kvs []) 0),(b2,.cells 43 [.list (vars.map str),.list (arrays.map Chk.encArG),.list (fs.map qbm)])])
  ⟨_,_,_,⟨0,0,zero_le _,rfl,rfl,rfl⟩,⟨rfl,rfl,rfl,rfl,qap zo,rfl,trivial⟩,zhP pH (zhP zp2 (zhP zp1 zhr))⟩ ?_
 rintro kk ls H' ⟨i,g1,hi,rfl,rfl,rfl⟩ j hj;refine gai ?_;refine zoC rfl (λhc=>?_) (λhc=>?_);have hlt:i<sl.length:=by have:=zt hc;omega
 have htk:=qrv (S:=o.scalars) hlt hkeys;refine gac ?_;refine oP (xR (el':=str sl[i]) (cs:=[str sl[i]]) rfl rfl zo (qbj _ _ _ hlt) rfl rfl) rfl<|gad ?_;refine cD (m:=11) rfl [(tb,.cells 132 [qab,int .i64 0,int .i64 o.scalars,.atom (.map (some sm)),.atom (.map (some am)),str []]),(b3,.cells 56 [int .i64 o.code,int .i64 o.scalars,int .i64 o.arrays])]<|zQ9 ?_;refine aT 3 rfl rfl (pL (c:=.atom _) rfl zm0 rfl)<|aT 4 rfl rfl (pM (lv:=.atom _) rfl)<|aT 5 rfl rfl (pF rfl)<|aT 6 rfl rfl (pL (c:=.atom _) rfl zm1 rfl)<|aT 7 rfl rfl (Pure.add rfl rfl zo)<|aT 8 rfl rfl (pM (lv:=.atom _) rfl)<|aT 9 rfl rfl (Pure.add rfl rfl zo)<|aL ?_ qiy;refine lO 10 (lS (H1:=[(sm,.map (kvs (scKV o.scalars 0 (sl.take i))) g1)]) rfl (.inl rfl) rfl (show Pick _ _ _ from pT zp1) qiy (S.kvSet (k:=sl[i]) (lv:=int .i64 (o.scalars+3+(i:Nat))) rfl rfl rfl pH λg1'=>?_));rw[htk];refine lD zk ?_;refine gaq ?_;exact⟨_,_,_,by omega,⟨i+1,g1',by omega,rfl,rfl,rfl⟩,⟨rfl,rfl,rfl,rfl,rfl,qap zo,trivial⟩,zhP zp1 (zhP zp1 zhr),hj⟩;have hi':i=sl.length:=by have:=zf hc;omega
 subst hi';rw[take_length];have hyl:=qly arrays o.arrays
 have hyn:((symA o.arrays arrays).map (·.1)).Nodup:=by
  rw[qk4];have h1:=(List.nodup_append.1 (List.nodup_append.1 hfr.1).1).2.1
  have e1:(prOf vars arrays fs).arrays.map (·.name)=arrays.map (·.1):=by
   unfold prOf;rw[map_map];rfl
  rw[e1] at h1;exact h1
 have hym:((symA o.arrays arrays).map qpX).length=(symA o.arrays arrays).length:=zLm _;refine gaa ?_;refine oS (sF [_,_] rfl hAs ?_) rfl;refine gaa ?_;generalize hyy:symA o.arrays arrays=ys at *;refine zoC rfl (λh=>by cases h) (λ_=>?_);refine gaa ?_
 refine zoL (λkk ls H'=>∃ (i g2:Nat),i<=ys.length/\kk=ys.length-i/\ls=[(2,ptr b2 0),(3,ptr b3 0),(8,ptr tb 0),(66,.list (ys.map qpX)),(67,int .i64 ys.length),(68,int .i64 (i:Nat))]/\H'=[(tb,.cells 132 [qab,int .i64 0,int .i64 o.scalars,.atom (.map (some sm)),.atom (.map (some am)),str []]),(b3,.cells 56 [int .i64 o.code,int .i64 o.scalars,int .i64 o.arrays]),(sm,.map (kvs (scKV o.scalars 0 sl)) g1),(am,.map (kvs (arKV (ys.take i))) g2),(b2,.cells 43 [.list (vars.map str),.list (arrays.map Chk.encArG),.list (fs.map qbm)])])
  ⟨_,_,_,⟨0,0,zero_le _,rfl,rfl,rfl⟩,⟨rfl,rfl,rfl,rfl,qap zo,rfl,trivial⟩,zhR _⟩ ?_
 rintro kk ls H' ⟨i,g2,hi,rfl,rfl,rfl⟩ j2 hj2;refine gai ?_;refine zoC rfl (λhc=>?_) (λhc=>?_);have hlt:i<ys.length:=by have:=zt hc;omega
 have htk:=qrf hlt hyn;refine gak ?_;refine oP (xR (el':=qpX ys[i]) (cs:=[_,_]) rfl rfl zo (qbj _ _ _ hlt) rfl rfl) rfl<|gad ?_;refine oS (zsA λb14=>?_) rfl;refine gad ?_;refine cD (m:=9) rfl [(b14,.cells 137 [str ys[i].1,int .i64 ys[i].2]),(tb,.cells 132 [qab,int .i64 0,int .i64 o.scalars,.atom (.map (some sm)),.atom (.map (some am)),str []])]<|zQ51 ?_;refine aT 6 rfl rfl (pF rfl)<|aT 7 rfl rfl (pL (c:=.atom _) rfl zm0 rfl)<|aL ?_ qiy;refine lO 8 (lS (H1:=[(am,.map (kvs (arKV (ys.take i))) g2)]) rfl (.inl rfl) rfl (show Pick _ _ _ from pT zp3) qiy (S.kvSet (k:=ys[i].1) (lv:=int .i64 ys[i].2) rfl rfl rfl pH λg2'=>?_));rw[htk];refine lD zk ?_;refine gaq ?_;exact⟨_,_,_,by omega,⟨i+1,g2',by omega,rfl,rfl,rfl⟩,⟨rfl,rfl,rfl,rfl,rfl,qap zo,trivial⟩,zhP zp2 (zhP zp2 (zhP zp2 (zhP pH (zhD zhr)))),hj2⟩;have hi':i=ys.length:=by have:=zf hc;omega
 subst hi';rw[take_length];have htb:=λown ho=>tb_ok (P:=prOf vars arrays fs) hF own ho tb sm am g1 g2;rw[hPa] at htb;have hW:=qrM hPc hnum hfitP hnd;have hjt:=qgh (qaT (prOf vars arrays fs) o)
 have hwc:qaT (prOf vars arrays fs) o=prW vars arrays fs o:=by
  unfold qaT;rw[hPa];rfl
 rw[hwc] at hW hjt;have hcc:ccF (prOf vars arrays fs).vars arrays (prOf vars arrays fs).funcs o=ccF vars arrays fs o:=rfl;rw[hPa,hcc] at hW;have hwl:=qlG (prW vars arrays fs o);have hnf:ndFs (prOf vars arrays fs).funcs=ndFs fs:=rfl;rw[hnf] at hW
 have hpw:prW vars arrays fs o=[[38,102,95,109,97,105,110],[58],decDigits o.scalars.toNat,[33],[36]]++(fnWs (ccF vars arrays fs o) 0 fs).1:=by
  unfold prW;rw[qca hS0]
 have hpl:(prW vars arrays fs o).length=5+(fnWs (ccF vars arrays fs o) 0 fs).1.length:=by
  rw[hpw,zLa];rfl
 have hTr:TrH ⟨tb,sm,am,scKV o.scalars 0 sl,arKV ys,g1,g2,o.scalars.toNat⟩ [] [] 0 [(tb,.cells 132 [qab,int .i64 0,int .i64 o.scalars,.atom (.map (some sm)),.atom (.map (some am)),str []]),(sm,.map (kvs (scKV o.scalars 0 sl)) g1),(am,.map (kvs (arKV ys)) g2)]:=⟨qab,[],Acc.nil,by
  simp only;rw[Int.toNat_of_nonneg hS0]
  rfl⟩
 have hpg:=qb4 (B0:=B0) (w0:=w0) hG (k:=⟨tb,sm,am,scKV o.scalars 0 sl,arKV ys,g1,g2,o.scalars.toNat⟩) (cc:=ccF vars arrays fs o) (by show o.scalars.toNat<=_;omega) vars arrays fs hnd (λf hf=>by
  obtain⟨kn,k1,k2⟩:=hV.bodies f hf;refine⟨?_,hfn f hf,λp hp=>by have:=hown f hf p (List.mem_append_left _ hp);omega,hnum f hf,_,qxB hV hf (hown f hf) k2,k1⟩;have:=htb f.name (by have:=hfn f hf;omega);rw[<-hsl2,<-hyy];exact this) (own0:=[]) (c0:=ccF vars arrays fs o []) (by
  have:=htb [] zDd;rw[<-hsl2,<-hyy]
  exact this) _ hTr zo
 rw[ePr] at hpg;refine gaa ?_;refine oS (zsT (F:=[_,_]) [_,_] rfl qyl hpg λH2 h2=>?_) rfl;obtain⟨own,n,h2⟩:=h2;rw[<-hpw] at h2;generalize prW vars arrays fs o=W at *;obtain⟨v,Hv,hacc,rfl⟩:=h2;have j0:=Asm.joinS_spec (B0:=B0) (w0:=w0) [32] W zo zo;have hasm:=Asm.assemble_spec (B0:=B0) (w0:=w0) hG hM (join W [32]) o.code zo;refine gac ?_;refine oP (pL (c:=v) rfl zm2 rfl) rfl<|LOps.sub 87 rfl hacc.sub ?_;refine oS (sF [_,_] rfl j0 ?_) rfl;refine gac ?_
 cases hx:asmP (join W [32]) o.code with
 |error e=>
  rw[hx] at hasm hC;simp only at hC;subst hC;refine oS (sF [_,_] rfl hasm ?_) rfl;unfold Asm.asmLV;refine gaa ?_
  have he:¬ (e.2:Int)=0:=by
   have h3:=hF.c1;have h4:=hF.c0;have:=qtW zo hx;omega
  refine zoC rfl (λ_=>?_) (λhc=>?_);refine gac ?_;exact qac (hj2.trans hj) (rC (zrt rfl) (zra rfl)) rfl;have h2:(!decide ((e.2:Int)=0))=false:=hc;simp at h2
  omega
 |ok x=>
  rw[hx] at hasm hC;simp only at hC;subst hC;refine oS (sF [_,_] rfl hasm ?_) rfl;unfold Asm.asmLV;refine gaa ?_;refine zoC rfl (λhc=>by cases hc) (λ_=>?_);refine gac ?_;exact qac (hj2.trans hj) (rC (zrt rfl) (zra rfl)) rfl
end
end Go.Proofs.YtkihibnffkpnkaaGreatDoor.Cmp
namespace Go.Proofs.YtkihibnffkpnkaaGreatDoor.Inp
open Go.GL Go.RowKit Go.Stele
theorem encPr_eq(p:Pr):qgA p=Chk.encPrG p.vars (p.arrays.map λa=>(a.name,(a.size:Int))) p.funcs:=by
 unfold qgA Chk.encPrG;rw[map_map];rfl
attribute [local irreducible] LOps qag qae LCalls Go.GL.Pure qaz qam qad LQ LAny qaI qan LS
section
variable{B0:Nat}{w0:World}
theorem checkPr_spec{p:Pr}{n:Nat}(h:SzP p n)(hn:n<=2000000):LCalls (KC B0 w0) 36 [qgA p] [] (λr H=>H=[]/\∃ nm,r=.ret (.tuple [str nm,int .i64 (qb9 p)])):=by
 rw[encPr_eq]
 exact Chk.check_spec _ _ _ (zNt h.vars hn) (by rw[zLm];exact zNt h.arrays hn) (λa ha=>by
  obtain⟨x,hx,rfl⟩:=List.mem_map.1 ha;have:=h.size x hx;constructor;show(-9223372036854775808:Int)<=(x.size:Int);omega;show(x.size:Int)<9223372036854775808
  omega) (zNt h.funcs hn)
end
end Go.Proofs.YtkihibnffkpnkaaGreatDoor.Inp
namespace Go.Proofs.YtkihibnffkpnkaaGreatDoor.Inp
open Go.GL Go.RowKit Go.Stele
@[reducible] def Same(v:LV)(H:Heap):LRes->Heap->Prop:=λr H'=>r=.ret v/\H'=H
section steps
variable{C:Ctx}{n:Nat}{e:Env}{H:Heap}{dst:Option Nat}{ty:TypeId}{pos:String}{aft:Array Edge}{g:Option (Nat×Bool)}{K:LV->Heap->Prop}{X:List PanicEntry->Heap->Prop}
theorem retS{rs:List ResultVar}{vs:List LV}{lv:LV}{H0:Heap}(hd:e.ds=[])(h:qbX C n e H rs vs)(hv:qbJ vs=lv)(hH:HSub H0 H):qad C n rs (Same lv H0) .ret e H:=
 rR hd h hH ⟨by rw[hv],rfl⟩
end steps
theorem qfp(n:Int):IntKind.u32.wrap n=n % 4294967296:=by
 simp only[IntKind.wrap,IntKind.bits,IntKind.signed,Bool.false_and];rfl
theorem qfn{a:Int}{b:Nat}(h:a=b):int .u32 a=u32 b:=by rw[h]
section
variable{a b:Nat}
theorem qnW(ha:a<4294967296)(hb:b<4294967296):IntKind.u32.wrap ((BitVec.ofInt IntKind.u32.bits a ^^^ BitVec.ofInt IntKind.u32.bits b).toNat:Nat)=((a ^^^ b:Nat):Int):=by
 rw[qfp,BitVec.toNat_xor]
 have h1:∀ n:Nat,n<4294967296->(BitVec.ofInt IntKind.u32.bits (n:Int)).toNat=n:=λn hn=>by
  rw[BitVec.ofInt_natCast,BitVec.toNat_ofNat];exact Nat.mod_eq_of_lt hn
 rw[h1 a ha,h1 b hb];have:a ^^^ b<4294967296:=Nat.xor_lt_two_pow (n:=32) ha hb;omega
end
section
variable{C:Ctx}{e:Env}{H:Heap}{dst:Option Nat}{ty:TypeId}{pos:String}{aft:Array Edge}{g:Option (Nat×Bool)}{x:Operand}
end
theorem qlW(n:Nat):IntKind.u8.wrap (n:Int)=((UInt8.ofNat n).toNat:Int):=by
 have h:IntKind.u8.wrap (n:Int)=(n:Int) % 256:=by
  simp only[IntKind.wrap,IntKind.bits,IntKind.signed,Bool.false_and];rfl
 rw[h];have h2:(UInt8.ofNat n).toNat=n % 256:=by simp
 rw[h2];omega
theorem qnL{s:Nat}{v:LV}{es:List LV}{H F:Heap}(h:GL.Acc s v es H F):v.cells? = some [v]/\([v].all qc4)=true:=by
 cases h <;> exact⟨rfl,rfl⟩
end Go.Proofs.YtkihibnffkpnkaaGreatDoor.Inp
namespace Go.Proofs.YtkihibnffkpnkaaGreatDoor.Mch
open Go.GL Go.RowKit Go.Stele
open Inp (u32)
def us(l:List Nat):List LV:=l.map u32
theorem qfv(l:List Nat):(us l).length=l.length:=zLm _
theorem qrS(l:List Nat):∀ v∈us l,v.cells.length=1:=λv hv=>by
 obtain⟨a,_,rfl⟩:=List.mem_map.1 hv;rfl
theorem qjr:∀ l:List Nat,(us l).flatMap LV.cells=us l
 |[]=>rfl
 |a::l=>by
  show(u32 a::us l).flatMap LV.cells=u32 a::us l;rw[List.flatMap_cons,qjr l];rfl
theorem qg7(l m:List Nat):us (l++m)=us l++us m:=zMa
theorem qoc{el b m cap:Nat}{l:List Nat}{spare:List LV}(hm:l.length=m)(hc:m<=cap)(hl:m+spare.length=cap):MRow el 1 (.slice (some ⟨b,0,none⟩) m cap) (us l) [(b,.cells el (us l++spare))]:=
 MRow.of_cells (qrS l) (qjr l) (by rw[qfv];exact hm) hc hl
theorem qlh{el s:Nat}{v:Value}{es:List LV}{H:Heap}(h:MRow el s v es H):(LV.atom v).cells? = some [LV.atom v]/\([LV.atom v].all qc4)=true:=by
 cases h <;> exact⟨rfl,rfl⟩
theorem qsQ{el:Nat}{v:Value}{l:List Nat}{H:Heap}(h:MRow el 1 v (us l) H)(hne:l≠[]):∃ b cap spare,v=.slice (some ⟨b,0,none⟩) l.length cap/\H=[(b,.cells el (us l++spare))]/\l.length<=cap/\l.length+spare.length=cap:=by
 obtain⟨b,cap,spare,h1,h2,h3,h4⟩:=h.addr (by intro e;exact hne (List.map_eq_nil_iff.1 e));rw[qfv] at h1 h3 h4;rw[qjr] at h2;exact⟨b,cap,spare,h1,h2,h3,by omega⟩
structure MF where
 mb:Nat
 vm:Value
 pc:Nat
 vc:Value
 inp:List Nat
 vo:LV
 digit:Bool
 st:Nat
 stop:Bool
 bm:Nat
def MF.cells(f:MF)(vd:Value):List LV:=[.atom f.vm,u32 f.pc,.atom vd,.atom f.vc,.list (us f.inp),f.vo,bool f.digit,int .i64 (f.st:Nat),bool f.stop,.atom (.map (some f.bm))]
def DH(f:MF)(data:List Nat)(H:Heap):Prop:=∃ vd HD,MRow 30 1 vd (us data.reverse) HD/\H=(f.mb,.cells 89 (f.cells vd))::HD
def qg5:List PanicEntry:=[{ v:=.iface 116 (.agg #[]),recovered:=false }]
def qn8(f:MF)(data:List Nat):LRes->Heap->Prop:=λr H=>match data with
 |[]=>r=.panic qg5/\DH f [] H
 |v::d=>r=.ret (u32 v)/\DH f d H
def qiM(f:MF)(data:List Nat)(v:Nat):LRes->Heap->Prop:=λr H=>if data.length<256 then r=.ret (.tuple [])/\DH f (v::data) H else r=.panic qg5/\DH f data H
def qiQ(f:MF)(data:List Nat):LRes->Heap->Prop:=λr H=>match data with
 |[]=>r=.panic qg5/\DH f [] H
 |v::d=>if v<262144 then r=.ret (u32 v)/\DH f d H else r=.panic qg5/\DH f d H
attribute [local irreducible] LOps qag qae LCalls Go.GL.Pure qaz qam qad LQ LAny qaI qan LS
section
variable{B0:Nat}{w0:World}
theorem check_spec(b:Bool):LCalls (KC B0 w0) 71 [bool b] [] (λr H'=>H'=[]/\r=if b=true then .ret (.tuple []) else .panic qg5):=by
 refine zcI Tryz.func71 rfl (n:=6) rfl rfl rfl ?_;refine gaa ?_;refine zoC rfl (λhc=>?_) (λhc=>?_);have hb:b=false:=by simpa using hc
 subst hb;refine gaa ?_;refine oS (qae.panic rfl λe' he'=>?_) rfl;exact qad.panic (he'.trans rfl) zhr ⟨rfl,rfl⟩;have hb:b=true:=by simpa using hc
 subst hb;refine gab ?_;exact rO rfl rN zhr ⟨rfl,rfl⟩
end
section
variable{B0:Nat}{w0:World}{e:Env}{H:Heap}{dst:Option Nat}{ty:TypeId}{pos:String}{aft:Array Edge}{g:Option (Nat×Bool)}{K:LV->Heap->Prop}{X:List PanicEntry->Heap->Prop}
theorem S.check{b:Bool}{o:Operand}{ats:Array TypeId}(hx:e.ev o=bool b)(hk:b=true->K (.tuple []) H)(hn:b=false->X qg5 H):qae (KC B0 w0) ⟨dst,.call { callee:=.value (.func 71),args:=#[o],argTypes:=ats },ty,pos,aft,g⟩ e H K X:=by
 refine S.callH (H1:=[]) (F:=H) [o] (by simp only[zMc,List.map_nil,hx]) zpr (check_spec b) ?_ ?_;rintro v H' ⟨rfl,h⟩
 cases b with
 |true=>cases h;exact hk rfl
 |false=>cases h
 rintro ch H' ⟨rfl,h⟩
 cases b with
 |true=>cases h
 |false=>cases h;exact hn rfl
end
section
variable{B0:Nat}{w0:World}{f:MF}{data:List Nat}{H:Heap}
theorem qsg(h:DH f data H)(hf:data.length<=256)(v:Nat):LCalls (KC B0 w0) 129 [ptr f.mb 0,u32 v] H (qiM f data v):=by
 obtain⟨vd,HD,hm,rfl⟩:=h;have hl:(us data.reverse).length=data.length:=by rw[qfv,length_reverse]
 unfold qiM;refine zcI Tryz.func129 rfl (n:=21) rfl rfl rfl ?_;refine gac ?_;refine oP (Pure.mlen rfl hm) rfl<|gab ?_;refine oS (S.check rfl (λhb=>?_) (λhb e' he'=>?_)) rfl;have hlt:data.length<256:=by have:=zt hb;omega
 simp only[zp hlt];refine gac ?_;refine zQ0 ?_;refine oS (S.appM (HM:=HD) (F:=[_]) rfl (List.perm_append_singleton _ _).symm hm rfl (by simp;rfl) rfl (by simp;omega) λv' H' hm'=>?_) rfl;refine gab ?_;refine oS (sS (n:=1) (vs:=[LV.atom v']) (cs':=[_,_,_,_,_,_,_,_,_,_]) rfl pH (qlh hm').1 rfl rfl (qlh hm').2 rfl ?_) rfl;refine gaf ?_
 exact rO rfl rN zhr ⟨rfl,v',H',by
  rw[List.reverse_cons,qg7]
  exact hm',rfl⟩
 have hlt:¬ data.length<256:=by have:=zf hb;omega
 simp only[zn hlt];refine gal ?_;exact qad.panic (he'.trans rfl) zhr ⟨rfl,vd,HD,hm,rfl⟩
theorem qoR(h:DH f data H)(hf:data.length<=256):LCalls (KC B0 w0) 131 [ptr f.mb 0] H (qn8 f data):=by
 obtain⟨vd,HD,hm,rfl⟩:=h;have hl:(us data.reverse).length=data.length:=by rw[qfv,length_reverse]
 unfold qn8;refine zcI Tryz.func131 rfl (n:=32) rfl rfl rfl ?_;refine gac ?_;refine oP (Pure.mlen rfl hm) rfl<|gaa ?_
 cases data with
 |nil=>
  refine oS (S.check rfl (λhb=>?_) (λhb e' he'=>?_)) rfl;cases hb;refine gal ?_
  exact qad.panic (he'.trans rfl) zhr ⟨rfl,vd,HD,hm,rfl⟩
 |cons a r=>
  refine oS (S.check rfl (λhb=>?_) (λhb=>?_)) rfl;rotate_left;have:=zf hb;rw[hl,zLc] at this;omega;obtain⟨b,cap,spare,rfl,rfl,hc,hcap⟩:=qsQ hm (by rw[List.reverse_cons];simp);rw[List.reverse_cons,qg7,zAs] at *;rw[zLa,length_reverse,List.length_singleton] at hc hcap;have hsz:(us r.reverse).length=r.length:=by rw[qfv,length_reverse]
  have hel:(r.reverse++[a]).length=r.length+1:=by simp
  rw[zLc] at hl hf;refine gaa ?_;refine oP (Pure.indexRowE (o:=r.length) rfl rfl zo zo zo) rfl<|oP (pL (c:=u32 a) rfl zm1 (by rw[List.getElem?_append_right zo,hsz,Nat.sub_self];rfl)) rfl<|gaa ?_;refine oP (Pure.rowSlice (n:=r.length) rfl (by exact qap zo) zo) rfl<|gaa ?_;exact rR rfl (zra rfl) zhr ⟨rfl,_,_,qoc (l:=r.reverse) (spare:=us [a]++spare) (by rw[length_reverse]) zo (by rw[zLa,qfv];simp only[List.length_singleton];omega),rfl⟩
theorem qfI(h:DH f data H)(hf:data.length<=256):LCalls (KC B0 w0) 130 [ptr f.mb 0] H (qiQ f data):=by
 have hp:=qoR (B0:=B0) (w0:=w0) h hf;unfold qn8 at hp;unfold qiQ;refine zcI Tryz.func130 rfl (n:=10) rfl rfl rfl ?_;refine gao ?_
 cases data with
 |nil=>
  refine oS (S.callH (H1:=H) (F:=[]) [_] rfl (by rw[zLz]) hp ?_ ?_) rfl;rintro v H' ⟨h1,_⟩;cases h1;rintro ch H' ⟨h1,h2⟩ e' he';cases h1;refine gal ?_
  exact qad.panic (he'.trans rfl) zhr ⟨rfl,by rw[zLz];exact h2⟩
 |cons a r=>
  refine oS (S.callH (H1:=H) (F:=[]) [_] rfl (by rw[zLz]) hp ?_ ?_) rfl;rotate_left;rintro ch H' ⟨h1,_⟩;cases h1;rintro v H' ⟨h1,h2⟩;cases h1;rw[zLz];refine gac ?_;refine oS (S.check rfl (λhb=>?_) (λhb e' he'=>?_)) rfl;have hlt:a<262144:=by have:(a:Int)<262144:=zt hb;omega
  simp only[zp hlt];refine gac ?_;exact rR rfl (zra rfl) zhr ⟨rfl,h2⟩;have hlt:¬ a<262144:=by have:¬ (a:Int)<262144:=zf hb;omega
  simp only[zn hlt];refine gal ?_;exact qad.panic (he'.trans rfl) zhr ⟨rfl,h2⟩
end
open Inp (u32 Same retS qfp qfn qnW)
def memL(f:Nat->Nat):List LV:=(List.range 262144).map λi=>u32 (f i)
theorem qhk(f:Nat->Nat):(memL f).length=262144:=by
 unfold memL;rw[zLm,List.length_range]
theorem qhe(f:Nat->Nat){a:Nat}(h:a<262144):(memL f)[a]? = some (u32 (f a)):=by
 unfold memL;rw[List.getElem?_map,List.getElem?_range h];rfl
theorem qmY(l:List LV):setL l 0 []=l:=by cases l <;> rfl
theorem qo4:∀ (l:List LV) (a:Nat) (v:LV),setL l a [v]=l.set a v
 |[],a,v=>by cases a <;> rfl
 |x::xs,0,v=>by
  show v::setL xs 0 []=_;rw[qmY]
  rfl
 |x::xs,a+1,v=>by
  show x::setL xs a [v]=_;rw[qo4 xs a v];rfl
theorem qlx(f:Nat->Nat)(a v:Nat):setL (memL f) a [u32 v]=memL (λi=>if i=a then v else f i):=by
 rw[qo4];refine List.ext_getElem? λi=>?_;rw[List.getElem?_set,qhk]
 by_cases h2:i<262144
 rw[qhe (λi=>if i=a then v else f i) h2,qhe f h2]
 by_cases h:a=i
 subst h;simp[h2];have h3:¬ i=a:=λe=>h e.symm;simp[h,h3];have n1:∀ f,(memL f)[i]? = none:=λf=>List.getElem?_eq_none (by rw[qhk];omega);rw[n1 f,n1 (λi=>if i=a then v else f i)]
 by_cases h:a=i
 subst h;simp[h2];simp[h]
theorem qmn:List.replicate 262144 (LV.atom (.int .u32 0))=memL (λ_=>0):=by
 unfold memL;rw[List.map_const',List.length_range];rfl
attribute [irreducible] memL
theorem qwA{c:Nat}{s s':MS}(h:exeM c s=.run s')(hc:qcd c=true):s'.data≠[]:=by
 unfold exeM at h;rw[zp hc] at h;unfold qlK at h;split at h;split at h;exact zT31;cases h;unfold qdI at h;split at h;exact zT31;cases h
def fnE(k:Int)(f:FuncId)(n:Nat):MapEntry:={ key:=.int .u32 k,val:=.func (.func f) #[] #[],born:=n }
def qr1:Array MapEntry:=#[fnE 43 67 0,fnE 45 68 1,fnE 42 69 2,fnE 47 70 3,fnE 37 72 4,fnE 94 73 5,fnE 60 74 6]
theorem qs8{c:Nat}(h:¬ (c=43∨c=45∨c=42∨c=47∨c=37∨c=94∨c=60)):Instr.findNow (.int .u32) (.int .u32 (c:Int)) qr1.toList 0=some none:=by
 have key:∀ k:Nat,c≠k->((c:Int) == (k:Int))=false:=λk hk=>by
  rw[beq_eq_false_iff_ne];omega
 have k1:=key 43 zo;have k2:=key 45 zo;have k3:=key 42 zo;have k4:=key 47 zo;have k5:=key 37 zo;have k6:=key 94 zo;have k7:=key 60 zo;simp only[qr1,fnE,Instr.findNow,Instr.sameNow,if_true];simp only[Int.cast_ofNat_Int] at k1 k2 k3 k4 k5 k6 k7;simp only[k1,k2,k3,k4,k5,k6,k7]
def resM(o:Option Nat):LRes:=match o with
 |some v=>.ret (u32 v)
 |none=>.panic qg5
section
variable{B0:Nat}{w0:World}{H:Heap}{a b:Nat}
theorem qhh:LCalls (KC B0 w0) 34 [] [] (λr H=>∃ om,r=.ret (.atom (.map (some om)))/\H=[(om,.obj (.map qr1 7))]):=by
 refine zcI Tryz.func34 rfl (n:=3) rfl rfl rfl ?_;refine gar ?_;refine oS (S.makeMap λom=>?_) rfl;refine zQ3 ?_;refine zQ44 ?_;refine oS (S.insertK (kt:=30) (el:=113) (kd:=.u32) zk zk rfl rfl rfl pH rfl rfl ?_) rfl;refine gab ?_;exact rR rfl (zra rfl) zhr ⟨om,rfl,rfl⟩
theorem qvH(ha:a<4294967296)(hb:b<4294967296):LCalls (KC B0 w0) 67 [u32 a,u32 b] H (Same (u32 ((a+b) % 4294967296)) H):=by
 refine zcI Tryz.func67 rfl (n:=8) rfl rfl rfl ?_;refine gao ?_;refine oP (Pure.addW rfl rfl) rfl<|gaf ?_;exact retS rfl (zra rfl) (qfn (by rw[qfp];omega)) zhr
theorem qvT(ha:a<4294967296)(hb:b<4294967296):LCalls (KC B0 w0) 68 [u32 a,u32 b] H (Same (u32 ((a+4294967296-b) % 4294967296)) H):=by
 refine zcI Tryz.func68 rfl (n:=8) rfl rfl rfl ?_;refine gao ?_;refine oP (Pure.subW rfl rfl) rfl<|gaf ?_;exact retS rfl (zra rfl) (qfn (by rw[qfp];omega)) zhr
theorem qwC(ha:a<4294967296)(hb:b<4294967296):LCalls (KC B0 w0) 69 [u32 a,u32 b] H (Same (u32 (a * b % 4294967296)) H):=by
 refine zcI Tryz.func69 rfl (n:=8) rfl rfl rfl ?_;refine gao ?_;refine oP (Pure.mulW rfl rfl) rfl<|gaf ?_;exact retS rfl (zra rfl) (qfn (by rw[qfp,<-Int.natCast_mul];generalize a * b=q;omega)) zhr
theorem qww(ha:a<4294967296)(hb:b<4294967296):LCalls (KC B0 w0) 73 [u32 a,u32 b] H (Same (u32 (a ^^^ b)) H):=by
 refine zcI Tryz.func73 rfl (n:=8) rfl rfl rfl ?_;refine gao ?_;refine oP (Pure.xorW rfl rfl) rfl<|gaf ?_;exact retS rfl (zra rfl) (qfn (qnW ha hb)) zhr
theorem qwB:LCalls (KC B0 w0) 74 [u32 a,u32 b] H (Same (u32 (if a<b then 1 else 0)) H):=by
 refine zcI Tryz.func74 rfl (n:=8) rfl rfl rfl ?_;refine gac ?_;refine zoC rfl (λhc=>?_) (λhc=>?_);have h1:a<b:=by have:=zt hc;omega
 refine gap ?_;exact retS rfl (zra rfl) (by rw[zp h1];rfl) zhr;have h1:¬ a<b:=by have:=zf hc;omega
 refine gac ?_;exact retS rfl (zra rfl) (by rw[zn h1];rfl) zhr
theorem qwE(ha:a<4294967296):LCalls (KC B0 w0) 70 [u32 a,u32 b] H (λr H'=>H'=H/\r=resM (if b=0 then none else some (a / b))):=by
 refine zcI Tryz.func70 rfl (n:=11) rfl rfl rfl ?_;refine gaa ?_
 by_cases h0:b=0
 refine oS (S.check rfl (λhb=>?_) (λhb e' he'=>?_)) rfl;simp[h0] at hb;refine gal ?_;exact qad.panic (he'.trans rfl) zhr ⟨rfl,by rw[zp h0];rfl⟩;refine oS (S.check rfl (λhb=>?_) (λhb e' he'=>?_)) rfl;rotate_left;simp[h0] at hb;refine gam ?_;refine oP (Pure.quoW rfl rfl zo) rfl<|gaf ?_;refine rR rfl (zra rfl) zhr ⟨rfl,?_⟩;rw[zn h0];exact congrArg LRes.ret (qfn (by rw[qfp,Int.tdiv_eq_ediv_of_nonneg zo,<-Int.natCast_ediv];have hq:a / b<4294967296:=Nat.lt_of_le_of_lt (Nat.div_le_self a b) ha;generalize a / b=q at hq ⊢;omega))
theorem qwq(ha:a<4294967296):LCalls (KC B0 w0) 72 [u32 a,u32 b] H (λr H'=>H'=H/\r=resM (if b=0 then none else some (a % b))):=by
 refine zcI Tryz.func72 rfl (n:=11) rfl rfl rfl ?_;refine gaa ?_
 by_cases h0:b=0
 refine oS (S.check rfl (λhb=>?_) (λhb e' he'=>?_)) rfl;simp[h0] at hb;refine gal ?_;exact qad.panic (he'.trans rfl) zhr ⟨rfl,by rw[zp h0];rfl⟩;refine oS (S.check rfl (λhb=>?_) (λhb e' he'=>?_)) rfl;rotate_left;simp[h0] at hb;refine gam ?_;refine oP (Pure.remW rfl rfl zo) rfl<|gaf ?_;refine rR rfl (zra rfl) zhr ⟨rfl,?_⟩;rw[zn h0];exact congrArg LRes.ret (qfn (by rw[Int.tmod_eq_emod_of_nonneg zo,<-Int.natCast_emod]))
theorem qmw{c:Nat}(hc:c=43∨c=45∨c=42∨c=47∨c=37∨c=94∨c=60)(ha:a<4294967296)(hb:b<4294967296):∃ (j:Nat) (f:FuncId),Instr.findNow (.int .u32) (.int .u32 (c:Int)) qr1.toList 0=some (some (j,.func (.func f) #[] #[]))/\TEnter Tryz.prog f /\
  ∀ H,LCalls (KC B0 w0) f [u32 a,u32 b] H (λr H'=>H'=H/\r=resM (binM c a b)):=by
 rcases hc with rfl|rfl|rfl|rfl|rfl|rfl|rfl;exact⟨0,67,rfl,inferInstance,λH=>LCalls.mono (qvH ha hb) λr H' ⟨h1,h2⟩=>⟨h2,h1⟩⟩;exact⟨1,68,rfl,inferInstance,λH=>LCalls.mono (qvT ha hb) λr H' ⟨h1,h2⟩=>⟨h2,h1⟩⟩;exact⟨2,69,rfl,inferInstance,λH=>LCalls.mono (qwC ha hb) λr H' ⟨h1,h2⟩=>⟨h2,h1⟩⟩;exact⟨3,70,rfl,inferInstance,λH=>qwE ha⟩;exact⟨4,72,rfl,inferInstance,λH=>qwq ha⟩;exact⟨5,73,rfl,inferInstance,λH=>LCalls.mono (qww ha hb) λr H' ⟨h1,h2⟩=>⟨h2,h1⟩⟩;exact⟨6,74,rfl,inferInstance,λH=>LCalls.mono (qwB) λr H' ⟨h1,h2⟩=>⟨h2,h1⟩⟩
end
end Go.Proofs.YtkihibnffkpnkaaGreatDoor.Mch
