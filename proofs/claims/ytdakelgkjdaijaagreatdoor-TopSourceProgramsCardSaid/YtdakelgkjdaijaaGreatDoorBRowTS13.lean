/- Texts joined: CmpC, CmpD, CmpE, CmpF, CmpMap, CmpFit, CmpG, CmpH, CmpI, PtA, PtB. -/
import Derived.Test.YtdakelgkjdaijaaGreatDoorBRowTS5
import Derived.Test.YtdakelgkjdaijaaGreatDoorBRowTS6
import Derived.Test.YtdakelgkjdaijaaGreatDoorBRowTS8
import Derived.Test.YtdakelgkjdaijaaGreatDoorBRowTS11
import Derived.Test.YtdakelgkjdaijaaGreatDoorBRowTS12
set_option linter.unusedVariables false
set_option linter.unusedSimpArgs false
set_option maxRecDepth 100000
set_option maxHeartbeats 4000000
namespace Go.Proofs.YtdakelgkjdaijaaGreatDoor.Cmp
open Go.GL Go.RowKit Go.Stele
open Go.Lib (decDigits itoa join)
theorem qin (c:CC):exWl c []=[]:=by rw[exWl]
theorem qfn (c:CC) (x:Ex) (l:List Ex):exWl c (x::l)=exW c x::exWl c l:=by rw[exWl]
theorem quS {env:CEnv} {op name:Nm} {args:List Ex} (h:qci op = -1∨qci op=args.length) (ho:qci op=1):∃ x,args=[x]:=by
 have:args.length=1:=by omega
 exact List.length_eq_one_iff.1 this
theorem qs4 {op:Nm} {args:List Ex} (h:qci op = -1∨qci op=args.length) (ho:qci op=2):∃ x y,args=[x,y]:=by
 have h2:args.length=2:=by omega
 match args,h2 with
 |[x,y],_=>exact ⟨x,y,rfl⟩
def binW (c:CC) (op:Nm):List Wd:=if op=[62] then qcU c else if op=[60,61] then qcU c++[[49],[94]] else if op=[62,61] then [[60],[49],[94]] else if op=[61,61] then [[94],[49],[60]] else [op]
def twoW (c:CC) (op:Nm) (X Y:List Wd):List Wd:=
 if op=[33,61] then [[48]]++X++[]++Y++[[94],[60]]
 else if op=[38,38] then [[48]]++X++[[60],[48]]++Y++[[60],[42]]
 else if op=[124,124] then [[48],[48]]++X++[[60],[48]]++Y++[[60],[43],[60]]
 else []++X++[]++Y++binW c op
theorem qvj (c:CC) {op:Nm} (num:Nat) (name:Nm) (x y:Ex) (h1:op≠nNum) (h2:op≠nVar) (h3:op≠qcY) (h4:op≠qbG) (h5:op≠nNeg) (h6:op≠nNot):exW c (.mk op num name [x,y])=twoW c op (exW c x) (exW c y):=by
 rw[exW,qfn,qfn,qin];unfold opW twoW binW;rw[if_neg h1,if_neg h2,if_neg h3,if_neg h4,if_neg h5,if_neg h6];simp only[List.headD_cons,List.drop_one,List.tail_cons,List.nil_append,zLz,zAs,List.cons_append,List.singleton_append]
attribute [local irreducible] LOps qae qad LCalls Go.GL.Pure qax qaj qac LQ LAny qaE qal LS
section
variable {B0:Nat} {w0:World}
theorem qgk (hG:GW B0 w0) {k:TB} {own:Nm} {c:CC} (hk:TBok k c own) {env:CEnv} {m:Nat} (ih:qnG B0 w0 k own c env m) (op:Nm) (num:Nat) (name:Nm) (x y:Ex) (ws:List Wd) (n:Nat) (H:Heap) (hx:ndE x<=m) (hy:ndE y<=m) (nx:numE x) (ny:numE y) (ex:errE env x=0) (ey:errE env y=0) (h:TrH k own ws n H)
  (hr:ws.length+(twoW c op (exW c x) (exW c y)).length<=1000000000) :
  LCalls (KC B0 w0) 199 [ptr k.tb 0,encE (.mk op num name [x,y])] H (qhg (TrH k own (ws++twoW c op (exW c x) (exW c y)) n)):=by
 rw[qcx];generalize hW:twoW c op (exW c x) (exW c y)=W at hr ⊢;unfold twoW at hW;refine cI Tryz.func199 rfl (n:=64) rfl rfl rfl ?_;refine gah ?_;refine oS (sB rfl fun b2=>?_) rfl;refine oS (sB rfl fun b3=>?_) rfl;refine LOps.weak (H':=(b2,.cells 103 [ptr k.tb 0])::exB b3 op num name [x,y]::H) ⟨[],by rw[zLz];exact List.Perm.swap _ _ _⟩ ?_;refine gac ?_;have hBT:=fun (A B:List Wd) {a b:LV} (ha:GL.elems a=some (A.map str)) (hb:GL.elems b=some (B.map str)) hr=>qmA (B0:=B0) (w0:=w0) ih b2 b3 op num name x y ws n H hx hy nx ny ex ey h A B ha hb hr
 by_cases h1:op=[33,61]
 ·rw[if_pos h1] at hW;refine oC rfl (fun _=>?_) (fun hc=>absurd h1 (zf hc));refine gag ?_;refine zQ14 ?_;refine oS (S.callTV (f:=228) (F:=[]) [_,_] rfl rfl qm9 (hBT [[48]] [] rfl rfl (by rw[<-hW] at hr;simp only[zLa] at hr ⊢;omega)) ?_) rfl;rintro H1 ⟨H2,rfl,h2⟩;refine gaa ?_;refine zQ8 ?_;refine oS (zsT (H1:=H2) (F:=[_,_]) [_,_] rfl qed (qaH h2 [[94],[60]] rfl (by rw[<-hW] at hr;simp only[zLa] at hr ⊢;omega)) fun H3 h3=>?_) rfl;refine gab ?_;exact rR rfl rN qhX ⟨rfl,by rw[<-hW];simp only[zAs] at h3 ⊢;exact h3⟩
 rw[if_neg h1] at hW;refine oC rfl (fun hc=>absurd (zt hc) h1) (fun _=>?_);refine gas ?_
 by_cases h2:op=[38,38]
 ·rw[if_pos h2] at hW;refine oC rfl (fun _=>?_) (fun hc=>absurd h2 (zf hc));refine gag ?_;refine zQ14 ?_;refine zQ8 ?_;refine oS (S.callTV (f:=228) (F:=[]) [_,_] rfl rfl qm9 (hBT [[48]] [[60],[48]] rfl rfl (by rw[<-hW] at hr;simp only[zLa] at hr ⊢;omega)) ?_) rfl;rintro H1 ⟨H2,rfl,h2⟩;refine gaa ?_;refine zQ8 ?_;refine oS (zsT (H1:=H2) (F:=[_,_]) [_,_] rfl qed (qaH h2 [[60],[42]] rfl (by rw[<-hW] at hr;simp only[zLa] at hr ⊢;omega)) fun H3 h3=>?_) rfl;refine gab ?_;exact rR rfl rN qhX ⟨rfl,by rw[<-hW];simp only[zAs] at h3 ⊢;exact h3⟩
 rw[if_neg h2] at hW;refine oC rfl (fun hc=>absurd (zt hc) h2) (fun _=>?_);refine gas ?_
 by_cases h3:op=[124,124]
 ·rw[if_pos h3] at hW;refine oC rfl (fun _=>?_) (fun hc=>absurd h3 (zf hc));refine gag ?_;refine zQ8 ?_;refine zQ8 ?_;refine oS (S.callTV (f:=228) (F:=[]) [_,_] rfl rfl qm9 (hBT [[48],[48]] [[60],[48]] rfl rfl (by rw[<-hW] at hr;simp only[zLa] at hr ⊢;omega)) ?_) rfl;rintro H1 ⟨H2,rfl,h2⟩;refine gaa ?_;refine oS (sL [_,_,_] rfl (qaU [_,_,_]) rfl rfl rfl ?_) rfl;refine oS (zsT (H1:=H2) (F:=[_,_]) [_,_] rfl qed (qaH h2 [[60],[43],[60]] rfl (by rw[<-hW] at hr;simp only[zLa] at hr ⊢;omega)) fun H3 h3=>?_) rfl;refine gab ?_;exact rR rfl rN qhX ⟨rfl,by rw[<-hW];simp only[zAs] at h3 ⊢;exact h3⟩
 rw[if_neg h3] at hW;refine oC rfl (fun hc=>absurd (zt hc) h3) (fun _=>?_);refine gaa ?_;refine oS (S.callTV (f:=228) (F:=[]) [_,_] rfl rfl qm9 (hBT [] [] rfl rfl (by rw[<-hW] at hr;simp only[zLa] at hr ⊢;omega)) ?_) rfl;rintro H1 ⟨H2,rfl,h2⟩;generalize hX:ws++([]++exW c x++[]++exW c y)=wx at h2;have hW2:wx++binW c op=ws++W:=by rw[<-hW,<-hX];simp only[zAs]
 have hlw:=congrArg List.length hW2;rw[zLa,zLa] at hlw;unfold binW at hW2 hlw;refine gat ?_
 by_cases g1:op=[62]
 ·rw[if_pos g1] at hW2 hlw;refine oC rfl (fun _=>?_) (fun hc=>absurd g1 (zf hc));refine gaa ?_;refine oS (zsT (H1:=H2) (F:=[_,_]) [_] rfl qed (qhQ hG hk h2 zo) fun H3 h3=>?_) rfl;refine gab ?_;exact rO rfl rN qhX ⟨rfl,by rw[<-hW2];exact h3⟩
 rw[if_neg g1] at hW2 hlw;refine oC rfl (fun hc=>absurd (zt hc) g1) (fun _=>?_);refine gas ?_
 by_cases g2:op=[60,61]
 ·rw[if_pos g2] at hW2 hlw;rw[zLa] at hlw;refine oC rfl (fun _=>?_) (fun hc=>absurd g2 (zf hc));refine gaa ?_;refine oS (zsT (H1:=H2) (F:=[_,_]) [_] rfl qed (qhQ hG hk h2 zo) fun H3 h3=>?_) rfl;refine gaa ?_;refine zQ8 ?_;refine oS (zsT (H1:=H3) (F:=[_,_]) [_,_] rfl qed (qaH h3 [[49],[94]] rfl (by rw[zLa];omega)) fun H4 h4=>?_) rfl;refine gab ?_;exact rO rfl rN qhX ⟨rfl,by rw[<-hW2,<-zAs];exact h4⟩
 rw[if_neg g2] at hW2 hlw;refine oC rfl (fun hc=>absurd (zt hc) g2) (fun _=>?_);refine gas ?_
 by_cases g3:op=[62,61]
 ·rw[if_pos g3] at hW2 hlw;refine oC rfl (fun _=>?_) (fun hc=>absurd g3 (zf hc));refine gaa ?_;refine oS (sL [_,_,_] rfl (qaU [_,_,_]) rfl rfl rfl ?_) rfl;refine oS (zsT (H1:=H2) (F:=[_,_]) [_,_] rfl qed (qaH h2 [[60],[49],[94]] rfl zo) fun H3 h3=>?_) rfl;refine gab ?_;exact rO rfl rN qhX ⟨rfl,by rw[<-hW2];exact h3⟩
 rw[if_neg g3] at hW2 hlw;refine oC rfl (fun hc=>absurd (zt hc) g3) (fun _=>?_);refine gas ?_
 by_cases g4:op=[61,61]
 ·rw[if_pos g4] at hW2 hlw;refine oC rfl (fun _=>?_) (fun hc=>absurd g4 (zf hc));refine gaa ?_;refine oS (sL [_,_,_] rfl (qaU [_,_,_]) rfl rfl rfl ?_) rfl;refine oS (zsT (H1:=H2) (F:=[_,_]) [_,_] rfl qed (qaH h2 [[94],[49],[60]] rfl zo) fun H3 h3=>?_) rfl;refine gab ?_;exact rO rfl rN qhX ⟨rfl,by rw[<-hW2];exact h3⟩
 rw[if_neg g4] at hW2 hlw;refine oC rfl (fun hc=>absurd (zt hc) g4) (fun _=>?_);refine gat ?_;refine zQ14 ?_;refine oS (zsT (H1:=H2) (F:=[_,_]) [_,_] rfl qed (qaH h2 [op] rfl zo) fun H3 h3=>?_) rfl;refine gab ?_;exact rO rfl rN qhX ⟨rfl,by rw[<-hW2];exact h3⟩
theorem qd3 (hG:GW B0 w0) {k:TB} {own:Nm} {c:CC} (hk:TBok k c own) {env:CEnv} (hE:EnvOk env):∀ m:Nat,m<=2000000->qnG B0 w0 k own c env m
 |0,_=>fun x ws n H h=>by have:=qlu x;omega
 |m+1,hm6=>by
  have ih:=qd3 hG hk hE m zo;intro x ws n H hnd hnum herr h hr;obtain ⟨op,num,name,args⟩:=x;rw[ndE] at hnd;rw[numE] at hnum;obtain ⟨hnum,hna⟩:=hnum;have hal:=qf1 args;have hall:(args.map encE).length=args.length:=zLm _;rw[errE] at herr
  by_cases hop:qci op = -1∨qci op=args.length
  rotate_left
  ·rw[if_neg hop] at herr;cases herr
  rw[if_pos hop] at herr;obtain ⟨he1,he2⟩:=qap.1 herr;have hW:exW c (Ex.mk op num name args)=opW c op num name (exWl c args):=by rw[exW]
  have hone:qci op=1->∃ x,args=[x]:=fun h1=>quS (env:=env) (name:=name) hop h1;rw[qcx];refine cI Tryz.func163 rfl (n:=98) rfl rfl rfl ?_;refine gah ?_;refine oS (sB rfl fun b3=>?_) rfl;refine gaa ?_
  by_cases h1:op=[110,117,109]
  ·have hW1:exW c (Ex.mk op num name args)=[decDigits num]:=by rw[hW];subst h1;rfl
   rw[hW1] at hr ⊢;refine oC rfl (fun _=>?_) (fun hc=>absurd h1 (zf hc));refine gac ?_;refine oS (sF [_,_] (by show [int .u64 (IntKind.u64.wrap (num:Int)),_]=[int .u64 (num:Nat),int .i64 10];rw[qrS hnum];rfl) (fmtUint_spec hG num (by have:num<4294967296:=hnum;omega)) ?_) rfl;refine zQ14 ?_;refine oS (zsT (H1:=H) (F:=[_]) [_,_] rfl qa3 (qaH h [decDigits num] rfl hr) fun H2 h2=>?_) rfl;refine gab ?_;exact rO rfl rN qcm ⟨rfl,h2⟩
  refine oC rfl (fun hc=>absurd (zt hc) h1) (fun _=>?_);refine gas ?_
  by_cases h2:op=[118,97,114]
  ·have hW1:exW c (Ex.mk op num name args)=[c.sc name,[64]]:=by rw[hW];subst h2;rfl
   have hsc:qcA env name=0:=by rw[<-he2];subst h2;rfl
   have hnl:=hE.sc name hsc;rw[hW1] at hr ⊢;refine oC rfl (fun _=>?_) (fun hc=>absurd h2 (zf hc));refine gaa ?_;refine oS (S.callS (H1:=H) (F:=[_]) [_,_] rfl qa3 (qbK hG hk h name zo) fun H2 h2=>?_) rfl;refine zQ8 ?_;refine oS (zsT (H1:=H2) (F:=[_]) [_,_] rfl qa3 (qaH h2 [c.sc name,[64]] rfl hr) fun H3 h3=>?_) rfl;refine gab ?_;exact rO rfl rN qcm ⟨rfl,h3⟩
  refine oC rfl (fun hc=>absurd (zt hc) h2) (fun _=>?_);refine gas ?_
  by_cases h3:op=[101,108,101,109]
  ·obtain ⟨x,rfl⟩:=hone (by subst h3;rfl);have hW1:exW c (Ex.mk op num name [x])=[c.ar name]++(exW c x++[[43],[64]]):=by rw[hW,qfn,qin];subst h3;rfl
   rw[hW1] at hr ⊢;simp only[zLa,zLc,zLn] at hr;rw[qb6] at he1;rw[qbg] at hna;rw[ndEs] at hnd;have hex:=(qap.1 he1).1;obtain ⟨a,ha1,ha2,ha3⟩:=hk.ar name;refine oC rfl (fun _=>?_) (fun hc=>absurd h3 (zf hc));refine gab ?_;have h0:=h;obtain ⟨v,Hv,hacc,rfl⟩:=h;refine cD (m:=11) rfl [exB b3 op num name [x]] ?_;refine zQ48 ?_;refine aL ?_ zhp;refine lO 4 (lH rfl rfl (pL (c:=.atom _) rfl zm1 rfl) ?_);refine lO 7 (lH rfl rfl (Pure.kvOr rfl rfl zm3 ha3) ?_);refine lO 8 (lS (H1:=[]) rfl (.inl rfl) rfl zpr zhp (sF [_] rfl (qcP hG a zo) ?_));rw[<-ha2];refine lO 9 (lS (H1:=[]) rfl (.inl rfl) rfl zpr zhp (sL [_] rfl (qaU [_]) rfl rfl rfl ?_));refine lO 10 (lS (F:=[exB b3 op num name [x]]) rfl (.inl rfl) rfl qa3 zhr (qad.callT [_,_] rfl (qaH h0 [c.ar name] rfl (by simp only[zLc,zLn];omega)) fun H2 h2=>?_));refine lD zk ?_;refine qN ?_;refine cW qoe ?_;refine zQ13 ?_;refine oS (zsT (H1:=H2) (F:=[_]) [_,_] rfl qa3 (ih x _ n H2 zo hna.1 hex h2 (by simp only[zLa,zLc,zLn];omega)) fun H3 h3=>?_) rfl;refine gap ?_;refine zQ8 ?_;refine oS (zsT (H1:=H3) (F:=[_]) [_,_] rfl qa3 (qaH h3 [[43],[64]] rfl (by simp only[zLa,zLc,zLn];omega)) fun H4 h4=>?_) rfl;refine gab ?_;exact rO rfl rN qcm ⟨rfl,by rw[zAs,zAs] at h4;exact h4⟩
  refine oC rfl (fun hc=>absurd (zt hc) h3) (fun _=>?_);refine gas ?_
  by_cases h4:op=[99,97,108,108]
  ·have hcl:callE env name args.length=0:=by rw[<-he2];subst h4;rfl
   have hnl:=hE.call hcl;have hW1:exW c (Ex.mk op num name args)=(exWl c args).flatten++(if name=[105,110] then [[44]] else if name=[111,117,116] then [[46],[48]] else [[38,102,95]++name,[58]]):=by rw[hW];subst h4;rfl
   rw[hW1] at hr ⊢;rw[zLa] at hr;refine oC rfl (fun _=>?_) (fun hc=>absurd h4 (zf hc));refine gaa ?_;refine oS (zsT (H1:=H) (F:=[_]) [_,_] rfl qa3 (qkJ ih args ws n H zo zo hna he1 h zo) fun H2 h2=>?_) rfl;rw[<-zAs];generalize hX:ws++(exWl c args).flatten=wx at h2 ⊢;have hlx:=congrArg List.length hX;rw[zLa] at hlx;refine gaa ?_
   by_cases g1:name=[105,110]
   ·rw[if_pos g1] at hr ⊢;refine oC rfl (fun _=>?_) (fun hc=>absurd g1 (zf hc));refine gag ?_;refine zQ14 ?_;refine oS (zsT (H1:=H2) (F:=[_]) [_,_] rfl qa3 (qaH h2 [[44]] rfl zo) fun H3 h3=>?_) rfl;refine gab ?_;exact rO rfl rN qcm ⟨rfl,h3⟩
   rw[if_neg g1] at hr ⊢;refine oC rfl (fun hc=>absurd (zt hc) g1) (fun _=>?_);refine gas ?_
   by_cases g2:name=[111,117,116]
   ·rw[if_pos g2] at hr ⊢;refine oC rfl (fun _=>?_) (fun hc=>absurd g2 (zf hc));refine gag ?_;refine zQ8 ?_;refine oS (zsT (H1:=H2) (F:=[_]) [_,_] rfl qa3 (qaH h2 [[46],[48]] rfl zo) fun H3 h3=>?_) rfl;refine gab ?_;exact rO rfl rN qcm ⟨rfl,h3⟩
   rw[if_neg g2] at hr ⊢;refine oC rfl (fun hc=>absurd (zt hc) g2) (fun _=>?_);refine gac ?_;refine zQ8 ?_;refine oS (zsT (H1:=H2) (F:=[_]) [_,_] rfl qa3 (qaH h2 [[38,102,95]++name,[58]] rfl zo) fun H3 h3=>?_) rfl;refine gab ?_;exact rO rfl rN qcm ⟨rfl,h3⟩
  refine oC rfl (fun hc=>absurd (zt hc) h4) (fun _=>?_);refine gas ?_
  by_cases h5:op=[110,101,103]
  ·obtain ⟨x,rfl⟩:=hone (by subst h5;rfl);have hW1:exW c (Ex.mk op num name [x])=[[48]]++(exW c x++[[45]]):=by rw[hW,qfn,qin];subst h5;rfl
   rw[hW1] at hr ⊢;simp only[zLa,zLc,zLn] at hr;rw[qb6] at he1;rw[qbg] at hna;rw[ndEs] at hnd;have hex:=(qap.1 he1).1;refine oC rfl (fun _=>?_) (fun hc=>absurd h5 (zf hc));refine gag ?_;refine zQ14 ?_;refine oS (zsT (H1:=H) (F:=[_]) [_,_] rfl qa3 (qaH h [[48]] rfl (by simp only[zLc,zLn];omega)) fun H2 h2=>?_) rfl;refine zQ13 ?_;refine oS (zsT (H1:=H2) (F:=[_]) [_,_] rfl qa3 (ih x _ n H2 zo hna.1 hex h2 (by simp only[zLa,zLc,zLn];omega)) fun H3 h3=>?_) rfl;refine gap ?_;refine zQ14 ?_;refine oS (zsT (H1:=H3) (F:=[_]) [_,_] rfl qa3 (qaH h3 [[45]] rfl (by simp only[zLa,zLc,zLn];omega)) fun H4 h4=>?_) rfl;refine gab ?_;exact rO rfl rN qcm ⟨rfl,by rw[zAs,zAs] at h4;exact h4⟩
  refine oC rfl (fun hc=>absurd (zt hc) h5) (fun _=>?_);refine gas ?_
  by_cases h6:op=[110,111,116]
  ·obtain ⟨x,rfl⟩:=hone (by subst h6;rfl);have hW1:exW c (Ex.mk op num name [x])=exW c x++[[49],[60]]:=by rw[hW,qfn,qin];subst h6;rfl
   rw[hW1] at hr ⊢;simp only[zLa,zLc,zLn] at hr;rw[qb6] at he1;rw[qbg] at hna;rw[ndEs] at hnd;have hex:=(qap.1 he1).1;refine oC rfl (fun _=>?_) (fun hc=>absurd h6 (zf hc));refine zQ13 ?_;refine oS (zsT (H1:=H) (F:=[_]) [_,_] rfl qa3 (ih x _ n H zo hna.1 hex h zo) fun H3 h3=>?_) rfl;refine gap ?_;refine zQ8 ?_;refine oS (zsT (H1:=H3) (F:=[_]) [_,_] rfl qa3 (qaH h3 [[49],[60]] rfl (by simp only[zLa,zLc,zLn];omega)) fun H4 h4=>?_) rfl;refine gab ?_;exact rO rfl rN qcm ⟨rfl,by rw[zAs] at h4;exact h4⟩
  refine oC rfl (fun hc=>absurd (zt hc) h6) (fun _=>?_)
  have htwo:qci op=2:=by
   unfold qci at hop ⊢;rw[if_neg (fun h=>h.elim h1 h2),if_neg (fun h=>h.elim h3 (fun h=>h.elim h5 h6)),if_neg (show ¬ op=qbG from h4)] at hop ⊢;split
   ·rfl
   ·rename_i hb
    rw[if_neg hb] at hop;omega
  obtain ⟨x,y,rfl⟩:=qs4 hop htwo;have hW2:=qvj c num name x y h1 h2 h3 h4 h5 h6;rw[hW2] at hr ⊢;simp only[qb6] at he1;simp only[qbg] at hna;simp only[ndEs] at hnd;have hex:=qap.1 he1;refine gac ?_;refine oS (zsT (H1:=H) (F:=[_]) [_,_] rfl qa3 (qgk hG hk ih op num name x y ws n H zo zo hna.1 hna.2.1 hex.1 (qap.1 hex.2).1 h hr) fun H3 h3=>?_) rfl;refine gab ?_;exact rO rfl rN qcm ⟨rfl,h3⟩
end
end Go.Proofs.YtdakelgkjdaijaaGreatDoor.Cmp
namespace Go.Proofs.YtdakelgkjdaijaaGreatDoor.Cmp
open Go.GL Go.RowKit Go.Stele
open Go.Lib (decDigits itoa join)
mutual
theorem qrC (c:CC):∀ (s:Sm) (n:Nat),(stW c n s).2<=n+2 * ndS s
 |.mk kind name index value thn els,n=>by
  have ht:=fun n=>qg8 c thn n;have he:=fun n=>qg8 c els n;rw[ndS];unfold stW
  by_cases k1:kind=1
  ·rw[if_pos k1];simp only;omega
  rw[if_neg k1]
  by_cases k2:kind=2
  ·rw[if_pos k2];simp only;omega
  rw[if_neg k2]
  by_cases k3:kind=3
  ·rw[if_pos k3]
   cases els with
   |nil=>have:=ht (n+1);simp only;omega
   |cons a r=>have h1:=ht (n+2);have h2:=he (stWs c (n+2) thn).2;simp only;omega
  rw[if_neg k3]
  by_cases k4:kind=4
  ·have h1:=ht (n+2);rw[if_pos k4];simp only;omega
  rw[if_neg k4]
  by_cases k5:kind=5
  ·rw[if_pos k5];simp only;omega
  rw[if_neg k5]
  by_cases k6:kind=6
  ·rw[if_pos k6];simp only;omega
  rw[if_neg k6]
  by_cases k7:kind=7
  ·rw[if_pos k7];simp only;omega
  ·rw[if_neg k7];simp only;omega
theorem qg8 (c:CC):∀ (l:List Sm) (n:Nat),(stWs c n l).2<=n+2 * ndSs l
 |[],n=>by rw[stWs,ndSs];simp
 |s::l,n=>by
  have h1:=qrC c s n;have h2:=qg8 c l (stW c n s).2;rw[stWs,ndSs];simp only;omega
end
theorem qrl (c:CC) (n:Nat) (s:Sm) (l:List Sm):stWs c n (s::l)=((stW c n s).1++(stWs c (stW c n s).2 l).1,(stWs c (stW c n s).2 l).2):=by rw[stWs]
theorem qkS (c:CC) (n:Nat):stWs c n []=([],n):=by rw[stWs]
theorem qjp (x:Ex):([x]:List Ex).headD default=x:=rfl
theorem qoM:∀ {l:List Sm} {x:Sm},x∈l->ndS x<=ndSs l
 |g::l,f,h=>by
  rw[ndSs];rcases zMi.1 h with rfl|h
  ·omega
  ·have:=qoM h;omega
abbrev stB (b:Nat) (kind:Int) (name:Nm) (index value:List Ex) (thn els:List Sm):Nat×LObj:=(b,.cells 134 [int .i64 kind,str name,.list (index.map encE),.list (value.map encE),.list (thn.map encS),.list (els.map encS)])
attribute [local irreducible] LOps qae qad LCalls Go.GL.Pure qax qaj qac LQ LAny qaE qal LS
section
variable {B0:Nat} {w0:World}
def qrm (B0:Nat) (w0:World) (k:TB) (own:Nm) (c:CC) (env:CEnv) (m:Nat):Prop:=∀ (l:List Sm) (ws:List Wd) (n:Nat) (H:Heap),ndSs l<=m->qb7 l->qcr env l=0->TrH k own ws n H->ws.length+(stWs c n l).1.length<=1000000000->n+2 * ndSs l<=1000000000->LCalls (KC B0 w0) 88 [ptr k.tb 0,.list (l.map encS)] H (qhg (TrH k own (ws++(stWs c n l).1) (stWs c n l).2))
theorem qnh (hG:GW B0 w0) {k:TB} {own:Nm} {c:CC} {env:CEnv} (hX:qnG B0 w0 k own c env 2000000) {m:Nat} (ih:qrm B0 w0 k own c env m) (name:Nm) (index:List Ex) (v:Ex) (thn els:List Sm) (ws:List Wd) (n:Nat) (H:Heap) (hv:ndE v<=2000000) (hm:ndSs thn+ndSs els<=m) (h2m:els.length<=2000000)
  (nv:numE v) (nt:qb7 thn) (ne:qb7 els) (ev:errE env v=0) (et:qcr env thn=0) (ee:qcr env els=0) (h:TrH k own ws n H) (hr:ws.length+(stW c n (.mk 3 name index [v] thn els)).1.length<=1000000000) (hN:n+2+2 * (ndSs thn+ndSs els)<=1000000000) :
  LCalls (KC B0 w0) 164 [ptr k.tb 0,encS (.mk 3 name index [v] thn els)] H (qhg (TrH k own (ws++(stW c n (.mk 3 name index [v] thn els)).1) (stW c n (.mk 3 name index [v] thn els)).2)):=by
 have hlt:=qg8 c thn (n+2);have hlab:∀ i:Nat,i<=1000000001->(labW i).length<=11:=fun i hi=>qjn zo;have hle:(els.map encS).length=els.length:=zLm _;rw[qcb];refine cI Tryz.func164 rfl (n:=65) rfl rfl rfl ?_;refine gah ?_;refine oS (sB rfl fun b3=>?_) rfl;refine gap ?_;refine oS (S.callS (H1:=H) (F:=[_]) [_] rfl qa3 (qfP hG h zo) fun H1 h1=>?_) rfl;have hl0:=hlab n zo;refine gaa ?_
 cases els with
 |nil=>
  have hS:stW c n (.mk 3 name index [v] thn [])=(exW c v++([38::labW n,[63]]++((stWs c (n+1) thn).1++[labW n++[58]])),(stWs c (n+1) thn).2):=by
   unfold stW;rw[if_neg zDd,if_neg zDd,if_pos rfl];simp only[qjp,zAs]
  rw[hS] at hr ⊢;simp only[zLa,zLc,zLn] at hr;refine oC rfl (fun _=>?_) (fun hc=>by cases hc);refine zQ46 ?_;refine oS (zsT (H1:=H1) (F:=[_]) [_,_] rfl qa3 (hX v ws (n+1) H1 hv nv ev h1 zo) fun H2 h2=>?_) rfl;refine gac ?_;refine zQ8 ?_;refine oS (zsT (H1:=H2) (F:=[_]) [_,_] rfl qa3 (qaH h2 [38::labW n,[63]] rfl (by simp only[zLa,zLc,zLn];omega)) fun H3 h3=>?_) rfl;refine gaa ?_;refine oS (zsT (H1:=H3) (F:=[_]) [_,_] rfl qa3 (ih thn _ (n+1) H3 zo nt et h3 (by simp only[zLa,zLc,zLn];omega) zo) fun H4 h4=>?_) rfl;refine gac ?_;refine zQ14 ?_;refine oS (zsT (H1:=H4) (F:=[_]) [_,_] rfl qa3 (qaH h4 [labW n++[58]] rfl (by simp only[zLa,zLc,zLn];omega)) fun H5 h5=>?_) rfl;refine gab ?_
  exact rR rfl rN qcm ⟨rfl,by simp only[zAs] at h5 ⊢;exact h5⟩
 |cons s0 r0=>
  have hS:stW c n (.mk 3 name index [v] thn (s0::r0))=(exW c v++([38::labW n,[63]]++((stWs c (n+2) thn).1++([[48],38::labW (n+1),[63],labW n++[58]]++((stWs c (stWs c (n+2) thn).2 (s0::r0)).1++[labW (n+1)++[58]])))),(stWs c (stWs c (n+2) thn).2 (s0::r0)).2):=by
   unfold stW;rw[if_neg zDd,if_neg zDd,if_pos rfl];simp only[qjp,zAs]
  rw[hS] at hr ⊢;simp only[zLa,zLc,zLn] at hr;have hl1:=hlab (n+1) zo;generalize hels:s0::r0=els at *
  have hne:¬ ((els.map encS).length:Int)=0:=by
   rw[<-hels];simp only[zLm,zLc];omega
  refine oC rfl (fun hc=>absurd (zt hc) hne) (fun _=>?_);refine gaa ?_;refine oS (S.callS (H1:=H1) (F:=[_]) [_] rfl qa3 (qfP hG h1 zo) fun H1 h1=>?_) rfl;refine zQ46 ?_;refine oS (zsT (H1:=H1) (F:=[_]) [_,_] rfl qa3 (hX v ws (n+1+1) H1 hv nv ev h1 zo) fun H2 h2=>?_) rfl;refine gac ?_;refine zQ8 ?_;refine oS (zsT (H1:=H2) (F:=[_]) [_,_] rfl qa3 (qaH h2 [38::labW n,[63]] rfl (by simp only[zLa,zLc,zLn];omega)) fun H3 h3=>?_) rfl;refine gaa ?_;refine oS (zsT (H1:=H3) (F:=[_]) [_,_] rfl qa3 (ih thn _ (n+2) H3 zo nt et h3 (by simp only[zLa,zLc,zLn];omega) zo) fun H4 h4=>?_) rfl;refine gac ?_;refine oS (sL [_,_,_,_] rfl (qaU [_,_,_,_]) rfl rfl rfl ?_) rfl;refine oS (zsT (H1:=H4) (F:=[_]) [_,_] rfl qa3 (qaH h4 [[48],38::labW (n+1),[63],labW n++[58]] rfl (by simp only[zLa,zLc,zLn];omega)) fun H5 h5=>?_) rfl;refine gaa ?_;refine oS (zsT (H1:=H5) (F:=[_]) [_,_] rfl qa3 (ih els _ _ H5 zo ne ee h5 (by simp only[zLa,zLc,zLn];omega) zo) fun H6 h6=>?_) rfl;refine gac ?_;refine zQ14 ?_;refine oS (zsT (H1:=H6) (F:=[_]) [_,_] rfl qa3 (qaH h6 [labW (n+1)++[58]] rfl (by simp only[zLa,zLc,zLn];omega)) fun H7 h7=>?_) rfl;refine gaf ?_;exact rO rfl rN qcm ⟨rfl,by simp only[zAs] at h7 ⊢;exact h7⟩
theorem qr6 (hG:GW B0 w0) {k:TB} {own:Nm} {c:CC} {env:CEnv} (hX:qnG B0 w0 k own c env 2000000) {m:Nat} (ih:qrm B0 w0 k own c env m) (name:Nm) (index:List Ex) (v:Ex) (thn els:List Sm) (ws:List Wd) (n:Nat) (H:Heap) (hv:ndE v<=2000000) (hm:ndSs thn<=m)
  (nv:numE v) (nt:qb7 thn) (ev:errE env v=0) (et:qcr env thn=0) (h:TrH k own ws n H) (hr:ws.length+(stW c n (.mk 4 name index [v] thn els)).1.length<=1000000000) (hN:n+2+2 * ndSs thn<=1000000000) :
  LCalls (KC B0 w0) 165 [ptr k.tb 0,encS (.mk 4 name index [v] thn els)] H (qhg (TrH k own (ws++(stW c n (.mk 4 name index [v] thn els)).1) (stW c n (.mk 4 name index [v] thn els)).2)):=by
 have hl0:(labW n).length<=11:=qjn zo;have hl1:(labW (n+1)).length<=11:=qjn zo
 have hS:stW c n (.mk 4 name index [v] thn els)=([labW n++[58]]++(exW c v++([38::labW (n+1),[63]]++((stWs c (n+2) thn).1++[[48],38::labW n,[63],labW (n+1)++[58]]))),(stWs c (n+2) thn).2):=by
  unfold stW;rw[if_neg zDd,if_neg zDd,if_neg zDd,if_pos rfl];simp only[qjp,zAs]
 rw[hS] at hr ⊢;simp only[zLa,zLc,zLn] at hr;rw[qcb];refine cI Tryz.func165 rfl (n:=37) rfl rfl rfl ?_;refine gah ?_;refine oS (sB rfl fun b3=>?_) rfl;refine gap ?_;refine oS (S.callS (H1:=H) (F:=[_]) [_] rfl qa3 (qfP hG h zo) fun H1 h1=>?_) rfl;refine gab ?_;refine oS (S.callS (H1:=H1) (F:=[_]) [_] rfl qa3 (qfP hG h1 zo) fun H1 h1=>?_) rfl;refine gac ?_;refine zQ14 ?_;refine oS (zsT (H1:=H1) (F:=[_]) [_,_] rfl qa3 (qaH h1 [labW n++[58]] rfl (by simp only[zLa,zLc,zLn];omega)) fun H2 h2=>?_) rfl;refine zQ46 ?_;refine oS (zsT (H1:=H2) (F:=[_]) [_,_] rfl qa3 (hX v _ (n+1+1) H2 hv nv ev h2 (by simp only[zLa,zLc,zLn];omega)) fun H3 h3=>?_) rfl;refine gac ?_;refine zQ8 ?_;refine oS (zsT (H1:=H3) (F:=[_]) [_,_] rfl qa3 (qaH h3 [38::labW (n+1),[63]] rfl (by simp only[zLa,zLc,zLn];omega)) fun H4 h4=>?_) rfl;refine gaa ?_;refine oS (zsT (H1:=H4) (F:=[_]) [_,_] rfl qa3 (ih thn _ (n+2) H4 zo nt et h4 (by simp only[zLa,zLc,zLn];omega) zo) fun H5 h5=>?_) rfl;refine gac ?_;refine oS (sL [_,_,_,_] rfl (qaU [_,_,_,_]) rfl rfl rfl ?_) rfl;refine oS (zsT (H1:=H5) (F:=[_]) [_,_] rfl qa3 (qaH h5 [[48],38::labW n,[63],labW (n+1)++[58]] rfl (by simp only[zLa,zLc,zLn];omega)) fun H6 h6=>?_) rfl;refine gaf ?_;exact rO rfl rN qcm ⟨rfl,by simp only[zAs] at h6 ⊢;exact h6⟩
end
end Go.Proofs.YtdakelgkjdaijaaGreatDoor.Cmp
namespace Go.Proofs.YtdakelgkjdaijaaGreatDoor.Cmp
open Go.GL Go.RowKit Go.Stele
open Go.Lib (decDigits itoa join)
theorem qqc {name:List UInt8} {index value:List Ex} {thn els:List Sm} (h:qbX (.mk 2 name index value thn els)=true):∃ x,index=[x]:=by
 have h1:index.length=1:=by
  simp only[qbX] at h
  repeat' (split at h)
  all_goals first
   |(simp only[zDe] at h;omega)
   |cases h
   |contradiction
 exact List.length_eq_one_iff.1 h1
theorem qrg {kind:Int} {name:List UInt8} {index value:List Ex} {thn els:List Sm} (h:qbX (.mk kind name index value thn els)=true):kind=1∨kind=2∨kind=3∨kind=4∨kind=5∨kind=6∨kind=7:=by
 simp only[qbX] at h
 repeat' (split at h)
 all_goals first
  |omega
  |cases h
attribute [local irreducible] LOps qae qad LCalls Go.GL.Pure qax qaj qac LQ LAny qaE qal LS
section
variable {B0:Nat} {w0:World}
theorem qc5 (hG:GW B0 w0) {k:TB} {own:Nm} {c:CC} (hk:TBok k c own) {env:CEnv} (hE:EnvOk env):∀ m:Nat,m<=2000000->qrm B0 w0 k own c env m
 |0,_=>fun l ws n H hm hnum herr h hr hN=>by
  have:l=[]:=by
   cases l with
   |nil=>rfl
   |cons s r=>have:=qnp s;rw[ndSs] at hm;omega
  subst this;rw[qkS];refine cI Tryz.func88 rfl (n:=97) rfl rfl rfl ?_;refine gaa ?_;refine oL (fun kk ls H'=>kk=0/\ls=[(0,ptr k.tb 0),(6,.list []),(7,int .i64 0),(8,int .i64 0)]/\H'=H) ⟨0,_,_,⟨rfl,rfl,rfl⟩,⟨rfl,rfl,rfl,rfl,trivial⟩,zhR _⟩ ?_;rintro kk ls H' ⟨rfl,rfl,rfl⟩ j hj;refine gaj ?_;refine oC rfl (fun hc=>by cases hc) (fun hc=>?_);refine gab ?_
  exact rO hj rN zhr ⟨rfl,by rw[zLz];exact h⟩
 |m+1,hm6=>by
  have ih:=qc5 hG hk hE m zo;have hX:qnG B0 w0 k own c env 2000000:=qd3 hG hk hE 2000000 (zNr _);intro l ws n H hm hnum herr h hr hN;have hal:=qeM l;generalize hT:stWs c n l=T at hr ⊢;refine cI Tryz.func88 rfl (n:=97) rfl rfl rfl ?_;refine gaa ?_
  refine oL (fun kk ls H'=>∃ (pre l1:List Sm) (ws':List Wd) (n':Nat),l=pre++l1/\kk=l1.length/\ls=[(0,ptr k.tb 0),(6,.list (l.map encS)),(7,int .i64 ((l.map encS).length:Int)),(8,int .i64 (pre.length:Int))]/\TrH k own ws' n' H'/\ws'++(stWs c n' l1).1=ws++T.1/\(stWs c n' l1).2=T.2/\n'+2 * ndSs l1<=1000000000/\qcr env l1=0/\qb7 l1)
   ⟨l.length,_,_,⟨[],l,ws,n,rfl,rfl,rfl,h,by rw[hT],by rw[hT],hN,herr,hnum⟩,⟨rfl,rfl,rfl,rfl,trivial⟩,zhR _⟩ ?_
  rintro kk ls H' ⟨pre,l1,ws',n',hLe,rfl,rfl,hTr,hW,hL,hN1,he1,hn1⟩ j hj
  have hb2:pre.length<=2000000:=by
   have:=congrArg List.length hLe;rw[zLa] at this;omega
  refine gaj ?_;refine oC rfl (fun hc=>?_) (fun hc=>?_);rotate_left
  ·have hlen:=zf hc;rw[zLm,hLe,zLa] at hlen
   obtain rfl:l1=[]:=by
    cases l1 with
    |nil=>rfl
    |cons a l2=>simp at hlen;omega
   rw[qkS,zLz] at hW;rw[qkS] at hL;simp only at hL;refine gab ?_;exact rO hj rN zhr ⟨rfl,by rw[<-hW,<-hL];exact hTr⟩
  have hlen:=zt hc;rw[zLm,hLe,zLa] at hlen
  obtain ⟨s,l2,rfl⟩:∃ a l2,l1=a::l2:=by
   cases l1 with
   |nil=>simp at hlen
   |cons a l2=>exact ⟨a,l2,rfl⟩
  have ham:ndS s<=ndSs l:=qoM (by rw[hLe];exact List.mem_append_right _ zMs);have hsl:=qrC c s n';rw[qcr] at he1;rw[qb7] at hn1;rw[ndSs] at hN1;obtain ⟨hns,hn2⟩:=hn1;obtain ⟨hes,he2⟩:=qap.1 he1;rw[qrl] at hW hL;simp only at hW hL;rw[<-zAs] at hW;have hlw:=congrArg List.length hW;rw[zLa,zLa,zLa] at hlw;obtain ⟨kind,name,index,value,thn,els⟩:=s;rw[errS] at hes
  by_cases hf:qbX (.mk kind name index value thn els)=false
  ·rw[if_pos hf] at hes;cases hes
  rw[if_neg hf] at hes;rw[Bool.not_eq_false] at hf;obtain ⟨e1,hes⟩:=qap.1 hes;obtain ⟨e2,hes⟩:=qap.1 hes;obtain ⟨e3,hes⟩:=qap.1 hes;obtain ⟨e4,e5⟩:=qap.1 hes;rw[numS] at hns;obtain ⟨n1,n2,n3,n4⟩:=hns;rw[ndS] at ham hN1 hsl;have hel:=qeM els;refine gam ?_
  refine oP (xR (el':=.agg [int .i64 kind,str name,.list (index.map encE),.list (value.map encE),.list (thn.map encS),.list (els.map encS)]) (cs:=[_,_,_,_,_,_]) rfl rfl zo (by
   have h9:=Chk.get_mid encS pre (Sm.mk kind name index value thn els) l2;rw[qcb] at h9;rw[hLe]
   exact h9) rfl rfl) rfl ?_
  refine gad ?_;refine oS (sA fun b5=>?_) rfl;refine gac ?_
  have fin:∀ {e:Env} {Hx:Heap} (W:List Wd) (nx:Nat) (H2:Heap),stW c n' (.mk kind name index value thn els)=(W,nx)->TrH k own (ws'++W) nx H2->HSub H2 Hx->e.ds=j.ds ->
    (e.s 0=ptr k.tb 0/\e.s 6=.list (l.map encS)/\e.s 7=int .i64 ((l.map encS).length:Int)/\e.s 8=int .i64 ((pre.length:Int)+1)) ->
    ∃ k' ls' H3,k'<(Sm.mk kind name index value thn els::l2).length/\(∃ (pre l1:List Sm) (ws':List Wd) (n':Nat),l=pre++l1/\k'=l1.length/\ls'=[(0,ptr k.tb 0),(6,.list (l.map encS)),(7,int .i64 ((l.map encS).length:Int)),(8,int .i64 (pre.length:Int))]/\TrH k own ws' n' H3/\ws'++(stWs c n' l1).1=ws++T.1/\(stWs c n' l1).2=T.2/\n'+2 * ndSs l1<=1000000000/\qcr env l1=0/\qb7 l1)/\qcv e ls'/\HSub H3 Hx/\e.ds=[]:=by
   intro e Hx W nx H2 hS hT2 hsub hd hv;rw[hS] at hW hL hsl;simp only at hW hL hsl;exact ⟨l2.length,_,H2,Nat.lt_succ_self _,⟨pre++[Sm.mk kind name index value thn els],l2,ws'++W,nx,by rw[hLe];simp,rfl,rfl,hT2,hW,hL,by omega,he2,hn2⟩,⟨hv.1,hv.2.1,hv.2.2.1,by rw[hv.2.2.2];exact qak (by simp),trivial⟩,hsub,hd.trans hj⟩
  by_cases k1:kind=1
  ·subst k1;obtain ⟨x,rfl⟩:=Inp.form_value hf zDd;rw[qb6] at e1;rw[qbg] at n2;rw[ndEs,ndEs] at ham hN1 hsl;have hex:=(qap.1 e1).1;have hsc:qcA env name=0:=by rw[if_pos rfl] at e3;exact e3
   have hnl:=hE.sc name hsc;have hS:stW c n' (.mk 1 name index [x] thn els)=(exW c x++[c.sc name,[33]],n'):=by unfold stW;rw[if_pos rfl];rfl
   have hlS:=hlw;rw[hS] at hlS;simp only[zLa,zLc,zLn] at hlS;refine oC rfl (fun _=>?_) (fun hc=>by cases hc);refine zQ13 ?_;refine oS (zsT (H1:=H') (F:=[_]) [_,_] rfl qa3 (hX x ws' n' H' zo n2.1 hex hTr zo) fun H2 h2=>?_) rfl;refine gaa ?_;refine oS (S.callS (H1:=H2) (F:=[_]) [_,_] rfl qa3 (qbK hG hk h2 name zo) fun H3 h3=>?_) rfl;refine zQ8 ?_;refine oS (zsT (H1:=H3) (F:=[_]) [_,_] rfl qa3 (qaH h3 [c.sc name,[33]] rfl (by simp only[zLa,zLc,zLn];omega)) fun H4 h4=>?_) rfl;refine gan ?_;exact fin _ _ H4 hS (by rw[<-zAs];exact h4) qcm rfl ⟨rfl,rfl,rfl,rfl⟩
  refine oC rfl (fun hc=>absurd (zt hc) k1) (fun _=>?_);refine gai ?_
  by_cases k2:kind=2
  ·subst k2;obtain ⟨x,rfl⟩:=Inp.form_value hf zDd;obtain ⟨y,rfl⟩:=qqc hf;rw[qb6] at e1 e2;rw[qbg] at n1 n2;rw[ndEs,ndEs,ndEs,ndEs] at ham hN1 hsl;have hex:=(qap.1 e1).1;have hey:=(qap.1 e2).1;obtain ⟨a,ha1,ha2,ha3⟩:=hk.ar name;have hS:stW c n' (.mk 2 name [y] [x] thn els)=(exW c x++([c.ar name]++(exW c y++[[43],[33]])),n'):=by unfold stW;rw[if_neg zDd,if_pos rfl];rfl
   have hlS:=hlw;rw[hS] at hlS;simp only[zLa,zLc,zLn] at hlS;refine oC rfl (fun _=>?_) (fun hc=>by cases hc);refine zQ13 ?_;refine oS (zsT (H1:=H') (F:=[_]) [_,_] rfl qa3 (hX x ws' n' H' zo n2.1 hex hTr zo) fun H2 h2=>?_) rfl;refine gab ?_;have h0:=h2;obtain ⟨v,Hv,hacc,rfl⟩:=h2;refine cD (m:=11) rfl [stB b5 2 name [y] [x] thn els] ?_;refine zQ48 ?_;refine aL ?_ qrG;refine lO 4 (lH rfl rfl (pL (c:=.atom _) rfl zm1 rfl) ?_);refine lO 7 (lH rfl rfl (Pure.kvOr rfl rfl zm3 ha3) ?_);refine lO 8 (lS (H1:=[]) rfl (.inl rfl) rfl zpr qrG (sF [_] rfl (qcP hG a zo) ?_));rw[<-ha2];refine lO 9 (lS (H1:=[]) rfl (.inl rfl) rfl zpr qrG (sL [_] rfl (qaU [_]) rfl rfl rfl ?_));refine lO 10 (lS (F:=[stB b5 2 name [y] [x] thn els]) rfl (.inl rfl) rfl qa3 zhr (qad.callT [_,_] rfl (qaH h0 [c.ar name] rfl (by simp only[zLa,zLc,zLn];omega)) fun H2 h2=>?_));refine lD zk ?_;refine qN ?_;refine cW qoe ?_;refine gaa ?_;refine oP (xR (el':=encE y) (cs:=[_,_,_,_]) rfl rfl zDd rfl rfl rfl) rfl ?_;refine gad ?_;refine oS (zsT (H1:=H2) (F:=[_]) [_,_] rfl qa3 (hX y _ n' H2 zo n1.1 hey h2 (by simp only[zLa,zLc,zLn];omega)) fun H3 h3=>?_) rfl;refine gap ?_;refine zQ8 ?_;refine oS (zsT (H1:=H3) (F:=[_]) [_,_] rfl qa3 (qaH h3 [[43],[33]] rfl (by simp only[zLa,zLc,zLn];omega)) fun H4 h4=>?_) rfl;refine gan ?_;exact fin _ _ H4 hS (by simp only[zAs] at h4 ⊢;exact h4) qcm rfl ⟨rfl,rfl,rfl,rfl⟩
  refine oC rfl (fun hc=>absurd (zt hc) k2) (fun _=>?_);refine gai ?_
  by_cases k3:kind=3
  ·subst k3;obtain ⟨x,rfl⟩:=Inp.form_value hf zDd;rw[qb6] at e1;rw[qbg] at n2;rw[ndEs,ndEs] at ham hN1 hsl;have hex:=(qap.1 e1).1;refine oC rfl (fun _=>?_) (fun hc=>by cases hc);refine gac ?_;refine oS (zsT (H1:=H') (F:=[_]) [_,_] (by show [ptr k.tb 0,_]=_;rw[qcb];rfl) qa3 (qnh hG hX ih name index x thn els ws' n' H' zo zo zo n2.1 n3 n4 hex e4 e5 hTr zo zo) fun H2 h2=>?_) rfl;refine gan ?_;exact fin _ _ H2 rfl h2 qcm rfl ⟨rfl,rfl,rfl,rfl⟩
  refine oC rfl (fun hc=>absurd (zt hc) k3) (fun _=>?_);refine gai ?_
  by_cases k4:kind=4
  ·subst k4;obtain ⟨x,rfl⟩:=Inp.form_value hf zDd;rw[qb6] at e1;rw[qbg] at n2;rw[ndEs,ndEs] at ham hN1 hsl;have hex:=(qap.1 e1).1;refine oC rfl (fun _=>?_) (fun hc=>by cases hc);refine gac ?_;refine oS (zsT (H1:=H') (F:=[_]) [_,_] (by show [ptr k.tb 0,_]=_;rw[qcb];rfl) qa3 (qr6 hG hX ih name index x thn els ws' n' H' zo zo n2.1 n3 hex e4 hTr zo zo) fun H2 h2=>?_) rfl;refine gan ?_;exact fin _ _ H2 rfl h2 qcm rfl ⟨rfl,rfl,rfl,rfl⟩
  refine oC rfl (fun hc=>absurd (zt hc) k4) (fun _=>?_);refine gai ?_
  by_cases k5:kind=5
  ·subst k5;obtain ⟨x,rfl⟩:=Inp.form_value hf zDd;rw[qb6] at e1;rw[qbg] at n2;rw[ndEs,ndEs] at ham hN1 hsl;have hex:=(qap.1 e1).1;have hS:stW c n' (.mk 5 name index [x] thn els)=(exW c x++[[59]],n'):=by unfold stW;rw[if_neg zDd,if_neg zDd,if_neg zDd,if_neg zDd,if_pos rfl];rfl
   have hlS:=hlw;rw[hS] at hlS;simp only[zLa,zLc,zLn] at hlS;refine oC rfl (fun _=>?_) (fun hc=>by cases hc);refine zQ13 ?_;refine oS (zsT (H1:=H') (F:=[_]) [_,_] rfl qa3 (hX x ws' n' H' zo n2.1 hex hTr zo) fun H2 h2=>?_) rfl;refine gap ?_;refine zQ14 ?_;refine oS (zsT (H1:=H2) (F:=[_]) [_,_] rfl qa3 (qaH h2 [[59]] rfl (by simp only[zLa,zLc,zLn];omega)) fun H4 h4=>?_) rfl;refine gan ?_;exact fin _ _ H4 hS (by rw[<-zAs];exact h4) qcm rfl ⟨rfl,rfl,rfl,rfl⟩
  refine oC rfl (fun hc=>absurd (zt hc) k5) (fun _=>?_);refine gai ?_
  by_cases k6:kind=6
  ·subst k6;obtain ⟨x,rfl⟩:=Inp.form_value hf zDd;rw[qb6] at e1;rw[qbg] at n2;rw[ndEs,ndEs] at ham hN1 hsl;have hex:=(qap.1 e1).1;have hS:stW c n' (.mk 6 name index [x] thn els)=(exW c x++[c.t0,[33]],n'):=by unfold stW;rw[if_neg zDd,if_neg zDd,if_neg zDd,if_neg zDd,if_neg zDd,if_pos rfl];rfl
   have hlS:=hlw;rw[hS] at hlS;simp only[zLa,zLc,zLn] at hlS;refine oC rfl (fun _=>?_) (fun hc=>by cases hc);refine zQ13 ?_;refine oS (zsT (H1:=H') (F:=[_]) [_,_] rfl qa3 (hX x ws' n' H' zo n2.1 hex hTr zo) fun H2 h2=>?_) rfl;refine gap ?_
   refine oS (S.callS (H1:=H2) (F:=[_]) [_,_] rfl qa3 (by
    have h9:=qdb (B0:=B0) (w0:=w0) hG hk h2 0 zDd;rw[Nat.add_zero,<-hk.t0] at h9
    exact h9) fun H3 h3=>?_) rfl
   refine zQ8 ?_;refine oS (zsT (H1:=H3) (F:=[_]) [_,_] rfl qa3 (qaH h3 [c.t0,[33]] rfl (by simp only[zLa,zLc,zLn];omega)) fun H4 h4=>?_) rfl;refine gan ?_;exact fin _ _ H4 hS (by rw[<-zAs];exact h4) qcm rfl ⟨rfl,rfl,rfl,rfl⟩
  refine oC rfl (fun hc=>absurd (zt hc) k6) (fun _=>?_);refine gai ?_;have k7:kind=7:=by have:=qrg hf;omega
  subst k7;have hS:stW c n' (.mk 7 name index value thn els)=([[36]],n'):=by unfold stW;rw[if_neg zDd,if_neg zDd,if_neg zDd,if_neg zDd,if_neg zDd,if_neg zDd,if_pos rfl]
  have hlS:=hlw;rw[hS] at hlS;simp only[zLa,zLc,zLn] at hlS;refine oC rfl (fun _=>?_) (fun hc=>by cases hc);refine gag ?_;refine zQ14 ?_;refine oS (zsT (H1:=H') (F:=[_]) [_,_] rfl qa3 (qaH hTr [[36]] rfl (by simp only[zLa,zLc,zLn];omega)) fun H4 h4=>?_) rfl;refine gan ?_;exact fin _ _ H4 hS h4 qcm rfl ⟨rfl,rfl,rfl,rfl⟩
end
end Go.Proofs.YtdakelgkjdaijaaGreatDoor.Cmp
namespace Go.Proofs.YtdakelgkjdaijaaGreatDoor.Cmp
open Go.GL Go.RowKit Go.Stele
open Go.Lib (decDigits itoa join)
abbrev parW (c:CC) (l:List Nm):List Wd:=l.flatMap fun p=>[c.sc p,[33]]
theorem qsd (c:CC) (p:Nm) (l:List Nm):parW c (p::l)=[c.sc p,[33]]++parW c l:=by
 unfold parW;rw[List.flatMap_cons]
theorem qtq (cc:Nm->CC) (n:Nat):fnWs cc n []=([],n):=by rw[fnWs]
theorem qrb (cc:Nm->CC) (n:Nat) (f:FnD) (l:List FnD):fnWs cc n (f::l)=((fnW (cc f.name) n f).1++(fnWs cc (fnW (cc f.name) n f).2 l).1,(fnWs cc (fnW (cc f.name) n f).2 l).2):=by rw[fnWs]
theorem qwW (c:CC) (n:Nat) (f:FnD):fnW c n f=([[102,95]++f.name++[58]]++(parW c f.params.reverse++((stWs c n f.body).1++[[48],[59]])),(stWs c n f.body).2):=by
 unfold fnW parW;simp only[zAs]
theorem qtY {l:List Nm} {i:Nat} (h:i<l.length):(l.take (i+1)).reverse=l[i]::(l.take i).reverse:=by
 rw[List.take_succ_eq_append_getElem h,List.reverse_append];rfl
structure FnT (k:TB) (cc:Nm->CC) (f:FnD):Prop where
 tb:TBok k (cc f.name) f.name
 name:f.name.length<=24
 params:∀ p∈f.params,p.length<=1000000
 num:qb7 f.body
 env:∃ env,EnvOk env/\qcr env f.body=0
attribute [local irreducible] LOps qae qad LCalls Go.GL.Pure qax qaj qac LQ LAny qaE qal LS
section
variable {B0:Nat} {w0:World}
theorem qdk (hG:GW B0 w0) {k:TB} {cc:Nm->CC} (hsm:k.sc<=1000000000) (vars:List Nm) (arrays:List (Nm×Int)) (fs:List FnD) (hnd:ndFs fs<=2000000) (hf:∀ f∈fs,FnT k cc f) {own0:Nm} {c0:CC} (hk0:TBok k c0 own0) (H:Heap) (h:TrH k own0 [] 0 H)
  (hr:5+(fnWs cc 0 fs).1.length<=1000000000) :
  LCalls (KC B0 w0) 48 [ptr k.tb 0,Chk.encPrG vars arrays fs] H (qhg (fun H'=>∃ own n,TrH k own ([[38,102,95,109,97,105,110],[58],decDigits k.sc,[33],[36]]++(fnWs cc 0 fs).1) n H')):=by
 have hal:=qgR fs;have hall:(fs.map qaQ).length=fs.length:=zLm _;refine cI Tryz.func48 rfl (n:=57) rfl rfl rfl ?_;refine gah ?_;refine oS (sB rfl fun b3=>?_) rfl;refine gap ?_
 refine oS (S.callS (H1:=H) (F:=[_]) [_,_] rfl qa3 (by
  have h9:=qdb (B0:=B0) (w0:=w0) hG hk0 h 0 zDd;rw[Nat.add_zero] at h9
  exact h9) fun H1 h1=>?_) rfl
 refine oS (sL [_,_,_,_,_] rfl (qaU [_,_,_,_,_]) rfl rfl rfl ?_) rfl;refine oS (zsT (H1:=H1) (F:=[_]) [_,_] rfl qa3 (qaH h1 [[38,102,95,109,97,105,110],[58],decDigits k.sc,[33],[36]] rfl (by simp only[zLc,zLn];omega)) fun H2 h2=>?_) rfl;rw[List.nil_append] at h2;refine gaa ?_;generalize hP:([[38,102,95,109,97,105,110],[58],decDigits k.sc,[33],[36]]:List Wd)=P5 at h2 ⊢;have hP5:P5.length=5:=by rw[<-hP];rfl
 clear hP;generalize hT:fnWs cc 0 fs=T at hr ⊢
 refine oL (fun kk ls H'=>∃ (pre l1:List FnD) (ws':List Wd) (n':Nat) (own:Nm),fs=pre++l1/\kk=l1.length/\ls=[(0,ptr k.tb 0),(13,.list (fs.map qaQ)),(14,int .i64 ((fs.map qaQ).length:Int)),(15,int .i64 (pre.length:Int))]/\TrH k own ws' n' H'/\ws'++(fnWs cc n' l1).1=P5++T.1/\n'+2 * ndFs l1<=1000000000)
  ⟨fs.length,_,_,⟨[],fs,P5,0,own0,rfl,rfl,rfl,h2,by rw[hT],by omega⟩,⟨rfl,rfl,rfl,rfl,trivial⟩,qcm⟩ ?_
 rintro kk ls H' ⟨pre,l1,ws',n',own,hLe,rfl,rfl,hTr,hW,hN1⟩ j hj
 have hb2:pre.length<=2000000:=by
  have:=congrArg List.length hLe;rw[zLa] at this;omega
 refine gaj ?_;refine oC rfl (fun hc=>?_) (fun hc=>?_);rotate_left
 ·have hlen:=zf hc;rw[zLm,hLe,zLa] at hlen
  obtain rfl:l1=[]:=by
   cases l1 with
   |nil=>rfl
   |cons a l2=>simp at hlen;omega
  rw[qtq,zLz] at hW;refine gab ?_;exact rO hj rN zhr ⟨rfl,own,n',by rw[<-hW];exact hTr⟩
 have hlen:=zt hc;rw[zLm,hLe,zLa] at hlen
 obtain ⟨f,l2,rfl⟩:∃ a l2,l1=a::l2:=by
  cases l1 with
  |nil=>simp at hlen
  |cons a l2=>exact ⟨a,l2,rfl⟩
 have hfm:f∈fs:=by rw[hLe];exact List.mem_append_right _ zMs
 have hnf:=qha hfm;obtain ⟨hk,hnm,hpm,hnum,env,hE,herr⟩:=hf f hfm;rw[ndFs] at hN1;have hbl:=qg8 (cc f.name) f.body n';have hpl:(f.params.map str).length=f.params.length:=zLm _;unfold ndF at hnf hN1;rw[qrb] at hW;rw[qwW] at hW;simp only at hW;have hlw:=congrArg List.length hW;simp only[zLa,zLc,zLn] at hlw;obtain ⟨v,Hv,hacc,rfl⟩:=hTr;refine gam ?_;refine oP (xR (el':=qaQ f) (cs:=[_,_,_,_]) rfl rfl zo (by rw[hLe];exact Chk.get_mid qaQ pre f l2) rfl rfl) rfl ?_;refine gad ?_;refine oS (sA fun b5=>?_) rfl;refine gac ?_
 first|(refine oS (sS (cs':=[_,_,_,_,_,_]) rfl zp1 rfl rfl rfl rfl rfl ?_) rfl)|skip
 refine gac ?_;have h1:TrH k f.name ws' n' ((k.tb,.cells 106 [v,int .i64 (n':Nat),int .i64 (k.sc:Nat),.atom (.map (some k.sm)),.atom (.map (some k.am)),str f.name])::(k.sm,.map (kvs k.S) k.g1)::(k.am,.map (kvs k.A) k.g2)::Hv):=⟨v,Hv,hacc,rfl⟩;refine LOps.weak (H':=(b5,.cells 79 [str f.name,.list (f.params.map str),.list (f.locals.map str),.list (f.body.map encS)])::(k.tb,.cells 106 [v,int .i64 (n':Nat),int .i64 (k.sc:Nat),.atom (.map (some k.sm)),.atom (.map (some k.am)),str f.name])::(k.sm,.map (kvs k.S) k.g1)::(k.am,.map (kvs k.A) k.g2)::Hv) ⟨[],by rw[zLz];exact List.Perm.swap _ _ _⟩ ?_;generalize ((k.tb,.cells 106 [v,int .i64 (n':Nat),int .i64 (k.sc:Nat),.atom (.map (some k.sm)),.atom (.map (some k.am)),str f.name])::(k.sm,.map (kvs k.S) k.g1)::(k.am,.map (kvs k.A) k.g2)::Hv:Heap)=H1 at h1 ⊢;refine zQ14 ?_;refine oS (zsT (H1:=H1) (F:=[_]) [_,_] rfl qa3 (qaH h1 [[102,95]++f.name++[58]] rfl (by simp only[zLc,zLn];omega)) fun H2 h2=>?_) rfl;refine gac ?_
 refine oL (fun kk ls H'=>∃ (i:Nat) (ws2:List Wd) (H3:Heap),i<=f.params.length/\kk=i/\ls=[(0,ptr k.tb 0),(5,ptr b5 0),(6,int .i64 ((i:Int)-1)),(13,.list (fs.map qaQ)),(14,int .i64 ((fs.map qaQ).length:Int)),(15,int .i64 (pre.length:Int))]/\H'=(b5,.cells 79 [str f.name,.list (f.params.map str),.list (f.locals.map str),.list (f.body.map encS)])::H3/\TrH k f.name ws2 n' H3/\ws2++parW (cc f.name) (f.params.take i).reverse=ws'++[[102,95]++f.name++[58]]++parW (cc f.name) f.params.reverse)
  ⟨f.params.length,_,_,⟨f.params.length,_,H2,zNr _,rfl,rfl,rfl,h2,by rw[List.take_length]⟩,⟨rfl,rfl,by rw[<-hpl];rfl,rfl,rfl,rfl,trivial⟩,zhR _⟩ ?_
 rintro kk ls H' ⟨i,ws2,H3,hi,rfl,rfl,rfl,h3,hW3⟩ j2 hj2;refine gac ?_;refine oC rfl (fun hc=>?_) (fun hc=>?_)
 ·have hge:=zt hc;obtain ⟨i,rfl⟩:∃ i',kk=i'+1:=⟨kk-1,by omega⟩;have hlt:i<f.params.length:=by omega
  rw[qtY hlt,qsd] at hW3;have hlw3:=congrArg List.length hW3;simp only[zLa,zLc,zLn] at hlw3;have hpi:=hpm _ (List.getElem_mem hlt);refine gaa ?_;refine oP (xR (el':=str f.params[i]) (cs:=[str f.params[i]]) rfl rfl zo (by rw[show (((i+1:Nat):Int)-1).toNat=i by omega,List.getElem?_map,List.getElem?_eq_getElem hlt];rfl) rfl rfl) rfl ?_;refine gad ?_;refine oS (S.callS (H1:=H3) (F:=[_]) [_,_] rfl qa3 (qbK hG hk h3 f.params[i] zo) fun H4 h4=>?_) rfl;refine zQ8 ?_;refine oS (zsT (H1:=H4) (F:=[_]) [_,_] rfl qa3 (qaH h4 [(cc f.name).sc f.params[i],[33]] rfl (by simp only[zLc,zLn];omega)) fun H5 h5=>?_) rfl;refine gac ?_;exact ⟨i,_,_,Nat.lt_succ_self _,⟨i,_,H5,by omega,rfl,rfl,rfl,h5,by rw[zAs];exact hW3⟩,⟨rfl,rfl,qak zo,rfl,rfl,rfl,trivial⟩,zhR _,hj2⟩
 ·have hlt:=zf hc;obtain rfl:kk=0:=by omega
  rw[List.take_zero,List.reverse_nil,show parW (cc f.name) []=[] from rfl,zLz] at hW3;have hlw3:=congrArg List.length hW3;simp only[zLa,zLc,zLn] at hlw3;refine gaa ?_;refine oS (zsT (H1:=H3) (F:=[_]) [_,_] rfl qa3 (qc5 hG hk hE (ndSs f.body) zo f.body ws2 n' H3 (zNr _) hnum herr h3 zo zo) fun H4 h4=>?_) rfl;refine gap ?_;refine zQ8 ?_;refine oS (zsT (H1:=H4) (F:=[_]) [_,_] rfl qa3 (qaH h4 [[48],[59]] rfl (by simp only[zLa,zLc,zLn];omega)) fun H5 h5=>?_) rfl;refine gan ?_
  exact ⟨l2.length,_,_,Nat.lt_succ_self _,⟨pre++[f],l2,_,_,f.name,by rw[hLe];simp,rfl,rfl,h5,by
   rw[hW3];simp only[zAs] at hW ⊢
   exact hW,by omega⟩,⟨rfl,rfl,rfl,qak (by simp),trivial⟩,qcm,hj2.trans hj⟩
end
end Go.Proofs.YtdakelgkjdaijaaGreatDoor.Cmp
namespace Go.Stele
open Go.Lib
def prOf (vars:List Nm) (arrays:List (Nm×Int)) (fs:List FnD):Pr:=⟨vars,arrays.map fun a=>⟨a.1,a.2.toNat⟩,fs⟩
theorem qsJ {vars:List Nm} {arrays:List (Nm×Int)} {fs:List FnD} (h:∀ a∈arrays,0<=a.2):qcC (prOf vars arrays fs)=arrays:=by
 unfold qcC prOf;simp only[List.map_map]
 conv=>rhs;rw[<-List.map_id arrays]
 refine List.map_congr_left fun a ha=>?_;have:=h a ha;simp only[Function.comp,id];rw[Int.toNat_of_nonneg this]
theorem qmO:∀ (l:List Int) (t:Int),0<=t->t<=150000->qg9 t l=0->t+l.sum<=150000/\∀ n∈l,0<n
 |[],t,h0,h1,_=>by
  rw[List.sum_nil]
  exact ⟨by omega,fun n hn=>(List.not_mem_nil hn).elim⟩
 |a::l,t,h0,h1,h=>by
  rw[qg9] at h;split at h
  ·cases h
  split at h
  ·cases h
  obtain ⟨g1,g2⟩:=qmO l (t+a) (by omega) (by omega) h;rw[List.sum_cons];refine ⟨by omega,fun n hn=>?_⟩;rcases zMi.1 hn with rfl|hn
  ·omega
  ·exact g2 n hn
theorem qnE {vars:List Nm} {arrays:List (Nm×Int)} {fs:List FnD} (h:qc2 vars arrays fs=0):(arrays.map (·.2)).sum<=150000/\(∀ a∈arrays,0<a.2)/\qcC (prOf vars arrays fs)=arrays/\qbI (prOf vars arrays fs)=0/\Valid (prOf vars arrays fs):=by
 have h0:=h;unfold qc2 at h;obtain ⟨h1,h⟩:=qap.1 h;obtain ⟨h2,h⟩:=qap.1 h;obtain ⟨s1,s2⟩:=qmO _ 0 zDd zDd h2;have hp:∀ a∈arrays,0<a.2:=fun a ha=>s2 a.2 (List.mem_map_of_mem ha);have ha:=qsJ (vars:=vars) (fs:=fs) fun a ha=>Int.le_of_lt (hp a ha)
 have hc:qbI (prOf vars arrays fs)=0:=by
  have:(prOf vars arrays fs).arrays.map (fun a=>(a.name,(a.size:Int)))=arrays:=ha;unfold qbI;rw[this];exact h0
 exact ⟨by omega,hp,ha,hc,qkL hc⟩
def symA:Int->List (Nm×Int)->List (Nm×Int)
 |_,[]=>[]
 |a,(x,n)::r=>(x,a)::symA (a+n) r
theorem qkh:∀ (l:List (Nm×Int)) (a:Int),(symA a l).map (·.1)=l.map (·.1)
 |[],_=>rfl
 |(x,n)::r,a=>by rw[symA,zMc,zMc,qkh r]
theorem qlg:∀ (l:List (Nm×Int)) (a:Int),(symA a l).length=l.length
 |[],_=>rfl
 |(x,n)::r,a=>by rw[symA,zLc,zLc,qlg r]
theorem qoL:∀ (l m:List (Nm×Int)) (a:Int),symA a (l++m)=symA a l++symA (a+(l.map (·.2)).sum) m
 |[],m,a=>by simp[symA]
 |(x,n)::r,m,a=>by
  rw[List.cons_append,symA,qoL r m,symA,List.cons_append,zMc,List.sum_cons,Int.add_assoc]
/-! ### The regions -/
def qfE (r:Int×Int):Bool:=qeP r.1 r.2
def qjb (r s:Int×Int):Bool:=qhR r.1 r.2 s.1 s.2
def goR:List (Int×Int)->List (Int×Int)->Bool
 |_,[]=>true
 |prev,r::rest=>qfE r && (prev.all fun s=>!qjb r s) && goR (prev++[r]) rest
theorem qve (vars:List Nm) (arrays:List (Nm×Int)) (fs:List FnD) (o:Org):qgE vars arrays fs o=goR [] [(o.scalars,3+((qan vars fs).length:Nat)),(o.code,40000),(o.arrays,(arrays.map (·.2)).sum)]:=by
 unfold qgE goR goR goR goR qfE qjb;simp only[List.all_nil,List.nil_append,List.all_cons,List.singleton_append,List.cons_append,Bool.and_true];generalize qeP o.scalars _=a;generalize qeP o.code 40000=b;generalize qeP o.arrays _=c;generalize qhR o.code 40000 o.scalars _=d;generalize qhR o.arrays _ o.scalars _=e;generalize qhR o.arrays _ o.code 40000=f;revert a b c d e f;decide
end Go.Stele
namespace Go.Stele
open Go.Lib
theorem qg3 (all:List Wd):∀ (l:List (Wd×Nat)) (met:List Wd),(errT all met l).2=0∨(errT all met l).2=8∨(errT all met l).2=7∨(errT all met l).2=3
 |[],met=>.inl rfl
 |(w,ln)::r,met=>by
  rw[errT]
  cases hd:defW w with
  |some x=>
   simp only;split
   ·exact .inr (.inl rfl)
   ·exact qg3 all r _
  |none=>
   simp only
   cases hr:refW w with
   |some x=>
    simp only;split
    ·exact qg3 all r _
    ·exact .inr (.inr (.inl rfl))
   |none=>
    simp only;split
    ·exact qg3 all r _
    ·exact .inr (.inr (.inr rfl))
theorem qoV {src:Wd} {og:Int} (h:0<=og/\og<262144) {e:Nat×Nat} (he:asmP src og=.error e):e.2=8∨e.2=7∨e.2=3∨e.2=6:=by
 unfold asmP at he;split at he
 ·omega
 split at he
 ·rename_i h1
  injection he with he;rw[<-he];rcases qg3 (defs (qbU src)) (qgp src) [] with h2|h2|h2|h2
  ·exact absurd h2 h1
  ·exact .inl h2
  ·exact .inr (.inl h2)
  ·exact .inr (.inr (.inl h2))
 split at he
 ·injection he with he;rw[<-he];exact .inr (.inr (.inr rfl))
 ·cases he
section
variable {vars:List Nm} {arrays:List (Nm×Int)} {fs:List FnD} {o:Org}
theorem qqa (h:qgE vars arrays fs o=true):0<=o.code/\o.code<262144:=by
 unfold qgE qeP at h;simp only[zBa,zDe] at h;have:=h.1.1.1.1.2;omega
def qoi (vars:List Nm) (arrays:List (Nm×Int)) (fs:List FnD) (o:Org):Except Int Wd:=match cmpP vars arrays fs o with
 |.error e=>.error e
 |.ok t=>match asmP t o.code with
  |.error e=>.error e.2
  |.ok x=>.ok x.1
theorem qvs {t:Wd} (h:cmpP vars arrays fs o=.ok t):∃ x,asmP t o.code=.ok x/\qoi vars arrays fs o=.ok x.1:=by
 have h0:=h;unfold cmpP at h;split at h
 ·cases h
 split at h
 ·cases h
 split at h
 ·cases h
 rename_i x hx
 injection h with h;rw[h] at hx;refine ⟨x,hx,?_⟩;unfold qoi;rw[h0];simp only;rw[hx]
end
theorem qwe {vars:List Nm} {arrays:List (Nm×Int)} {fs:List FnD} {o:Org} {e:Int} (h:cmpP vars arrays fs o=.error e):e≠0:=by
 unfold cmpP at h;split at h
 ·rename_i h1
  injection h with h;rw[<-h];exact h1
 split at h
 ·injection h with h;omega
 rename_i h2
 split at h
 ·rename_i e' he
  injection h with h;have:=qoV (qqa (by simpa using h2)) he;omega
 ·cases h
end Go.Stele
namespace Go.Proofs.YtdakelgkjdaijaaGreatDoor.Cmp
open Go.GL Go.RowKit Go.Stele
open Go.Lib (decDigits itoa join)
def qeO (r:Int×Int):LV:=.agg [int .i64 r.1,int .i64 r.2]
def qgG (o:Org):LV:=.agg [int .i64 o.code,int .i64 o.scalars,int .i64 o.arrays]
def qpp (p:Nm×Int):LV:=.agg [str p.1,int .i64 p.2]
def I64 (n:Int):Prop := -9223372036854775808<=n/\n<9223372036854775808
def SmI (n:Int):Prop := -1000000000000<=n/\n<=1000000000000
theorem qn5 {l:List Int} {i:Nat} (h:i<l.length):(l.take (i+1)).sum=(l.take i).sum+l[i]:=by
 rw[List.take_succ_eq_append_getElem h,List.sum_append]
 simp
theorem qc9:∀ (l:List Int) (i:Nat),(∀ n∈l,0<n)->0<=(l.take i).sum/\(l.take i).sum<=l.sum
 |[],i,_=>by simp
 |a::l,0,h=>by
  have:=qc9 l l.length fun n hn=>h n (zMo _ hn);have h1:=h a zMs;rw[List.take_length] at this;rw[List.take_zero,List.sum_nil,List.sum_cons]
  omega
 |a::l,i+1,h=>by
  have:=qc9 l i fun n hn=>h n (zMo _ hn);have h1:=h a zMs;rw[List.take_succ_cons,List.sum_cons,List.sum_cons];omega
theorem qq3 {l:List (Nm×Int)} {i:Nat} (h:i<l.length) (a:Int):symA a (l.take (i+1))=symA a (l.take i)++[(l[i].1,a+((l.map (·.2)).take i).sum)]:=by
 rw[List.take_succ_eq_append_getElem h,qoL,<-List.map_take];rfl
attribute [local irreducible] LOps qae qad LCalls Go.GL.Pure qax qaj qac LQ LAny qaE qal LS
section
variable {B0:Nat} {w0:World}
theorem qnV (r:Int×Int) (h2:SmI r.2):LCalls (KC B0 w0) 81 [qeO r] [] (Ret (bool (qfE r))):=by
 obtain ⟨a,n⟩:=r;unfold SmI at h2;simp only at h2;have hI:qfE (a,n)=decide (0<=a/\a<=262144-n):=rfl;unfold qeO;refine cI Tryz.func81 rfl (n:=14) rfl rfl rfl ?_;refine gah ?_;refine oS (sB rfl fun b1=>?_) rfl;refine gac ?_;refine oB 6 rfl (fun h=>?_) (fun h=>?_)
 ·have h1:a ≥ 0:=zt h;refine gad ?_
  exact qaf rfl (zra rfl) (qas (by
   rw[hI,Bool.eq_iff_iff,decide_eq_true_iff,decide_eq_true_iff]
   omega))
 ·have h1:¬ a ≥ 0:=zf h;refine gab ?_
  exact qaf rfl (zra rfl) (qas (by
   rw[hI]
   symm
   exact decide_eq_false zo))
theorem qo6 (r s:Int×Int) (h1:SmI r.1) (h2:SmI r.2) (h3:SmI s.1) (h4:SmI s.2):LCalls (KC B0 w0) 82 [qeO r,qeO s] [] (Ret (bool (qjb r s))):=by
 obtain ⟨a,n⟩:=r;obtain ⟨b,m⟩:=s;unfold SmI at h1 h2 h3 h4;simp only at h1 h2 h3 h4;have hI:qjb (a,n) (b,m)=decide (0<n/\0<m/\a<b+m/\b<a+n):=rfl;unfold qeO;refine cI Tryz.func82 rfl (n:=33) rfl rfl rfl ?_;refine gah ?_;refine oS (sB rfl fun b1=>?_) rfl;refine oS (sB rfl fun b2=>?_) rfl;refine gac ?_;refine oB 8 rfl (fun g1=>?_) (fun g1=>?_);rotate_left
 ·have g1':¬ n > 0:=zf g1;refine gab ?_;exact qaf rfl (zra rfl) (qas (by rw[hI];symm;exact decide_eq_false zo))
 have g1':n > 0:=zt g1;refine gad ?_;refine oB 13 rfl (fun g2=>?_) (fun g2=>?_);rotate_left
 ·have g2':¬ m > 0:=zf g2;refine gab ?_;exact qaf rfl (zra rfl) (qas (by rw[hI];symm;exact decide_eq_false zo))
 have g2':m > 0:=zt g2;refine gav ?_;refine oB 23 rfl (fun g3=>?_) (fun g3=>?_);rotate_left
 ·have g3':¬ a<b+m:=zf g3;refine gab ?_;exact qaf rfl (zra rfl) (qas (by rw[hI];symm;exact decide_eq_false zo))
 have g3':a<b+m:=zt g3;refine gav ?_
 exact qaf rfl (zra rfl) (qas (by
  rw[hI,Bool.eq_iff_iff,decide_eq_true_iff,decide_eq_true_iff]
  omega))
theorem qnz (vars:List Nm) (arrays:List (Nm×Int)) (fs:List FnD) (o:Org) (hl:arrays.length<=2000000) (hp:∀ a∈arrays,0<a.2) (h0:0<=o.arrays) (h1:o.arrays+(arrays.map (·.2)).sum<=262144):LCalls (KC B0 w0) 47 [Chk.encPrG vars arrays fs,qgG o] [] (Ret (.tuple [.list ((symA o.arrays arrays).map qpp),int .i64 0])):=by
 have hal:(arrays.map Chk.encArG).length=arrays.length:=zLm _;have hml:(arrays.map (·.2)).length=arrays.length:=zLm _
 have hps:∀ n∈arrays.map (·.2),0<n:=fun n hn=>by
  obtain ⟨a,ha,rfl⟩:=List.mem_map.1 hn;exact hp a ha
 unfold Chk.encPrG qgG;refine cI Tryz.func47 rfl (n:=50) rfl rfl rfl ?_;refine gah ?_;refine oS (sB rfl fun b2=>?_) rfl;refine oS (sB rfl fun b3=>?_) rfl;refine gac ?_
 refine oL (fun kk ls H'=>∃ (i:Nat) (v:LV),i<=arrays.length/\kk=arrays.length-i/\ls=[(6,v),(7,int .i64 (o.arrays+((arrays.map (·.2)).take i).sum)),(13,.list (arrays.map Chk.encArG)),(14,int .i64 arrays.length),(15,int .i64 (i:Nat))]/\GL.Acc 2 v ((symA o.arrays (arrays.take i)).map qpp) H' [])
  ⟨_,_,_,⟨0,qab,Nat.zero_le _,rfl,rfl,Acc.nil⟩,⟨rfl,qak (by simp),rfl,qak zo,rfl,trivial⟩,HSub.nil _⟩ ?_
 rintro kk ls H' ⟨i,v,hi,rfl,rfl,hacc⟩ j hj;have hsum:=qc9 (arrays.map (·.2)) i hps;refine gaj ?_;refine oC rfl (fun hc=>?_) (fun hc=>?_)
 ·have hlt:i<arrays.length:=by have:=zt hc;omega
  have hpi:=hp _ (List.getElem_mem hlt);have hst:=qn5 (l:=arrays.map (·.2)) (i:=i) zo;rw[List.getElem_map] at hst;have hsum2:=qc9 (arrays.map (·.2)) (i+1) hps
  have hlen:((symA o.arrays (arrays.take i)).map qpp).length=i:=by
   rw[zLm,qlg,List.length_take];omega
  generalize hsi:((arrays.map (·.2)).take i).sum=si at hsum hst;have hsy:=qq3 hlt o.arrays;rw[hsi] at hsy;refine gam ?_;refine oP (xR (el':=Chk.encArG arrays[i]) (cs:=[_,_]) rfl rfl zo (qbd _ _ _ hlt) rfl rfl) rfl ?_;refine gad ?_;refine oS (sA fun b9=>?_) rfl;refine gac ?_;refine oB 21 rfl (fun h=>?_) (fun _=>?_)
  ·have:=zt h;omega
  refine gad ?_;refine oB 25 rfl (fun h=>?_) (fun _=>?_)
  ·have:=zt h;omega
  refine gav ?_;refine oB 30 rfl (fun h=>?_) (fun _=>?_)
  ·have:=zt h;omega
  refine gad ?_;refine oC rfl (fun h=>?_) (fun _=>?_)
  ·have:=zt h;omega
  refine gam ?_;refine zQ17 ?_;refine gad ?_;refine zQ2 ?_;refine oS (S.acc1 rfl hacc rfl (by simp;rfl) rfl (by rw[hlen];simp;omega) fun v' H2 hacc'=>?_) rfl;refine zQ30 ?_;refine gaa ?_;exact ⟨_,_,_,by omega,⟨i+1,v',by omega,rfl,rfl,by rw[hsy,zMa];exact hacc'⟩,⟨rfl,qak (by rw[hst];omega),rfl,rfl,qak zo,trivial⟩,zhD zhr,hj⟩
 ·have hi':i=arrays.length:=by have:=zf hc;omega
  subst hi';rw[List.take_length] at hacc;refine qae.sub (d:=6) (v:=v) rfl hacc.sub ?_;refine cW zhn ?_;refine gac ?_;exact qaf hj (rC (rT (v:=.list _) rfl zsr) (zra rfl)) rfl
theorem qsm (vars:List Nm) (arrays:List (Nm×Int)) (fs:List FnD) (o:Org) (hv6:vars.length<=2000000) (hf6:fs.length<=2000000) (hl:arrays.length<=2000000) (hsm:∀ f∈fs,SmF f) (hn:∀ f∈fs,f.name.length<=1000/\∀ x∈f.params++f.locals,x.length<=1000)
  (hp:∀ a∈arrays,0<a.2) (ht:(arrays.map (·.2)).sum<=150000) (hsc:(qan vars fs).length<=8000) (o1:I64 o.code) (o2:I64 o.scalars) (o3:I64 o.arrays) :
  LCalls (KC B0 w0) 45 [Chk.encPrG vars arrays fs,qgG o] [] (Ret (bool (qgE vars arrays fs o))):=by
 have hal:(arrays.map Chk.encArG).length=arrays.length:=zLm _;have hml:(arrays.map (·.2)).length=arrays.length:=zLm _
 have hps:∀ n∈arrays.map (·.2),0<n:=fun n hn=>by
  obtain ⟨a,ha,rfl⟩:=List.mem_map.1 hn;exact hp a ha
 have hscl:((qan vars fs).map str).length=(qan vars fs).length:=zLm _;have hS:=Chk.scalars_specG (B0:=B0) (w0:=w0) (vars:=vars) (fs:=fs) (.list (arrays.map Chk.encArG)) hv6 hf6 hsm hn;rw[qve];unfold Chk.encPrG qgG;refine cI Tryz.func45 rfl (n:=63) rfl rfl rfl ?_;refine gah ?_;refine oS (sB rfl fun b2=>?_) rfl;refine oS (sB rfl fun b3=>?_) rfl;refine gac ?_
 refine oL (fun kk ls H'=>∃ (i:Nat),i<=arrays.length/\kk=arrays.length-i/\ls=[(2,ptr b2 0),(3,ptr b3 0),(5,int .i64 (((arrays.map (·.2)).take i).sum)),(14,.list (arrays.map Chk.encArG)),(15,int .i64 arrays.length),(16,int .i64 (i:Nat))]/\H'=[(b3,.cells 36 [int .i64 o.code,int .i64 o.scalars,int .i64 o.arrays]),(b2,.cells 28 [.list (vars.map str),.list (arrays.map Chk.encArG),.list (fs.map qaQ)])])
  ⟨_,_,_,⟨0,Nat.zero_le _,rfl,rfl,rfl⟩,⟨rfl,rfl,rfl,rfl,qak zo,rfl,trivial⟩,zhR _⟩ ?_
 rintro kk ls H' ⟨i,hi,rfl,rfl,rfl⟩ j hj;have hsum:=qc9 (arrays.map (·.2)) i hps;refine gaj ?_;refine oC rfl (fun hc=>?_) (fun hc=>?_)
 ·have hlt:i<arrays.length:=by have:=zt hc;omega
  have hpi:=hp _ (List.getElem_mem hlt);have hst:=qn5 (l:=arrays.map (·.2)) (i:=i) zo;rw[List.getElem_map] at hst;have hsum2:=qc9 (arrays.map (·.2)) (i+1) hps;generalize hsi:((arrays.map (·.2)).take i).sum=si at hsum hst;refine gam ?_;refine oP (xR (el':=Chk.encArG arrays[i]) (cs:=[_,_]) rfl rfl zo (qbd _ _ _ hlt) rfl rfl) rfl ?_;refine gad ?_;refine oS (sA fun b7=>?_) rfl;refine gac ?_;exact ⟨_,_,_,by omega,⟨i+1,by omega,rfl,rfl,rfl⟩,⟨rfl,rfl,qak (by rw[hst]),rfl,rfl,qak zo,trivial⟩,zhD zhr,hj⟩
 have hi':i=arrays.length:=by have:=zf hc;omega
 subst hi';rw[<-hml,List.take_length] at hsum ⊢;generalize (arrays.map (·.2)).sum=total at hsum ht ⊢;generalize (qan vars fs).length=ns at hsc hscl ⊢;refine gab ?_;refine cD (m:=16) rfl [(b3,.cells 36 [int .i64 o.code,int .i64 o.scalars,int .i64 o.arrays]),(b2,.cells 28 [.list (vars.map str),.list (arrays.map Chk.encArG),.list (fs.map qaQ)])] ?_;refine aT 0 rfl rfl (pF rfl) ?_;refine aT 1 rfl rfl (pL (c:=.atom _) rfl zm0 rfl) ?_;refine aT 2 rfl rfl (pG (cs':=[_,_,_]) rfl zm1 rfl rfl) ?_;refine aT 7 rfl rfl (pF rfl) ?_;refine aT 8 rfl rfl (pL (c:=.atom _) rfl zm0 rfl) ?_;refine aT 9 rfl rfl (pB _ (cs:=[_,_]) rfl) ?_;refine aT 10 rfl rfl (pF rfl) ?_;refine aT 11 rfl rfl (pL (c:=.atom _) rfl zm0 rfl) ?_;refine aT 12 rfl rfl (pM (lv:=.atom _) rfl) ?_;refine aT 13 rfl rfl (pB _ (cs:=[_,_]) rfl) ?_;refine aL ?_ zhr;refine lO 3 (lS (H1:=[]) rfl (.inl rfl) rfl zpr zhr (sF [_] rfl hS ?_));refine lO 4 (lH rfl rfl (Pure.llen rfl) ?_);refine lO 5 (lH rfl rfl (Pure.add rfl rfl zo) ?_);refine lO 6 (lH rfl rfl (pB _ (cs:=[_,_]) rfl) ?_);refine lO 14 (lS (H1:=[]) rfl (.inl rfl) rfl zpr zhr (sL (es:=[LV.agg [int .i64 o.scalars,int .i64 (3+(((qan vars fs).map str).length:Int))],.agg [int .i64 o.code,int .i64 40000],.agg [int .i64 o.arrays,int .i64 total]]) [_,_,_] rfl (eC rfl rfl (eC rfl rfl (eC rfl rfl eN))) rfl rfl rfl ?_));refine lO 15 (lH rfl rfl (pA (lv:=.list _) rfl) ?_);refine lD zk ?_;have e3:(3:Int)+(((qan vars fs).map str).length:Int)=3+(ns:Nat):=by rw[hscl]
 rw[e3];generalize hrs:[(o.scalars,(3:Int)+(ns:Nat)),(o.code,(40000:Int)),(o.arrays,total)]=rs;have hrl:([LV.agg [int .i64 o.scalars,int .i64 (3+(ns:Int))],.agg [int .i64 o.code,int .i64 40000],.agg [int .i64 o.arrays,int .i64 total]]:List LV)=rs.map qeO:=by rw[<-hrs];rfl
 rw[hrl];have hlr:rs.length=3:=by rw[<-hrs];rfl
 have hsz:∀ r∈rs,SmI r.2/\0<=r.2:=by
  rw[<-hrs];intro r hr;simp only[zMi,List.not_mem_nil,or_false] at hr;unfold SmI;rcases hr with rfl|rfl|rfl <;> simp only <;> omega
 have hrm:(rs.map qeO).length=rs.length:=zLm _;clear hrl hrs;generalize hR:goR [] rs=R;refine qN ?_;refine cW zhn ?_;refine gaa ?_
 refine oL (fun kk ls H'=>∃ (i:Nat),i<=rs.length/\kk=rs.length-i/\ls=[(8,.list (rs.map qeO)),(40,.list (rs.map qeO)),(41,int .i64 rs.length),(42,int .i64 (i:Nat))]/\H'=[]/\goR (rs.take i) (rs.drop i)=R/\∀ r∈rs.take i,qfE r=true)
  ⟨_,_,_,⟨0,Nat.zero_le _,rfl,rfl,rfl,hR,fun r hr=>by cases hr⟩,⟨rfl,rfl,qak zo,rfl,trivial⟩,zhR _⟩ ?_
 rintro kk ls H' ⟨i,hi,rfl,rfl,rfl,hgo,hins⟩ j1 hj1;refine gaj ?_;refine oC rfl (fun hc=>?_) (fun hc=>?_);rotate_left
 ·have hi':i=rs.length:=by have:=zf hc;omega
  subst hi';rw[List.drop_length,goR] at hgo;refine gaa ?_;exact qaf (hj1.trans hj) (zra rfl) (qas hgo)
 have hlt:i<rs.length:=by have:=zt hc;omega
 have hsi:=hsz _ (List.getElem_mem hlt);rw[List.drop_eq_getElem_cons hlt,goR,<-List.take_succ_eq_append_getElem hlt] at hgo;generalize hgr:rs[i]=r at hgo hsi;refine gaa ?_;refine oP (xR (el':=qeO r) (cs:=[_,_]) rfl rfl zo (by rw[<-hgr];exact qbd _ _ _ hlt) rfl rfl) rfl ?_;refine gad ?_;refine oS (sA fun b10=>?_) rfl;refine gac ?_;refine oS (sF [_] rfl (qnV r hsi.1) ?_) rfl;refine gad ?_;refine oC rfl (fun h=>?_) (fun h=>?_)
 ·have h':qfE r=false:=by simpa using h
  rw[h',Bool.false_and,Bool.false_and] at hgo;refine gaa ?_;exact qaf (hj1.trans hj) (zra rfl) (qas hgo)
 have h':qfE r=true:=by simpa using h
 rw[h',Bool.true_and] at hgo
 have inb:∀ r:Int×Int,SmI r.2/\0<=r.2->qfE r=true->SmI r.1:=fun r h1 h2=>by
  have:0<=r.1/\r.1<=262144-r.2:=zt h2;unfold SmI at h1 ⊢;omega
 have hri:=inb r hsi h';have htl:(rs.take i).length=i:=by rw[List.length_take];omega
 have htm:((rs.take i).map qeO).length=i:=by rw[zLm,htl]
 have hts:((rs.map qeO).take i)=(rs.take i).map qeO:=List.map_take.symm;refine gaa ?_;refine oP (Pure.lsliceE (i:=0) (j:=(i:Nat)) (es:=rs.map qeO) (ms:=(rs.take i).map qeO) rfl rfl ⟨_,rfl⟩ zo zo zo (fun v hv=>by obtain ⟨r,_,rfl⟩:=List.mem_map.1 hv;rfl) (by rw[Int.toNat_natCast,<-hts];rfl)) rfl ?_;refine gab ?_
 refine oL (fun kk ls H'=>∃ (x:Nat),x<=i/\kk=i-x/\ls=[(8,.list (rs.map qeO)),(10,ptr b10 0),(40,.list (rs.map qeO)),(41,int .i64 rs.length),(42,int .i64 (i:Nat)),(52,.list ((rs.take i).map qeO)),(53,int .i64 i),(54,int .i64 (x:Nat))]/\H'=[(b10,.cells 169 [int .i64 r.1,int .i64 r.2])]/\((((rs.take i).drop x).all fun s=>!qjb r s) && goR (rs.take (i+1)) (rs.drop (i+1)))=R)
  ⟨_,_,_,⟨0,Nat.zero_le _,rfl,rfl,rfl,by rw[List.drop_zero];exact hgo⟩,⟨rfl,rfl,rfl,rfl,rfl,rfl,qak zo,rfl,trivial⟩,zhR _⟩ ?_
 rintro kk ls H' ⟨x,hx,rfl,rfl,rfl,hall⟩ j2 hj2;refine gaj ?_;refine oC rfl (fun hc=>?_) (fun hc=>?_)
 ·have hlx:x<(rs.take i).length:=by have:=zt hc;omega
  have hm1:=List.getElem_mem hlx;have hss:=hsz _ (List.mem_of_mem_take hm1);have hsn:=inb _ hss (hins _ hm1);rw[List.drop_eq_getElem_cons hlx,List.all_cons] at hall;generalize hgs:(rs.take i)[x]=s at hall hss hsn;refine gam ?_;refine oP (xR (el':=qeO s) (cs:=[_,_]) rfl rfl zo (by rw[<-hgs];exact qbd _ _ _ hlx) rfl rfl) rfl ?_;refine gad ?_;refine oS (sA fun b12=>?_) rfl;refine gac ?_;refine oS (sF [_,_] rfl (qo6 r s hri hsi.1 hsn hss.1) ?_) rfl;refine gaf ?_;refine oC rfl (fun h=>?_) (fun h=>?_)
  ·have h2:qjb r s=true:=h;rw[h2] at hall;refine gaa ?_;exact qaf (hj2.trans (hj1.trans hj)) (zra rfl) (qas (by rw[<-hall];rfl))
  ·have h2:qjb r s=false:=h;rw[h2] at hall;refine gaa ?_;exact ⟨_,_,_,by omega,⟨x+1,by omega,rfl,rfl,rfl,hall⟩,⟨rfl,rfl,rfl,rfl,rfl,rfl,rfl,qak zo,trivial⟩,zhD zhr,hj2⟩
 ·have hx':x=i:=by have:=zf hc;omega
  subst hx';rw[List.drop_eq_nil_of_le (by rw[htl];exact zNr _)] at hall;refine gaa ?_
  exact ⟨_,_,_,by omega,⟨x+1,by omega,rfl,rfl,rfl,hall,fun q hq=>by
   rw[List.take_succ_eq_append_getElem hlt,hgr] at hq;rcases List.mem_append.1 hq with hq|hq
   ·exact hins q hq
   ·rw[List.mem_singleton.1 hq];exact h'⟩,⟨rfl,rfl,rfl,qak zo,trivial⟩,HSub.nil _,hj2.trans hj1⟩
end
end Go.Proofs.YtdakelgkjdaijaaGreatDoor.Cmp
namespace Go.Proofs.YtdakelgkjdaijaaGreatDoor.Cmp
open Go.GL Go.RowKit Go.Stele
open Go.Lib (decDigits itoa join)
def scKV (S:Int):Nat->List Nm->KV
 |_,[]=>[]
 |i,x::r=>(x,int .i64 (S+3+(i:Nat)))::scKV S (i+1) r
theorem qox (S:Int):∀ (l m:List Nm) (i:Nat),scKV S i (l++m)=scKV S i l++scKV S (i+l.length) m
 |[],m,i=>by simp[scKV]
 |x::r,m,i=>by
  rw[List.cons_append,scKV,qox S r m,scKV,List.cons_append,zLc,Nat.add_right_comm,Nat.add_assoc]
theorem ql6 (S:Int):∀ (l:List Nm) (i:Nat),(scKV S i l).map (·.1)=l
 |[],i=>rfl
 |x::r,i=>by rw[scKV,zMc,ql6 S r]
theorem qrn {S:Int} {l:List Nm} {i:Nat} (h:i<l.length) (hn:l.Nodup):GL.kvPut (scKV S 0 (l.take i)) l[i] (int .i64 (S+3+(i:Nat)))=scKV S 0 (l.take (i+1)):=by
 rw[List.take_succ_eq_append_getElem h,qox,List.length_take,Nat.zero_add,Nat.min_eq_left zo];refine qjs ?_;rw[ql6];intro hm;rw[<-List.take_append_drop i l,List.drop_eq_getElem_cons h,List.nodup_append] at hn;exact hn.2.2 _ hm _ zMs rfl
theorem qkT (S:Int) (k:Nm):∀ (l:List Nm) (i:Nat),GL.kvGet (scKV S i l) k=if k∈l then some (int .i64 (S+3+((i+l.idxOf k:Nat):Int))) else none
 |[],i=>rfl
 |x::r,i=>by
  rw[scKV,GL.kvGet]
  by_cases h:x=k
  ·rw[if_pos h,if_pos (by rw[h];exact List.mem_cons_self ..),List.idxOf_cons,h]
   simp
  ·rw[if_neg h,qkT S k r (i+1)]
   by_cases hm:k∈r
   ·rw[if_pos hm,if_pos (zMo _ hm),List.idxOf_cons,cond_eq_ite,if_neg (by simpa using h)];congr 4;omega
   ·rw[if_neg hm,if_neg (by rw[zMi];exact fun g=>g.elim (fun e=>h e.symm) hm)]
def arKV (l:List (Nm×Int)):KV:=l.map fun p=>(p.1,int .i64 p.2)
theorem qrd {l:List (Nm×Int)} {i:Nat} (h:i<l.length) (hn:(l.map (·.1)).Nodup):GL.kvPut (arKV (l.take i)) l[i].1 (int .i64 l[i].2)=arKV (l.take (i+1)):=by
 unfold arKV;rw[List.take_succ_eq_append_getElem h,zMa];refine qjs ?_;rw[List.map_map];intro hm
 have e1:l.map (·.1)=(l.take i).map (·.1)++l[i].1::(l.drop (i+1)).map (·.1):=by
  conv=>lhs;rw[<-List.take_append_drop i l,List.drop_eq_getElem_cons h]
  rw[zMa,zMc]
 rw[e1,List.nodup_append] at hn;exact hn.2.2 _ hm _ zMs rfl
theorem qn7 (name:Nm):∀ (l:List (Nm×Int)) (a:Int),(GL.kvGet (arKV (symA a l)) name).getD (int .i64 0)=int .i64 (arrA a l name)
 |[],a=>rfl
 |(x,n)::r,a=>by
  rw[symA,arrA];show (GL.kvGet ((x,int .i64 a)::arKV (symA (a+n) r)) name).getD (int .i64 0)=_;rw[GL.kvGet];simp only
  by_cases h:x=name
  ·rw[if_pos h,if_pos h];rfl
  ·rw[if_neg h,if_neg h];exact qn7 name r (a+n)
def qpz:Except Int Wd->LV
 |.error e=>.tuple [str [],int .i64 e]
 |.ok t=>.tuple [str t,int .i64 0]
theorem tb_ok {P:Pr} {o:Org} (hF:FitN P o) (own:Nm) (ho:own.length<=1000000) (b1 b2 b3 g1 g2:Nat):TBok ⟨b1,b2,b3,scKV o.scalars 0 (qan P.vars P.funcs),arKV (symA o.arrays (qcC P)),g1,g2,o.scalars.toNat⟩ (ccF P.vars (qcC P) P.funcs o own) own:=by
 have s0:=hF.s0;have s1:=hF.s1;have a0:=hF.a0;have a1:=hF.a1
 have hp:∀ p∈qcC P,0<=p.2:=fun p hp=>by
  obtain ⟨a,_,rfl⟩:=List.mem_map.1 hp;exact Int.natCast_nonneg _
 have hpl:∀ k,0<=qgF (qan P.vars P.funcs) o.scalars k/\qgF (qan P.vars P.funcs) o.scalars k<=262144/\(k∈qan P.vars P.funcs->int .i64 (o.scalars+3+((0+(qan P.vars P.funcs).idxOf k:Nat):Int))=int .i64 (((qgF (qan P.vars P.funcs) o.scalars k).toNat:Nat):Int)):=fun k=>by
  unfold qgF
  by_cases h:k∈qan P.vars P.funcs
  ·have:=List.idxOf_lt_length_of_mem h;rw[if_pos h];exact ⟨by omega,by omega,fun _=>qak zo⟩
  ·rw[if_neg h];exact ⟨by omega,by omega,fun h2=>absurd h2 h⟩
 refine ⟨fun name=>?_,fun name=>?_,?_,?_,?_,?_,ho⟩
 ·refine ⟨(qgF (qan P.vars P.funcs) o.scalars (keyC (qan P.vars P.funcs) own name)).toNat,?_,?_,?_⟩
  ·have:=hpl (keyC (qan P.vars P.funcs) own name);omega
  ·exact qeE (hpl _).1
  ·show (∃ v,GL.kvGet (scKV o.scalars 0 (qan P.vars P.funcs)) (own++[46]++name)=some v/\_)∨(GL.kvGet (scKV o.scalars 0 (qan P.vars P.funcs)) (own++[46]++name)=none/\(GL.kvGet (scKV o.scalars 0 (qan P.vars P.funcs)) name).getD _=_);rw[qkT,qkT];unfold keyC
   by_cases h:own++[46]++name∈qan P.vars P.funcs
   ·left;rw[if_pos h,if_pos h];exact ⟨_,rfl,(hpl _).2.2 h⟩
   ·right;rw[if_neg h,if_neg h];refine ⟨rfl,?_⟩
    by_cases h2:name∈qan P.vars P.funcs
    ·rw[if_pos h2];exact (hpl _).2.2 h2
    ·rw[if_neg h2];unfold qgF;rw[if_neg h2];rfl
 ·have h1:=qlj (qcC P) o.arrays a0 hp name;have h2:=qnx (qcC P) o.arrays a0 hp name;have h3:((qcC P).map (·.2)).sum=((totA P.arrays:Nat):Int):=qik P.arrays;rw[h3] at h2;refine ⟨(arrA o.arrays (qcC P) name).toNat,by omega,qeE h1,?_⟩;show (GL.kvGet (arKV (symA o.arrays (qcC P))) name).getD _=_;rw[qn7];exact qak zo
 ·exact qeE s0
 ·show itoa (o.scalars+1)=_;rw[qeE zo];congr 1;show _=o.scalars.toNat+1;omega
 ·show itoa (o.scalars+2)=_;rw[qeE zo];congr 1;show _=o.scalars.toNat+2;omega
 ·show o.scalars.toNat<=_;omega
theorem qn6 {s:Nm} (h:isNm s=true):s.length<=24:=by
 unfold isNm at h;rw[zBa,zBa,zDe] at h;exact h.1.1
theorem qw0 {P:Pr} (hv:Valid P) {f:FnD} (hf:f∈P.funcs) (hown:∀ x∈f.params++f.locals,x.length<=24) {kn:List FSum} (hk:qh8 P.funcs kn):EnvOk (envF P.vars (P.arrays.map (·.name)) (P.funcs.map (·.name)) kn f):=by
 have hfr:=qa6 _ _ hv.names;refine ⟨fun s hs=>?_,fun k hk'=>?_⟩
 ·unfold qcA at hs;split at hs
  ·rename_i h
   rcases h with h|h
   ·exact qn6 (hfr.2 s (List.mem_append_left _ (List.mem_append_left _ h))).2
   ·exact hown s h
  ·split at hs <;> cases hs
 ·obtain ⟨g,g1,g2,_⟩:=hk k hk';rw[<-g2];exact qn6 (hfr.2 _ (List.mem_append_right _ (List.mem_map_of_mem g1))).2
theorem qgD:∀ (vars arrays later:List Nm) (known:List FSum) (fs:List FnD),qf5 vars arrays later known fs=0->∀ f∈fs,∀ x∈f.params++f.locals,x.length<=24
 |_,_,_,_,[],_,f,hf=>(List.not_mem_nil hf).elim
 |vars,arrays,later,known,g::l,h,f,hf=>by
  rw[qf5] at h;obtain ⟨h1,h2⟩:=qap.1 h;rcases zMi.1 hf with rfl|hf
  ·unfold errF at h1;intro x hx;exact qn6 ((qa6 _ _ (qap.1 h1).1).2 x hx).2
  ·exact qgD vars arrays later _ l h2 f hf
theorem qwK {t s a b3 b2:Nat×LObj}:[t,b3,s,a,b2].Perm ([t,s,a]++[b3,b2]):=List.Perm.cons _ ((List.Perm.swap _ _ _).trans (List.Perm.cons _ (List.Perm.swap _ _ _)))
attribute [local irreducible] LOps qae qad LCalls Go.GL.Pure qax qaj qac LQ LAny qaE qal LS
section
variable {B0:Nat} {w0:World}
theorem qmT (hG:GW B0 w0) (hM:Asm.GM w0) (vars:List Nm) (arrays:List (Nm×Int)) (fs:List FnD) (o:Org) (hv6:vars.length<=2000000) (ha6:arrays.length<=2000000) (har:∀ a∈arrays,I64 a.2) (hnd:ndFs fs<=2000000) (hnum:∀ f∈fs,qb7 f.body) (o1:I64 o.code) (o2:I64 o.scalars) (o3:I64 o.arrays) :
  LCalls (KC B0 w0) 19 [Chk.encPrG vars arrays fs,qgG o] [] (Ret (qpz (cmpP vars arrays fs o))):=by
 have hck:=Chk.check_spec (B0:=B0) (w0:=w0) vars arrays fs hv6 ha6 har hnd;have hf6:=qgR fs;have hsm:∀ f∈fs,SmF f:=fun f hf=>qod (by have:=qha hf;omega);generalize hC:cmpP vars arrays fs o=R;unfold cmpP at hC;have ePr:Chk.encPrG vars arrays fs=.agg [.list (vars.map str),.list (arrays.map Chk.encArG),.list (fs.map qaQ)]:=rfl;have eOr:qgG o=.agg [int .i64 o.code,int .i64 o.scalars,int .i64 o.arrays]:=rfl;rw[ePr,eOr];refine cI Tryz.func19 rfl (n:=102) rfl rfl rfl ?_;refine gah ?_;refine oS (sB rfl fun b2=>?_) rfl;refine oS (sB rfl fun b3=>?_) rfl;refine gal ?_;refine oS (S.callH (H1:=[]) (F:=[_,_]) [_] rfl zpr hck ?_ (by rintro ch H' ⟨_,nm,h⟩;cases h)) rfl;rintro lv H' ⟨rfl,nm,h⟩;cases h;refine gaa ?_
 by_cases hc0:qc2 vars arrays fs=0
 rotate_left
 ·rw[if_pos hc0] at hC;subst hC;refine oC rfl (fun _=>?_) (fun hc=>?_)
  ·refine gaa ?_;exact qaf rfl (rC (zrt rfl) (zra rfl)) rfl
  ·have h2:(!decide (qc2 vars arrays fs=0))=false:=hc;simp at h2;exact absurd h2 hc0
 refine oC rfl (fun hc=>?_) (fun _=>?_)
 ·have h2:(!decide (qc2 vars arrays fs=0))=true:=hc;simp[hc0] at h2
 rw[if_neg (by simpa using hc0)] at hC;obtain ⟨ht,hp,hPa,hPc,hV⟩:=qnE hc0
 have hown:∀ f∈fs,∀ x∈f.params++f.locals,x.length<=24:=by
  have h:=hc0;unfold qc2 at h;exact qgD _ _ _ _ _ (qap.1 (qap.1 (qap.1 h).2).2).1
 have hfr:=qa6 _ _ hV.names;have hfn:∀ f∈fs,f.name.length<=24:=fun f hf=>qn6 (hfr.2 _ (List.mem_append_right _ (List.mem_map_of_mem hf))).2;have hn:∀ f∈fs,f.name.length<=1000/\∀ x∈f.params++f.locals,x.length<=1000:=fun f hf=>⟨by have:=hfn f hf;omega,fun x hx=>by have:=hown f hf x hx;omega⟩;have hsc8:(qan vars fs).length<=8000:=hV.few;have hft:=qsm (B0:=B0) (w0:=w0) vars arrays fs o hv6 zo ha6 hsm hn hp ht hsc8 o1 o2 o3;rw[ePr,eOr] at hft;refine gal ?_;refine oS (sF [_,_] rfl hft ?_) rfl;refine gad ?_
 by_cases hfit:qgE vars arrays fs o=true
 rotate_left
 ·rw[if_pos (by simpa using hfit)] at hC;subst hC;refine oC rfl (fun _=>?_) (fun hc=>?_)
  ·refine gar ?_;exact qaf rfl (rC (zrt rfl) (zra rfl)) rfl
  ·have h2:(!qgE vars arrays fs o)=false:=hc;simp at h2;exact absurd h2 hfit
 refine oC rfl (fun hc=>?_) (fun _=>?_)
 ·have h2:(!qgE vars arrays fs o)=true:=hc;rw[hfit] at h2;cases h2
 rw[if_neg (by rw[hfit];decide)] at hC;have hfitP:qgE (prOf vars arrays fs).vars (qcC (prOf vars arrays fs)) (prOf vars arrays fs).funcs o=true:=by rw[hPa];exact hfit
 have hF:=quf hfitP;have hS:=Chk.scalars_specG (B0:=B0) (w0:=w0) (vars:=vars) (fs:=fs) (.list (arrays.map Chk.encArG)) hv6 zo hsm hn;have hT:=hF.s1;have hS0:=hF.s0;have hA1:=hF.a1;have hA0:=hF.a0;have hkeys:(qan vars fs).Nodup:=hV.keys
 have htot:(arrays.map (·.2)).sum=((totA (prOf vars arrays fs).arrays:Nat):Int):=by
  have:=qik (prOf vars arrays fs).arrays;rw[<-this];congr 2;exact hPa.symm
 have hAs:=qnz (B0:=B0) (w0:=w0) vars arrays fs o ha6 hp hA0 (by rw[htot];omega);rw[ePr,eOr] at hAs;have hT2:o.scalars.toNat+3+(qan vars fs).length<=262144:=hT;refine gaa ?_;refine oS (S.kvNew fun sm=>?_) rfl;refine oS (S.kvNew fun am=>?_) rfl;refine gad ?_;refine oS (sB rfl fun tb=>?_) rfl;refine gac ?_;refine oS (sF [_] rfl hS ?_) rfl;have hsl:((qan vars fs).map str).length=(qan vars fs).length:=zLm _;refine gab ?_;generalize hsl2:qan vars fs=sl at *
 refine oL (fun kk ls H'=>∃ (i g1:Nat),i<=sl.length/\kk=sl.length-i/\ls=[(2,ptr b2 0),(3,ptr b3 0),(8,ptr tb 0),(39,.list (sl.map str)),(40,int .i64 sl.length),(41,int .i64 (i:Nat))]/\H'=[(tb,.cells 106 [qab,int .i64 0,int .i64 o.scalars,.atom (.map (some sm)),.atom (.map (some am)),str []]),(b3,.cells 36 [int .i64 o.code,int .i64 o.scalars,int .i64 o.arrays]),(sm,.map (kvs (scKV o.scalars 0 (sl.take i))) g1),(am,.map (kvs []) 0),(b2,.cells 28 [.list (vars.map str),.list (arrays.map Chk.encArG),.list (fs.map qaQ)])])
  ⟨_,_,_,⟨0,0,Nat.zero_le _,rfl,rfl,rfl⟩,⟨rfl,rfl,rfl,rfl,qak zo,rfl,trivial⟩,zhP pH (zhP zp2 (zhP zp1 zhr))⟩ ?_
 rintro kk ls H' ⟨i,g1,hi,rfl,rfl,rfl⟩ j hj;refine gaj ?_;refine oC rfl (fun hc=>?_) (fun hc=>?_)
 ·have hlt:i<sl.length:=by have:=zt hc;omega
  have htk:=qrn (S:=o.scalars) hlt hkeys;refine gaa ?_;refine oP (xR (el':=str sl[i]) (cs:=[str sl[i]]) rfl rfl zo (qbd _ _ _ hlt) rfl rfl) rfl ?_;refine gad ?_;refine cD (m:=11) rfl [(tb,.cells 106 [qab,int .i64 0,int .i64 o.scalars,.atom (.map (some sm)),.atom (.map (some am)),str []]),(b3,.cells 36 [int .i64 o.code,int .i64 o.scalars,int .i64 o.arrays])] ?_;refine zQ10 ?_;refine aT 3 rfl rfl (pL (c:=.atom _) rfl zm0 rfl) ?_;refine aT 4 rfl rfl (pM (lv:=.atom _) rfl) ?_;refine aT 5 rfl rfl (pF rfl) ?_;refine aT 6 rfl rfl (pL (c:=.atom _) rfl zm1 rfl) ?_;refine aT 7 rfl rfl (Pure.add rfl rfl zo) ?_;refine aT 8 rfl rfl (pM (lv:=.atom _) rfl) ?_;refine aT 9 rfl rfl (Pure.add rfl rfl zo) ?_;refine aL ?_ qhZ;refine lO 10 (lS (H1:=[(sm,.map (kvs (scKV o.scalars 0 (sl.take i))) g1)]) rfl (.inl rfl) rfl (show Pick _ _ _ from pT zp1) qhZ (S.kvSet (k:=sl[i]) (lv:=int .i64 (o.scalars+3+(i:Nat))) rfl rfl rfl pH fun g1'=>?_));rw[htk];refine lD zk ?_;refine gan ?_;exact ⟨_,_,_,by omega,⟨i+1,g1',by omega,rfl,rfl,rfl⟩,⟨rfl,rfl,rfl,rfl,rfl,qak zo,trivial⟩,zhP zp1 (zhP zp1 zhr),hj⟩
 have hi':i=sl.length:=by have:=zf hc;omega
 subst hi';rw[List.take_length];have hyl:=qlg arrays o.arrays
 have hyn:((symA o.arrays arrays).map (·.1)).Nodup:=by
  rw[qkh];have h1:=(List.nodup_append.1 (List.nodup_append.1 hfr.1).1).2.1
  have e1:(prOf vars arrays fs).arrays.map (·.name)=arrays.map (·.1):=by
   unfold prOf;rw[List.map_map];rfl
  rw[e1] at h1;exact h1
 have hym:((symA o.arrays arrays).map qpp).length=(symA o.arrays arrays).length:=zLm _;refine gac ?_;refine oS (sF [_,_] rfl hAs ?_) rfl;refine gat ?_;generalize hyy:symA o.arrays arrays=ys at *;refine oC rfl (fun h=>by cases h) (fun _=>?_);refine gaa ?_
 refine oL (fun kk ls H'=>∃ (i g2:Nat),i<=ys.length/\kk=ys.length-i/\ls=[(2,ptr b2 0),(3,ptr b3 0),(8,ptr tb 0),(66,.list (ys.map qpp)),(67,int .i64 ys.length),(68,int .i64 (i:Nat))]/\H'=[(tb,.cells 106 [qab,int .i64 0,int .i64 o.scalars,.atom (.map (some sm)),.atom (.map (some am)),str []]),(b3,.cells 36 [int .i64 o.code,int .i64 o.scalars,int .i64 o.arrays]),(sm,.map (kvs (scKV o.scalars 0 sl)) g1),(am,.map (kvs (arKV (ys.take i))) g2),(b2,.cells 28 [.list (vars.map str),.list (arrays.map Chk.encArG),.list (fs.map qaQ)])])
  ⟨_,_,_,⟨0,0,Nat.zero_le _,rfl,rfl,rfl⟩,⟨rfl,rfl,rfl,rfl,qak zo,rfl,trivial⟩,zhR _⟩ ?_
 rintro kk ls H' ⟨i,g2,hi,rfl,rfl,rfl⟩ j2 hj2;refine gaj ?_;refine oC rfl (fun hc=>?_) (fun hc=>?_)
 ·have hlt:i<ys.length:=by have:=zt hc;omega
  have htk:=qrd hlt hyn;refine gam ?_;refine oP (xR (el':=qpp ys[i]) (cs:=[_,_]) rfl rfl zo (qbd _ _ _ hlt) rfl rfl) rfl ?_;refine gad ?_;refine oS (sA fun b14=>?_) rfl;refine gad ?_;refine cD (m:=9) rfl [(b14,.cells 111 [str ys[i].1,int .i64 ys[i].2]),(tb,.cells 106 [qab,int .i64 0,int .i64 o.scalars,.atom (.map (some sm)),.atom (.map (some am)),str []])] ?_;refine zQ29 ?_;refine aT 6 rfl rfl (pF rfl) ?_;refine aT 7 rfl rfl (pL (c:=.atom _) rfl zm0 rfl) ?_;refine aL ?_ qhZ;refine lO 8 (lS (H1:=[(am,.map (kvs (arKV (ys.take i))) g2)]) rfl (.inl rfl) rfl (show Pick _ _ _ from pT zp3) qhZ (S.kvSet (k:=ys[i].1) (lv:=int .i64 ys[i].2) rfl rfl rfl pH fun g2'=>?_));rw[htk];refine lD zk ?_;refine gan ?_;exact ⟨_,_,_,by omega,⟨i+1,g2',by omega,rfl,rfl,rfl⟩,⟨rfl,rfl,rfl,rfl,rfl,qak zo,trivial⟩,zhP zp2 (zhP zp2 (zhP zp2 (zhP pH (zhD zhr)))),hj2⟩
 have hi':i=ys.length:=by have:=zf hc;omega
 subst hi';rw[List.take_length];have htb:=fun own ho=>tb_ok (P:=prOf vars arrays fs) hF own ho tb sm am g1 g2;rw[hPa] at htb;have hW:=qse hPc hnum hfitP hnd;have hjt:=qgY (qmP (prOf vars arrays fs) o)
 have hwc:qmP (prOf vars arrays fs) o=prW vars arrays fs o:=by
  unfold qmP;rw[hPa];rfl
 rw[hwc] at hW hjt;have hcc:ccF (prOf vars arrays fs).vars arrays (prOf vars arrays fs).funcs o=ccF vars arrays fs o:=rfl;rw[hPa,hcc] at hW;have hwl:=qlm (prW vars arrays fs o);have hnf:ndFs (prOf vars arrays fs).funcs=ndFs fs:=rfl;rw[hnf] at hW
 have hpw:prW vars arrays fs o=[[38,102,95,109,97,105,110],[58],decDigits o.scalars.toNat,[33],[36]]++(fnWs (ccF vars arrays fs o) 0 fs).1:=by
  unfold prW;rw[qeE hS0]
 have hpl:(prW vars arrays fs o).length=5+(fnWs (ccF vars arrays fs o) 0 fs).1.length:=by
  rw[hpw,zLa];rfl
 have hTr:TrH ⟨tb,sm,am,scKV o.scalars 0 sl,arKV ys,g1,g2,o.scalars.toNat⟩ [] [] 0 [(tb,.cells 106 [qab,int .i64 0,int .i64 o.scalars,.atom (.map (some sm)),.atom (.map (some am)),str []]),(sm,.map (kvs (scKV o.scalars 0 sl)) g1),(am,.map (kvs (arKV ys)) g2)]:=⟨qab,[],Acc.nil,by
  simp only;rw[Int.toNat_of_nonneg hS0]
  rfl⟩
 have hpg:=qdk (B0:=B0) (w0:=w0) hG (k:=⟨tb,sm,am,scKV o.scalars 0 sl,arKV ys,g1,g2,o.scalars.toNat⟩) (cc:=ccF vars arrays fs o) (by show o.scalars.toNat<=_;omega) vars arrays fs hnd (fun f hf=>by
  obtain ⟨kn,k1,k2⟩:=hV.bodies f hf;refine ⟨?_,hfn f hf,fun p hp=>by have:=hown f hf p (List.mem_append_left _ hp);omega,hnum f hf,_,qw0 hV hf (hown f hf) k2,k1⟩;have:=htb f.name (by have:=hfn f hf;omega);rw[<-hsl2,<-hyy];exact this) (own0:=[]) (c0:=ccF vars arrays fs o []) (by
  have:=htb [] zDd;rw[<-hsl2,<-hyy]
  exact this) _ hTr zo
 rw[ePr] at hpg;refine gac ?_;refine oS (zsT (F:=[_,_]) [_,_] rfl qwK hpg fun H2 h2=>?_) rfl;obtain ⟨own,n,h2⟩:=h2;rw[<-hpw] at h2;generalize prW vars arrays fs o=W at *;obtain ⟨v,Hv,hacc,rfl⟩:=h2;have j0:=Asm.joinS_spec (B0:=B0) (w0:=w0) [32] W zo zo;have hasm:=Asm.assemble_spec (B0:=B0) (w0:=w0) hG hM (join W [32]) o.code zo;refine gaa ?_;refine oP (pL (c:=v) rfl zm2 rfl) rfl ?_;refine LOps.sub 87 rfl hacc.sub ?_;refine oS (sF [_,_] rfl j0 ?_) rfl;refine gaa ?_
 cases hx:asmP (join W [32]) o.code with
 |error e=>
  rw[hx] at hasm hC;simp only at hC;subst hC;refine oS (sF [_,_] rfl hasm ?_) rfl;unfold Asm.asmLV;refine gat ?_
  have he:¬ (e.2:Int)=0:=by
   have h3:=hF.c1;have h4:=hF.c0;have:=qoV zo hx;omega
  refine oC rfl (fun _=>?_) (fun hc=>?_)
  ·refine gaa ?_;exact qaf (hj2.trans hj) (rC (zrt rfl) (zra rfl)) rfl
  ·have h2:(!decide ((e.2:Int)=0))=false:=hc;simp at h2
   omega
 |ok x=>
  rw[hx] at hasm hC;simp only at hC;subst hC;refine oS (sF [_,_] rfl hasm ?_) rfl;unfold Asm.asmLV;refine gat ?_;refine oC rfl (fun hc=>by cases hc) (fun _=>?_);refine gaa ?_;exact qaf (hj2.trans hj) (rC (zrt rfl) (zra rfl)) rfl
end
end Go.Proofs.YtdakelgkjdaijaaGreatDoor.Cmp
namespace Go.Proofs.YtdakelgkjdaijaaGreatDoor.Cmp
open Go.GL Go.RowKit Go.Stele
open Go.Lib (decDigits itoa join)
def bldR (r:Pr×Int×Int) (o:Org):Wd×Int×Int:=if r.2.2≠0 then ([],r.2.1,r.2.2) else match qoi r.1.vars (qcC r.1) r.1.funcs o with
 |.error e=>([],0,e)
 |.ok x=>(x,0,0)
def quT (b:Wd×Int×Int):LV:=.tuple [str b.1,int .i64 b.2.1,int .i64 b.2.2]
theorem qhs (s:List UInt8):SzP (qaW s).1 60000:=by
 by_cases h:s.length<=60000
 ·obtain ⟨l,h1,h2⟩:=Inp.parse_both h;rw[h1];exact ⟨zNt h2.vars h,zNt h2.arrays h,h2.size,zNt h2.funcs h,h2.nums⟩
 ·have h0:SzP ⟨[],[],[]⟩ 60000:=⟨Nat.zero_le _,Nat.zero_le _,fun a ha=>(List.not_mem_nil ha).elim,Nat.zero_le _,fun a ha=>(List.not_mem_nil ha).elim⟩;have hL:qbR s=.error (0,6):=by unfold qbR;rw[if_pos zo]
  have:qaW s=(noPr,0,6):=by unfold qaW;rw[hL]
  rw[this];exact h0
attribute [local irreducible] LOps qae qad LCalls Go.GL.Pure qax qaj qac LQ LAny qaE qal LS
section
variable {B0:Nat} {w0:World}
theorem qhq (hG:GW B0 w0) (hM:Asm.GM w0) {p:Pr} {n:Nat} (h:SzP p n) (hn:n<=2000000) (o:Org) (o1:I64 o.code) (o2:I64 o.scalars) (o3:I64 o.arrays):LCalls (KC B0 w0) 19 [qeL p,qgG o] [] (Ret (qpz (cmpP p.vars (qcC p) p.funcs o))):=by
 rw[Inp.encPr_eq]
 exact qmT hG hM _ _ _ o (zNt h.vars hn) (by rw[zLm];exact zNt h.arrays hn) (fun a ha=>by
  obtain ⟨x,hx,rfl⟩:=List.mem_map.1 ha;have:=h.size x hx;constructor
  ·show (-9223372036854775808:Int)<=(x.size:Int);omega
  ·show (x.size:Int)<9223372036854775808
   omega) (zNt h.funcs hn) h.nums o1 o2 o3
theorem qhx (hG:GW B0 w0) (hM:Asm.GM w0) (s:List UInt8) (o:Org) (o1:I64 o.code) (o2:I64 o.scalars) (o3:I64 o.arrays):LCalls (KC B0 w0) 9 [str s,qgG o] [] (Ret (quT (bldR (qaW s) o))):=by
 have hps:=qgv (B0:=B0) (w0:=w0) hG s;have hsz:=qhs s;generalize qaW s=r at hps hsz ⊢;obtain ⟨p,l,e⟩:=r;simp only at hsz;have hcp:=qhq (B0:=B0) (w0:=w0) hG hM hsz zDd o o1 o2 o3;generalize hR:bldR (p,l,e) o=R;unfold bldR at hR;simp only at hR;have eOr:qgG o=.agg [int .i64 o.code,int .i64 o.scalars,int .i64 o.arrays]:=rfl;rw[eOr] at hcp ⊢;refine cI Tryz.func9 rfl (n:=44) rfl rfl rfl ?_;refine gah ?_;refine oS (sB rfl fun b3=>?_) rfl;refine gao ?_;refine oS (sF [_] rfl hps ?_) rfl;unfold qfU;simp only;refine gad ?_;refine oS (sA fun b7=>?_) rfl;refine gaa ?_
 by_cases hc0:e=0
 rotate_left
 ·rw[if_pos hc0] at hR;subst hR;refine oC rfl (fun _=>?_) (fun hc=>?_)
  ·refine gaa ?_;exact qaf rfl (rC (zrt rfl) (rC (zrt rfl) (zra rfl))) rfl
  ·have h2:(!decide (e=0))=false:=hc;simp at h2;exact absurd h2 hc0
 refine oC rfl (fun hc=>?_) (fun _=>?_)
 ·have h2:(!decide (e=0))=true:=hc;simp[hc0] at h2
 rw[if_neg (by simpa using hc0)] at hR;unfold qoi at hR
 cases hcm:cmpP p.vars (qcC p) p.funcs o with
 |error er=>
  have hne:=qwe hcm;rw[hcm] at hR hcp;simp only at hR;subst hR;refine gal ?_;refine oS (sF [_,_] rfl hcp ?_) rfl;unfold qpz;refine gaa ?_;refine oC rfl (fun _=>?_) (fun hc=>?_)
  ·refine gaa ?_;exact qaf rfl (rC (zrt rfl) (rC (zrt rfl) (zra rfl))) rfl
  ·have h2:(!decide (er=0))=false:=hc;simp at h2
   exact absurd h2 hne
 |ok t=>
  obtain ⟨x,hx,_⟩:=qvs hcm
  have htl:t.length<=300000000:=by
   have h0:=hcm
   have hpc:qc2 p.vars (qcC p) p.funcs=0:=by
    unfold cmpP at h0;split at h0
    ·cases h0
    ·rename_i h;exact Classical.not_not.1 h
   have hft:qgE p.vars (qcC p) p.funcs o=true:=by
    unfold cmpP at h0;split at h0
    ·cases h0
    split at h0
    ·cases h0
    rename_i h;simpa using h
   have hts:t=join (prW p.vars (qcC p) p.funcs o) [32]:=by
    unfold cmpP at h0;split at h0
    ·cases h0
    split at h0
    ·cases h0
    split at h0
    ·cases h0
    injection h0 with h0;exact h0.symm
   have hw:=(qse (P:=p) (o:=o) hpc hsz.nums hft (zNt hsz.funcs zDd)).1;have hj:=qgY (prW p.vars (qcC p) p.funcs o);have hw2:tot (prW p.vars (qcC p) p.funcs o)<=60+60 * ndFs p.funcs:=hw;have:=hsz.funcs;rw[hts];omega
  have hasm:=Asm.assemble_spec (B0:=B0) (w0:=w0) hG hM t o.code htl;rw[hcm] at hR hcp;simp only at hR;rw[hx] at hR hasm;simp only at hR;subst hR;refine gal ?_;refine oS (sF [_,_] rfl hcp ?_) rfl;unfold qpz;refine gaa ?_;refine oC rfl (fun hc=>by cases hc) (fun _=>?_);refine gat ?_;refine oS (sF [_,_] rfl hasm ?_) rfl;unfold Asm.asmLV;refine gat ?_;exact qaf rfl (rC (zrt rfl) (rC (zrt rfl) (zra rfl))) rfl
def defO:Org:=⟨10000,0,100000⟩
theorem qdB:LCalls (KC B0 w0) 10 [] [] (Ret (qgG defO)):=by
 refine cI Tryz.func10 rfl (n:=2) rfl rfl rfl ?_;refine gah ?_;refine oS (sA fun b=>?_) rfl;refine gac ?_;exact qaf rfl (rC (rA rfl zm0 rfl zsr) rN) rfl
end
end Go.Proofs.YtdakelgkjdaijaaGreatDoor.Cmp
namespace Go.Proofs.YtdakelgkjdaijaaGreatDoor.Pp
open Go.GL Go.RowKit Go.Stele
open Asm (qbh qbh.mk qbu)
attribute [local irreducible] LOps qae qad LCalls Go.GL.Pure qax qaj qac LQ LAny qaE qal
structure GW (B0:Nat) (w0:World):Prop where
 base:Go.Proofs.YtdakelgkjdaijaaGreatDoor.GW B0 w0
 mx:Asm.GM w0
 errSyntax : ∃ tp p, w0.var? Tryz.prog "strconv.ErrSyntax" = some #[.iface tp p]
section
variable {B0:Nat} {w0:World}
theorem GW.syn (h : GW B0 w0) {w : World} (hb : Below B0 w0 w) : ∃ tp p, w.var? Tryz.prog "strconv.ErrSyntax" = some #[.iface tp p] := by
 have hg : Tryz.prog.globalNamed "strconv.ErrSyntax" = some 4 := by kernel_rfl
 obtain ⟨tp,p,hv⟩:=h.errSyntax;exact ⟨tp,p,var?_below hb hg (Nat.lt_of_lt_of_le zDd h.base.big) hv⟩
theorem GW.range (h : GW B0 w0) {w : World} (hb : Below B0 w0 w) : ∃ tp p, w.var? Tryz.prog "strconv.ErrRange" = some #[.iface tp p] := h.base.err hb
theorem fmtUint_spec (hG:GW B0 w0) (u:Nat) (hu:u<18446744073709551616):LCalls (KC B0 w0) 43 [int .u64 u,int .i64 10] [] (Ret (str (Go.Lib.decDigits u))):=Go.Proofs.YtdakelgkjdaijaaGreatDoor.fmtUint_spec hG.base u hu
theorem cutPrefix_spec (s p:List UInt8):LCalls (KC B0 w0) 69 [str s,str p] [] (Ret (.tuple [str (Go.Lib.trimPrefix s p),bool (Go.Lib.hasPrefix s p)])):=Asm.cutPrefix_spec s p
theorem cutSuffix_spec (s p:List UInt8) (hs:s.length<=1000000000):LCalls (KC B0 w0) 150 [str s,str p] [] (Ret (.tuple [str (Go.Lib.trimSuffix s p),bool (Go.Lib.hasSuffix s p)])):=Asm.cutSuffix_spec s p hs
theorem qlJ (hG:GW B0 w0) (s:List UInt8) (hs:s.length<=1000000000):LCalls (KC B0 w0) 149 [str s,int .i64 10,int .i64 32] []
  (qgz fun lv=>(∃ u,Go.Lib.parseUintB 32 s=.ok u/\lv=.tuple [int .u64 u,.atom .nilIface])∨((∀ u,Go.Lib.parseUintB 32 s≠.ok u)/\∃ v t p,lv=.tuple [int .u64 v,.atom (.iface t p)])):=by
 have hsz:∀ k,1000000000<=k->s.toArray.size<=k:=fun k hk=>by simp;omega
 refine LCalls.mono (LCalls.of_belowT (vs:=[.string ⟨s.toArray⟩,.int .i64 10,.int .i64 32]) (p:=fun us=>(∃ u,Go.Lib.parseUintB 32 s=.ok u/\us=[.int .u64 u,.nilIface])∨((∀ u,Go.Lib.parseUintB 32 s≠.ok u)/\∃ v t p,us=[.int .u64 v,.iface t p])) fun w hw=>?_) ?_
 ·cases h:Go.Lib.parseUintB 32 s with
  |ok u=>
   refine (Tryz.strconv_ParseUint_10_at32_ok ⟨s.toArray⟩ (hsz _ zDd) u (by simpa using h) w).mono fun e w' he=>⟨_,he.1,.inl ⟨u,rfl,rfl⟩,?_⟩;rcases he.2 with h2|h2
   ·rw[h2];exact Below.refl _ _
   ·rw[h2]
    exact ⟨rfl,rfl,rfl,by rw[Go.Lib.bytesWorld_size];omega,fun k hk=>Go.Lib.bytesWorld_at_old w 5 _ k hk⟩
  |range=>
   obtain ⟨tp,p,hv⟩:=hG.range hw;refine (Tryz.strconv_ParseUint_10_at32_range_var ⟨s.toArray⟩ (hsz _ zDd) (by simpa using h) tp p w hv).mono fun e w' he=>?_;obtain ⟨N,h1,_,_,h4⟩:=he
   exact ⟨_,h1,.inr ⟨(fun u hu=>by cases hu),_,_,_,rfl⟩,h4⟩
  |_=>
   obtain ⟨tp,p,hv⟩:=hG.syn hw;refine (Tryz.strconv_ParseUint_10_at32_syntax_var ⟨s.toArray⟩ (hsz _ zDd) ⟨fun u hu=>(by rw[h] at hu;cases hu),fun hu=>(by rw[h] at hu;cases hu)⟩ tp p w hv).mono fun e w' he=>?_;obtain ⟨N,h1,_,_,h4⟩:=he;exact ⟨_,h1,.inr ⟨(fun u hu=>by cases hu),_,_,_,rfl⟩,h4⟩
 ·rintro r H ⟨v,rfl,⟨us,hus,rfl⟩,rfl⟩;refine ⟨_,rfl,?_,rfl⟩;rcases hus with ⟨u,h1,rfl⟩|⟨h1,v,t,p,rfl⟩
  ·exact .inl ⟨u,h1,rfl⟩
  ·exact .inr ⟨h1,v,t,p,rfl⟩
theorem qqA (s:List UInt8) (hs:s.length<=1000000000):LCalls (KC B0 w0) 147 [str s,str qfe] [] (Ret (str (Go.Lib.trimS s qfe))):=
 LCalls.ret_of (vs:=[.string ⟨s.toArray⟩,.string ⟨qfe.toArray⟩]) fun w hw=>(Go.Proofs.Any.strings_Trim_laid Tryz.lays160 zk ⟨s.toArray⟩ ⟨qfe.toArray⟩ w (by show s.toArray.size<=_;simp;omega) zDd (Go.Proofs.ascii_of_all zDd))
end
end Go.Proofs.YtdakelgkjdaijaaGreatDoor.Pp
namespace Go.Proofs.YtdakelgkjdaijaaGreatDoor.Pp
open Go.GL Go.RowKit Go.Stele
open Asm (qbh qbh.mk qbu)
theorem qnB {n:Int} (h:0<=n/\n<=4294967295):IntKind.u32.wrap n=n:=by
 simp only[IntKind.wrap,IntKind.bits,IntKind.signed,Bool.false_and]
 simp
 omega
theorem qkD {n:Int} (h:0<=n/\n<=4294967295):IntKind.u64.wrap n=n:=by
 simp only[IntKind.wrap,IntKind.bits,IntKind.signed,Bool.false_and]
 simp
 omega
theorem qlN (n:Int):IntKind.u32.wrap n=n % 4294967296:=by
 simp only[IntKind.wrap,IntKind.bits,IntKind.signed,Bool.false_and]
 simp
instance:TIface Tryz.prog 72:=.of zk
attribute [local irreducible] LOps qae qad LCalls Go.GL.Pure qax qaj qac LQ LAny qaE qal
section
variable {B0:Nat} {w0:World}
theorem qeX (s:List UInt8) (hs:s.length<=1000000000):LCalls (KC B0 w0) 70 [str s] [] (Ret (bool (qlF s))):=by
 have hT:=qqA (B0:=B0) (w0:=w0) s hs;have hnil:=qtj s
 cases s with
 |nil=>
  refine cI Tryz.func70 rfl (n:=25) rfl rfl rfl ?_;refine gal ?_
  exact qaf rfl (zra rfl) rfl
 |cons c r=>
  have hN:qlF (c::r)=(decide ((c::r).length<=40) && qaV c && (c::r).all qaM):=rfl;rw[qaV] at hN;refine cI Tryz.func70 rfl (n:=25) rfl rfl rfl ?_;refine gac ?_;refine oB 5 rfl (fun h1=>?_) (fun h1=>absurd h1 (by simp));refine oB 10 rfl (fun h2=>?_) (fun h2=>?_)
  ·have h2':(c::r).length<=40:=by have:=zt h2;omega
   rw[decide_eq_true h2',Bool.true_and] at hN;refine gab ?_;refine oP (pI (c:=c) rfl rfl zo rfl) rfl ?_;refine gad ?_;refine oB 15 rfl (fun h3=>?_) (fun h3=>?_)
   ·have h3':decide (97<=cv c)=true:=h3;rw[h3',Bool.true_and] at hN;refine gab ?_;refine oP (pI (c:=c) rfl rfl zo rfl) rfl ?_;refine gav ?_;refine oB 20 rfl (fun h4=>?_) (fun h4=>?_)
    ·have h4':decide (cv c<=122)=true:=h4;rw[h4',Bool.true_and] at hN;refine gab ?_;refine oS (sF [_,_] rfl hT ?_) rfl;refine gab ?_
     exact qaf rfl (zra rfl) (qas (by
      rw[hN,Bool.eq_iff_iff,decide_eq_true_iff]
      exact hnil))
    ·have h4':decide (cv c<=122)=false:=h4;rw[h4',Bool.false_and] at hN;refine gab ?_;exact qaf rfl (zra rfl) (qas hN.symm)
   ·have h3':decide (97<=cv c)=false:=h3;rw[h3',Bool.false_and,Bool.false_and] at hN;refine gab ?_;exact qaf rfl (zra rfl) (qas hN.symm)
  ·have h2':¬ (c::r).length<=40:=by have:=zf h2;omega
   rw[decide_eq_false h2',Bool.false_and,Bool.false_and] at hN;refine gab ?_;exact qaf rfl (zra rfl) (qas hN.symm)
theorem qc4 (hG:GW B0 w0) (w:Wd) (hs:w.length<=1000000000):LCalls (KC B0 w0) 73 [str w] [] (Ret (.tuple [int .u32 ((numW w).getD 0:Nat),bool (numW w).isSome])):=by
 have hP:=qlJ hG w hs;refine cI Tryz.func73 rfl (n:=21) rfl rfl rfl ?_;refine gao ?_;refine oS (S.fnIf [_,_,_] rfl hP ?_) rfl;rintro lv (⟨u,hu,rfl⟩|⟨hno,v,t,p,rfl⟩)
 ·have hlt:=qiL hu;refine gac ?_;refine oS (sF [_,_] rfl (fmtUint_spec hG u zo) ?_) rfl;refine gad ?_;refine oC rfl (fun h=>?_) (fun h=>?_)
  ·have hne:¬ Go.Lib.decDigits u=w:=by simpa using h
   have hn:numW w=none:=by unfold numW;rw[hu];exact if_neg hne
   refine gar ?_;exact qaf rfl (rC (zrt rfl) (zra rfl)) (by rw[hn];rfl)
  ·have he:Go.Lib.decDigits u=w:=by simpa using h
   have hn:numW w=some u:=by unfold numW;rw[hu];exact if_pos he
   refine gac ?_
   exact qaf rfl (rC (zrt rfl) (zra rfl)) (by
    rw[hn,qnB zo]
    rfl)
 ·have hn:numW w=none:=by
   unfold numW;split
   ·rename_i u hu
    exact absurd hu (hno u)
   ·rfl
  refine gac ?_;refine oC rfl (fun h=>?_) (fun h=>?_)
  ·refine gar ?_;exact qaf rfl (rC (zrt rfl) (zra rfl)) (by rw[hn];rfl)
  ·cases h
theorem qgb (w:Wd) (hs:w.length<=1000000000):LCalls (KC B0 w0) 31 [str w] [] (qgz (qbh (refW w))):=by
 obtain ⟨r1,r2⟩:=qbu (qul w)
 have hlen:(Go.Lib.trimPrefix w [38]).length<=1000000000:=by
  unfold Go.Lib.trimPrefix;split
  ·rw[List.length_drop];omega
  ·exact hs
 refine cI Tryz.func31 rfl (n:=17) rfl rfl rfl ?_;refine gao ?_;refine oS (sF [_,_] rfl (cutPrefix_spec w [38]) ?_) rfl;refine gau ?_;refine oB 13 rfl (fun h=>?_) (fun h=>?_)
 ·exact zT40
 ·rw[h,Bool.false_and] at r1;refine gab ?_;exact qb0 rfl (rC (zrt rfl) (zra rfl)) (qbh.mk r1 r2)
theorem qd5 (w:Wd) (hs:w.length<=1000000000):LCalls (KC B0 w0) 76 [str w] [] (qgz (qbh (defW w))):=by
 obtain ⟨r1,r2⟩:=qbu (quw w)
 have hlen:(Go.Lib.trimSuffix w [58]).length<=1000000000:=by
  unfold Go.Lib.trimSuffix;split
  ·rw[List.length_take];omega
  ·exact hs
 refine cI Tryz.func76 rfl (n:=17) rfl rfl rfl ?_;refine gao ?_;refine oS (sF [_,_] rfl (cutSuffix_spec w [58] hs) ?_) rfl;refine gau ?_;refine oB 13 rfl (fun h=>?_) (fun h=>?_)
 ·exact zT40
 ·rw[h,Bool.false_and] at r1;refine gab ?_;exact qb0 rfl (rC (zrt rfl) (zra rfl)) (qbh.mk r1 r2)
def qbT (v:List Wd) (m:Nat):LV:=.agg [.list (v.map str),.atom (.map (some m))]
theorem qaP (v:List Wd) (m i:Nat) (hv:v.length<=1000000000):LCalls (KC B0 w0) 72 [qbT v m,int .i64 i] [] (Ret (str (wdAt v i))):=by
 have hla:(v.map str).length=v.length:=zLm _;unfold qbT;refine cI Tryz.func72 rfl (n:=15) rfl rfl rfl ?_;refine gah ?_;refine oS (sB (cs:=[.list (v.map str),.atom (.map (some m))]) rfl fun b2=>?_) rfl;refine gaa ?_;refine oC rfl (fun h=>?_) (fun h=>?_)
 ·have hlt:i<v.length:=by have:=zt h;omega
  have hw:wdAt v i=v[i]:=by unfold wdAt;rw[List.getElem?_eq_getElem hlt];rfl
  refine gaa ?_;refine oP (xR (el':=str v[i]) (cs:=[str v[i]]) rfl rfl zo (qbd _ _ _ hlt) rfl rfl) rfl ?_;refine gad ?_;exact qaf rfl (zra rfl) (qdl hw.symm)
 ·have hge:v.length<=i:=by have:=zf h;omega
  have hw:wdAt v i=[]:=by unfold wdAt;rw[List.getElem?_eq_none hge];rfl
  refine gaa ?_;exact qaf rfl (zra rfl) (qdl hw.symm)
def Small (v:List Wd):Prop:=v.length<=1000000/\∀ w∈v,w.length<=1000000
theorem Small.at {v:List Wd} (h:Small v) (i:Nat):(wdAt v i).length<=1000000:=by
 unfold wdAt
 cases hi:v[i]? with
 |none=>exact Nat.zero_le _
 |some w=>exact h.2 w (List.mem_of_getElem? hi)
theorem qgr (v:List Wd) (m i:Nat) (hv:Small v) (hi:i<=1000):LCalls (KC B0 w0) 75 [qbT v m,int .i64 i] [] (qgz (qbh (qeq v i))):=by
 have h1:=qaP (B0:=B0) (w0:=w0) v m i (by have:=hv.1;omega);have h2:=qaP (B0:=B0) (w0:=w0) v m (i+1) (by have:=hv.1;omega);have e2:int .i64 ((i:Int)+1)=int .i64 ((i+1:Nat):Int):=qak zo;rw[<-e2] at h2;have hl:=hv.at i
 have hJ:qeq v i=match refW (wdAt v i) with
  |some l=>if wdAt v (i+1)=[63] then some l else none
  |none=>none:=rfl
 unfold qbT at h1 h2 ⊢;refine cI Tryz.func75 rfl (n:=24) rfl rfl rfl ?_;refine gah ?_;refine oS (sB (cs:=[.list (v.map str),.atom (.map (some m))]) rfl fun b2=>?_) rfl;refine gac ?_;refine oS (sF [_,_] rfl h1 ?_) rfl;refine oS (S.fnIf [_] rfl (qgb _ zo) ?_) rfl;rintro lv ⟨s,rfl,hs⟩;refine gau ?_;refine oB 17 rfl (fun h=>?_) (fun h=>?_)
 ·obtain ⟨l,hl2⟩:=Option.isSome_iff_exists.1 h;have hsl:=hs l hl2;rw[hl2] at hJ;refine gad ?_;refine oS (sF [_,_] rfl h2 ?_) rfl;refine gab ?_
  exact qb0 rfl (rC (zrt rfl) (zra rfl)) (qbh.mk (by rw[hJ];simp only;split <;> simp_all) (by
   intro l' h';rw[hJ] at h';simp only at h';split at h'
   ·injection h' with h';rw[hsl,h']
   ·cases h'))
 ·have hn:refW (wdAt v i)=none:=by
   cases h3:refW (wdAt v i) with
   |none=>rfl
   |some l=>rw[h3] at h;cases h
  rw[hn] at hJ;refine gab ?_
  exact qb0 rfl (rC (zrt rfl) (zra rfl)) (qbh.mk (by rw[hJ];rfl) (by
   intro l' h';rw[hJ] at h'
   cases h'))
end
end Go.Proofs.YtdakelgkjdaijaaGreatDoor.Pp
