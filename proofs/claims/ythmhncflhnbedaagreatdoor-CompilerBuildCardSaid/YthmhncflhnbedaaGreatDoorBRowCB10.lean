/- Texts joined: CmpD, CmpE, CmpF, CmpMap, CmpFit, GlClear, CmpG, CmpH, InpNodes, InpY3, CmpI, GlEqS, GlEqI, LawCS0, PeepRef2, A18A. -/
import Derived.Laws.StructEq
import Derived.ChangeKeysEq
import Derived.Test.YthmhncflhnbedaaGreatDoorBRowCB3
import Derived.Test.YthmhncflhnbedaaGreatDoorBRowCB4
import Derived.Test.YthmhncflhnbedaaGreatDoorBRowCB5
import Derived.Test.YthmhncflhnbedaaGreatDoorBRowCB6
import Derived.Test.YthmhncflhnbedaaGreatDoorBRowCB8
import Derived.Test.YthmhncflhnbedaaGreatDoorBRowCB9
set_option linter.unusedVariables false
set_option linter.unusedSimpArgs false
set_option maxRecDepth 100000
set_option maxHeartbeats 4000000
namespace Go.Proofs.YthmhncflhnbedaaGreatDoor.Cmp
open Go.GL Go.RowKit Go.Stele
open Go.Lib (decDigits itoa join)
mutual
theorem qgH (c:CC):∀ (s:Sm) (n:Nat),(stW c n s).2<=n+2 * ndS s
 |.mk kind name index value thn els,n=>by
  have ht:=fun n=>qdl c thn n;have he:=fun n=>qdl c els n;rw[ndS];unfold stW
  by_cases k1:kind=1
  ·rw[if_pos k1];simp only;omega
  rw[if_neg k1]
  by_cases k2:kind=2
  ·rw[if_pos k2];simp only;omega
  rw[if_neg k2]
  by_cases k3:kind=3
  ·rw[if_pos k3]
   cases els with
   |nil=>have:=ht (n+1);simp only;omega
   |cons a r=>have h1:=ht (n+2);have h2:=he (stWs c (n+2) thn).2;simp only;omega
  rw[if_neg k3]
  by_cases k4:kind=4
  ·have h1:=ht (n+2);rw[if_pos k4];simp only;omega
  rw[if_neg k4]
  by_cases k5:kind=5
  ·rw[if_pos k5];simp only;omega
  rw[if_neg k5]
  by_cases k6:kind=6
  ·rw[if_pos k6];simp only;omega
  rw[if_neg k6]
  by_cases k7:kind=7
  ·rw[if_pos k7];simp only;omega
  ·rw[if_neg k7];simp only;omega
theorem qdl (c:CC):∀ (l:List Sm) (n:Nat),(stWs c n l).2<=n+2 * ndSs l
 |[],n=>by rw[stWs,ndSs];simp
 |s::l,n=>by
  have h1:=qgH c s n;have h2:=qdl c l (stW c n s).2;rw[stWs,ndSs];simp only;omega
end
theorem qoJ (c:CC) (n:Nat) (s:Sm) (l:List Sm):stWs c n (s::l)=((stW c n s).1++(stWs c (stW c n s).2 l).1,(stWs c (stW c n s).2 l).2):=by rw[stWs]
theorem qkF (c:CC) (n:Nat):stWs c n []=([],n):=by rw[stWs]
theorem headD_one (x:Ex):([x]:List Ex).headD default=x:=rfl
theorem qc1:∀ {l:List Sm} {x:Sm},x∈l->ndS x<=ndSs l
 |g::l,f,h=>by
  rw[ndSs];rcases zMi.1 h with rfl|h
  ·omega
  ·have:=qc1 h;omega
abbrev stB (b:Nat) (kind:Int) (name:Nm) (index value:List Ex) (thn els:List Sm):Nat×LObj:=(b,.cells 179 [int .i64 kind,str name,.list (index.map encE),.list (value.map encE),.list (thn.map encS),.list (els.map encS)])
attribute [local irreducible] LOps qae qag LCalls Go.GL.Pure qaA qaq qah LQ LAny qaF qap LS
section
variable {B0:Nat} {w0:World}
def qpv (B0:Nat) (w0:World) (k:TB) (own:Nm) (c:CC) (env:CEnv) (m:Nat):Prop:=∀ (l:List Sm) (ws:List Wd) (n:Nat) (H:Heap),ndSs l<=m->qcA l->qa7 env l=0->TrH k own ws n H->ws.length+(stWs c n l).1.length<=1000000000->n+2 * ndSs l<=1000000000->LCalls (KC B0 w0) 60 [ptr k.tb 0,.list (l.map encS)] H (qg9 (TrH k own (ws++(stWs c n l).1) (stWs c n l).2))
theorem qmw (hG:GW B0 w0) {k:TB} {own:Nm} {c:CC} {env:CEnv} (hX:qmd B0 w0 k own c env 2000000) {m:Nat} (ih:qpv B0 w0 k own c env m) (name:Nm) (index:List Ex) (v:Ex) (thn els:List Sm) (ws:List Wd) (n:Nat) (H:Heap) (hv:ndE v<=2000000) (hm:ndSs thn+ndSs els<=m) (h2m:els.length<=2000000)
  (nv:numE v) (nt:qcA thn) (ne:qcA els) (ev:errE env v=0) (et:qa7 env thn=0) (ee:qa7 env els=0) (h:TrH k own ws n H) (hr:ws.length+(stW c n (.mk 3 name index [v] thn els)).1.length<=1000000000) (hN:n+2+2 * (ndSs thn+ndSs els)<=1000000000) :
  LCalls (KC B0 w0) 118 [ptr k.tb 0,encS (.mk 3 name index [v] thn els)] H (qg9 (TrH k own (ws++(stW c n (.mk 3 name index [v] thn els)).1) (stW c n (.mk 3 name index [v] thn els)).2)):=by
 have hlt:=qdl c thn (n+2);have hlab:∀ i:Nat,i<=1000000001->(labW i).length<=11:=fun i hi=>qjf zo;have hle:(els.map encS).length=els.length:=zLm _;rw[qbk];refine cI Tryz.func118 rfl (n:=65) rfl rfl rfl ?_;refine gag ?_;refine oS (sB rfl fun b3=>?_) rfl;refine gan ?_;refine oS (S.callS (H1:=H) (F:=[_]) [_] rfl qbe (qfr hG h zo) fun H1 h1=>?_) rfl;have hl0:=hlab n zo;refine gaa ?_
 cases els with
 |nil=>
  have hS:stW c n (.mk 3 name index [v] thn [])=(exW c v++([38::labW n,[63]]++((stWs c (n+1) thn).1++[labW n++[58]])),(stWs c (n+1) thn).2):=by
   unfold stW;rw[if_neg zDd,if_neg zDd,if_pos rfl];simp only[headD_one,zAs]
  rw[hS] at hr ⊢;simp only[zLa,zLc,zLn] at hr;refine oC rfl (fun _=>?_) (fun hc=>by cases hc);refine qsw ?_;refine oS (zsT (H1:=H1) (F:=[_]) [_,_] rfl qbe (hX v ws (n+1) H1 hv nv ev h1 zo) fun H2 h2=>?_) rfl;refine gab ?_;refine zQ22 ?_;refine oS (zsT (H1:=H2) (F:=[_]) [_,_] rfl qbe (qak h2 [38::labW n,[63]] rfl (by simp only[zLa,zLc,zLn];omega)) fun H3 h3=>?_) rfl;refine gaa ?_;refine oS (zsT (H1:=H3) (F:=[_]) [_,_] rfl qbe (ih thn _ (n+1) H3 zo nt et h3 (by simp only[zLa,zLc,zLn];omega) zo) fun H4 h4=>?_) rfl;refine gab ?_;refine zQ33 ?_;refine oS (zsT (H1:=H4) (F:=[_]) [_,_] rfl qbe (qak h4 [labW n++[58]] rfl (by simp only[zLa,zLc,zLn];omega)) fun H5 h5=>?_) rfl;refine gae ?_
  exact rR rfl rN qct ⟨rfl,by simp only[zAs] at h5 ⊢;exact h5⟩
 |cons s0 r0=>
  have hS:stW c n (.mk 3 name index [v] thn (s0::r0))=(exW c v++([38::labW n,[63]]++((stWs c (n+2) thn).1++([[48],38::labW (n+1),[63],labW n++[58]]++((stWs c (stWs c (n+2) thn).2 (s0::r0)).1++[labW (n+1)++[58]])))),(stWs c (stWs c (n+2) thn).2 (s0::r0)).2):=by
   unfold stW;rw[if_neg zDd,if_neg zDd,if_pos rfl];simp only[headD_one,zAs]
  rw[hS] at hr ⊢;simp only[zLa,zLc,zLn] at hr;have hl1:=hlab (n+1) zo;generalize hels:s0::r0=els at *
  have hne:¬ ((els.map encS).length:Int)=0:=by
   rw[<-hels];simp only[zLm,zLc];omega
  refine oC rfl (fun hc=>absurd (zt hc) hne) (fun _=>?_);refine gau ?_;refine oS (S.callS (H1:=H1) (F:=[_]) [_] rfl qbe (qfr hG h1 zo) fun H1 h1=>?_) rfl;refine qsw ?_;refine oS (zsT (H1:=H1) (F:=[_]) [_,_] rfl qbe (hX v ws (n+1+1) H1 hv nv ev h1 zo) fun H2 h2=>?_) rfl;refine gab ?_;refine zQ22 ?_;refine oS (zsT (H1:=H2) (F:=[_]) [_,_] rfl qbe (qak h2 [38::labW n,[63]] rfl (by simp only[zLa,zLc,zLn];omega)) fun H3 h3=>?_) rfl;refine gaa ?_;refine oS (zsT (H1:=H3) (F:=[_]) [_,_] rfl qbe (ih thn _ (n+2) H3 zo nt et h3 (by simp only[zLa,zLc,zLn];omega) zo) fun H4 h4=>?_) rfl;refine gab ?_;refine oS (sL [_,_,_,_] rfl (qaC [_,_,_,_]) rfl rfl rfl ?_) rfl;refine oS (zsT (H1:=H4) (F:=[_]) [_,_] rfl qbe (qak h4 [[48],38::labW (n+1),[63],labW n++[58]] rfl (by simp only[zLa,zLc,zLn];omega)) fun H5 h5=>?_) rfl;refine gaa ?_;refine oS (zsT (H1:=H5) (F:=[_]) [_,_] rfl qbe (ih els _ _ H5 zo ne ee h5 (by simp only[zLa,zLc,zLn];omega) zo) fun H6 h6=>?_) rfl;refine gab ?_;refine zQ33 ?_;refine oS (zsT (H1:=H6) (F:=[_]) [_,_] rfl qbe (qak h6 [labW (n+1)++[58]] rfl (by simp only[zLa,zLc,zLn];omega)) fun H7 h7=>?_) rfl;refine gam ?_;exact rO rfl rN qct ⟨rfl,by simp only[zAs] at h7 ⊢;exact h7⟩
theorem qoQ (hG:GW B0 w0) {k:TB} {own:Nm} {c:CC} {env:CEnv} (hX:qmd B0 w0 k own c env 2000000) {m:Nat} (ih:qpv B0 w0 k own c env m) (name:Nm) (index:List Ex) (v:Ex) (thn els:List Sm) (ws:List Wd) (n:Nat) (H:Heap) (hv:ndE v<=2000000) (hm:ndSs thn<=m)
  (nv:numE v) (nt:qcA thn) (ev:errE env v=0) (et:qa7 env thn=0) (h:TrH k own ws n H) (hr:ws.length+(stW c n (.mk 4 name index [v] thn els)).1.length<=1000000000) (hN:n+2+2 * ndSs thn<=1000000000) :
  LCalls (KC B0 w0) 119 [ptr k.tb 0,encS (.mk 4 name index [v] thn els)] H (qg9 (TrH k own (ws++(stW c n (.mk 4 name index [v] thn els)).1) (stW c n (.mk 4 name index [v] thn els)).2)):=by
 have hl0:(labW n).length<=11:=qjf zo;have hl1:(labW (n+1)).length<=11:=qjf zo
 have hS:stW c n (.mk 4 name index [v] thn els)=([labW n++[58]]++(exW c v++([38::labW (n+1),[63]]++((stWs c (n+2) thn).1++[[48],38::labW n,[63],labW (n+1)++[58]]))),(stWs c (n+2) thn).2):=by
  unfold stW;rw[if_neg zDd,if_neg zDd,if_neg zDd,if_pos rfl];simp only[headD_one,zAs]
 rw[hS] at hr ⊢;simp only[zLa,zLc,zLn] at hr;rw[qbk];refine cI Tryz.func119 rfl (n:=37) rfl rfl rfl ?_;refine gag ?_;refine oS (sB rfl fun b3=>?_) rfl;refine gan ?_;refine oS (S.callS (H1:=H) (F:=[_]) [_] rfl qbe (qfr hG h zo) fun H1 h1=>?_) rfl;refine gax ?_;refine oS (S.callS (H1:=H1) (F:=[_]) [_] rfl qbe (qfr hG h1 zo) fun H1 h1=>?_) rfl;refine gab ?_;refine zQ33 ?_;refine oS (zsT (H1:=H1) (F:=[_]) [_,_] rfl qbe (qak h1 [labW n++[58]] rfl (by simp only[zLa,zLc,zLn];omega)) fun H2 h2=>?_) rfl;refine qsw ?_;refine oS (zsT (H1:=H2) (F:=[_]) [_,_] rfl qbe (hX v _ (n+1+1) H2 hv nv ev h2 (by simp only[zLa,zLc,zLn];omega)) fun H3 h3=>?_) rfl;refine gab ?_;refine zQ22 ?_;refine oS (zsT (H1:=H3) (F:=[_]) [_,_] rfl qbe (qak h3 [38::labW (n+1),[63]] rfl (by simp only[zLa,zLc,zLn];omega)) fun H4 h4=>?_) rfl;refine gaa ?_;refine oS (zsT (H1:=H4) (F:=[_]) [_,_] rfl qbe (ih thn _ (n+2) H4 zo nt et h4 (by simp only[zLa,zLc,zLn];omega) zo) fun H5 h5=>?_) rfl;refine gab ?_;refine oS (sL [_,_,_,_] rfl (qaC [_,_,_,_]) rfl rfl rfl ?_) rfl;refine oS (zsT (H1:=H5) (F:=[_]) [_,_] rfl qbe (qak h5 [[48],38::labW n,[63],labW (n+1)++[58]] rfl (by simp only[zLa,zLc,zLn];omega)) fun H6 h6=>?_) rfl;refine gam ?_;exact rO rfl rN qct ⟨rfl,by simp only[zAs] at h6 ⊢;exact h6⟩
end
end Go.Proofs.YthmhncflhnbedaaGreatDoor.Cmp
namespace Go.Proofs.YthmhncflhnbedaaGreatDoor.Cmp
open Go.GL Go.RowKit Go.Stele
open Go.Lib (decDigits itoa join)
theorem qh1 {name:List UInt8} {index value:List Ex} {thn els:List Sm} (h:qbz (.mk 2 name index value thn els)=true):∃ x,index=[x]:=by
 have h1:index.length=1:=by
  simp only[qbz] at h
  repeat' (split at h)
  all_goals first
   |(simp only[zDe] at h;omega)
   |cases h
   |contradiction
 exact List.length_eq_one_iff.1 h1
theorem qiS {kind:Int} {name:List UInt8} {index value:List Ex} {thn els:List Sm} (h:qbz (.mk kind name index value thn els)=true):kind=1∨kind=2∨kind=3∨kind=4∨kind=5∨kind=6∨kind=7:=by
 simp only[qbz] at h
 repeat' (split at h)
 all_goals first
  |omega
  |cases h
attribute [local irreducible] LOps qae qag LCalls Go.GL.Pure qaA qaq qah LQ LAny qaF qap LS
section
variable {B0:Nat} {w0:World}
theorem qfy (hG:GW B0 w0) {k:TB} {own:Nm} {c:CC} (hk:TBok k c own) {env:CEnv} (hE:EnvOk env):∀ m:Nat,m<=2000000->qpv B0 w0 k own c env m
 |0,_=>fun l ws n H hm hnum herr h hr hN=>by
  have:l=[]:=by
   cases l with
   |nil=>rfl
   |cons s r=>have:=qkv s;rw[ndSs] at hm;omega
  subst this;rw[qkF];refine cI Tryz.func60 rfl (n:=97) rfl rfl rfl ?_;refine gaa ?_;refine oL (fun kk ls H'=>kk=0/\ls=[(0,ptr k.tb 0),(6,.list []),(7,int .i64 0),(8,int .i64 0)]/\H'=H) ⟨0,_,_,⟨rfl,rfl,rfl⟩,⟨rfl,rfl,rfl,rfl,trivial⟩,zhR _⟩ ?_;rintro kk ls H' ⟨rfl,rfl,rfl⟩ j hj;refine gai ?_;refine oC rfl (fun hc=>by cases hc) (fun hc=>?_);refine gad ?_
  exact rO hj rN zhr ⟨rfl,by rw[zLz];exact h⟩
 |m+1,hm6=>by
  have ih:=qfy hG hk hE m zo;have hX:qmd B0 w0 k own c env 2000000:=qcF hG hk hE 2000000 (zNr _);intro l ws n H hm hnum herr h hr hN;have hal:=qcn l;generalize hT:stWs c n l=T at hr ⊢;refine cI Tryz.func60 rfl (n:=97) rfl rfl rfl ?_;refine gaa ?_
  refine oL (fun kk ls H'=>∃ (pre l1:List Sm) (ws':List Wd) (n':Nat),l=pre++l1/\kk=l1.length/\ls=[(0,ptr k.tb 0),(6,.list (l.map encS)),(7,int .i64 ((l.map encS).length:Int)),(8,int .i64 (pre.length:Int))]/\TrH k own ws' n' H'/\ws'++(stWs c n' l1).1=ws++T.1/\(stWs c n' l1).2=T.2/\n'+2 * ndSs l1<=1000000000/\qa7 env l1=0/\qcA l1)
   ⟨l.length,_,_,⟨[],l,ws,n,rfl,rfl,rfl,h,by rw[hT],by rw[hT],hN,herr,hnum⟩,⟨rfl,rfl,rfl,rfl,trivial⟩,zhR _⟩ ?_
  rintro kk ls H' ⟨pre,l1,ws',n',hLe,rfl,rfl,hTr,hW,hL,hN1,he1,hn1⟩ j hj
  have hb2:pre.length<=2000000:=by
   have:=congrArg List.length hLe;rw[zLa] at this;omega
  refine gai ?_;refine oC rfl (fun hc=>?_) (fun hc=>?_);rotate_left
  ·have hlen:=zf hc;rw[zLm,hLe,zLa] at hlen
   obtain rfl:l1=[]:=by
    cases l1 with
    |nil=>rfl
    |cons a l2=>simp at hlen;omega
   rw[qkF,zLz] at hW;rw[qkF] at hL;simp only at hL;refine gad ?_;exact rO hj rN zhr ⟨rfl,by rw[<-hW,<-hL];exact hTr⟩
  have hlen:=zt hc;rw[zLm,hLe,zLa] at hlen
  obtain ⟨s,l2,rfl⟩:∃ a l2,l1=a::l2:=by
   cases l1 with
   |nil=>simp at hlen
   |cons a l2=>exact ⟨a,l2,rfl⟩
  have ham:ndS s<=ndSs l:=qc1 (by rw[hLe];exact List.mem_append_right _ zMs);have hsl:=qgH c s n';rw[qa7] at he1;rw[qcA] at hn1;rw[ndSs] at hN1;obtain ⟨hns,hn2⟩:=hn1;obtain ⟨hes,he2⟩:=qad.1 he1;rw[qoJ] at hW hL;simp only at hW hL;rw[<-zAs] at hW;have hlw:=congrArg List.length hW;rw[zLa,zLa,zLa] at hlw;obtain ⟨kind,name,index,value,thn,els⟩:=s;rw[errS] at hes
  by_cases hf:qbz (.mk kind name index value thn els)=false
  ·rw[if_pos hf] at hes;cases hes
  rw[if_neg hf] at hes;rw[Bool.not_eq_false] at hf;obtain ⟨e1,hes⟩:=qad.1 hes;obtain ⟨e2,hes⟩:=qad.1 hes;obtain ⟨e3,hes⟩:=qad.1 hes;obtain ⟨e4,e5⟩:=qad.1 hes;rw[numS] at hns;obtain ⟨n1,n2,n3,n4⟩:=hns;rw[ndS] at ham hN1 hsl;have hel:=qcn els;refine gak ?_
  refine oP (xR (el':=.agg [int .i64 kind,str name,.list (index.map encE),.list (value.map encE),.list (thn.map encS),.list (els.map encS)]) (cs:=[_,_,_,_,_,_]) rfl rfl zo (by
   have h9:=Chk.get_mid encS pre (Sm.mk kind name index value thn els) l2;rw[qbk] at h9;rw[hLe]
   exact h9) rfl rfl) rfl ?_
  refine gac ?_;refine oS (sA fun b5=>?_) rfl;refine gab ?_
  have fin:∀ {e:Env} {Hx:Heap} (W:List Wd) (nx:Nat) (H2:Heap),stW c n' (.mk kind name index value thn els)=(W,nx)->TrH k own (ws'++W) nx H2->HSub H2 Hx->e.ds=j.ds ->
    (e.s 0=ptr k.tb 0/\e.s 6=.list (l.map encS)/\e.s 7=int .i64 ((l.map encS).length:Int)/\e.s 8=int .i64 ((pre.length:Int)+1)) ->
    ∃ k' ls' H3,k'<(Sm.mk kind name index value thn els::l2).length/\(∃ (pre l1:List Sm) (ws':List Wd) (n':Nat),l=pre++l1/\k'=l1.length/\ls'=[(0,ptr k.tb 0),(6,.list (l.map encS)),(7,int .i64 ((l.map encS).length:Int)),(8,int .i64 (pre.length:Int))]/\TrH k own ws' n' H3/\ws'++(stWs c n' l1).1=ws++T.1/\(stWs c n' l1).2=T.2/\n'+2 * ndSs l1<=1000000000/\qa7 env l1=0/\qcA l1)/\qdn e ls'/\HSub H3 Hx/\e.ds=[]:=by
   intro e Hx W nx H2 hS hT2 hsub hd hv;rw[hS] at hW hL hsl;simp only at hW hL hsl;exact ⟨l2.length,_,H2,Nat.lt_succ_self _,⟨pre++[Sm.mk kind name index value thn els],l2,ws'++W,nx,by rw[hLe];simp,rfl,rfl,hT2,hW,hL,by omega,he2,hn2⟩,⟨hv.1,hv.2.1,hv.2.2.1,by rw[hv.2.2.2];exact qaf (by simp),trivial⟩,hsub,hd.trans hj⟩
  by_cases k1:kind=1
  ·subst k1;obtain ⟨x,rfl⟩:=Inp.form_value hf zDd;rw[qaZ] at e1;rw[qbd] at n2;rw[ndEs,ndEs] at ham hN1 hsl;have hex:=(qad.1 e1).1;have hsc:qbj env name=0:=by rw[if_pos rfl] at e3;exact e3
   have hnl:=hE.sc name hsc;have hS:stW c n' (.mk 1 name index [x] thn els)=(exW c x++[c.sc name,[33]],n'):=by unfold stW;rw[if_pos rfl];rfl
   have hlS:=hlw;rw[hS] at hlS;simp only[zLa,zLc,zLn] at hlS;refine oC rfl (fun _=>?_) (fun hc=>by cases hc);refine zQ44 ?_;refine oS (zsT (H1:=H') (F:=[_]) [_,_] rfl qbe (hX x ws' n' H' zo n2.1 hex hTr zo) fun H2 h2=>?_) rfl;refine gaa ?_;refine oS (S.callS (H1:=H2) (F:=[_]) [_,_] rfl qbe (qb7 hG hk h2 name zo) fun H3 h3=>?_) rfl;refine zQ22 ?_;refine oS (zsT (H1:=H3) (F:=[_]) [_,_] rfl qbe (qak h3 [c.sc name,[33]] rfl (by simp only[zLa,zLc,zLn];omega)) fun H4 h4=>?_) rfl;refine gat ?_;exact fin _ _ H4 hS (by rw[<-zAs];exact h4) qct rfl ⟨rfl,rfl,rfl,rfl⟩
  refine oC rfl (fun hc=>absurd (zt hc) k1) (fun _=>?_);refine gay ?_
  by_cases k2:kind=2
  ·subst k2;obtain ⟨x,rfl⟩:=Inp.form_value hf zDd;obtain ⟨y,rfl⟩:=qh1 hf;rw[qaZ] at e1 e2;rw[qbd] at n1 n2;rw[ndEs,ndEs,ndEs,ndEs] at ham hN1 hsl;have hex:=(qad.1 e1).1;have hey:=(qad.1 e2).1;obtain ⟨a,ha1,ha2,ha3⟩:=hk.ar name;have hS:stW c n' (.mk 2 name [y] [x] thn els)=(exW c x++([c.ar name]++(exW c y++[[43],[33]])),n'):=by unfold stW;rw[if_neg zDd,if_pos rfl];rfl
   have hlS:=hlw;rw[hS] at hlS;simp only[zLa,zLc,zLn] at hlS;refine oC rfl (fun _=>?_) (fun hc=>by cases hc);refine zQ44 ?_;refine oS (zsT (H1:=H') (F:=[_]) [_,_] rfl qbe (hX x ws' n' H' zo n2.1 hex hTr zo) fun H2 h2=>?_) rfl;refine gad ?_;have h0:=h2;obtain ⟨v,Hv,hacc,rfl⟩:=h2;refine cD (m:=11) rfl [stB b5 2 name [y] [x] thn els] ?_;refine zQ53 ?_;refine aL ?_ qp9;refine lO 4 (lH rfl rfl (pL (c:=.atom _) rfl zm1 rfl) ?_);refine lO 7 (lH rfl rfl (Pure.kvOr rfl rfl zm3 ha3) ?_);refine lO 8 (lS (H1:=[]) rfl (.inl rfl) rfl zpr qp9 (sF [_] rfl (qdu hG a zo) ?_));rw[<-ha2];refine lO 9 (lS (H1:=[]) rfl (.inl rfl) rfl zpr qp9 (sL [_] rfl (qaC [_]) rfl rfl rfl ?_));refine lO 10 (lS (F:=[stB b5 2 name [y] [x] thn els]) rfl (.inl rfl) rfl qbe zhr (qag.callT [_,_] rfl (qak h0 [c.ar name] rfl (by simp only[zLa,zLc,zLn];omega)) fun H2 h2=>?_));refine qhE ?_;refine cW qnE ?_;refine gaa ?_;refine oP (xR (el':=encE y) (cs:=[_,_,_,_]) rfl rfl zDd rfl rfl rfl) rfl ?_;refine gav ?_;refine oS (zsT (H1:=H2) (F:=[_]) [_,_] rfl qbe (hX y _ n' H2 zo n1.1 hey h2 (by simp only[zLa,zLc,zLn];omega)) fun H3 h3=>?_) rfl;refine gan ?_;refine zQ22 ?_;refine oS (zsT (H1:=H3) (F:=[_]) [_,_] rfl qbe (qak h3 [[43],[33]] rfl (by simp only[zLa,zLc,zLn];omega)) fun H4 h4=>?_) rfl;refine gat ?_;exact fin _ _ H4 hS (by simp only[zAs] at h4 ⊢;exact h4) qct rfl ⟨rfl,rfl,rfl,rfl⟩
  refine oC rfl (fun hc=>absurd (zt hc) k2) (fun _=>?_);refine gay ?_
  by_cases k3:kind=3
  ·subst k3;obtain ⟨x,rfl⟩:=Inp.form_value hf zDd;rw[qaZ] at e1;rw[qbd] at n2;rw[ndEs,ndEs] at ham hN1 hsl;have hex:=(qad.1 e1).1;refine oC rfl (fun _=>?_) (fun hc=>by cases hc);refine gab ?_;refine oS (zsT (H1:=H') (F:=[_]) [_,_] (by show [ptr k.tb 0,_]=_;rw[qbk];rfl) qbe (qmw hG hX ih name index x thn els ws' n' H' zo zo zo n2.1 n3 n4 hex e4 e5 hTr zo zo) fun H2 h2=>?_) rfl;refine gat ?_;exact fin _ _ H2 rfl h2 qct rfl ⟨rfl,rfl,rfl,rfl⟩
  refine oC rfl (fun hc=>absurd (zt hc) k3) (fun _=>?_);refine gay ?_
  by_cases k4:kind=4
  ·subst k4;obtain ⟨x,rfl⟩:=Inp.form_value hf zDd;rw[qaZ] at e1;rw[qbd] at n2;rw[ndEs,ndEs] at ham hN1 hsl;have hex:=(qad.1 e1).1;refine oC rfl (fun _=>?_) (fun hc=>by cases hc);refine gab ?_;refine oS (zsT (H1:=H') (F:=[_]) [_,_] (by show [ptr k.tb 0,_]=_;rw[qbk];rfl) qbe (qoQ hG hX ih name index x thn els ws' n' H' zo zo n2.1 n3 hex e4 hTr zo zo) fun H2 h2=>?_) rfl;refine gat ?_;exact fin _ _ H2 rfl h2 qct rfl ⟨rfl,rfl,rfl,rfl⟩
  refine oC rfl (fun hc=>absurd (zt hc) k4) (fun _=>?_);refine gay ?_
  by_cases k5:kind=5
  ·subst k5;obtain ⟨x,rfl⟩:=Inp.form_value hf zDd;rw[qaZ] at e1;rw[qbd] at n2;rw[ndEs,ndEs] at ham hN1 hsl;have hex:=(qad.1 e1).1;have hS:stW c n' (.mk 5 name index [x] thn els)=(exW c x++[[59]],n'):=by unfold stW;rw[if_neg zDd,if_neg zDd,if_neg zDd,if_neg zDd,if_pos rfl];rfl
   have hlS:=hlw;rw[hS] at hlS;simp only[zLa,zLc,zLn] at hlS;refine oC rfl (fun _=>?_) (fun hc=>by cases hc);refine zQ44 ?_;refine oS (zsT (H1:=H') (F:=[_]) [_,_] rfl qbe (hX x ws' n' H' zo n2.1 hex hTr zo) fun H2 h2=>?_) rfl;refine gan ?_;refine zQ33 ?_;refine oS (zsT (H1:=H2) (F:=[_]) [_,_] rfl qbe (qak h2 [[59]] rfl (by simp only[zLa,zLc,zLn];omega)) fun H4 h4=>?_) rfl;refine gat ?_;exact fin _ _ H4 hS (by rw[<-zAs];exact h4) qct rfl ⟨rfl,rfl,rfl,rfl⟩
  refine oC rfl (fun hc=>absurd (zt hc) k5) (fun _=>?_);refine gay ?_
  by_cases k6:kind=6
  ·subst k6;obtain ⟨x,rfl⟩:=Inp.form_value hf zDd;rw[qaZ] at e1;rw[qbd] at n2;rw[ndEs,ndEs] at ham hN1 hsl;have hex:=(qad.1 e1).1;have hS:stW c n' (.mk 6 name index [x] thn els)=(exW c x++[c.t0,[33]],n'):=by unfold stW;rw[if_neg zDd,if_neg zDd,if_neg zDd,if_neg zDd,if_neg zDd,if_pos rfl];rfl
   have hlS:=hlw;rw[hS] at hlS;simp only[zLa,zLc,zLn] at hlS;refine oC rfl (fun _=>?_) (fun hc=>by cases hc);refine zQ44 ?_;refine oS (zsT (H1:=H') (F:=[_]) [_,_] rfl qbe (hX x ws' n' H' zo n2.1 hex hTr zo) fun H2 h2=>?_) rfl;refine gan ?_
   refine oS (S.callS (H1:=H2) (F:=[_]) [_,_] rfl qbe (by
    have h9:=qdm (B0:=B0) (w0:=w0) hG hk h2 0 zDd;rw[Nat.add_zero,<-hk.t0] at h9
    exact h9) fun H3 h3=>?_) rfl
   refine zQ22 ?_;refine oS (zsT (H1:=H3) (F:=[_]) [_,_] rfl qbe (qak h3 [c.t0,[33]] rfl (by simp only[zLa,zLc,zLn];omega)) fun H4 h4=>?_) rfl;refine gat ?_;exact fin _ _ H4 hS (by rw[<-zAs];exact h4) qct rfl ⟨rfl,rfl,rfl,rfl⟩
  refine oC rfl (fun hc=>absurd (zt hc) k6) (fun _=>?_);refine gay ?_;have k7:kind=7:=by have:=qiS hf;omega
  subst k7;have hS:stW c n' (.mk 7 name index value thn els)=([[36]],n'):=by unfold stW;rw[if_neg zDd,if_neg zDd,if_neg zDd,if_neg zDd,if_neg zDd,if_neg zDd,if_pos rfl]
  have hlS:=hlw;rw[hS] at hlS;simp only[zLa,zLc,zLn] at hlS;refine oC rfl (fun _=>?_) (fun hc=>by cases hc);refine gaf ?_;refine zQ33 ?_;refine oS (zsT (H1:=H') (F:=[_]) [_,_] rfl qbe (qak hTr [[36]] rfl (by simp only[zLa,zLc,zLn];omega)) fun H4 h4=>?_) rfl;refine gat ?_;exact fin _ _ H4 hS h4 qct rfl ⟨rfl,rfl,rfl,rfl⟩
end
end Go.Proofs.YthmhncflhnbedaaGreatDoor.Cmp
namespace Go.Proofs.YthmhncflhnbedaaGreatDoor.Cmp
open Go.GL Go.RowKit Go.Stele
open Go.Lib (decDigits itoa join)
abbrev parW (c:CC) (l:List Nm):List Wd:=l.flatMap fun p=>[c.sc p,[33]]
theorem qiH (c:CC) (p:Nm) (l:List Nm):parW c (p::l)=[c.sc p,[33]]++parW c l:=by
 unfold parW;rw[List.flatMap_cons]
theorem qkz (cc:Nm->CC) (n:Nat):fnWs cc n []=([],n):=by rw[fnWs]
theorem qh2 (cc:Nm->CC) (n:Nat) (f:FnD) (l:List FnD):fnWs cc n (f::l)=((fnW (cc f.name) n f).1++(fnWs cc (fnW (cc f.name) n f).2 l).1,(fnWs cc (fnW (cc f.name) n f).2 l).2):=by rw[fnWs]
theorem qoU (c:CC) (n:Nat) (f:FnD):fnW c n f=([[102,95]++f.name++[58]]++(parW c f.params.reverse++((stWs c n f.body).1++[[48],[59]])),(stWs c n f.body).2):=by
 unfold fnW parW;simp only[zAs]
theorem qkQ {l:List Nm} {i:Nat} (h:i<l.length):(l.take (i+1)).reverse=l[i]::(l.take i).reverse:=by
 rw[List.take_succ_eq_append_getElem h,List.reverse_append];rfl
structure FnT (k:TB) (cc:Nm->CC) (f:FnD):Prop where
 tb:TBok k (cc f.name) f.name
 name:f.name.length<=24
 params:∀ p∈f.params,p.length<=1000000
 num:qcA f.body
 env:∃ env,EnvOk env/\qa7 env f.body=0
attribute [local irreducible] LOps qae qag LCalls Go.GL.Pure qaA qaq qah LQ LAny qaF qap LS
section
variable {B0:Nat} {w0:World}
theorem qdw (hG:GW B0 w0) {k:TB} {cc:Nm->CC} (hsm:k.sc<=1000000000) (vars:List Nm) (arrays:List (Nm×Int)) (fs:List FnD) (hnd:ndFs fs<=2000000) (hf:∀ f∈fs,FnT k cc f) {own0:Nm} {c0:CC} (hk0:TBok k c0 own0) (H:Heap) (h:TrH k own0 [] 0 H)
  (hr:5+(fnWs cc 0 fs).1.length<=1000000000) :
  LCalls (KC B0 w0) 21 [ptr k.tb 0,Chk.encPrG vars arrays fs] H (qg9 (fun H'=>∃ own n,TrH k own ([[38,102,95,109,97,105,110],[58],decDigits k.sc,[33],[36]]++(fnWs cc 0 fs).1) n H')):=by
 have hal:=qdF fs;have hall:(fs.map qav).length=fs.length:=zLm _;refine cI Tryz.func21 rfl (n:=57) rfl rfl rfl ?_;refine gag ?_;refine oS (sB rfl fun b3=>?_) rfl;refine gan ?_
 refine oS (S.callS (H1:=H) (F:=[_]) [_,_] rfl qbe (by
  have h9:=qdm (B0:=B0) (w0:=w0) hG hk0 h 0 zDd;rw[Nat.add_zero] at h9
  exact h9) fun H1 h1=>?_) rfl
 refine oS (sL [_,_,_,_,_] rfl (qaC [_,_,_,_,_]) rfl rfl rfl ?_) rfl;refine oS (zsT (H1:=H1) (F:=[_]) [_,_] rfl qbe (qak h1 [[38,102,95,109,97,105,110],[58],decDigits k.sc,[33],[36]] rfl (by simp only[zLc,zLn];omega)) fun H2 h2=>?_) rfl;rw[List.nil_append] at h2;refine gaa ?_;generalize hP:([[38,102,95,109,97,105,110],[58],decDigits k.sc,[33],[36]]:List Wd)=P5 at h2 ⊢;have hP5:P5.length=5:=by rw[<-hP];rfl
 clear hP;generalize hT:fnWs cc 0 fs=T at hr ⊢
 refine oL (fun kk ls H'=>∃ (pre l1:List FnD) (ws':List Wd) (n':Nat) (own:Nm),fs=pre++l1/\kk=l1.length/\ls=[(0,ptr k.tb 0),(13,.list (fs.map qav)),(14,int .i64 ((fs.map qav).length:Int)),(15,int .i64 (pre.length:Int))]/\TrH k own ws' n' H'/\ws'++(fnWs cc n' l1).1=P5++T.1/\n'+2 * ndFs l1<=1000000000)
  ⟨fs.length,_,_,⟨[],fs,P5,0,own0,rfl,rfl,rfl,h2,by rw[hT],by omega⟩,⟨rfl,rfl,rfl,rfl,trivial⟩,qct⟩ ?_
 rintro kk ls H' ⟨pre,l1,ws',n',own,hLe,rfl,rfl,hTr,hW,hN1⟩ j hj
 have hb2:pre.length<=2000000:=by
  have:=congrArg List.length hLe;rw[zLa] at this;omega
 refine gai ?_;refine oC rfl (fun hc=>?_) (fun hc=>?_);rotate_left
 ·have hlen:=zf hc;rw[zLm,hLe,zLa] at hlen
  obtain rfl:l1=[]:=by
   cases l1 with
   |nil=>rfl
   |cons a l2=>simp at hlen;omega
  rw[qkz,zLz] at hW;refine gad ?_;exact rO hj rN zhr ⟨rfl,own,n',by rw[<-hW];exact hTr⟩
 have hlen:=zt hc;rw[zLm,hLe,zLa] at hlen
 obtain ⟨f,l2,rfl⟩:∃ a l2,l1=a::l2:=by
  cases l1 with
  |nil=>simp at hlen
  |cons a l2=>exact ⟨a,l2,rfl⟩
 have hfm:f∈fs:=by rw[hLe];exact List.mem_append_right _ zMs
 have hnf:=qc8 hfm;obtain ⟨hk,hnm,hpm,hnum,env,hE,herr⟩:=hf f hfm;rw[ndFs] at hN1;have hbl:=qdl (cc f.name) f.body n';have hpl:(f.params.map str).length=f.params.length:=zLm _;unfold ndF at hnf hN1;rw[qh2] at hW;rw[qoU] at hW;simp only at hW;have hlw:=congrArg List.length hW;simp only[zLa,zLc,zLn] at hlw;obtain ⟨v,Hv,hacc,rfl⟩:=hTr;refine gak ?_;refine oP (xR (el':=qav f) (cs:=[_,_,_,_]) rfl rfl zo (by rw[hLe];exact Chk.get_mid qav pre f l2) rfl rfl) rfl ?_;refine gav ?_;refine oS (sA fun b5=>?_) rfl;refine gab ?_
 first|(refine oS (sS (cs':=[_,_,_,_,_,_]) rfl zp1 rfl rfl rfl rfl rfl ?_) rfl)|skip
 refine gab ?_;have h1:TrH k f.name ws' n' ((k.tb,.cells 57 [v,int .i64 (n':Nat),int .i64 (k.sc:Nat),.atom (.map (some k.sm)),.atom (.map (some k.am)),str f.name])::(k.sm,.map (kvs k.S) k.g1)::(k.am,.map (kvs k.A) k.g2)::Hv):=⟨v,Hv,hacc,rfl⟩;refine LOps.weak (H':=(b5,.cells 84 [str f.name,.list (f.params.map str),.list (f.locals.map str),.list (f.body.map encS)])::(k.tb,.cells 57 [v,int .i64 (n':Nat),int .i64 (k.sc:Nat),.atom (.map (some k.sm)),.atom (.map (some k.am)),str f.name])::(k.sm,.map (kvs k.S) k.g1)::(k.am,.map (kvs k.A) k.g2)::Hv) ⟨[],by rw[zLz];exact List.Perm.swap _ _ _⟩ ?_;generalize ((k.tb,.cells 57 [v,int .i64 (n':Nat),int .i64 (k.sc:Nat),.atom (.map (some k.sm)),.atom (.map (some k.am)),str f.name])::(k.sm,.map (kvs k.S) k.g1)::(k.am,.map (kvs k.A) k.g2)::Hv:Heap)=H1 at h1 ⊢;refine zQ33 ?_;refine oS (zsT (H1:=H1) (F:=[_]) [_,_] rfl qbe (qak h1 [[102,95]++f.name++[58]] rfl (by simp only[zLc,zLn];omega)) fun H2 h2=>?_) rfl;refine gab ?_
 refine oL (fun kk ls H'=>∃ (i:Nat) (ws2:List Wd) (H3:Heap),i<=f.params.length/\kk=i/\ls=[(0,ptr k.tb 0),(5,ptr b5 0),(6,int .i64 ((i:Int)-1)),(13,.list (fs.map qav)),(14,int .i64 ((fs.map qav).length:Int)),(15,int .i64 (pre.length:Int))]/\H'=(b5,.cells 84 [str f.name,.list (f.params.map str),.list (f.locals.map str),.list (f.body.map encS)])::H3/\TrH k f.name ws2 n' H3/\ws2++parW (cc f.name) (f.params.take i).reverse=ws'++[[102,95]++f.name++[58]]++parW (cc f.name) f.params.reverse)
  ⟨f.params.length,_,_,⟨f.params.length,_,H2,zNr _,rfl,rfl,rfl,h2,by rw[List.take_length]⟩,⟨rfl,rfl,by rw[<-hpl];rfl,rfl,rfl,rfl,trivial⟩,zhR _⟩ ?_
 rintro kk ls H' ⟨i,ws2,H3,hi,rfl,rfl,rfl,h3,hW3⟩ j2 hj2;refine gab ?_;refine oC rfl (fun hc=>?_) (fun hc=>?_)
 ·have hge:=zt hc;obtain ⟨i,rfl⟩:∃ i',kk=i'+1:=⟨kk-1,by omega⟩;have hlt:i<f.params.length:=by omega
  rw[qkQ hlt,qiH] at hW3;have hlw3:=congrArg List.length hW3;simp only[zLa,zLc,zLn] at hlw3;have hpi:=hpm _ (List.getElem_mem hlt);refine gaa ?_;refine oP (xR (el':=str f.params[i]) (cs:=[str f.params[i]]) rfl rfl zo (by rw[show (((i+1:Nat):Int)-1).toNat=i by omega,List.getElem?_map,List.getElem?_eq_getElem hlt];rfl) rfl rfl) rfl ?_;refine gac ?_;refine oS (S.callS (H1:=H3) (F:=[_]) [_,_] rfl qbe (qb7 hG hk h3 f.params[i] zo) fun H4 h4=>?_) rfl;refine zQ22 ?_;refine oS (zsT (H1:=H4) (F:=[_]) [_,_] rfl qbe (qak h4 [(cc f.name).sc f.params[i],[33]] rfl (by simp only[zLc,zLn];omega)) fun H5 h5=>?_) rfl;refine gab ?_;exact ⟨i,_,_,Nat.lt_succ_self _,⟨i,_,H5,by omega,rfl,rfl,rfl,h5,by rw[zAs];exact hW3⟩,⟨rfl,rfl,qaf zo,rfl,rfl,rfl,trivial⟩,zhR _,hj2⟩
 ·have hlt:=zf hc;obtain rfl:kk=0:=by omega
  rw[List.take_zero,List.reverse_nil,show parW (cc f.name) []=[] from rfl,zLz] at hW3;have hlw3:=congrArg List.length hW3;simp only[zLa,zLc,zLn] at hlw3;refine gaa ?_;refine oS (zsT (H1:=H3) (F:=[_]) [_,_] rfl qbe (qfy hG hk hE (ndSs f.body) zo f.body ws2 n' H3 (zNr _) hnum herr h3 zo zo) fun H4 h4=>?_) rfl;refine gan ?_;refine zQ22 ?_;refine oS (zsT (H1:=H4) (F:=[_]) [_,_] rfl qbe (qak h4 [[48],[59]] rfl (by simp only[zLa,zLc,zLn];omega)) fun H5 h5=>?_) rfl;refine gat ?_
  exact ⟨l2.length,_,_,Nat.lt_succ_self _,⟨pre++[f],l2,_,_,f.name,by rw[hLe];simp,rfl,rfl,h5,by
   rw[hW3];simp only[zAs] at hW ⊢
   exact hW,by omega⟩,⟨rfl,rfl,rfl,qaf (by simp),trivial⟩,qct,hj2.trans hj⟩
end
end Go.Proofs.YthmhncflhnbedaaGreatDoor.Cmp
namespace Go.Stele
open Go.Lib
def prOf (vars:List Nm) (arrays:List (Nm×Int)) (fs:List FnD):Pr:=⟨vars,arrays.map fun a=>⟨a.1,a.2.toNat⟩,fs⟩
theorem qqg {vars:List Nm} {arrays:List (Nm×Int)} {fs:List FnD} (h:∀ a∈arrays,0<=a.2):qbK (prOf vars arrays fs)=arrays:=by
 unfold qbK prOf;simp only[List.map_map]
 conv=>rhs;rw[<-List.map_id arrays]
 refine List.map_congr_left fun a ha=>?_;have:=h a ha;simp only[Function.comp,id];rw[Int.toNat_of_nonneg this]
theorem qlT:∀ (l:List Int) (t:Int),0<=t->t<=150000->qeu t l=0->t+l.sum<=150000/\∀ n∈l,0<n
 |[],t,h0,h1,_=>by
  rw[List.sum_nil]
  exact ⟨by omega,fun n hn=>(List.not_mem_nil hn).elim⟩
 |a::l,t,h0,h1,h=>by
  rw[qeu] at h;split at h
  ·cases h
  split at h
  ·cases h
  obtain ⟨g1,g2⟩:=qlT l (t+a) (by omega) (by omega) h;rw[List.sum_cons];refine ⟨by omega,fun n hn=>?_⟩;rcases zMi.1 hn with rfl|hn
  ·omega
  ·exact g2 n hn
theorem qeS {vars:List Nm} {arrays:List (Nm×Int)} {fs:List FnD} (h:qb1 vars arrays fs=0):(arrays.map (·.2)).sum<=150000/\(∀ a∈arrays,0<a.2)/\qbK (prOf vars arrays fs)=arrays/\qf6 (prOf vars arrays fs)=0/\Valid (prOf vars arrays fs):=by
 have h0:=h;unfold qb1 at h;obtain ⟨h1,h⟩:=qad.1 h;obtain ⟨h2,h⟩:=qad.1 h;obtain ⟨s1,s2⟩:=qlT _ 0 zDd zDd h2;have hp:∀ a∈arrays,0<a.2:=fun a ha=>s2 a.2 (List.mem_map_of_mem ha);have ha:=qqg (vars:=vars) (fs:=fs) fun a ha=>Int.le_of_lt (hp a ha)
 have hc:qf6 (prOf vars arrays fs)=0:=by
  have:(prOf vars arrays fs).arrays.map (fun a=>(a.name,(a.size:Int)))=arrays:=ha;unfold qf6;rw[this];exact h0
 exact ⟨by omega,hp,ha,hc,qj9 hc⟩
def symA:Int->List (Nm×Int)->List (Nm×Int)
 |_,[]=>[]
 |a,(x,n)::r=>(x,a)::symA (a+n) r
theorem qg1:∀ (l:List (Nm×Int)) (a:Int),(symA a l).map (·.1)=l.map (·.1)
 |[],_=>rfl
 |(x,n)::r,a=>by rw[symA,zMc,zMc,qg1 r]
theorem qga:∀ (l:List (Nm×Int)) (a:Int),(symA a l).length=l.length
 |[],_=>rfl
 |(x,n)::r,a=>by rw[symA,zLc,zLc,qga r]
theorem qnA:∀ (l m:List (Nm×Int)) (a:Int),symA a (l++m)=symA a l++symA (a+(l.map (·.2)).sum) m
 |[],m,a=>by simp[symA]
 |(x,n)::r,m,a=>by
  rw[List.cons_append,symA,qnA r m,symA,List.cons_append,zMc,List.sum_cons,Int.add_assoc]
/-! ### The regions -/
def qcj (r:Int×Int):Bool:=qeM r.1 r.2
def qeb (r s:Int×Int):Bool:=qhu r.1 r.2 s.1 s.2
def goR:List (Int×Int)->List (Int×Int)->Bool
 |_,[]=>true
 |prev,r::rest=>qcj r && (prev.all fun s=>!qeb r s) && goR (prev++[r]) rest
theorem qpx (vars:List Nm) (arrays:List (Nm×Int)) (fs:List FnD) (o:Org):qdI vars arrays fs o=goR [] [(o.scalars,3+((qat vars fs).length:Nat)),(o.code,40000),(o.arrays,(arrays.map (·.2)).sum)]:=by
 unfold qdI goR goR goR goR qcj qeb;simp only[List.all_nil,List.nil_append,List.all_cons,List.singleton_append,List.cons_append,Bool.and_true];generalize qeM o.scalars _=a;generalize qeM o.code 40000=b;generalize qeM o.arrays _=c;generalize qhu o.code 40000 o.scalars _=d;generalize qhu o.arrays _ o.scalars _=e;generalize qhu o.arrays _ o.code 40000=f;revert a b c d e f;decide
end Go.Stele
namespace Go.Stele
open Go.Lib
theorem qgB (all:List Wd):∀ (l:List (Wd×Nat)) (met:List Wd),(errT all met l).2=0∨(errT all met l).2=8∨(errT all met l).2=7∨(errT all met l).2=3
 |[],met=>.inl rfl
 |(w,ln)::r,met=>by
  rw[errT]
  cases hd:defW w with
  |some x=>
   simp only;split
   ·exact .inr (.inl rfl)
   ·exact qgB all r _
  |none=>
   simp only
   cases hr:refW w with
   |some x=>
    simp only;split
    ·exact qgB all r _
    ·exact .inr (.inr (.inl rfl))
   |none=>
    simp only;split
    ·exact qgB all r _
    ·exact .inr (.inr (.inr rfl))
theorem qnC {src:Wd} {og:Int} (h:0<=og/\og<262144) {e:Nat×Nat} (he:asmP src og=.error e):e.2=8∨e.2=7∨e.2=3∨e.2=6:=by
 unfold asmP at he;split at he
 ·omega
 split at he
 ·rename_i h1
  injection he with he;rw[<-he];rcases qgB (defs (qbo src)) (qje src) [] with h2|h2|h2|h2
  ·exact absurd h2 h1
  ·exact .inl h2
  ·exact .inr (.inl h2)
  ·exact .inr (.inr (.inl h2))
 split at he
 ·injection he with he;rw[<-he];exact .inr (.inr (.inr rfl))
 ·cases he
section
variable {vars:List Nm} {arrays:List (Nm×Int)} {fs:List FnD} {o:Org}
theorem qpz (h:qdI vars arrays fs o=true):0<=o.code/\o.code<262144:=by
 unfold qdI qeM at h;simp only[zBa,zDe] at h;have:=h.1.1.1.1.2;omega
def qlp (vars:List Nm) (arrays:List (Nm×Int)) (fs:List FnD) (o:Org):Except Int Wd:=match cmpP vars arrays fs o with
 |.error e=>.error e
 |.ok t=>match asmP t o.code with
  |.error e=>.error e.2
  |.ok x=>.ok x.1
theorem qo3 {t:Wd} (h:cmpP vars arrays fs o=.ok t):∃ x,asmP t o.code=.ok x/\qlp vars arrays fs o=.ok x.1:=by
 have h0:=h;unfold cmpP at h;split at h
 ·cases h
 split at h
 ·cases h
 split at h
 ·cases h
 rename_i x hx
 injection h with h;rw[h] at hx;refine ⟨x,hx,?_⟩;unfold qlp;rw[h0];simp only;rw[hx]
end
theorem qqi {vars:List Nm} {arrays:List (Nm×Int)} {fs:List FnD} {o:Org} {e:Int} (h:cmpP vars arrays fs o=.error e):e≠0:=by
 unfold cmpP at h;split at h
 ·rename_i h1
  injection h with h;rw[<-h];exact h1
 split at h
 ·injection h with h;omega
 rename_i h2
 split at h
 ·rename_i e' he
  injection h with h;have:=qnC (qpz (by simpa using h2)) he;omega
 ·cases h
end Go.Stele
namespace Go.GL
open Go.RowKit
section
variable {C:Ctx} {e:Env} {H:Heap} {x y:Operand} {dst:Option Nat} {ty:TypeId} {pos:String} {aft:Array Edge} {g:Option (Nat×Bool)} {K:LV->Heap->Prop} {X:List PanicEntry->Heap->Prop}
theorem Pure.ssliceE {xT:TypeId} {lo hi:Option Operand} {l m:List UInt8} {i j:Int} [hT:TStr C.P xT] (hx:e.ev x=str l)
  (hlo:qdS e lo 0 i) (hhi:qdS e hi l.length j) (h0:0<=i) (h1:i<=j) (h2:j<=l.length) (he:(l.take j.toNat).drop i.toNat=m) :
  Pure C ⟨dst,.slice xT x lo hi none,ty,pos,aft,g⟩ e H (str m):=he▸Pure.sslice hx hlo hhi h0 h1 h2
theorem Pure.lsliceE {t el s:Nat} {lo hi:Option Operand} {es ms:List LV} {i j:Int} [ht:TSlice C.P t el s] (hx:elems (e.ev x)=some es)
  (hlo:qdS e lo 0 i) (hhi:qdS e hi es.length j) (h0:0<=i) (h1:i<=j) (h2:j<=es.length) (hs:∀ v∈es,v.cells.length=s) (he:(es.take j.toNat).drop i.toNat=ms) :
  Pure C ⟨dst,.slice t x lo hi none,ty,pos,aft,g⟩ e H (.list ms):=he▸Pure.lslice hx hlo hhi h0 h1 h2 hs
end
section
variable {C:Ctx} {n:Nat} {Q:Post} {e:Env} {H F:Heap}
end
end Go.GL
namespace Go.Proofs.YthmhncflhnbedaaGreatDoor.Cmp
open Go.GL Go.RowKit Go.Stele
open Go.Lib (decDigits itoa join)
def qcl (r:Int×Int):LV:=.agg [int .i64 r.1,int .i64 r.2]
def qcM (o:Org):LV:=.agg [int .i64 o.code,int .i64 o.scalars,int .i64 o.arrays]
def qdd (p:Nm×Int):LV:=.agg [str p.1,int .i64 p.2]
def I64 (n:Int):Prop := -9223372036854775808<=n/\n<9223372036854775808
def SmI (n:Int):Prop := -1000000000000<=n/\n<=1000000000000
theorem qgo {l:List Int} {i:Nat} (h:i<l.length):(l.take (i+1)).sum=(l.take i).sum+l[i]:=by
 rw[List.take_succ_eq_append_getElem h,List.sum_append]
 simp
theorem qbH:∀ (l:List Int) (i:Nat),(∀ n∈l,0<n)->0<=(l.take i).sum/\(l.take i).sum<=l.sum
 |[],i,_=>by simp
 |a::l,0,h=>by
  have:=qbH l l.length fun n hn=>h n (zMo _ hn);have h1:=h a zMs;rw[List.take_length] at this;rw[List.take_zero,List.sum_nil,List.sum_cons]
  omega
 |a::l,i+1,h=>by
  have:=qbH l i fun n hn=>h n (zMo _ hn);have h1:=h a zMs;rw[List.take_succ_cons,List.sum_cons,List.sum_cons];omega
theorem qic {l:List (Nm×Int)} {i:Nat} (h:i<l.length) (a:Int):symA a (l.take (i+1))=symA a (l.take i)++[(l[i].1,a+((l.map (·.2)).take i).sum)]:=by
 rw[List.take_succ_eq_append_getElem h,qnA,<-List.map_take];rfl
attribute [local irreducible] LOps qae qag LCalls Go.GL.Pure qaA qaq qah LQ LAny qaF qap LS
section
variable {B0:Nat} {w0:World}
theorem qmk (r:Int×Int) (h2:SmI r.2):LCalls (KC B0 w0) 53 [qcl r] [] (Ret (bool (qcj r))):=by
 obtain ⟨a,n⟩:=r;unfold SmI at h2;simp only at h2;have hI:qcj (a,n)=decide (0<=a/\a<=262144-n):=rfl;unfold qcl;refine cI Tryz.func53 rfl (n:=14) rfl rfl rfl ?_;refine gag ?_;refine oS (sB rfl fun b1=>?_) rfl;refine gab ?_;refine oB 6 rfl (fun h=>?_) (fun h=>?_)
 ·have h1:a ≥ 0:=zt h;refine gac ?_
  exact qac rfl (zra rfl) (qai (by
   rw[hI,Bool.eq_iff_iff,decide_eq_true_iff,decide_eq_true_iff]
   omega))
 ·have h1:¬ a ≥ 0:=zf h;refine gae ?_
  exact qac rfl (zra rfl) (qai (by
   rw[hI]
   symm
   exact decide_eq_false zo))
theorem qnR (r s:Int×Int) (h1:SmI r.1) (h2:SmI r.2) (h3:SmI s.1) (h4:SmI s.2):LCalls (KC B0 w0) 54 [qcl r,qcl s] [] (Ret (bool (qeb r s))):=by
 obtain ⟨a,n⟩:=r;obtain ⟨b,m⟩:=s;unfold SmI at h1 h2 h3 h4;simp only at h1 h2 h3 h4;have hI:qeb (a,n) (b,m)=decide (0<n/\0<m/\a<b+m/\b<a+n):=rfl;unfold qcl;refine cI Tryz.func54 rfl (n:=33) rfl rfl rfl ?_;refine gag ?_;refine oS (sB rfl fun b1=>?_) rfl;refine oS (sB rfl fun b2=>?_) rfl;refine gab ?_;refine oB 8 rfl (fun g1=>?_) (fun g1=>?_);rotate_left
 ·have g1':¬ n > 0:=zf g1;refine gae ?_;exact qac rfl (zra rfl) (qai (by rw[hI];symm;exact decide_eq_false zo))
 have g1':n > 0:=zt g1;refine gac ?_;refine oB 13 rfl (fun g2=>?_) (fun g2=>?_);rotate_left
 ·have g2':¬ m > 0:=zf g2;refine gae ?_;exact qac rfl (zra rfl) (qai (by rw[hI];symm;exact decide_eq_false zo))
 have g2':m > 0:=zt g2;refine gac ?_;refine oB 23 rfl (fun g3=>?_) (fun g3=>?_);rotate_left
 ·have g3':¬ a<b+m:=zf g3;refine gae ?_;exact qac rfl (zra rfl) (qai (by rw[hI];symm;exact decide_eq_false zo))
 have g3':a<b+m:=zt g3;refine gac ?_
 exact qac rfl (zra rfl) (qai (by
  rw[hI,Bool.eq_iff_iff,decide_eq_true_iff,decide_eq_true_iff]
  omega))
theorem qmr (vars:List Nm) (arrays:List (Nm×Int)) (fs:List FnD) (o:Org) (hl:arrays.length<=2000000) (hp:∀ a∈arrays,0<a.2) (h0:0<=o.arrays) (h1:o.arrays+(arrays.map (·.2)).sum<=262144):LCalls (KC B0 w0) 20 [Chk.encPrG vars arrays fs,qcM o] [] (Ret (.tuple [.list ((symA o.arrays arrays).map qdd),int .i64 0])):=by
 have hal:(arrays.map Chk.encArG).length=arrays.length:=zLm _;have hml:(arrays.map (·.2)).length=arrays.length:=zLm _
 have hps:∀ n∈arrays.map (·.2),0<n:=fun n hn=>by
  obtain ⟨a,ha,rfl⟩:=List.mem_map.1 hn;exact hp a ha
 unfold Chk.encPrG qcM;refine cI Tryz.func20 rfl (n:=50) rfl rfl rfl ?_;refine gag ?_;refine oS (sB rfl fun b2=>?_) rfl;refine oS (sB rfl fun b3=>?_) rfl;refine gab ?_
 refine oL (fun kk ls H'=>∃ (i:Nat) (v:LV),i<=arrays.length/\kk=arrays.length-i/\ls=[(6,v),(7,int .i64 (o.arrays+((arrays.map (·.2)).take i).sum)),(13,.list (arrays.map Chk.encArG)),(14,int .i64 arrays.length),(15,int .i64 (i:Nat))]/\GL.Acc 2 v ((symA o.arrays (arrays.take i)).map qdd) H' [])
  ⟨_,_,_,⟨0,qaa,Nat.zero_le _,rfl,rfl,Acc.nil⟩,⟨rfl,qaf (by simp),rfl,qaf zo,rfl,trivial⟩,HSub.nil _⟩ ?_
 rintro kk ls H' ⟨i,v,hi,rfl,rfl,hacc⟩ j hj;have hsum:=qbH (arrays.map (·.2)) i hps;refine gai ?_;refine oC rfl (fun hc=>?_) (fun hc=>?_)
 ·have hlt:i<arrays.length:=by have:=zt hc;omega
  have hpi:=hp _ (List.getElem_mem hlt);have hst:=qgo (l:=arrays.map (·.2)) (i:=i) zo;rw[List.getElem_map] at hst;have hsum2:=qbH (arrays.map (·.2)) (i+1) hps
  have hlen:((symA o.arrays (arrays.take i)).map qdd).length=i:=by
   rw[zLm,qga,List.length_take];omega
  generalize hsi:((arrays.map (·.2)).take i).sum=si at hsum hst;have hsy:=qic hlt o.arrays;rw[hsi] at hsy;refine gak ?_;refine zQ89 ?_;refine gac ?_;refine oS (sA fun b9=>?_) rfl;refine gaa ?_;refine oB 21 rfl (fun h=>?_) (fun _=>?_)
  ·have:=zt h;omega
  refine gac ?_;refine oB 25 rfl (fun h=>?_) (fun _=>?_)
  ·have:=zt h;omega
  refine gac ?_;refine oB 30 rfl (fun h=>?_) (fun _=>?_)
  ·have:=zt h;omega
  refine gac ?_;refine oC rfl (fun h=>?_) (fun _=>?_)
  ·have:=zt h;omega
  refine gak ?_;refine zQ60 ?_;refine qiR ?_;refine oS (S.acc1 rfl hacc rfl (by simp;rfl) rfl (by rw[hlen];simp;omega) fun v' H2 hacc'=>?_) rfl;refine zQ62 ?_;refine gaa ?_;exact ⟨_,_,_,by omega,⟨i+1,v',by omega,rfl,rfl,by rw[hsy,zMa];exact hacc'⟩,⟨rfl,qaf (by rw[hst];omega),rfl,rfl,qaf zo,trivial⟩,zhD zhr,hj⟩
 ·exact zT29
theorem qpp (vars:List Nm) (arrays:List (Nm×Int)) (fs:List FnD) (o:Org) (hv6:vars.length<=2000000) (hf6:fs.length<=2000000) (hl:arrays.length<=2000000) (hsm:∀ f∈fs,SmF f) (hn:∀ f∈fs,f.name.length<=1000/\∀ x∈f.params++f.locals,x.length<=1000)
  (hp:∀ a∈arrays,0<a.2) (ht:(arrays.map (·.2)).sum<=150000) (hsc:(qat vars fs).length<=8000) (o1:I64 o.code) (o2:I64 o.scalars) (o3:I64 o.arrays) :
  LCalls (KC B0 w0) 18 [Chk.encPrG vars arrays fs,qcM o] [] (Ret (bool (qdI vars arrays fs o))):=by
 have hal:(arrays.map Chk.encArG).length=arrays.length:=zLm _;have hml:(arrays.map (·.2)).length=arrays.length:=zLm _
 have hps:∀ n∈arrays.map (·.2),0<n:=fun n hn=>by
  obtain ⟨a,ha,rfl⟩:=List.mem_map.1 hn;exact hp a ha
 have hscl:((qat vars fs).map str).length=(qat vars fs).length:=zLm _;have hS:=Chk.scalars_specG (B0:=B0) (w0:=w0) (vars:=vars) (fs:=fs) (.list (arrays.map Chk.encArG)) hv6 hf6 hsm hn;rw[qpx];unfold Chk.encPrG qcM;refine cI Tryz.func18 rfl (n:=63) rfl rfl rfl ?_;refine gag ?_;refine oS (sB rfl fun b2=>?_) rfl;refine oS (sB rfl fun b3=>?_) rfl;refine gab ?_
 refine oL (fun kk ls H'=>∃ (i:Nat),i<=arrays.length/\kk=arrays.length-i/\ls=[(2,ptr b2 0),(3,ptr b3 0),(5,int .i64 (((arrays.map (·.2)).take i).sum)),(14,.list (arrays.map Chk.encArG)),(15,int .i64 arrays.length),(16,int .i64 (i:Nat))]/\H'=[(b3,.cells 23 [int .i64 o.code,int .i64 o.scalars,int .i64 o.arrays]),(b2,.cells 34 [.list (vars.map str),.list (arrays.map Chk.encArG),.list (fs.map qav)])])
  ⟨_,_,_,⟨0,Nat.zero_le _,rfl,rfl,rfl⟩,⟨rfl,rfl,rfl,rfl,qaf zo,rfl,trivial⟩,zhR _⟩ ?_
 rintro kk ls H' ⟨i,hi,rfl,rfl,rfl⟩ j hj;have hsum:=qbH (arrays.map (·.2)) i hps;refine gai ?_;refine oC rfl (fun hc=>?_) (fun hc=>?_)
 ·have hlt:i<arrays.length:=by have:=zt hc;omega
  have hpi:=hp _ (List.getElem_mem hlt);have hst:=qgo (l:=arrays.map (·.2)) (i:=i) zo;rw[List.getElem_map] at hst;have hsum2:=qbH (arrays.map (·.2)) (i+1) hps;generalize hsi:((arrays.map (·.2)).take i).sum=si at hsum hst;refine gak ?_;refine zQ89 ?_;refine gac ?_;refine oS (sA fun b7=>?_) rfl;refine gaa ?_;exact ⟨_,_,_,by omega,⟨i+1,by omega,rfl,rfl,rfl⟩,⟨rfl,rfl,qaf (by rw[hst]),rfl,rfl,qaf zo,trivial⟩,zhD zhr,hj⟩
 have hi':i=arrays.length:=by have:=zf hc;omega
 subst hi';rw[<-hml,List.take_length] at hsum ⊢;generalize (arrays.map (·.2)).sum=total at hsum ht ⊢;generalize (qat vars fs).length=ns at hsc hscl ⊢;refine gad ?_;refine zQ50 ?_;refine aT 11 rfl rfl (pL (c:=.atom _) rfl zm0 rfl) ?_;refine aT 12 rfl rfl (pM (lv:=.atom _) rfl) ?_;refine zQ39 ?_;refine lD zk ?_;have e3:(3:Int)+(((qat vars fs).map str).length:Int)=3+(ns:Nat):=by rw[hscl]
 rw[e3];generalize hrs:[(o.scalars,(3:Int)+(ns:Nat)),(o.code,(40000:Int)),(o.arrays,total)]=rs;have hrl:([LV.agg [int .i64 o.scalars,int .i64 (3+(ns:Int))],.agg [int .i64 o.code,int .i64 40000],.agg [int .i64 o.arrays,int .i64 total]]:List LV)=rs.map qcl:=by rw[<-hrs];rfl
 rw[hrl];have hlr:rs.length=3:=by rw[<-hrs];rfl
 have hsz:∀ r∈rs,SmI r.2/\0<=r.2:=by
  rw[<-hrs];intro r hr;simp only[zMi,List.not_mem_nil,or_false] at hr;unfold SmI;rcases hr with rfl|rfl|rfl <;> simp only <;> omega
 have hrm:(rs.map qcl).length=rs.length:=zLm _;clear hrl hrs;generalize hR:goR [] rs=R;refine qN ?_;refine cW zhn ?_;refine gaa ?_
 refine oL (fun kk ls H'=>∃ (i:Nat),i<=rs.length/\kk=rs.length-i/\ls=[(8,.list (rs.map qcl)),(40,.list (rs.map qcl)),(41,int .i64 rs.length),(42,int .i64 (i:Nat))]/\H'=[]/\goR (rs.take i) (rs.drop i)=R/\∀ r∈rs.take i,qcj r=true)
  ⟨_,_,_,⟨0,Nat.zero_le _,rfl,rfl,rfl,hR,fun r hr=>by cases hr⟩,⟨rfl,rfl,qaf zo,rfl,trivial⟩,zhR _⟩ ?_
 rintro kk ls H' ⟨i,hi,rfl,rfl,rfl,hgo,hins⟩ j1 hj1;refine gai ?_;refine oC rfl (fun hc=>?_) (fun hc=>?_);rotate_left
 ·have hi':i=rs.length:=by have:=zf hc;omega
  subst hi';rw[List.drop_length,goR] at hgo;refine gaa ?_;exact qac (hj1.trans hj) (zra rfl) (qai hgo)
 have hlt:i<rs.length:=by have:=zt hc;omega
 have hsi:=hsz _ (List.getElem_mem hlt);rw[List.drop_eq_getElem_cons hlt,goR,<-List.take_succ_eq_append_getElem hlt] at hgo;generalize hgr:rs[i]=r at hgo hsi;refine gaa ?_;refine oP (xR (el':=qcl r) (cs:=[_,_]) rfl rfl zo (by rw[<-hgr];exact qa0 _ _ _ hlt) rfl rfl) rfl ?_;refine gac ?_;refine oS (sA fun b10=>?_) rfl;refine gab ?_;refine oS (sF [_] rfl (qmk r hsi.1) ?_) rfl;refine gad ?_;refine oC rfl (fun h=>?_) (fun h=>?_)
 ·have h':qcj r=false:=by simpa using h
  rw[h',Bool.false_and,Bool.false_and] at hgo;refine gaz ?_;exact qac (hj1.trans hj) (zra rfl) (qai hgo)
 have h':qcj r=true:=by simpa using h
 rw[h',Bool.true_and] at hgo
 have inb:∀ r:Int×Int,SmI r.2/\0<=r.2->qcj r=true->SmI r.1:=fun r h1 h2=>by
  have:0<=r.1/\r.1<=262144-r.2:=zt h2;unfold SmI at h1 ⊢;omega
 have hri:=inb r hsi h';have htl:(rs.take i).length=i:=by rw[List.length_take];omega
 have htm:((rs.take i).map qcl).length=i:=by rw[zLm,htl]
 have hts:((rs.map qcl).take i)=(rs.take i).map qcl:=List.map_take.symm;refine gaa ?_;refine oP (Pure.lsliceE (i:=0) (j:=(i:Nat)) (es:=rs.map qcl) (ms:=(rs.take i).map qcl) rfl rfl ⟨_,rfl⟩ zo zo zo (fun v hv=>by obtain ⟨r,_,rfl⟩:=List.mem_map.1 hv;rfl) (by rw[Int.toNat_natCast,<-hts];rfl)) rfl ?_;refine gad ?_
 refine oL (fun kk ls H'=>∃ (x:Nat),x<=i/\kk=i-x/\ls=[(8,.list (rs.map qcl)),(10,ptr b10 0),(40,.list (rs.map qcl)),(41,int .i64 rs.length),(42,int .i64 (i:Nat)),(52,.list ((rs.take i).map qcl)),(53,int .i64 i),(54,int .i64 (x:Nat))]/\H'=[(b10,.cells 111 [int .i64 r.1,int .i64 r.2])]/\((((rs.take i).drop x).all fun s=>!qeb r s) && goR (rs.take (i+1)) (rs.drop (i+1)))=R)
  ⟨_,_,_,⟨0,Nat.zero_le _,rfl,rfl,rfl,by rw[List.drop_zero];exact hgo⟩,⟨rfl,rfl,rfl,rfl,rfl,rfl,qaf zo,rfl,trivial⟩,zhR _⟩ ?_
 rintro kk ls H' ⟨x,hx,rfl,rfl,rfl,hall⟩ j2 hj2;refine gai ?_;refine oC rfl (fun hc=>?_) (fun hc=>?_)
 ·have hlx:x<(rs.take i).length:=by have:=zt hc;omega
  have hm1:=List.getElem_mem hlx;have hss:=hsz _ (List.mem_of_mem_take hm1);have hsn:=inb _ hss (hins _ hm1);rw[List.drop_eq_getElem_cons hlx,List.all_cons] at hall;generalize hgs:(rs.take i)[x]=s at hall hss hsn;refine gak ?_;refine oP (xR (el':=qcl s) (cs:=[_,_]) rfl rfl zo (by rw[<-hgs];exact qa0 _ _ _ hlx) rfl rfl) rfl ?_;refine gac ?_;refine oS (sA fun b12=>?_) rfl;refine gab ?_;refine oS (sF [_,_] rfl (qnR r s hri hsi.1 hsn hss.1) ?_) rfl;refine gam ?_;refine oC rfl (fun h=>?_) (fun h=>?_)
  ·have h2:qeb r s=true:=h;rw[h2] at hall;refine gaz ?_;exact qac (hj2.trans (hj1.trans hj)) (zra rfl) (qai (by rw[<-hall];rfl))
  ·have h2:qeb r s=false:=h;rw[h2] at hall;refine gaa ?_;exact ⟨_,_,_,by omega,⟨x+1,by omega,rfl,rfl,rfl,hall⟩,⟨rfl,rfl,rfl,rfl,rfl,rfl,rfl,qaf zo,trivial⟩,zhD zhr,hj2⟩
 ·have hx':x=i:=by have:=zf hc;omega
  subst hx';rw[List.drop_eq_nil_of_le (by rw[htl];exact zNr _)] at hall;refine gaa ?_
  exact ⟨_,_,_,by omega,⟨x+1,by omega,rfl,rfl,rfl,hall,fun q hq=>by
   rw[List.take_succ_eq_append_getElem hlt,hgr] at hq;rcases List.mem_append.1 hq with hq|hq
   ·exact hins q hq
   ·rw[List.mem_singleton.1 hq];exact h'⟩,⟨rfl,rfl,rfl,qaf zo,trivial⟩,HSub.nil _,hj2.trans hj1⟩
end
end Go.Proofs.YthmhncflhnbedaaGreatDoor.Cmp
namespace Go.Proofs.YthmhncflhnbedaaGreatDoor.Cmp
open Go.GL Go.RowKit Go.Stele
open Go.Lib (decDigits itoa join)
def scKV (S:Int):Nat->List Nm->KV
 |_,[]=>[]
 |i,x::r=>(x,int .i64 (S+3+(i:Nat)))::scKV S (i+1) r
theorem qnF (S:Int):∀ (l m:List Nm) (i:Nat),scKV S i (l++m)=scKV S i l++scKV S (i+l.length) m
 |[],m,i=>by simp[scKV]
 |x::r,m,i=>by
  rw[List.cons_append,scKV,qnF S r m,scKV,List.cons_append,zLc,Nat.add_right_comm,Nat.add_assoc]
theorem qlo (S:Int):∀ (l:List Nm) (i:Nat),(scKV S i l).map (·.1)=l
 |[],i=>rfl
 |x::r,i=>by rw[scKV,zMc,qlo S r]
theorem qqc {S:Int} {l:List Nm} {i:Nat} (h:i<l.length) (hn:l.Nodup):GL.kvPut (scKV S 0 (l.take i)) l[i] (int .i64 (S+3+(i:Nat)))=scKV S 0 (l.take (i+1)):=by
 rw[List.take_succ_eq_append_getElem h,qnF,List.length_take,Nat.zero_add,Nat.min_eq_left zo];refine qny ?_;rw[qlo];intro hm;rw[<-List.take_append_drop i l,List.drop_eq_getElem_cons h,List.nodup_append] at hn;exact hn.2.2 _ hm _ zMs rfl
theorem qkf (S:Int) (k:Nm):∀ (l:List Nm) (i:Nat),GL.kvGet (scKV S i l) k=if k∈l then some (int .i64 (S+3+((i+l.idxOf k:Nat):Int))) else none
 |[],i=>rfl
 |x::r,i=>by
  rw[scKV,GL.kvGet]
  by_cases h:x=k
  ·rw[if_pos h,if_pos (by rw[h];exact List.mem_cons_self ..),List.idxOf_cons,h]
   simp
  ·rw[if_neg h,qkf S k r (i+1)]
   by_cases hm:k∈r
   ·rw[if_pos hm,if_pos (zMo _ hm),List.idxOf_cons,cond_eq_ite,if_neg (by simpa using h)];congr 4;omega
   ·rw[if_neg hm,if_neg (by rw[zMi];exact fun g=>g.elim (fun e=>h e.symm) hm)]
def arKV (l:List (Nm×Int)):KV:=l.map fun p=>(p.1,int .i64 p.2)
theorem qp6 {l:List (Nm×Int)} {i:Nat} (h:i<l.length) (hn:(l.map (·.1)).Nodup):GL.kvPut (arKV (l.take i)) l[i].1 (int .i64 l[i].2)=arKV (l.take (i+1)):=by
 unfold arKV;rw[List.take_succ_eq_append_getElem h,zMa];refine qny ?_;rw[List.map_map];intro hm
 have e1:l.map (·.1)=(l.take i).map (·.1)++l[i].1::(l.drop (i+1)).map (·.1):=by
  conv=>lhs;rw[<-List.take_append_drop i l,List.drop_eq_getElem_cons h]
  rw[zMa,zMc]
 rw[e1,List.nodup_append] at hn;exact hn.2.2 _ hm _ zMs rfl
theorem qnN (name:Nm):∀ (l:List (Nm×Int)) (a:Int),(GL.kvGet (arKV (symA a l)) name).getD (int .i64 0)=int .i64 (arrA a l name)
 |[],a=>rfl
 |(x,n)::r,a=>by
  rw[symA,arrA];show (GL.kvGet ((x,int .i64 a)::arKV (symA (a+n) r)) name).getD (int .i64 0)=_;rw[GL.kvGet];simp only
  by_cases h:x=name
  ·rw[if_pos h,if_pos h];rfl
  ·rw[if_neg h,if_neg h];exact qnN name r (a+n)
def qkK:Except Int Wd->LV
 |.error e=>.tuple [str [],int .i64 e]
 |.ok t=>.tuple [str t,int .i64 0]
theorem tb_ok {P:Pr} {o:Org} (hF:FitN P o) (own:Nm) (ho:own.length<=1000000) (b1 b2 b3 g1 g2:Nat):TBok ⟨b1,b2,b3,scKV o.scalars 0 (qat P.vars P.funcs),arKV (symA o.arrays (qbK P)),g1,g2,o.scalars.toNat⟩ (ccF P.vars (qbK P) P.funcs o own) own:=by
 have s0:=hF.s0;have s1:=hF.s1;have a0:=hF.a0;have a1:=hF.a1
 have hp:∀ p∈qbK P,0<=p.2:=fun p hp=>by
  obtain ⟨a,_,rfl⟩:=List.mem_map.1 hp;exact Int.natCast_nonneg _
 have hpl:∀ k,0<=qec (qat P.vars P.funcs) o.scalars k/\qec (qat P.vars P.funcs) o.scalars k<=262144/\(k∈qat P.vars P.funcs->int .i64 (o.scalars+3+((0+(qat P.vars P.funcs).idxOf k:Nat):Int))=int .i64 (((qec (qat P.vars P.funcs) o.scalars k).toNat:Nat):Int)):=fun k=>by
  unfold qec
  by_cases h:k∈qat P.vars P.funcs
  ·have:=List.idxOf_lt_length_of_mem h;rw[if_pos h];exact ⟨by omega,by omega,fun _=>qaf zo⟩
  ·rw[if_neg h];exact ⟨by omega,by omega,fun h2=>absurd h2 h⟩
 refine ⟨fun name=>?_,fun name=>?_,?_,?_,?_,?_,ho⟩
 ·refine ⟨(qec (qat P.vars P.funcs) o.scalars (keyC (qat P.vars P.funcs) own name)).toNat,?_,?_,?_⟩
  ·have:=hpl (keyC (qat P.vars P.funcs) own name);omega
  ·exact qcc (hpl _).1
  ·show (∃ v,GL.kvGet (scKV o.scalars 0 (qat P.vars P.funcs)) (own++[46]++name)=some v/\_)∨(GL.kvGet (scKV o.scalars 0 (qat P.vars P.funcs)) (own++[46]++name)=none/\(GL.kvGet (scKV o.scalars 0 (qat P.vars P.funcs)) name).getD _=_);rw[qkf,qkf];unfold keyC
   by_cases h:own++[46]++name∈qat P.vars P.funcs
   ·left;rw[if_pos h,if_pos h];exact ⟨_,rfl,(hpl _).2.2 h⟩
   ·right;rw[if_neg h,if_neg h];refine ⟨rfl,?_⟩
    by_cases h2:name∈qat P.vars P.funcs
    ·rw[if_pos h2];exact (hpl _).2.2 h2
    ·rw[if_neg h2];unfold qec;rw[if_neg h2];rfl
 ·have h1:=qgE (qbK P) o.arrays a0 hp name;have h2:=qmW (qbK P) o.arrays a0 hp name;have h3:((qbK P).map (·.2)).sum=((totA P.arrays:Nat):Int):=qfs P.arrays;rw[h3] at h2;refine ⟨(arrA o.arrays (qbK P) name).toNat,by omega,qcc h1,?_⟩;show (GL.kvGet (arKV (symA o.arrays (qbK P))) name).getD _=_;rw[qnN];exact qaf zo
 ·exact qcc s0
 ·show itoa (o.scalars+1)=_;rw[qcc zo];congr 1;show _=o.scalars.toNat+1;omega
 ·show itoa (o.scalars+2)=_;rw[qcc zo];congr 1;show _=o.scalars.toNat+2;omega
 ·show o.scalars.toNat<=_;omega
theorem qgh {s:Nm} (h:isNm s=true):s.length<=24:=by
 unfold isNm at h;rw[zBa,zBa,zDe] at h;exact h.1.1
theorem qp7 {P:Pr} (hv:Valid P) {f:FnD} (hf:f∈P.funcs) (hown:∀ x∈f.params++f.locals,x.length<=24) {kn:List FSum} (hk:qkk P.funcs kn):EnvOk (envF P.vars (P.arrays.map (·.name)) (P.funcs.map (·.name)) kn f):=by
 have hfr:=qbB _ _ hv.names;refine ⟨fun s hs=>?_,fun k hk'=>?_⟩
 ·unfold qbj at hs;split at hs
  ·rename_i h
   rcases h with h|h
   ·exact qgh (hfr.2 s (List.mem_append_left _ (List.mem_append_left _ h))).2
   ·exact hown s h
  ·split at hs <;> cases hs
 ·obtain ⟨g,g1,g2,_⟩:=hk k hk';rw[<-g2];exact qgh (hfr.2 _ (List.mem_append_right _ (List.mem_map_of_mem g1))).2
theorem qeq:∀ (vars arrays later:List Nm) (known:List FSum) (fs:List FnD),qcf vars arrays later known fs=0->∀ f∈fs,∀ x∈f.params++f.locals,x.length<=24
 |_,_,_,_,[],_,f,hf=>(List.not_mem_nil hf).elim
 |vars,arrays,later,known,g::l,h,f,hf=>by
  rw[qcf] at h;obtain ⟨h1,h2⟩:=qad.1 h;rcases zMi.1 hf with rfl|hf
  ·unfold errF at h1;intro x hx;exact qgh ((qbB _ _ (qad.1 h1).1).2 x hx).2
  ·exact qeq vars arrays later _ l h2 f hf
theorem qsM {t s a b3 b2:Nat×LObj}:[t,b3,s,a,b2].Perm ([t,s,a]++[b3,b2]):=List.Perm.cons _ ((List.Perm.swap _ _ _).trans (List.Perm.cons _ (List.Perm.swap _ _ _)))
attribute [local irreducible] LOps qae qag LCalls Go.GL.Pure qaA qaq qah LQ LAny qaF qap LS
section
variable {B0:Nat} {w0:World}
theorem qlU (hG:GW B0 w0) (hM:Asm.GM w0) (vars:List Nm) (arrays:List (Nm×Int)) (fs:List FnD) (o:Org) (hv6:vars.length<=2000000) (ha6:arrays.length<=2000000) (har:∀ a∈arrays,I64 a.2) (hnd:ndFs fs<=2000000) (hnum:∀ f∈fs,qcA f.body) (o1:I64 o.code) (o2:I64 o.scalars) (o3:I64 o.arrays) :
  LCalls (KC B0 w0) 9 [Chk.encPrG vars arrays fs,qcM o] [] (Ret (qkK (cmpP vars arrays fs o))):=by
 have hck:=Chk.check_spec (B0:=B0) (w0:=w0) vars arrays fs hv6 ha6 har hnd;have hf6:=qdF fs;have hsm:∀ f∈fs,SmF f:=fun f hf=>qi5 (by have:=qc8 hf;omega);generalize hC:cmpP vars arrays fs o=R;unfold cmpP at hC;have ePr:Chk.encPrG vars arrays fs=.agg [.list (vars.map str),.list (arrays.map Chk.encArG),.list (fs.map qav)]:=rfl;have eOr:qcM o=.agg [int .i64 o.code,int .i64 o.scalars,int .i64 o.arrays]:=rfl;rw[ePr,eOr];refine cI Tryz.func9 rfl (n:=102) rfl rfl rfl ?_;refine gag ?_;refine oS (sB rfl fun b2=>?_) rfl;refine oS (sB rfl fun b3=>?_) rfl;refine gab ?_;refine oS (S.callH (H1:=[]) (F:=[_,_]) [_] rfl zpr hck ?_ (by rintro ch H' ⟨_,nm,h⟩;cases h)) rfl;rintro lv H' ⟨rfl,nm,h⟩;cases h;refine gab ?_
 by_cases hc0:qb1 vars arrays fs=0
 rotate_left
 ·exact zT30
 refine oC rfl (fun hc=>?_) (fun _=>?_)
 ·have h2:(!decide (qb1 vars arrays fs=0))=true:=hc;simp[hc0] at h2
 rw[if_neg (by simpa using hc0)] at hC;obtain ⟨ht,hp,hPa,hPc,hV⟩:=qeS hc0
 have hown:∀ f∈fs,∀ x∈f.params++f.locals,x.length<=24:=by
  have h:=hc0;unfold qb1 at h;exact qeq _ _ _ _ _ (qad.1 (qad.1 (qad.1 h).2).2).1
 have hfr:=qbB _ _ hV.names;have hfn:∀ f∈fs,f.name.length<=24:=fun f hf=>qgh (hfr.2 _ (List.mem_append_right _ (List.mem_map_of_mem hf))).2;have hn:∀ f∈fs,f.name.length<=1000/\∀ x∈f.params++f.locals,x.length<=1000:=fun f hf=>⟨by have:=hfn f hf;omega,fun x hx=>by have:=hown f hf x hx;omega⟩;have hsc8:(qat vars fs).length<=8000:=hV.few;have hft:=qpp (B0:=B0) (w0:=w0) vars arrays fs o hv6 zo ha6 hsm hn hp ht hsc8 o1 o2 o3;rw[ePr,eOr] at hft;refine gab ?_;refine oS (sF [_,_] rfl hft ?_) rfl;refine gad ?_
 by_cases hfit:qdI vars arrays fs o=true
 rotate_left
 ·rw[if_pos (by simpa using hfit)] at hC;subst hC;refine oC rfl (fun _=>?_) (fun hc=>?_)
  ·refine gap ?_;exact qac rfl (rC (zrt rfl) (zra rfl)) rfl
  ·have h2:(!qdI vars arrays fs o)=false:=hc;simp at h2;exact absurd h2 hfit
 refine oC rfl (fun hc=>?_) (fun _=>?_)
 ·have h2:(!qdI vars arrays fs o)=true:=hc;rw[hfit] at h2;cases h2
 rw[if_neg (by rw[hfit];decide)] at hC;have hfitP:qdI (prOf vars arrays fs).vars (qbK (prOf vars arrays fs)) (prOf vars arrays fs).funcs o=true:=by rw[hPa];exact hfit
 have hF:=qjS hfitP;have hS:=Chk.scalars_specG (B0:=B0) (w0:=w0) (vars:=vars) (fs:=fs) (.list (arrays.map Chk.encArG)) hv6 zo hsm hn;have hT:=hF.s1;have hS0:=hF.s0;have hA1:=hF.a1;have hA0:=hF.a0;have hkeys:(qat vars fs).Nodup:=hV.keys
 have htot:(arrays.map (·.2)).sum=((totA (prOf vars arrays fs).arrays:Nat):Int):=by
  have:=qfs (prOf vars arrays fs).arrays;rw[<-this];congr 2;exact hPa.symm
 have hAs:=qmr (B0:=B0) (w0:=w0) vars arrays fs o ha6 hp hA0 (by rw[htot];omega);rw[ePr,eOr] at hAs;have hT2:o.scalars.toNat+3+(qat vars fs).length<=262144:=hT;refine gaa ?_;refine oS (S.kvNew fun sm=>?_) rfl;refine oS (S.kvNew fun am=>?_) rfl;refine gac ?_;refine oS (sB rfl fun tb=>?_) rfl;refine gab ?_;refine oS (sF [_] rfl hS ?_) rfl;have hsl:((qat vars fs).map str).length=(qat vars fs).length:=zLm _;refine gad ?_;generalize hsl2:qat vars fs=sl at *
 refine oL (fun kk ls H'=>∃ (i g1:Nat),i<=sl.length/\kk=sl.length-i/\ls=[(2,ptr b2 0),(3,ptr b3 0),(8,ptr tb 0),(39,.list (sl.map str)),(40,int .i64 sl.length),(41,int .i64 (i:Nat))]/\H'=[(tb,.cells 57 [qaa,int .i64 0,int .i64 o.scalars,.atom (.map (some sm)),.atom (.map (some am)),str []]),(b3,.cells 23 [int .i64 o.code,int .i64 o.scalars,int .i64 o.arrays]),(sm,.map (kvs (scKV o.scalars 0 (sl.take i))) g1),(am,.map (kvs []) 0),(b2,.cells 34 [.list (vars.map str),.list (arrays.map Chk.encArG),.list (fs.map qav)])])
  ⟨_,_,_,⟨0,0,Nat.zero_le _,rfl,rfl,rfl⟩,⟨rfl,rfl,rfl,rfl,qaf zo,rfl,trivial⟩,zhP pH (zhP zp2 (zhP zp1 zhr))⟩ ?_
 rintro kk ls H' ⟨i,g1,hi,rfl,rfl,rfl⟩ j hj;refine gai ?_;refine oC rfl (fun hc=>?_) (fun hc=>?_)
 ·have hlt:i<sl.length:=by have:=zt hc;omega
  have htk:=qqc (S:=o.scalars) hlt hkeys;refine gaa ?_;refine oP (xR (el':=str sl[i]) (cs:=[str sl[i]]) rfl rfl zo (qa0 _ _ _ hlt) rfl rfl) rfl ?_;refine gac ?_;refine cD (m:=11) rfl [(tb,.cells 57 [qaa,int .i64 0,int .i64 o.scalars,.atom (.map (some sm)),.atom (.map (some am)),str []]),(b3,.cells 23 [int .i64 o.code,int .i64 o.scalars,int .i64 o.arrays])] ?_;refine zQ76 ?_;refine aT 3 rfl rfl (pL (c:=.atom _) rfl zm0 rfl) ?_;refine aT 4 rfl rfl (pM (lv:=.atom _) rfl) ?_;refine aT 5 rfl rfl (pF rfl) ?_;refine aT 6 rfl rfl (pL (c:=.atom _) rfl zm1 rfl) ?_;refine aT 7 rfl rfl (Pure.add rfl rfl zo) ?_;refine aT 8 rfl rfl (pM (lv:=.atom _) rfl) ?_;refine aT 9 rfl rfl (Pure.add rfl rfl zo) ?_;refine aL ?_ qhz;refine lO 10 (lS (H1:=[(sm,.map (kvs (scKV o.scalars 0 (sl.take i))) g1)]) rfl (.inl rfl) rfl (show Pick _ _ _ from pT zp1) qhz (S.kvSet (k:=sl[i]) (lv:=int .i64 (o.scalars+3+(i:Nat))) rfl rfl rfl pH fun g1'=>?_));rw[htk];refine lD zk ?_;refine gat ?_;exact ⟨_,_,_,by omega,⟨i+1,g1',by omega,rfl,rfl,rfl⟩,⟨rfl,rfl,rfl,rfl,rfl,qaf zo,trivial⟩,zhP zp1 (zhP zp1 zhr),hj⟩
 have hi':i=sl.length:=by have:=zf hc;omega
 subst hi';rw[List.take_length];have hyl:=qga arrays o.arrays
 have hyn:((symA o.arrays arrays).map (·.1)).Nodup:=by
  rw[qg1];have h1:=(List.nodup_append.1 (List.nodup_append.1 hfr.1).1).2.1
  have e1:(prOf vars arrays fs).arrays.map (·.name)=arrays.map (·.1):=by
   unfold prOf;rw[List.map_map];rfl
  rw[e1] at h1;exact h1
 have hym:((symA o.arrays arrays).map qdd).length=(symA o.arrays arrays).length:=zLm _;refine gab ?_;refine oS (sF [_,_] rfl hAs ?_) rfl;refine gab ?_;generalize hyy:symA o.arrays arrays=ys at *;refine oC rfl (fun h=>by cases h) (fun _=>?_);refine gaa ?_
 refine oL (fun kk ls H'=>∃ (i g2:Nat),i<=ys.length/\kk=ys.length-i/\ls=[(2,ptr b2 0),(3,ptr b3 0),(8,ptr tb 0),(66,.list (ys.map qdd)),(67,int .i64 ys.length),(68,int .i64 (i:Nat))]/\H'=[(tb,.cells 57 [qaa,int .i64 0,int .i64 o.scalars,.atom (.map (some sm)),.atom (.map (some am)),str []]),(b3,.cells 23 [int .i64 o.code,int .i64 o.scalars,int .i64 o.arrays]),(sm,.map (kvs (scKV o.scalars 0 sl)) g1),(am,.map (kvs (arKV (ys.take i))) g2),(b2,.cells 34 [.list (vars.map str),.list (arrays.map Chk.encArG),.list (fs.map qav)])])
  ⟨_,_,_,⟨0,0,Nat.zero_le _,rfl,rfl,rfl⟩,⟨rfl,rfl,rfl,rfl,qaf zo,rfl,trivial⟩,zhR _⟩ ?_
 rintro kk ls H' ⟨i,g2,hi,rfl,rfl,rfl⟩ j2 hj2;refine gai ?_;refine oC rfl (fun hc=>?_) (fun hc=>?_)
 ·have hlt:i<ys.length:=by have:=zt hc;omega
  have htk:=qp6 hlt hyn;refine gak ?_;refine oP (xR (el':=qdd ys[i]) (cs:=[_,_]) rfl rfl zo (qa0 _ _ _ hlt) rfl rfl) rfl ?_;refine gac ?_;refine oS (sA fun b14=>?_) rfl;refine gad ?_;refine cD (m:=9) rfl [(b14,.cells 62 [str ys[i].1,int .i64 ys[i].2]),(tb,.cells 57 [qaa,int .i64 0,int .i64 o.scalars,.atom (.map (some sm)),.atom (.map (some am)),str []])] ?_;refine zQ76 ?_;refine aT 3 rfl rfl (pL (c:=.atom _) rfl zm1 rfl) ?_;refine aT 4 rfl rfl (pF rfl) ?_;refine aT 5 rfl rfl (pL (c:=.atom _) rfl zm0 rfl) ?_;refine aT 6 rfl rfl (pF rfl) ?_;refine aT 7 rfl rfl (pL (c:=.atom _) rfl zm0 rfl) ?_;refine aL ?_ qhz;refine lO 8 (lS (H1:=[(am,.map (kvs (arKV (ys.take i))) g2)]) rfl (.inl rfl) rfl (show Pick _ _ _ from pT zp3) qhz (S.kvSet (k:=ys[i].1) (lv:=int .i64 ys[i].2) rfl rfl rfl pH fun g2'=>?_));rw[htk];refine lD zk ?_;refine gat ?_;exact ⟨_,_,_,by omega,⟨i+1,g2',by omega,rfl,rfl,rfl⟩,⟨rfl,rfl,rfl,rfl,rfl,qaf zo,trivial⟩,zhP zp2 (zhP zp2 (zhP zp2 (zhP pH (zhD zhr)))),hj2⟩
 have hi':i=ys.length:=by have:=zf hc;omega
 subst hi';rw[List.take_length];have htb:=fun own ho=>tb_ok (P:=prOf vars arrays fs) hF own ho tb sm am g1 g2;rw[hPa] at htb;have hW:=qh3 hPc hnum hfitP hnd;have hjt:=qeQ (qel (prOf vars arrays fs) o)
 have hwc:qel (prOf vars arrays fs) o=prW vars arrays fs o:=by
  unfold qel;rw[hPa];rfl
 rw[hwc] at hW hjt;have hcc:ccF (prOf vars arrays fs).vars arrays (prOf vars arrays fs).funcs o=ccF vars arrays fs o:=rfl;rw[hPa,hcc] at hW;have hwl:=qsA (prW vars arrays fs o);have hnf:ndFs (prOf vars arrays fs).funcs=ndFs fs:=rfl;rw[hnf] at hW
 have hpw:prW vars arrays fs o=[[38,102,95,109,97,105,110],[58],decDigits o.scalars.toNat,[33],[36]]++(fnWs (ccF vars arrays fs o) 0 fs).1:=by
  unfold prW;rw[qcc hS0]
 have hpl:(prW vars arrays fs o).length=5+(fnWs (ccF vars arrays fs o) 0 fs).1.length:=by
  rw[hpw,zLa];rfl
 have hTr:TrH ⟨tb,sm,am,scKV o.scalars 0 sl,arKV ys,g1,g2,o.scalars.toNat⟩ [] [] 0 [(tb,.cells 57 [qaa,int .i64 0,int .i64 o.scalars,.atom (.map (some sm)),.atom (.map (some am)),str []]),(sm,.map (kvs (scKV o.scalars 0 sl)) g1),(am,.map (kvs (arKV ys)) g2)]:=⟨qaa,[],Acc.nil,by
  simp only;rw[Int.toNat_of_nonneg hS0]
  rfl⟩
 have hpg:=qdw (B0:=B0) (w0:=w0) hG (k:=⟨tb,sm,am,scKV o.scalars 0 sl,arKV ys,g1,g2,o.scalars.toNat⟩) (cc:=ccF vars arrays fs o) (by show o.scalars.toNat<=_;omega) vars arrays fs hnd (fun f hf=>by
  obtain ⟨kn,k1,k2⟩:=hV.bodies f hf;refine ⟨?_,hfn f hf,fun p hp=>by have:=hown f hf p (List.mem_append_left _ hp);omega,hnum f hf,_,qp7 hV hf (hown f hf) k2,k1⟩;have:=htb f.name (by have:=hfn f hf;omega);rw[<-hsl2,<-hyy];exact this) (own0:=[]) (c0:=ccF vars arrays fs o []) (by
  have:=htb [] zDd;rw[<-hsl2,<-hyy]
  exact this) _ hTr zo
 rw[ePr] at hpg;refine gab ?_;refine oS (zsT (F:=[_,_]) [_,_] rfl qsM hpg fun H2 h2=>?_) rfl;obtain ⟨own,n,h2⟩:=h2;rw[<-hpw] at h2;generalize prW vars arrays fs o=W at *;obtain ⟨v,Hv,hacc,rfl⟩:=h2;have j0:=Asm.joinS_spec (B0:=B0) (w0:=w0) [32] W zo zo;have hasm:=Asm.assemble_spec (B0:=B0) (w0:=w0) hG hM (join W [32]) o.code zo;refine gaa ?_;refine oP (pL (c:=v) rfl zm2 rfl) rfl ?_;refine LOps.sub 87 rfl hacc.sub ?_;refine oS (sF [_,_] rfl j0 ?_) rfl;refine gaa ?_
 cases hx:asmP (join W [32]) o.code with
 |error e=>
  rw[hx] at hasm hC;simp only at hC;subst hC;refine oS (sF [_,_] rfl hasm ?_) rfl;unfold Asm.asmLV;refine gab ?_
  have he:¬ (e.2:Int)=0:=by
   have h3:=hF.c1;have h4:=hF.c0;have:=qnC zo hx;omega
  refine oC rfl (fun _=>?_) (fun hc=>?_)
  ·refine gaa ?_;exact qac (hj2.trans hj) (rC (zrt rfl) (zra rfl)) rfl
  ·have h2:(!decide ((e.2:Int)=0))=false:=hc;simp at h2
   omega
 |ok x=>
  rw[hx] at hasm hC;simp only at hC;subst hC;refine oS (sF [_,_] rfl hasm ?_) rfl;unfold Asm.asmLV;refine gab ?_;refine oC rfl (fun hc=>by cases hc) (fun _=>?_);refine gaa ?_;exact qac (hj2.trans hj) (rC (zrt rfl) (zra rfl)) rfl
end
end Go.Proofs.YthmhncflhnbedaaGreatDoor.Cmp
namespace Go.Stele
mutual
theorem qkP:∀ {e:Ex} {k:Nat} {ts:List KT} {d:Nat},PE e k ts d->ndE e<=ts.length/\numE e
 |_,_,_,_,.num h=>⟨by rw[ndE,ndEs];exact zNr _,by rw[numE];exact ⟨h,trivial⟩⟩
 |_,_,_,_,.var h=>⟨by rw[ndE,ndEs];exact zNr _,by rw[numE];exact ⟨by unfold Lt;omega,trivial⟩⟩
 |_,_,_,_,.elem h ha=>by
  obtain ⟨h1,h2⟩:=qkP ha;refine ⟨?_,?_⟩
  ·rw[ndE,ndEs,ndEs];simp only[zLa,zLc,zLn];omega
  ·rw[numE,qbd,qbd]
   exact ⟨by unfold Lt;omega,h2,trivial⟩
 |_,_,_,_,.call h hl=>by
  obtain ⟨h1,h2⟩:=qnx hl;refine ⟨?_,?_⟩
  ·rw[ndE];simp only[zLa,zLc,zLn];omega
  ·rw[numE]
   exact ⟨by unfold Lt;omega,h2⟩
 |_,_,_,_,.neg ha=>by
  obtain ⟨h1,h2⟩:=qkP ha;refine ⟨?_,?_⟩
  ·rw[ndE,ndEs,ndEs];simp only[zLa,zLc,zLn];omega
  ·rw[numE,qbd,qbd]
   exact ⟨by unfold Lt;omega,h2,trivial⟩
 |_,_,_,_,.not ha=>by
  obtain ⟨h1,h2⟩:=qkP ha;refine ⟨?_,?_⟩
  ·rw[ndE,ndEs,ndEs];simp only[zLa,zLc,zLn];omega
  ·rw[numE,qbd,qbd]
   exact ⟨by unfold Lt;omega,h2,trivial⟩
 |_,_,_,_,.bin hs ho hk ha hb=>by
  obtain ⟨h1,h2⟩:=qkP ha;obtain ⟨h3,h4⟩:=qkP hb;refine ⟨?_,?_⟩
  ·rw[ndE,ndEs,ndEs,ndEs];simp only[zLa,zLc,zLn];omega
  ·rw[numE,qbd,qbd,qbd]
   exact ⟨by unfold Lt;omega,h2,h4,trivial⟩
 |_,_,_,_,.par hs ho hk ha hb=>by
  obtain ⟨h1,h2⟩:=qkP ha;obtain ⟨h3,h4⟩:=qkP hb;refine ⟨?_,?_⟩
  ·rw[ndE,ndEs,ndEs,ndEs];simp only[zLa,zLc,zLn];omega
  ·rw[numE,qbd,qbd,qbd];exact ⟨by unfold Lt;omega,h2,h4,trivial⟩
theorem qnx:∀ {l:List Ex} {ts:List KT} {d:Nat},PEs l ts d->ndEs l<=ts.length/\qbd l
 |_,_,_,.nil=>⟨by rw[ndEs];exact Nat.zero_le _,by rw[qbd];trivial⟩
 |_,_,_,.one ha=>by
  obtain ⟨h1,h2⟩:=qkP ha;rw[ndEs,ndEs,qbd,qbd]
  exact ⟨by omega,h2,trivial⟩
 |_,_,_,.more ha hl=>by
  obtain ⟨h1,h2⟩:=qkP ha;obtain ⟨h3,h4⟩:=qnx hl;refine ⟨?_,?_⟩
  ·rw[ndEs];simp only[zLa,zLc];omega
  ·rw[qbd];exact ⟨h2,h4⟩
end
theorem qjd {e:Ex} {ts:List KT} {d:Nat} (h:PE e 0 ts d):ndEs [e]<=ts.length/\qbd [e]:=qnx (.one h)
mutual
theorem PS_nd:∀ {s:Sm} {ts:List KT} {d:Nat},PS s ts d->ndS s<=ts.length/\numS s
 |_,_,_,.assign h he=>by
  obtain ⟨h1,h2⟩:=qjd he;refine ⟨?_,?_⟩
  ·rw[ndS,ndEs,ndSs];simp only[zLa,zLc,zLn];omega
  ·rw[numS,qcA]
   exact ⟨by rw[qbd];trivial,h2,trivial,trivial⟩
 |_,_,_,.store h hx he=>by
  obtain ⟨h1,h2⟩:=qjd he;obtain ⟨h3,h4⟩:=qjd hx;refine ⟨?_,?_⟩
  ·rw[ndS,ndSs];simp only[zLa,zLc,zLn];omega
  ·rw[numS,qcA]
   exact ⟨h4,h2,trivial,trivial⟩
 |_,_,_,.call h hl=>by
  obtain ⟨h1,h2⟩:=qnx hl;refine ⟨?_,?_⟩
  ·rw[ndS,ndSs,ndEs,ndEs,ndEs,ndE];simp only[zLa,zLc,zLn];omega
  ·rw[numS,qcA,qbd,qbd,qbd,numE]
   exact ⟨trivial,⟨⟨by unfold Lt;omega,h2⟩,trivial⟩,trivial,trivial⟩
 |_,_,_,.ret he=>by
  obtain ⟨h1,h2⟩:=qjd he;refine ⟨?_,?_⟩
  ·rw[ndS,ndSs];simp only[zLa,zLc,zLn];have:ndEs []=0:=by rw[ndEs]
   omega
  ·rw[numS,qcA]
   exact ⟨by rw[qbd];trivial,h2,trivial,trivial⟩
 |_,_,_,.halt=>by
  refine ⟨?_,?_⟩
  ·rw[ndS,ndSs,ndEs];simp only[zLc,zLn];omega
  ·rw[numS,qcA,qbd]
   exact ⟨trivial,trivial,trivial,trivial⟩
 |_,_,_,.ifElse he h1 h2 hne=>by
  obtain ⟨a1,a2⟩:=qjd he;obtain ⟨b1,b2⟩:=qjL h1;obtain ⟨c1,c2⟩:=qjL h2;refine ⟨?_,?_⟩
  ·rw[ndS];simp only[zLa,zLc,zLn];have:ndEs []=0:=by rw[ndEs]
   omega
  ·rw[numS]
   exact ⟨by rw[qbd];trivial,a2,b2,c2⟩
 |_,_,_,.ifThen he h1=>by
  obtain ⟨a1,a2⟩:=qjd he;obtain ⟨b1,b2⟩:=qjL h1;refine ⟨?_,?_⟩
  ·rw[ndS];simp only[zLa,zLc,zLn];have:ndEs []=0:=by rw[ndEs]
   have:ndSs []=0:=by rw[ndSs]
   omega
  ·rw[numS]
   exact ⟨by rw[qbd];trivial,a2,b2,by rw[qcA];trivial⟩
 |_,_,_,.while he h1=>by
  obtain ⟨a1,a2⟩:=qjd he;obtain ⟨b1,b2⟩:=qjL h1;refine ⟨?_,?_⟩
  ·rw[ndS];simp only[zLa,zLc,zLn];have:ndEs []=0:=by rw[ndEs]
   have:ndSs []=0:=by rw[ndSs]
   omega
  ·rw[numS];exact ⟨by rw[qbd];trivial,a2,b2,by rw[qcA];trivial⟩
theorem qjL:∀ {l:List Sm} {ts:List KT} {d:Nat},PSs l ts d->ndSs l<=ts.length/\qcA l
 |_,_,_,.nil=>⟨by rw[ndSs];exact Nat.zero_le _,by rw[qcA];trivial⟩
 |_,_,_,.cons h hl=>by
  obtain ⟨h1,h2⟩:=PS_nd h;obtain ⟨h3,h4⟩:=qjL hl;refine ⟨?_,?_⟩
  ·rw[ndSs];simp only[zLa];omega
  ·rw[qcA];exact ⟨h2,h4⟩
end
theorem qrx:∀ (fs:List FnD) (ts:List KT),PFs fs ts->ndFs fs<=ts.length/\∀ f∈fs,qcA f.body
 |[],ts,h=>⟨by rw[ndFs];exact Nat.zero_le _,fun f hf=>(List.not_mem_nil hf).elim⟩
 |f::fs,ts,h=>by
  cases h with
  |cons h hd hl=>
   obtain ⟨h1,h2⟩:=qrx fs _ hl
   cases h with
   |mk hn hp hlo hb=>
    rename_i nm ps ls b ts' d'
    obtain ⟨h3,h4⟩:=qjL hb;have h5:=qqk ps;have h6:=qqe ls;refine ⟨?_,?_⟩
    ·rw[ndFs];unfold ndF;simp only[zLa,zLc,zLn];omega
    ·intro f hf;rcases zMi.1 hf with rfl|hf
     ·exact h4
     ·exact h2 f hf
theorem qqR (l:List Ar):l.length<=((l.map arK).flatten).length:=by
 induction l with
 |nil=>exact Nat.zero_le _
 |cons a l ih=>
  rw[zMc,List.flatten_cons,zLa];unfold arK;simp only[zLc,zLn];unfold arK at ih;omega
structure SzP (p:Pr) (n:Nat):Prop where
 vars:p.vars.length<=n
 arrays:p.arrays.length<=n
 size:∀ a∈p.arrays,a.size<4294967296
 funcs:ndFs p.funcs<=n
 nums:∀ f∈p.funcs,qcA f.body
theorem PP_nd {p:Pr} {ts:List KT} (h:PP p ts):SzP p ts.length:=by
 cases h with
 |mk hv ha hf=>
  rename_i v a f ts
  obtain ⟨h1,h2⟩:=qrx f ts hf;have h3:=qqe v;have h4:=qqR a;refine ⟨?_,?_,fun x hx=>(ha x hx).2,?_,h2⟩ <;> · simp only[zLa];omega
theorem SzP.mono {p:Pr} {n m:Nat} (h:SzP p n) (hm:n<=m):SzP p m:=
 ⟨zNt h.vars hm,zNt h.arrays hm,h.size,zNt h.funcs hm,h.nums⟩
theorem qrf {s:List UInt8} {T:List Tok} {p:Pr} {i op:Nat} (hT:qqZ s 1=.ok T) (hs:qc2 T (10 * T.length+20) ⟨[],[],[]⟩ 0 0=some (.ok p i op)):SzP p s.length:=by
 obtain ⟨ts,h3,h4⟩:=qpH (qg6 _ _ _ _ hT) hs;exact (PP_nd h3).mono (zNt h4 (qgG _ _ _ _ hT).1)
end Go.Stele
namespace Go.Proofs.YthmhncflhnbedaaGreatDoor.Inp
open Go.GL Go.RowKit Go.Stele
theorem parse_both {s:List UInt8} (hs:s.length<=60000):∃ l,qbZ s=((qnq s).1,l,(qnq s).2)/\SzP (qnq s).1 s.length:=by
 have h0:SzP ⟨[],[],[]⟩ s.length:=⟨Nat.zero_le _,Nat.zero_le _,fun a ha=>(List.not_mem_nil ha).elim,Nat.zero_le _,fun a ha=>(List.not_mem_nil ha).elim⟩
 have hL:qbU s=qqZ s 1:=by
  unfold qbU;rw[if_neg zo];rfl
 unfold qbZ qnq;rw[hL]
 cases hT:qqZ s 1 with
 |error x=>
  obtain ⟨l,e⟩:=x
  exact ⟨l,rfl,h0⟩
 |ok T=>
  simp only;obtain ⟨r,hr⟩:=qdM T (10 * T.length+20) noPr 0 0 (Nat.zero_le _) zo;have hr':qc2 T (10 * T.length+20) ⟨[],[],[]⟩ 0 0=some r:=hr;rw[hr,hr']
  cases r with
  |err l e=>exact ⟨l,rfl,h0⟩
  |ok p i op=>exact ⟨0,rfl,qrf hT hr'⟩
theorem encPr_eq (p:Pr):qgL p=Chk.encPrG p.vars (p.arrays.map fun a=>(a.name,(a.size:Int))) p.funcs:=by
 unfold qgL Chk.encPrG;rw[List.map_map];rfl
attribute [local irreducible] LOps qae qag LCalls Go.GL.Pure qaA qaq qah LQ LAny qaF qap LS
section
variable {B0:Nat} {w0:World}
end
end Go.Proofs.YthmhncflhnbedaaGreatDoor.Inp
namespace Go.Proofs.YthmhncflhnbedaaGreatDoor.Cmp
open Go.GL Go.RowKit Go.Stele
open Go.Lib (decDigits itoa join)
def bldR (r:Pr×Int×Int) (o:Org):Wd×Int×Int:=if r.2.2≠0 then ([],r.2.1,r.2.2) else match qlp r.1.vars (qbK r.1) r.1.funcs o with
 |.error e=>([],0,e)
 |.ok x=>(x,0,0)
def qpl (b:Wd×Int×Int):LV:=.tuple [str b.1,int .i64 b.2.1,int .i64 b.2.2]
theorem qhd (s:List UInt8):SzP (qbZ s).1 60000:=by
 by_cases h:s.length<=60000
 ·obtain ⟨l,h1,h2⟩:=Inp.parse_both h;rw[h1];exact ⟨zNt h2.vars h,zNt h2.arrays h,h2.size,zNt h2.funcs h,h2.nums⟩
 ·have h0:SzP ⟨[],[],[]⟩ 60000:=⟨Nat.zero_le _,Nat.zero_le _,fun a ha=>(List.not_mem_nil ha).elim,Nat.zero_le _,fun a ha=>(List.not_mem_nil ha).elim⟩;have hL:qbU s=.error (0,6):=by unfold qbU;rw[if_pos zo]
  have:qbZ s=(noPr,0,6):=by unfold qbZ;rw[hL]
  rw[this];exact h0
theorem qoK {p:Pr} {n:Nat} (hsz:SzP p n) {o:Org} {t:Wd} (hn:n<=2000000:=by decide) (hcm:cmpP p.vars (qbK p) p.funcs o=.ok t):t.length<=300000000:=by
 have h0:=hcm
 have hpc:qb1 p.vars (qbK p) p.funcs=0:=by
  unfold cmpP at h0;split at h0
  ·cases h0
  ·rename_i h;exact Classical.not_not.1 h
 have hft:qdI p.vars (qbK p) p.funcs o=true:=by
  unfold cmpP at h0;split at h0
  ·cases h0
  split at h0
  ·cases h0
  rename_i h;simpa using h
 have hts:t=join (prW p.vars (qbK p) p.funcs o) [32]:=by
  unfold cmpP at h0;split at h0
  ·cases h0
  split at h0
  ·cases h0
  split at h0
  ·cases h0
  injection h0 with h0;exact h0.symm
 have hw:=(qh3 (P:=p) (o:=o) hpc hsz.nums hft (zNt hsz.funcs hn)).1;have hj:=qeQ (prW p.vars (qbK p) p.funcs o);have hw2:tot (prW p.vars (qbK p) p.funcs o)<=60+60 * ndFs p.funcs:=hw;have:=hsz.funcs;rw[hts];omega
attribute [local irreducible] LOps qae qag LCalls Go.GL.Pure qaA qaq qah LQ LAny qaF qap LS
section
variable {B0:Nat} {w0:World}
theorem qoh (hG:GW B0 w0) (hM:Asm.GM w0) {p:Pr} {n:Nat} (h:SzP p n) (hn:n<=2000000) (o:Org) (o1:I64 o.code) (o2:I64 o.scalars) (o3:I64 o.arrays):LCalls (KC B0 w0) 9 [qgL p,qcM o] [] (Ret (qkK (cmpP p.vars (qbK p) p.funcs o))):=by
 rw[Inp.encPr_eq]
 exact qlU hG hM _ _ _ o (zNt h.vars hn) (by rw[zLm];exact zNt h.arrays hn) (fun a ha=>by
  obtain ⟨x,hx,rfl⟩:=List.mem_map.1 ha;have:=h.size x hx;constructor
  ·show (-9223372036854775808:Int)<=(x.size:Int);omega
  ·show (x.size:Int)<9223372036854775808
   omega) (zNt h.funcs hn) h.nums o1 o2 o3
theorem qjJ (hG:GW B0 w0) (hM:Asm.GM w0) (s:List UInt8) (o:Org) (o1:I64 o.code) (o2:I64 o.scalars) (o3:I64 o.arrays):LCalls (KC B0 w0) 5 [str s,qcM o] [] (Ret (qpl (bldR (qbZ s) o))):=by
 have hps:=qpN (B0:=B0) (w0:=w0) hG s;have hsz:=qhd s;generalize qbZ s=r at hps hsz ⊢;obtain ⟨p,l,e⟩:=r;simp only at hsz;have hcp:=qoh (B0:=B0) (w0:=w0) hG hM hsz zDd o o1 o2 o3;generalize hR:bldR (p,l,e) o=R;unfold bldR at hR;simp only at hR;have eOr:qcM o=.agg [int .i64 o.code,int .i64 o.scalars,int .i64 o.arrays]:=rfl;rw[eOr] at hcp ⊢;refine cI Tryz.func5 rfl (n:=44) rfl rfl rfl ?_;refine gag ?_;refine oS (sB rfl fun b3=>?_) rfl;refine gaw ?_;refine oS (sF [_] rfl hps ?_) rfl;unfold qhW;simp only;refine gac ?_;refine oS (sA fun b7=>?_) rfl;refine gab ?_
 by_cases hc0:e=0
 rotate_left
 ·exact zT31
 refine oC rfl (fun hc=>?_) (fun _=>?_)
 ·have h2:(!decide (e=0))=true:=hc;simp[hc0] at h2
 rw[if_neg (by simpa using hc0)] at hR;unfold qlp at hR
 cases hcm:cmpP p.vars (qbK p) p.funcs o with
 |error er=>
  have hne:=qqi hcm;rw[hcm] at hR hcp;simp only at hR;subst hR;refine gab ?_;refine oS (sF [_,_] rfl hcp ?_) rfl;unfold qkK;refine gab ?_;refine oC rfl (fun _=>?_) (fun hc=>?_)
  ·refine gaa ?_;exact qac rfl (rC (zrt rfl) (rC (zrt rfl) (zra rfl))) rfl
  ·have h2:(!decide (er=0))=false:=hc;simp at h2
   exact absurd h2 hne
 |ok t=>
  obtain ⟨x,hx,_⟩:=qo3 hcm
  have htl:t.length<=300000000:=by
   have h0:=hcm
   have hpc:qb1 p.vars (qbK p) p.funcs=0:=by
    unfold cmpP at h0;split at h0
    ·cases h0
    ·rename_i h;exact Classical.not_not.1 h
   have hft:qdI p.vars (qbK p) p.funcs o=true:=by
    unfold cmpP at h0;split at h0
    ·cases h0
    split at h0
    ·cases h0
    rename_i h;simpa using h
   have hts:t=join (prW p.vars (qbK p) p.funcs o) [32]:=by
    unfold cmpP at h0;split at h0
    ·cases h0
    split at h0
    ·cases h0
    split at h0
    ·cases h0
    injection h0 with h0;exact h0.symm
   have hw:=(qh3 (P:=p) (o:=o) hpc hsz.nums hft (zNt hsz.funcs zDd)).1;have hj:=qeQ (prW p.vars (qbK p) p.funcs o);have hw2:tot (prW p.vars (qbK p) p.funcs o)<=60+60 * ndFs p.funcs:=hw;have:=hsz.funcs;rw[hts];omega
  have hasm:=Asm.assemble_spec (B0:=B0) (w0:=w0) hG hM t o.code htl;rw[hcm] at hR hcp;simp only at hR;rw[hx] at hR hasm;simp only at hR;subst hR;refine gab ?_;refine oS (sF [_,_] rfl hcp ?_) rfl;unfold qkK;refine gab ?_;refine oC rfl (fun hc=>by cases hc) (fun _=>?_);refine gab ?_;refine oS (sF [_,_] rfl hasm ?_) rfl;unfold Asm.asmLV;refine gab ?_;exact qac rfl (rC (zrt rfl) (rC (zrt rfl) (zra rfl))) rfl
def defO:Org:=⟨10000,0,100000⟩
theorem qkn:LCalls (KC B0 w0) 7 [] [] (Ret (qcM defO)):=by
 refine cI Tryz.func7 rfl (n:=2) rfl rfl rfl ?_;refine gag ?_;refine oS (sA fun b=>?_) rfl;refine gab ?_;exact qac rfl (rC (rA rfl zm0 rfl zsr) rN) rfl
def qnf:List UInt8:=[102,117,110,99,32,109,97,105,110,40,41,32,123,32,111,117,116,40,39,65,39,41,59,32,125]
theorem qp4:bldR (qbZ qnf) defO=([48,49,48,48,49,48,58,48,33,36,54,53,46,48,32,48,33,48,59],0,0):=by kernel_rfl
end
end Go.Proofs.YthmhncflhnbedaaGreatDoor.Cmp
namespace Go.GL
open Go.RowKit
def chkStrF (P : Program) (f : Field) (o : Nat) : Bool := f.name != "_" && f.offset == o && (match P.underlying f.type with | some .string => true | _ => false)
def qlx (P : Program) (f : Field) (o : Nat) : Bool := f.name != "_" && f.offset == o && (match P.underlying f.type with | some (.int .i64) => true | _ => false)
theorem qi8 {P : Program} {f : Field} {o : Nat} (h : qlx P f o = true) : f.name ≠ "_" ∧ f.offset = o ∧ P.underlying f.type = some (.int .i64) := by
 unfold qlx at h;simp only[zBa,bne_iff_ne,beq_iff_eq] at h;obtain ⟨⟨h1,h2⟩,h3⟩:=h;refine ⟨h1,h2,?_⟩;split at h3
 ·assumption
 ·cases h3
theorem qfY {P:Program} {t:TypeId} {d:TypeDesc} (hu:P.underlying t=some d) (hp:d=.string∨d=.int .i64) {xs:Array Value} {off:Nat} {v:Value} (hx:xs[off]? = some v) (w:World):(part t xs off).run P w=.ok v w:=
 run_part_plain w (by rcases hp with rfl|rfl <;> simp[Program.plainKey,hu]) hx
theorem qi0 {P:Program} {t:TypeId} (hu:P.underlying t=some (.int .i64)) (d:Nat) (a b:Int) (w:World):(Op.equalIn (d+1) t (.int .i64 a) (.int .i64 b)).run P w=.ok (decide (a=b)) w:=by
 simp only[Op.equalIn,Sem.run_bind,qab hu,Result.andThen_ok,Sem.run_pure,if_true];congr 1
section
variable {C:Ctx} {e:Env} {H:Heap} {dst:Option Nat} {ty:TypeId} {pos:String} {aft:Array Edge} {g:Option (Nat×Bool)} {x y:Operand}
end
theorem LCalls.argsSub {C:Ctx} {f:FuncId} {us bs:List LV} {H:Heap} {R:LRes->Heap->Prop} (hs:SubL us bs) (h:LCalls C f bs H R):LCalls C f us H R:=fun vs w L hr hH=>h vs w L (hs.repL hr) hH
end Go.GL
namespace Go.GL
open Go.RowKit
class TInt3 (P:Program) (t:TypeId):Prop where
 und:P.underlying t=some (.struct (P.fieldsOf t))
 apart:P.stoodInHeld t=false
 guard:P.eqGuardType P.depth t=false
 fields : ∃ f0 f1 f2 : Field, (P.fieldsOf t).toList = [f0, f1, f2] ∧ (f0.name ≠ "_" ∧ f0.offset = 0 ∧ P.underlying f0.type = some (.int .i64)) ∧ (f1.name ≠ "_" ∧ f1.offset = 1 ∧ P.underlying f1.type = some (.int .i64)) ∧ (f2.name ≠ "_" ∧ f2.offset = 2 ∧ P.underlying f2.type = some (.int .i64))
def qqr (P:Program) (t:TypeId):Bool:=(match P.underlying t with|some (.struct _)=>true|_=>false) && !P.stoodInHeld t && !P.eqGuardType P.depth t && (match (P.fieldsOf t).toList with|[f0,f1,f2]=>qlx P f0 0 && qlx P f1 1 && qlx P f2 2|_=>false)
theorem TInt3.of {P:Program} {t:TypeId} (h:qqr P t=true):TInt3 P t:=by
 unfold qqr at h;simp only[zBa,Bool.not_eq_true'] at h;obtain ⟨⟨⟨h1,h2⟩,h3⟩,h4⟩:=h;refine ⟨?_,h2,h3,?_⟩
 ·split at h1
  ·rename_i fs hu
   rw[hu];simp[Program.fieldsOf,hu]
  ·cases h1
 ·split at h4
  ·rename_i f0 f1 f2 hf
   simp only[zBa] at h4;exact ⟨f0,f1,f2,hf,qi8 h4.1.1,qi8 h4.1.2,qi8 h4.2⟩
  ·cases h4
theorem qof {P:Program} {t:TypeId} [h:TInt3 P t] (a x u:Int) (w:World) :
  (Op.equal t (.agg #[.int .i64 a,.int .i64 x,.int .i64 u]) (.agg #[.int .i64 a,.int .i64 x,.int .i64 u])).run P w=.ok true w:=by
 obtain ⟨f0,f1,f2,hf,⟨n0,o0,u0⟩,⟨n1,o1,u1⟩,⟨n2,o2,u2⟩⟩:=h.fields;rw[qfJ,run_equalIn_struct w 9999 t _ _ h.und h.apart,hf];have p0:(part f0.type #[.int .i64 a,.int .i64 x,.int .i64 u] f0.offset).run P w=.ok (.int .i64 a) w:=qfY u0 (.inr rfl) (by rw[o0];try rfl) w;have p1:(part f1.type #[.int .i64 a,.int .i64 x,.int .i64 u] f1.offset).run P w=.ok (.int .i64 x) w:=qfY u1 (.inr rfl) (by rw[o1];try rfl) w;have p2:(part f2.type #[.int .i64 a,.int .i64 x,.int .i64 u] f2.offset).run P w=.ok (.int .i64 u) w:=qfY u2 (.inr rfl) (by rw[o2];try rfl) w;have q0:(Op.equalIn 9999 f0.type (.int .i64 a) (.int .i64 a)).run P w=.ok (decide (a=a)) w:=qi0 u0 9998 a a w;have q1:(Op.equalIn 9999 f1.type (.int .i64 x) (.int .i64 x)).run P w=.ok (decide (x=x)) w:=qi0 u1 9998 x x w;have q2:(Op.equalIn 9999 f2.type (.int .i64 u) (.int .i64 u)).run P w=.ok (decide (u=u)) w:=qi0 u2 9998 u u w;simp only[Op.eqFields,n0,n1,n2,ne_eq,not_false_eq_true,if_true,Sem.run_bind,p0,q0,p1,q1,p2,q2,Result.andThen_ok,decide_true,Bool.not_true,Bool.false_eq_true,if_false,Sem.run_pure]
section
variable {C:Ctx} {e:Env} {H:Heap} {dst:Option Nat} {ty:TypeId} {pos:String} {aft:Array Edge} {g:Option (Nat×Bool)} {x y:Operand}
theorem qni {ρ:Operand->Value} {w:World} {L:Live} (h:∀ x,Rep w L (e.ev x) (ρ x)) {x:Operand} {a i j:Int} (hx:e.ev x=.agg [int .i64 a,int .i64 i,int .i64 j]):ρ x=.agg #[.int .i64 a,.int .i64 i,.int .i64 j]:=by
 have hv:=h x;rw[hx] at hv;simp only[Rep,RepL,int] at hv;obtain ⟨vs,h1,v0,r0,e0,rfl,v1,r1,e1,rfl,v2,r2,e2,rfl,e3⟩:=hv;rw[h1,e0,e1,e2,e3]
theorem Pure.eqInt3 {t yT:TypeId} [h:TInt3 C.P t] {a i j:Int} (hx:e.ev x=.agg [int .i64 a,int .i64 i,int .i64 j]) (hy:e.ev y=.agg [int .i64 a,int .i64 i,int .i64 j]) :
  Pure C ⟨dst,.binOp .eql t x y yT,ty,pos,aft,g⟩ e H (bool true):=
 .of_any fun ρ _ _ hr=>⟨_,qar,fun w'=>by
  have h1:=qni hr hx;have h2:=qni hr hy
  have he:(eqGuard .eql t x y (.agg #[.int .i64 a,.int .i64 i,.int .i64 j]) (.agg #[.int .i64 a,.int .i64 i,.int .i64 j])).run C.P w'=.ok () w':=by
   simp[eqGuard,h.guard]
  have hb:binOp .eql t (.agg #[.int .i64 a,.int .i64 i,.int .i64 j]) (.agg #[.int .i64 a,.int .i64 i,.int .i64 j])=(do Pure.pure (.bool (<-Op.equal t (.agg #[.int .i64 a,.int .i64 i,.int .i64 j]) (.agg #[.int .i64 a,.int .i64 i,.int .i64 j])))):=rfl
  simp only[execOp,h1,h2,he,hb,Sem.run_bind,Sem.run_pure,Result.andThen_ok,qof]⟩
end
end Go.GL
namespace Go.Proofs.YthmhncflhnbedaaGreatDoor.Cmp
open Go.GL Go.RowKit Go.Stele
instance:TInt3 Tryz.prog 23:=.of zk
attribute [local irreducible] LOps qae qag LCalls Go.GL.Pure qaA qaq qah LQ LAny qaF qap LS
section
variable {B0:Nat} {w0:World}
theorem qn9 (hG:GW B0 w0) (hM:Asm.GM w0):LCalls (KC B0 w0) 4 [] [] (Ret (bool true)):=by
 have hb:=qjJ (B0:=B0) (w0:=w0) hG hM qnf defO (by unfold I64;decide) (by unfold I64;decide) (by unfold I64;decide);rw[qp4] at hb;have hd:=qkn (B0:=B0) (w0:=w0);have eD:qcM defO=.agg [int .i64 10000,int .i64 0,int .i64 100000]:=rfl;rw[eD] at hb hd;unfold qpl at hb;refine cI Tryz.func4 rfl (n:=25) rfl rfl rfl ?_;refine ga0 ?_;refine oS (sF [] rfl hd ?_) rfl;refine oS (sF [_,_] rfl hb ?_) rfl;refine gaa ?_;refine oS (sF [] rfl hd ?_) rfl;refine gac ?_;refine oP (Pure.eqInt3 rfl rfl) rfl ?_;refine gad ?_;exact qac rfl (zra rfl) rfl
end
end Go.Proofs.YthmhncflhnbedaaGreatDoor.Cmp
namespace Go.Stele
open Go.Lib
def EndC (c:UInt8):Prop:=c=32∨c=10∨c=35
instance (c:UInt8):Decidable (EndC c):=by unfold EndC;infer_instance
theorem qey:qd9 []=[]:=rfl
theorem qrp {c:UInt8} (h:EndC c) (cur r:List UInt8):qch cur false (c::r)=qd9 cur++qch [] false (c::r):=by
 rcases h with rfl|rfl|rfl <;> simp[qch,qey]
theorem qr8 (com:Bool) (r:List UInt8):qch [] com (10::r)=qch [] false r:=by
 simp[qch,qey]
theorem qqs (com:Bool) (r:List UInt8):qch [] com (35::r)=qch [] true r:=by
 cases com <;> simp[qch,qey]
theorem qrr {c:UInt8} (h:c≠10) (r:List UInt8):qch [] true (c::r)=qch [] true r:=by
 simp[qch,h]
theorem qrZ (r:List UInt8):qch [] false (32::r)=qch [] false r:=by
 simp[qch,qey]
theorem qrU {c:UInt8} (h:¬ EndC c) (cur r:List UInt8):qch cur false (c::r)=qch (cur++[c]) false r:=by
 have h1:c≠32:=fun e=>h (.inl e);have h2:c≠10:=fun e=>h (.inr (.inl e));have h3:c≠35:=fun e=>h (.inr (.inr e));rw[qch,if_neg h2,if_neg zDd,if_neg h3,if_neg h1]
def qqv:Option Nat->Int
 |none => -1
 |some p=>p
def qe0 (s:List UInt8) (i:Nat):Option Nat->List UInt8
 |none=>[]
 |some p=>(s.take i).drop p
theorem qrz {s:List UInt8} {i p:Nat} (hp:p<i) (hi:i<=s.length):qe0 s i (some p)≠[]:=by
 intro h;have:=congrArg List.length h;simp only[qe0,List.length_drop,List.length_take,zLn] at this;omega
theorem qnt {s:List UInt8} {i p:Nat} (hp:p<=i) (hi:i<s.length):qe0 s (i+1) (some p)=(s.take i).drop p++[s[i]]:=by
 simp only[qe0];rw[List.take_succ_eq_append_getElem hi,List.drop_append_of_le_length (by rw[List.length_take];omega)]
theorem qjT:∀ (l:List Wd) (x:Wd),l≠[]->join (l++[x]) [32]=join l [32]++[32]++x
 |[],_,h=>absurd rfl h
 |[a],x,_=>by simp[join]
 |a::b::r,x,_=>by
  have h:=qjT (b::r) x (by simp);rw[List.cons_append,List.cons_append,qiP,<-List.cons_append,h,qiP]
  simp
end Go.Stele
namespace Go.Proofs.YthmhncflhnbedaaGreatDoor.Asm
open Go.GL Go.RowKit Go.Stele
attribute [local irreducible] LOps qae qag LCalls Go.GL.Pure qaA qaq qah LQ LAny qaF qap
section
variable {B0:Nat} {w0:World}
theorem qlt (s:List UInt8) (hs:s.length<=300000000):LCalls (KC B0 w0) 39 [str s] [] (qh0 fun lv=>∃ ts:List (Wd×Nat),lv=.list (ts.map qa1)/\ts.map (·.1)=qbo s):=by
 refine cI Tryz.func39 rfl (n:=82) rfl rfl rfl ?_;refine ga0 ?_;refine oS (S.litA [] rfl eN rfl rfl rfl fun b=>?_) rfl;refine oP (pA (lv:=.app b 0 2 []) rfl) rfl ?_;refine gaa ?_
 refine oL (fun k ls H=>∃ (i:Nat) (out:List (Wd×Nat)) (v:LV) (ln:Nat) (o:Option Nat) (com:Bool),i<=s.length/\k=s.length-i/\ls=[(0,str s),(3,v),(4,int .i64 (ln:Nat)),(5,int .i64 (qqv o)),(6,bool com),(7,int .i64 (i:Nat))]/\Acc 2 v (out.map qa1) H []/\(∀ p,o=some p->p<i/\com=false)/\out.length<=i/\ln<=i+1/\out.map (·.1)++qch (qe0 s i o) com (s.drop i)=qbo s)
  ⟨_,_,_,⟨0,[],.app b 0 2 [],1,none,false,Nat.zero_le _,rfl,rfl,Acc.row,by simp,Nat.zero_le _,by omega,qjH s⟩,⟨rfl,rfl,rfl,rfl,rfl,rfl,trivial⟩,zhR _⟩ ?_
 rintro k ls H ⟨i,out,v,ln,o,com,hi,rfl,rfl,hacc,ho,hlen,hln,hE⟩ j hj;have hol:(out.map qa1).length=out.length:=zLm _;refine gab ?_;refine oC rfl (fun hc=>?_) (fun hc=>?_)
 ·refine gab ?_;refine oB 20 rfl (fun h1=>?_) (fun h1=>?_)
  ·have hie:i=s.length:=by have:=zt h1;omega
   subst hie;rw[List.drop_length] at hE
   cases com with
   |true=>
    obtain rfl:o=none:=by
     cases o with
     |none=>rfl
     |some p=>cases (ho p rfl).2
    have hE':out.map (·.1)=qbo s:=by simpa [qch,qe0,qey] using hE
    refine gaa ?_;refine oC rfl (fun h=>by cases h) (fun h=>?_);refine gab ?_;refine oC rfl (fun h2=>?_) (fun h2=>absurd h2 (by simp));refine qae.sub (d:=3) (v:=v) rfl hacc.sub ?_;refine cW zhn ?_;refine gab ?_
    exact qb4 hj (rC (rT (v:=.list _) rfl zsr) rN) ⟨out,rfl,hE'⟩
   |false=>
    cases o with
    |none=>
     have hE':out.map (·.1)=qbo s:=by simpa [qch,qe0,qey] using hE
     refine gab ?_;refine oC rfl (fun h=>by cases h) (fun h=>?_);refine gab ?_;refine oC rfl (fun h2=>?_) (fun h2=>absurd h2 (by simp));refine qae.sub (d:=3) (v:=v) rfl hacc.sub ?_;refine cW zhn ?_;refine gab ?_
     exact qb4 hj (rC (rT (v:=.list _) rfl zsr) rN) ⟨out,rfl,hE'⟩
    |some p=>
     obtain ⟨hp,_⟩:=ho p rfl;have hne:=qrz hp (zNr s.length);have hE':out.map (·.1)++[qe0 s s.length (some p)]=qbo s:=by simpa [qch,qd9,hne] using hE
     refine gab ?_;refine oC rfl (fun h=>?_) (fun h=>by cases h);refine gag ?_;refine qih ?_;refine oP (Pure.sslice (i:=((p:Nat):Int)) (j:=((s.length:Nat):Int)) rfl ⟨_,rfl⟩ ⟨_,rfl⟩ zo zo zo) rfl ?_;refine qiR ?_;refine oS (S.acc rfl hacc rfl (by simp;rfl) rfl (by simp;omega) fun v2 H2 hacc2=>?_) rfl;refine oP (pA (lv:=v2) rfl) rfl ?_;refine gab ?_;refine oC rfl (fun h2=>?_) (fun h2=>absurd h2 (by simp));have hacc3:Acc 2 v2 ((out++[(qe0 s s.length (some p),ln)]).map qa1) H2 []:=by rw[zMa];exact hacc2
     refine qae.sub (d:=3) (v:=v2) rfl hacc3.sub ?_;refine cW zhn ?_;refine gab ?_;exact qb4 hj (rC (rT (v:=.list _) rfl zsr) rN) ⟨_,rfl,by rw[zMa];exact hE'⟩
  ·have hlt:i<s.length:=by
    have:=zf h1;have:=zt hc;omega
   rw[List.drop_eq_getElem_cons hlt] at hE;refine gal ?_;refine LOps.cut [(0,str s),(3,v),(4,int .i64 (ln:Nat)),(5,int .i64 (qqv o)),(6,bool com),(7,int .i64 (i:Nat)),(8,bool (decide (EndC s[i])))] ?_ (fun j2 hj2=>?_)
   ·refine zQ84 ?_;refine oB 26 rfl (fun g1=>?_) (fun g1=>?_)
    ·have e:s[i]=32:=(qdY _ 32 zDd).2 (zt g1);refine gad ?_;exact ⟨⟨rfl,rfl,rfl,rfl,rfl,rfl,qai (by rw[decide_eq_true (show EndC s[i] from .inl e)]),trivial⟩,rfl,rfl⟩
    ·have e1:¬ s[i]=32:=fun e=>zf g1 ((qdY _ 32 zDd).1 e);refine gal ?_;refine zQ84 ?_;refine oB 32 rfl (fun g2=>?_) (fun g2=>?_)
     ·have e:s[i]=10:=(qdY _ 10 zDd).2 (zt g2);refine gad ?_;exact ⟨⟨rfl,rfl,rfl,rfl,rfl,rfl,qai (by rw[decide_eq_true (show EndC s[i] from .inr (.inl e))]),trivial⟩,rfl,rfl⟩
     ·have e2:¬ s[i]=10:=fun e=>zf g2 ((qdY _ 10 zDd).1 e);refine gal ?_;refine zQ84 ?_
      exact ⟨⟨rfl,rfl,rfl,rfl,rfl,rfl,qai (by
       rw[decide_eq_decide];constructor
       ·exact fun e=>.inr (.inr ((qdY _ 35 zDd).2 e))
       ·rintro (e|e|e)
        ·exact absurd e e1
        ·exact absurd e e2
        ·exact (qdY _ 35 zDd).1 e),trivial⟩,rfl,rfl⟩
   refine qae.seq ?_;refine cM (A:=List (Wd×Nat)×LV×Heap×Option Nat) (fun a=>[(0,str s),(3,a.2.1),(4,int .i64 (ln:Nat)),(5,int .i64 (qqv a.2.2.2)),(6,bool com),(7,int .i64 (i:Nat)),(8,bool (decide (EndC s[i])))]) (fun a=>a.2.2.1) (fun a=>Acc 2 a.2.1 (a.1.map qa1) a.2.2.1 []/\(∀ p,a.2.2.2=some p->p<i/\com=false/\¬ EndC s[i])/\a.1.length<=i+1/\a.1.map (·.1)++qch (qe0 s i a.2.2.2) com (s[i]::s.drop (i+1))=qbo s) ?_ ?_
   ·cases com with
    |true=>
     obtain rfl:o=none:=by
      cases o with
      |none=>rfl
      |some p=>cases (ho p rfl).2
     refine gaa ?_;refine oC rfl (fun h=>by cases h) (fun h=>?_);refine gar ?_
     exact ⟨(out,v,H,none),⟨hacc,by simp,by simp only;omega,hE⟩,⟨rfl,rfl,rfl,rfl,rfl,rfl,rfl,trivial⟩,zhR _,rfl⟩
    |false=>
     cases o with
     |none=>
      refine gab ?_;refine oC rfl (fun h=>by cases h) (fun h=>?_);refine gar ?_
      exact ⟨(out,v,H,none),⟨hacc,by simp,by simp only;omega,hE⟩,⟨rfl,rfl,rfl,rfl,rfl,rfl,rfl,trivial⟩,zhR _,rfl⟩
     |some p=>
      obtain ⟨hp,_⟩:=ho p rfl;have hne:=qrz hp hi;refine gab ?_;refine oC rfl (fun h=>?_) (fun h=>?_)
      ·have hec:EndC s[i]:=zt h;rw[qrp hec] at hE;have hfl:qd9 (qe0 s i (some p))=[qe0 s i (some p)]:=by unfold qd9;rw[if_neg hne]
       rw[hfl,<-zAs] at hE;refine gag ?_;refine qih ?_;refine oP (Pure.sslice (i:=((p:Nat):Int)) (j:=((i:Nat):Int)) rfl ⟨_,rfl⟩ ⟨_,rfl⟩ zo zo zo) rfl ?_;refine qiR ?_;refine oS (S.acc rfl hacc rfl (by simp;rfl) rfl (by simp;omega) fun v2 H2 hacc2=>?_) rfl;refine oP (pA (lv:=v2) rfl) rfl ?_;refine ga0 ?_;exact ⟨(out++[(qe0 s i (some p),ln)],v2,H2,none),⟨by rw[zMa];exact hacc2,by simp,by simp;omega,by rw[zMa];exact hE⟩,⟨rfl,rfl,rfl,rfl,rfl,rfl,rfl,trivial⟩,zhR _,rfl⟩
      ·have hec:¬ EndC s[i]:=zf h;refine gar ?_;exact ⟨(out,v,H,some p),⟨hacc,by rintro q hq;cases hq;exact ⟨hp,rfl,hec⟩,by simp only;omega,hE⟩,⟨rfl,rfl,rfl,rfl,rfl,rfl,rfl,trivial⟩,zhR _,rfl⟩
   clear hE ho hlen hol hacc;rintro ⟨out2,v2,H2,o2⟩ ⟨hacc2,ho2,hlen2,hE2⟩ j3 hj3;simp only at hacc2 ho2 hlen2 hE2;have d3:=hj3.trans (hj2.trans hj)
   have hnone:(com=true∨EndC s[i])->o2=none:=fun hh=>by
    cases o2 with
    |none=>rfl
    |some p=>
     obtain ⟨_,h2,h3⟩:=ho2 p rfl;rcases hh with hh|hh
     ·rw[hh] at h2;cases h2
     ·exact absurd hh h3
   refine gab ?_;refine oC rfl (fun h=>by have:=zt h;omega) (fun h=>?_);refine gau ?_;refine zQ84 ?_;refine oC rfl (fun g1=>?_) (fun g1=>?_)
   ·have e:s[i]=35:=(qdY _ 35 zDd).2 (zt g1);obtain rfl:=hnone (.inr (.inr (.inr e)));rw[e] at hE2;rw[show qe0 s i none=[] from rfl,qqs] at hE2;refine gaw ?_;refine zQ84 ?_;refine oC rfl (fun g2=>?_) (fun g2=>?_)
    ·have e2:s[i]=10:=(qdY _ 10 zDd).2 (zt g2);rw[e] at e2;exact absurd e2 zDd
    refine gaa ?_;refine oC rfl (fun h=>by cases h) (fun h=>?_);refine gaa ?_;exact ⟨_,_,_,by omega,⟨i+1,out2,v2,ln,none,true,by omega,rfl,rfl,hacc2,by simp,hlen2,by omega,hE2⟩,⟨rfl,rfl,rfl,rfl,rfl,qaf zo,trivial⟩,zhR _,d3⟩
   ·have n35:¬ s[i]=35:=fun e=>zf g1 ((qdY _ 35 zDd).1 e);refine gau ?_;refine zQ84 ?_;refine oC rfl (fun g2=>?_) (fun g2=>?_)
    ·have e:s[i]=10:=(qdY _ 10 zDd).2 (zt g2);have hec:EndC s[i]:=.inr (.inl e);obtain rfl:=hnone (.inr hec);rw[e] at hE2;rw[show qe0 s i none=[] from rfl,qr8] at hE2;refine gaa ?_;refine oB 76 rfl (fun g3=>absurd hec (by simpa using g3)) (fun g3=>?_);refine gae ?_;refine oC rfl (fun h=>by cases h) (fun h=>?_);refine gaa ?_;exact ⟨_,_,_,by omega,⟨i+1,out2,v2,ln+1,none,false,by omega,rfl,rfl,hacc2,by simp,hlen2,by omega,hE2⟩,⟨rfl,rfl,qaf zo,rfl,rfl,qaf zo,trivial⟩,zhR _,d3⟩
    ·have n10:¬ s[i]=10:=fun e=>zf g2 ((qdY _ 10 zDd).1 e);refine gaa ?_;refine oB 72 rfl (fun g3=>?_) (fun g3=>?_)
     ·have hcf:com=false:=by simpa using g3
      subst hcf;refine gad ?_;refine oB 76 rfl (fun g4=>?_) (fun g4=>?_)
      ·have hec:¬ EndC s[i]:=by simpa using g4
       rw[qrU hec] at hE2;refine gad ?_;refine oC rfl (fun g5=>?_) (fun g5=>?_)
       ·obtain rfl:o2=none:=by
         cases o2 with
         |none=>rfl
         |some p=>exact absurd (zt g5) (by simp only[qqv];omega)
        refine gaa ?_
        exact ⟨_,_,_,by omega,⟨i+1,out2,v2,ln,some i,false,by omega,rfl,rfl,hacc2,by rintro q hq;cases hq;exact ⟨by omega,rfl⟩,hlen2,by omega,by
         rw[qnt (zNr i) hlt,List.drop_eq_nil_of_le (by rw[List.length_take];omega)]
         exact hE2⟩,⟨rfl,rfl,rfl,rfl,rfl,qaf zo,trivial⟩,zhR _,d3⟩
       ·obtain ⟨p,rfl⟩:∃ p,o2=some p:=by
         cases o2 with
         |none=>
          have h3:¬ ((-1:Int)<0):=zf g5
          exact absurd zDd h3
         |some p=>exact ⟨p,rfl⟩
        obtain ⟨hp,_,_⟩:=ho2 p rfl;refine gaa ?_
        exact ⟨_,_,_,by omega,⟨i+1,out2,v2,ln,some p,false,by omega,rfl,rfl,hacc2,by rintro q hq;cases hq;exact ⟨by omega,rfl⟩,hlen2,by omega,by
         rw[qnt zo hlt]
         exact hE2⟩,⟨rfl,rfl,rfl,rfl,rfl,qaf zo,trivial⟩,zhR _,d3⟩
      ·have hec:EndC s[i]:=by simpa using g4
       have e:s[i]=32:=by
        rcases hec with h|h|h
        ·exact h
        ·exact absurd h n10
        ·exact absurd h n35
       obtain rfl:=hnone (.inr hec);rw[e] at hE2;rw[show qe0 s i none=[] from rfl,qrZ] at hE2;refine gae ?_;refine oC rfl (fun h=>by cases h) (fun h=>?_);refine gaa ?_;exact ⟨_,_,_,by omega,⟨i+1,out2,v2,ln,none,false,by omega,rfl,rfl,hacc2,by simp,hlen2,by omega,hE2⟩,⟨rfl,rfl,rfl,rfl,rfl,qaf zo,trivial⟩,zhR _,d3⟩
     ·have hct:com=true:=by simpa using g3
      subst hct;obtain rfl:=hnone (.inl rfl);rw[show qe0 s i none=[] from rfl,qrr n10] at hE2;refine gae ?_;refine oC rfl (fun h=>by cases h) (fun h=>?_);refine gaa ?_;exact ⟨_,_,_,by omega,⟨i+1,out2,v2,ln,none,true,by omega,rfl,rfl,hacc2,by simp,hlen2,by omega,hE2⟩,⟨rfl,rfl,rfl,rfl,rfl,qaf zo,trivial⟩,zhR _,d3⟩
 ·have:=zf hc;omega
end
end Go.Proofs.YthmhncflhnbedaaGreatDoor.Asm
